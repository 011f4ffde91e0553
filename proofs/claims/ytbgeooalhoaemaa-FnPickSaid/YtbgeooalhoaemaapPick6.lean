/-
  PLAIN LAW: the points of a polygon's body are as many as its whole points.
-/
import Derived.Test.YtbgeooalhoaemaapPick5
import Derived.Test.YtbgeooalhoaemaabPts
set_option linter.unusedVariables false
set_option linter.unusedSimpArgs false
namespace Go.Proofs.Ytbgeooalhoaemaa

theorem span_cnt (g : Int → List Int) (p : List Int → Bool) (a : Int) : ∀ m : Nat, ((((spanL a m).map g).filter p).length : Int) = sumZ (fun y => bit (p (g y))) a m
  | 0 => by simp [spanL, sumZ]
  | m + 1 => by
    rw [spanL_next, List.map_append, List.filter_append, List.length_append, sumZ, ← span_cnt g p a m]
    cases h : p (g (a + (m : Int)))
    · simp [h, bit]
    · simp [h, bit]
theorem flat_cnt (F : Int → List (List Int)) (p : List Int → Bool) (a : Int) : ∀ m : Nat, ((((spanL a m).flatMap F).filter p).length : Int) = sumZ (fun x => (((F x).filter p).length : Int)) a m
  | 0 => by simp [spanL, sumZ]
  | m + 1 => by
    rw [spanL_next, List.flatMap_append, List.filter_append, List.length_append, sumZ, ← flat_cnt F p a m]
    simp
theorem box2 : boxTo (List.replicate 2 (-10)) (List.replicate 2 10) 2 = (spanL (-10) 21).flatMap fun x => (spanL (-10) 21).map fun y => [x, y] := by
  have w0 : (widW (List.replicate 2 (-10)) (List.replicate 2 10) 0).toNat = 21 := by decide
  have w1 : (widW (List.replicate 2 (-10)) (List.replicate 2 10) 1).toNat = 21 := by decide
  have g0 : (List.replicate 2 (-10 : Int)).getD 0 0 = -10 := by decide
  have g1 : (List.replicate 2 (-10 : Int)).getD 1 0 = -10 := by decide
  simp only [boxTo, extL, w0, w1, g0, g1, List.flatMap_cons, List.flatMap_nil, List.append_nil, List.nil_append, List.flatMap_map]
  rfl
theorem sA_num {ps : List (Int × Int)} (h : polyP ps = true) : (sidesA ps ps.length).all numB = true ∧ ∀ m, m ≤ ps.length → (sidesA ps m).all numB = true := by
  have key : ∀ m, m ≤ ps.length → (sidesA ps m).all numB = true := fun m => by
    induction m with
    | zero => intro _; rfl
    | succ m ih =>
      intro hm
      obtain ⟨a, b, -, -, -⟩ := sd_bd h (show m < ps.length by omega)
      rw [sidesA, List.all_append, ih (by omega)]
      simp [numB_true.2 (show -400000000 ≤ sdX ps m ∧ sdX ps m ≤ 400000000 by omega), numB_true.2 (show -400000000 ≤ sdY ps m ∧ sdY ps m ≤ 400000000 by omega)]
  exact ⟨key _ (Nat.le_refl _), key⟩
theorem pt_in {ps : List (Int × Int)} (h : polyP ps = true) {x y : Int} (hx : -10 ≤ x ∧ x ≤ 10) (hy : -10 ≤ y ∧ y ≤ 10) : ptIn ps.length 2 (sidesA ps ps.length) (sidesB ps ps.length) [x, y] = inPk ps 1 x y := by
  obtain ⟨⟨n3, n8⟩, -, -⟩ := polyP_no h
  have lA := sidesA_len (ps := ps) (n := ps.length)
  have hcell : ∀ i, i < ps.length → dotTo (sidesA ps ps.length) [x, y] 2 1 i 0 2 = sdX ps i * x + sdY ps i * y := fun i hi => by
    obtain ⟨e1, e2⟩ := sidesA_at (ps := ps) hi
    show 0 + (sidesA ps ps.length).getD (i * 2 + 0) 0 * x + (sidesA ps ps.length).getD (i * 2 + 1) 0 * y = _
    rw [Nat.add_zero, e1, e2]; omega
  have hget : ∀ i, i < ps.length → (mulM ps.length 2 1 (sidesA ps ps.length) [x, y]).getD i 0 = sdX ps i * x + sdY ps i * y := fun i hi => by
    have hl : i < (mulM ps.length 2 1 (sidesA ps ps.length) [x, y]).length := by rw [mulM_len]; omega
    rw [List.getD_eq_getElem?_getD, List.getElem?_eq_getElem hl, Option.getD_some]
    have := mulM_at (r := ps.length) (n := 2) (c := 1) (i := i) (j := 0) (xs := sidesA ps ps.length) (ys := [x, y]) hi (by omega)
    simp only [Nat.mul_one, Nat.add_zero] at this
    rw [this, hcell i hi]
  have hM : isM ps.length 2 (sidesA ps ps.length) = true := by
    simp only [isM, (sA_num h).1, Bool.and_true, decide_eq_true_eq, lA]
    omega
  have hV : isM 2 1 [x, y] = true := by
    have a1 := numB_true.2 (show -400000000 ≤ x ∧ x ≤ 400000000 by omega)
    have a2 := numB_true.2 (show -400000000 ≤ y ∧ y ≤ 400000000 by omega)
    simp [isM, a1, a2]
  have hN : (mulM ps.length 2 1 (sidesA ps ps.length) [x, y]).all numB = true := by
    rw [List.all_eq_true]
    intro v hv
    obtain ⟨i, hi, rfl⟩ := List.getElem_of_mem hv
    have hi' : i < ps.length := by rw [mulM_len] at hi; omega
    have e := hget i hi'
    rw [List.getD_eq_getElem?_getD, List.getElem?_eq_getElem hi, Option.getD_some] at e
    obtain ⟨b1, b2, -, -, -⟩ := sd_bd h hi'
    have m1 := mul_bd (A := 20) (B := 10) b1.1 b1.2 hx.1 hx.2
    have m2 := mul_bd (A := 20) (B := 10) b2.1 b2.2 hy.1 hy.2
    rw [e]
    exact numB_true.2 (by omega)
  have hz := mulZ_yes (r := ps.length) (n := 2) (c := 1) hM hV hN
  have hz2 : mulZ (ps.length : Int) 2 (([x, y] : List Int).length : Int) 1 (sidesA ps ps.length) [x, y] = some (mulM ps.length 2 1 (sidesA ps ps.length) [x, y]) := hz
  unfold ptIn
  rw [hz2]
  dsimp only
  rw [Bool.eq_iff_iff]
  unfold inTo inPk
  rw [decide_eq_true_eq, inTk_iff, mulM_len, Nat.mul_one]
  constructor
  · intro hh i hi
    have := hh i hi
    rw [hget i hi, sidesB_at hi] at this
    omega
  · intro hh i hi
    have := hh i hi
    rw [hget i hi, sidesB_at hi]
    omega
theorem pts_cnt {ps : List (Int × Int)} (h : polyP ps = true) {L : List (List Int)} (ho : ptsO ps.length 2 (sidesA ps ps.length) (sidesB ps ps.length) 10 = some L) : (L.length : Int) = dilN ps 1 21 := by
  unfold ptsO at ho
  split at ho
  · have hb : boxO (List.replicate (2 : Int).toNat (-10)) (List.replicate (2 : Int).toNat 10) = some (boxTo (List.replicate 2 (-10)) (List.replicate 2 10) 2) := by
      unfold boxO
      rw [if_pos (by decide)]
      rfl
    rw [hb, Option.map_some, box2] at ho
    cases ho
    rw [flat_cnt]
    unfold dilN
    refine sumZ_congr fun i hi => ?_
    rw [span_cnt]
    refine sumZ_congr fun j hj => ?_
    rw [pt_in h (by omega) (by omega)]
  · cases ho
end Go.Proofs.Ytbgeooalhoaemaa
