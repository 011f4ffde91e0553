/-
  TEXTS OF THE PROOF, put together: pBox, pChoose, bBox, bSS, bStrip, bOrdV.
-/
import Derived.Test.YtekpamojojfplaaGreatB07
import Derived.Test.YtekpamojojfplaaGreatB09
import Derived.Maps.AppendAt
set_option linter.unusedVariables false
set_option linter.unusedSimpArgs false
namespace Go.Proofs.YtekpamojojfplaaGreat
open Go.RowKit
def widW (lo hi : List Int) (k : Nat) : Int := hi.getD k 0 - lo.getD k 0 + 1
def cntW (lo hi : List Int) : Nat → Int
  | 0 => 1
  | k + 1 => cntW lo hi k * widW lo hi k
def spanL (a : Int) (n : Nat) : List Int := (List.range n).map fun m : Nat => a + (m : Int)
def extL (lo hi : List Int) (k : Nat) (v : List Int) : List (List Int) := (spanL (lo.getD k 0) (widW lo hi k).toNat).map fun n => v ++ [n]
def boxTo (lo hi : List Int) : Nat → List (List Int)
  | 0 => [[]]
  | k + 1 => (boxTo lo hi k).flatMap (extL lo hi k)
def okTo (lo hi : List Int) : Nat → Bool
  | 0 => true
  | k + 1 => okTo lo hi k && decide (cntW lo hi (k + 1) ≤ 4000)
def boxO (lo hi : List Int) : Option (List (List Int)) := if okTo lo hi lo.length then some (boxTo lo hi lo.length) else none
theorem extL_len {lo hi : List Int} {k : Nat} {v : List Int} : (extL lo hi k v).length = (widW lo hi k).toNat := by simp [extL, spanL]
theorem flat_const {α β : Type} {f : α → List β} {n : Nat} (h : ∀ x, (f x).length = n) : ∀ (l : List α), (l.flatMap f).length = l.length * n
  | [] => by simp
  | x :: l => by rw [List.flatMap_cons, List.length_append, h, flat_const h l, List.length_cons, Nat.succ_mul]; omega
theorem box_len {lo hi : List Int} (hw : ∀ k, k < lo.length → 1 ≤ widW lo hi k) : ∀ k, k ≤ lo.length → ((boxTo lo hi k).length : Int) = cntW lo hi k ∧ 1 ≤ cntW lo hi k
  | 0, _ => by simp [boxTo, cntW]
  | k + 1, h => by
    obtain ⟨h1, h2⟩ := box_len hw k (by omega)
    have h3 := hw k (by omega)
    have e : ((widW lo hi k).toNat : Int) = widW lo hi k := by omega
    refine ⟨?_, ?_⟩
    · rw [boxTo, flat_const fun v => extL_len, cntW, ← h1, Int.natCast_mul, e]
    · rw [cntW]
      have := Int.mul_le_mul h2 h3 (by omega) (by omega)
      omega
theorem okTo_mono {lo hi : List Int} {k : Nat} (h : okTo lo hi k = false) : ∀ m, okTo lo hi (k + m) = false
  | 0 => h
  | m + 1 => by rw [← Nat.add_assoc, okTo, okTo_mono h m]; rfl
theorem boxO_no {lo hi : List Int} {k : Nat} (hk : k ≤ lo.length) (h : okTo lo hi k = false) : boxO lo hi = none := by
  have := okTo_mono h (lo.length - k)
  rw [show k + (lo.length - k) = lo.length by omega] at this
  simp [boxO, this]
theorem okTo_cnt {lo hi : List Int} : ∀ {k : Nat}, okTo lo hi k = true → cntW lo hi k ≤ 4000
  | 0, _ => by simp [cntW]
  | k + 1, h => by simp only [okTo, Bool.and_eq_true, decide_eq_true_eq] at h; exact h.2
def rowsX (l : List Row) : List (List Int) := l.map Row.xs
def BoxR (th t : TypeId) (L : List (List Int)) (k : Nat) (v : AV) (Hout : List (Nat × Blk)) (n1 : Nat) : Prop := ∃ l cap, rowsX l = L ∧ v = .tup [.one (.sl k 1 0 l.length cap), .one (.bool true)] ∧ Hout = [(k, .own th cap (.rows false true l)), (k + 1, .tok t false l)] ∧ n1 = k + 2
theorem span_bd {lo hi : List Int} {k : Nat} (h : ∀ n ∈ lo, numB n = true) (h' : ∀ n ∈ hi, numB n = true) (hk : k < lo.length) (hl : lo.length = hi.length) : (-400000000 ≤ lo[k] ∧ lo[k] ≤ 400000000) ∧ (-400000000 ≤ hi[k] ∧ hi[k] ≤ 400000000) :=
  ⟨numB_true.1 (h _ (List.getElem_mem hk)), numB_true.1 (h' _ (List.getElem_mem (by omega)))⟩
theorem widW_at {lo hi : List Int} {k : Nat} (hk : k < lo.length) (hk' : k < hi.length) : widW lo hi k = hi[k] - lo[k] + 1 := by simp [widW, hk, hk']
theorem box_row {lo hi : List Int} : ∀ {k : Nat}, ∀ v ∈ boxTo lo hi k, v.length = k
  | 0, v, h => by simp [boxTo] at h; simp [h]
  | k + 1, v, h => by
    simp only [boxTo, extL, List.mem_flatMap, List.mem_map] at h
    obtain ⟨u, hu, n, _, rfl⟩ := h
    simp [box_row u hu]
theorem spanL_next {a : Int} {m : Nat} : spanL a (m + 1) = spanL a m ++ [a + (m : Int)] := by simp [spanL, List.range_succ]
def midL (lo hi : List Int) (i j m : Nat) : List (List Int) := ((boxTo lo hi i).take j).flatMap (extL lo hi i) ++ (spanL (lo.getD i 0) m).map fun n => (boxTo lo hi i).getD j [] ++ [n]
theorem midL_zero {lo hi : List Int} {i j : Nat} : midL lo hi i j 0 = ((boxTo lo hi i).take j).flatMap (extL lo hi i) := by simp [midL, spanL]
theorem midL_next {lo hi : List Int} {i j m : Nat} : midL lo hi i j (m + 1) = midL lo hi i j m ++ [(boxTo lo hi i).getD j [] ++ [lo.getD i 0 + (m : Int)]] := by
  simp [midL, spanL_next]
theorem midL_row {lo hi : List Int} {i j : Nat} (hj : j < (boxTo lo hi i).length) : midL lo hi i j (widW lo hi i).toNat = midL lo hi i (j + 1) 0 := by
  rw [midL_zero, List.take_succ_eq_append_getElem hj, List.flatMap_append]
  simp [midL, extL, hj]
theorem midL_full {lo hi : List Int} {i : Nat} : midL lo hi i (boxTo lo hi i).length 0 = boxTo lo hi (i + 1) := by rw [midL_zero, List.take_length, boxTo]
theorem midL_len {lo hi : List Int} {i j m : Nat} (hj : j < (boxTo lo hi i).length) (hm : m ≤ (widW lo hi i).toNat) : (midL lo hi i j m).length ≤ (boxTo lo hi i).length * (widW lo hi i).toNat := by
  have h1 : (midL lo hi i j m).length = j * (widW lo hi i).toNat + m := by
    rw [midL, List.length_append, flat_const fun v => extL_len, List.length_take, Nat.min_eq_left (by omega)]
    simp [spanL]
  have h2 : (j + 1) * (widW lo hi i).toNat ≤ (boxTo lo hi i).length * (widW lo hi i).toNat := Nat.mul_le_mul_right _ hj
  rw [Nat.succ_mul] at h2
  omega
theorem rowsX_len {l : List Row} {L : List (List Int)} (h : rowsX l = L) : l.length = L.length := by rw [← h]; simp [rowsX]
theorem rowsX_at {l : List Row} {L : List (List Int)} (h : rowsX l = L) {j : Nat} (hj : j < l.length) : (l.getD (0 + (j : Int).toNat) rowD).xs = L.getD j [] := by
  rw [← h]; simp [rowsX, hj]
theorem midL_eq {lo hi : List Int} {i j m : Nat} (hj : j < (boxTo lo hi i).length) : (midL lo hi i j m).length = j * (widW lo hi i).toNat + m := by
  rw [midL, List.length_append, flat_const fun v => extL_len, List.length_take, Nat.min_eq_left (by omega)]
  simp [spanL]
end Go.Proofs.YtekpamojojfplaaGreat
namespace Go.Proofs.YtekpamojojfplaaGreat
theorem getD_in {α : Type} {l : List α} {i : Nat} {d : α} (h : i < l.length) : l.getD i d = l[i] := by simp [h]
theorem getD_appL {α : Type} {l m : List α} {i : Nat} {d : α} (h : i < l.length) : (l ++ m).getD i d = l.getD i d := by
  rw [List.getD_eq_getElem?_getD, List.getElem?_append_left h, ← List.getD_eq_getElem?_getD]
theorem getD_appR {α : Type} {l m : List α} {i : Nat} {d : α} (h : l.length ≤ i) : (l ++ m).getD i d = m.getD (i - l.length) d := by
  rw [List.getD_eq_getElem?_getD, List.getElem?_append_right h, ← List.getD_eq_getElem?_getD]
def fromI (v : List Int) (k : Nat) : Int := if 0 < k then v.getD (k - 1) 0 + 1 else 0
def extC (n k : Nat) (v : List Int) : List (List Int) := (spanL (fromI v k) ((n : Int) - fromI v k).toNat).map fun x => v ++ [x]
def chTo (n : Nat) : Nat → List (List Int)
  | 0 => [[]]
  | k + 1 => (chTo n k).flatMap (extC n k)
def midC (n k j m : Nat) : List (List Int) := ((chTo n k).take j).flatMap (extC n k) ++ (spanL (fromI ((chTo n k).getD j []) k) m).map fun x => (chTo n k).getD j [] ++ [x]
end Go.Proofs.YtekpamojojfplaaGreat
namespace Go.Proofs.YtekpamojojfplaaGreat
open Go.RowKit
set_option maxRecDepth 100000 in
set_option maxHeartbeats 4000000 in
theorem d_boxed (lo hi : List Int) (ca cb m : Nat) (hl : lo.length = hi.length) (hm : m = lo.length) (h24 : lo.length ≤ 24) (hlo : ∀ n ∈ lo, numB n = true) (hhi : ∀ n ∈ hi, numB n = true) (hw : ∀ k, k < lo.length → 1 ≤ widW lo hi k) :
    Does Tryz.prog 92 [vS 1 1 0 lo.length ca, vS 2 1 0 m cb] [(1, .ro (.ints lo)), (2, .ro (.ints hi))] 3 (fun v Hout n1 => match boxO lo hi with
      | some L => BoxR 24 3 L 3 v Hout n1
      | none => v = .tup [.one (.sl 0 1 0 0 0), .one (.bool false)] ∧ Hout = [] ∧ n1 = 3) := by
  subst hm
  refine Does.intro TT Tryz.func92 rfl (by kernel_rfl) Zz Zz fun E hE => ?_
  ((repeat' (first | refine stx ?_ | (refine stq ?_ ?_ <;> (intro hc; ((try simp at hc) <;> try contradiction))) | fail)) <;> try (exfalso; omega))
  refine w_G hE (fun k : Nat => k ≤ lo.length ∧ okTo lo hi k = true) (fun k => lo.length - k)
    (fun k => [(0, vS 1 1 0 lo.length ca), (1, vS 2 1 0 lo.length cb), (6, vI (cntW lo hi k)), (15, vI lo.length), (16, vI k)]) (fun _ => [(1, .ro (.ints lo)), (2, .ro (.ints hi))]) 3 [] 0 ⟨Nat.zero_le _, rfl⟩ ⟨w_1, w_2, rfl⟩ ?_
  rintro k ⟨hk, hok⟩
  have hcn := okTo_cnt hok
  have hc1 := (box_len hw k hk).2
  by_cases hkl : k < lo.length
  · have hkh : k < hi.length := by omega
    obtain ⟨b1, b2⟩ := span_bd hlo hhi hkl hl
    have ew := widW_at hkl hkh
    have hw1 := hw k hkl
    have e1 := getD_at hkl
    have e2 := getD_at hkh
    have b3 : 0 ≤ cntW lo hi k * widW lo hi k ∧ cntW lo hi k * widW lo hi k ≤ 4000 * 800000001 := ⟨Int.mul_nonneg (by omega) (by omega), Int.mul_le_mul hcn (by omega) (by omega) (by omega)⟩
    rw [ew, ← e1, ← e2] at b3
    rw [← e1] at b1
    rw [← e2] at b2
    have es : cntW lo hi (k + 1) = cntW lo hi k * (hi.getD (0 + (k : Int).toNat) 0 - lo.getD (0 + (k : Int).toNat) 0 + 1) := by rw [cntW, ew, e1, e2]
    ((repeat' (first | refine stx ?_ | (refine stq ?_ ?_ <;> (intro hc; ((try simp at hc) <;> try contradiction))) | fail)) <;> try (exfalso; omega))
    · have hb : boxO lo hi = none := boxO_no (k := k + 1) (by omega) (by
        rw [okTo, es]; simp only [Bool.and_eq_false_iff, decide_eq_false_iff_not]; right
        have e3 : lo.getD (0 + (k : Int).toNat) 0 = lo[k]?.getD 0 := by simp
        have e4 : hi.getD (0 + (k : Int).toNat) 0 = hi[k]?.getD 0 := by simp
        rw [e3, e4]; omega)
      exact fin rfl w_3 [] (.tup [.one (.sl 0 1 0 0 0), .one (.bool false)]) [] 3 (by rw [hb]; exact ⟨rfl, rfl, rfl⟩) rfl ⟨trivial, trivial, rfl⟩ rfl
    · refine ⟨[], k + 1, ⟨by omega, ?_⟩, w_4, ⟨⟨rfl, rfl, congrArg some (congrArg vI es.symm), rfl, congrArg some (congrArg vI (by omega)), trivial⟩, ⟨rfl, rfl, trivial⟩, rfl⟩⟩
      rw [okTo, hok, es]
      simp only [Bool.true_and, decide_eq_true_eq]
      have e3 : lo.getD (0 + (k : Int).toNat) 0 = lo[k]?.getD 0 := by simp
      have e4 : hi.getD (0 + (k : Int).toNat) 0 = hi[k]?.getD 0 := by simp
      rw [e3, e4]; exact hc
  · obtain rfl : k = lo.length := by omega
    have hbo : boxO lo hi = some (boxTo lo hi lo.length) := by simp [boxO, hok]
    have hall : ∀ i, i ≤ lo.length → okTo lo hi i = true := fun i hi' => by
      cases c : okTo lo hi i with
      | true => rfl
      | false =>
        have := okTo_mono c (lo.length - i)
        rw [show i + (lo.length - i) = lo.length by omega, hok] at this; cases this
    rw [hbo]
    ((repeat' (first | refine stx ?_ | (refine stq ?_ ?_ <;> (intro hc; ((try simp at hc) <;> try contradiction))) | fail)) <;> try (exfalso; omega))
    ((first | refine awpL_ghost (Ghost.newTok 3 false) ?_ | refine awp_ghost (Ghost.newTok 3 false) ?_ | refine awpH_ghost (Ghost.newTok 3 false) ?_ | refine awpHop_ghost (Ghost.newTok 3 false) ?_); rintro _ _ ⟨rfl, rfl⟩)
    ((first | refine awpL_ghost (Ghost.freeze 3 4 Zz Zz) ?_ | refine awp_ghost (Ghost.freeze 3 4 Zz Zz) ?_ | refine awpH_ghost (Ghost.freeze 3 4 Zz Zz) ?_ | refine awpHop_ghost (Ghost.freeze 3 4 Zz Zz) ?_); rintro _ _ ⟨a0, rfl, rfl⟩)
    ((repeat' (first | refine stx ?_ | (refine stq ?_ ?_ <;> (intro hc; ((try simp at hc) <;> try contradiction))) | fail)) <;> try (exfalso; omega))
    refine w_G hE (fun x : Nat × List Row × Nat => x.1 ≤ lo.length ∧ rowsX x.2.1 = boxTo lo hi x.1) (fun x => lo.length - x.1)
      (fun x => [(0, vS 1 1 0 lo.length ca), (1, vS 2 1 0 lo.length cb), (8, vS 3 1 0 x.2.1.length x.2.2), (37, vI lo.length), (38, vI x.1)])
      (fun x => [(1, .ro (.ints lo)), (2, .ro (.ints hi)), (3, .own 24 x.2.2 (.rows false true x.2.1)), (4, .tok 3 false x.2.1)]) 5 [(3, 5)] (0, [⟨a0, 0, [], []⟩], 1) ⟨Nat.zero_le _, rfl⟩ ⟨w_1, w_2, rfl⟩ ?_
    rintro ⟨i, l, cap⟩ ⟨hi', hl'⟩
    dsimp only at hi' hl'
    have hcn := okTo_cnt (hall i hi')
    have hbl := (box_len hw i hi').1
    have hll := rowsX_len hl'
    by_cases hil : i < lo.length
    · have hih : i < hi.length := by omega
      obtain ⟨b1, b2⟩ := span_bd hlo hhi hil hl
      have ew := widW_at hil hih
      have hw1 := hw i hil
      have hc3 := okTo_cnt (hall (i + 1) hil)
      have hwt : ((widW lo hi i).toNat : Int) = widW lo hi i := by omega
      have hbig : (boxTo lo hi i).length * (widW lo hi i).toNat ≤ 4000 := by
        have : (((boxTo lo hi i).length * (widW lo hi i).toNat : Nat) : Int) = cntW lo hi (i + 1) := by rw [Int.natCast_mul, hwt, hbl, cntW]
        omega
      ((repeat' (first | refine stx ?_ | (refine stq ?_ ?_ <;> (intro hc; ((try simp at hc) <;> try contradiction))) | fail)) <;> try (exfalso; omega))
      ((first | refine awpL_ghost (Ghost.newTok 3 false) ?_ | refine awp_ghost (Ghost.newTok 3 false) ?_ | refine awpH_ghost (Ghost.newTok 3 false) ?_ | refine awpHop_ghost (Ghost.newTok 3 false) ?_); rintro _ _ ⟨rfl, rfl⟩)
      refine w_G hE (fun x : Nat × List Row × Nat => x.1 ≤ l.length ∧ rowsX x.2.1 = midL lo hi i x.1 0) (fun x => l.length - x.1)
        (fun x => [(0, vS 1 1 0 lo.length ca), (1, vS 2 1 0 lo.length cb), (9, vI i), (10, vS 5 1 0 x.2.1.length x.2.2), (37, vI lo.length), (38, vI i), (42, vS 3 1 0 l.length cap), (43, vI l.length), (44, vI x.1)])
        (fun x => [(1, .ro (.ints lo)), (2, .ro (.ints hi)), (3, .own 24 cap (.rows false true l)), (4, .tok 3 false l), (5, .own 24 x.2.2 (.rows false true x.2.1)), (6, .tok 3 false x.2.1)]) 7 [] (0, [], 0) ⟨Nat.zero_le _, rfl⟩ ⟨w_1, w_2, rfl⟩ ?_
      rintro ⟨j, l2, cap2⟩ ⟨hj, hl2⟩
      dsimp only at hj hl2
      by_cases hjl : j < l.length
      · have e1 := getD_at hil
        have e2 := getD_at hih
        have hvx := rowsX_at hl' hjl
        have hvl : (l.getD (0 + (j : Int).toNat) rowD).xs.length = i := by
          rw [hvx]
          have hjb : j < (boxTo lo hi i).length := by omega
          rw [List.getD_eq_getElem?_getD, List.getElem?_eq_getElem hjb, Option.getD_some]
          exact box_row _ (List.getElem_mem hjb)
        ((repeat' (first | refine stx ?_ | (refine stq ?_ ?_ <;> (intro hc; ((try simp at hc) <;> try contradiction))) | fail)) <;> try (exfalso; omega))
        refine w_G hE (fun x : Nat × List Row × Nat => x.1 ≤ (widW lo hi i).toNat ∧ rowsX x.2.1 = midL lo hi i j x.1) (fun x => (widW lo hi i).toNat - x.1)
          (fun x => [(0, vS 1 1 0 lo.length ca), (1, vS 2 1 0 lo.length cb), (9, vI i), (10, vS 5 1 0 x.2.1.length x.2.2), (12, vS 7 1 0 (l.getD (0 + (j : Int).toNat) rowD).xs.length (l.getD (0 + (j : Int).toNat) rowD).cap), (13, vI (lo.getD (0 + (i : Int).toNat) 0 + (x.1 : Int))), (37, vI lo.length), (38, vI i), (42, vS 3 1 0 l.length cap), (43, vI l.length), (44, vI j)])
          (fun x => [(1, .ro (.ints lo)), (2, .ro (.ints hi)), (3, .own 24 cap (.rows false true l)), (4, .tok 3 false l), (5, .own 24 x.2.2 (.rows false true x.2.1)), (6, .tok 3 false x.2.1), (7, .al (l.getD (0 + (j : Int).toNat) rowD).a (.ints (l.getD (0 + (j : Int).toNat) rowD).xs))]) 8 [] (0, l2, cap2) ⟨Nat.zero_le _, hl2⟩ ⟨w_1, w_2, rfl⟩ ?_
        rintro ⟨m, l3, cap3⟩ ⟨hm, hl3⟩
        dsimp only at hm hl3
        have hl3n : l3.length ≤ 4000 := by
          rw [rowsX_len hl3]
          exact Nat.le_trans (midL_len (by omega) hm) hbig
        have ew2 : widW lo hi i = hi[i]?.getD 0 - lo[i]?.getD 0 + 1 := by simp [widW]
        have e3 : lo.getD (0 + (i : Int).toNat) 0 = lo[i]?.getD 0 := by simp
        rw [← e1] at b1 ew
        rw [← e2] at b2 ew
        by_cases hmw : m < (widW lo hi i).toNat
        · ((repeat' (first | refine stx ?_ | (refine zqx ?_; intro cap hcap) | (refine stq ?_ ?_ <;> (intro hc; ((try simp at hc) <;> try contradiction))) | fail)) <;> try (exfalso; omega))
          ((first | refine awpL_ghost (Ghost.freeze 11 6 Zz Zz) ?_ | refine awp_ghost (Ghost.freeze 11 6 Zz Zz) ?_ | refine awpH_ghost (Ghost.freeze 11 6 Zz Zz) ?_ | refine awpHop_ghost (Ghost.freeze 11 6 Zz Zz) ?_); rintro _ _ ⟨a1, rfl, rfl⟩)
          ((repeat' (first | refine stx ?_ | (refine zqx ?_; intro cap hcap) | (refine stq ?_ ?_ <;> (intro hc; ((try simp at hc) <;> try contradiction))) | fail)) <;> try (exfalso; omega))
          refine ⟨[(5, 13)], (m + 1, _, _), ⟨hmw, ?_⟩, w_4, ⟨w_1, ⟨rfl, rfl, rfl, rfl, rfl, rfl, rfl, trivial⟩, rfl⟩⟩
          show rowsX (l3 ++ [_]) = _
          rw [midL_next, ← hl3, ← hvx]
          simp [rowsX]
        · obtain rfl : m = (widW lo hi i).toNat := by omega
          ((repeat' (first | refine stx ?_ | (refine stq ?_ ?_ <;> (intro hc; ((try simp at hc) <;> try contradiction))) | fail)) <;> try (exfalso; omega))
          exact ⟨[], (j + 1, l3, cap3), ⟨hjl, by dsimp only; rw [hl3, midL_row (by omega)]⟩, w_4, ⟨w_1, w_2, rfl⟩⟩
      · obtain rfl : j = l.length := by omega
        ((repeat' (first | refine stx ?_ | (refine stq ?_ ?_ <;> (intro hc; ((try simp at hc) <;> try contradiction))) | fail)) <;> try (exfalso; omega))
        exact ⟨[(3, 5), (4, 6)], (i + 1, l2, cap2), ⟨hil, by dsimp only; rw [hl2, hll, midL_full]⟩, w_4, ⟨w_1, w_2, rfl⟩⟩
    · obtain rfl : i = lo.length := by omega
      ((repeat' (first | refine stx ?_ | (refine stq ?_ ?_ <;> (intro hc; ((try simp at hc) <;> try contradiction))) | fail)) <;> try (exfalso; omega))
      exact fin rfl w_3 [] (.tup [.one (.sl 3 1 0 l.length cap), .one (.bool true)]) [(3, .own 24 cap (.rows false true l)), (4, .tok 3 false l)] 5 ⟨l, cap, hl', rfl, rfl, rfl⟩ rfl ⟨trivial, ⟨rfl, rfl, trivial⟩, rfl⟩ rfl
set_option maxRecDepth 100000 in
set_option maxHeartbeats 4000000 in
theorem d_boxS (lo hi : List Int) (ca cb m : Nat) (hl : lo.length = hi.length) (hm : m = lo.length) (h24 : lo.length ≤ 24) (hlo : ∀ n ∈ lo, numB n = true) (hhi : ∀ n ∈ hi, numB n = true) (hw : ∀ k, k < lo.length → 1 ≤ widW lo hi k) :
    Does Tryz.prog 168 [vS 1 1 0 lo.length ca, vS 2 1 0 m cb] [(1, .ro (.ints lo)), (2, .ro (.ints hi))] 3 (fun v Hout n1 => match boxO lo hi with
      | some L => BoxR 24 3 L 3 v Hout n1
      | none => v = .tup [.one (.sl 3 1 0 0 0), .one (.bool false)] ∧ Hout = [(3, .own 24 0 (.rows false true []))] ∧ n1 = 4) := by
  subst hm
  refine Does.intro TT Tryz.func168 rfl (by kernel_rfl) Zz Zz fun E hE => ?_
  ((repeat' (first | refine stx ?_ | (refine stq ?_ ?_ <;> (intro hc; ((try simp at hc) <;> try contradiction))) | fail)) <;> try (exfalso; omega))
  ((first | refine awpL_ghost (Ghost.newTok 3 false) ?_ | refine awp_ghost (Ghost.newTok 3 false) ?_ | refine awpH_ghost (Ghost.newTok 3 false) ?_ | refine awpHop_ghost (Ghost.newTok 3 false) ?_); rintro _ _ ⟨rfl, rfl⟩)
  ((first | refine awpL_ghost (Ghost.freeze 3 4 Zz Zz) ?_ | refine awp_ghost (Ghost.freeze 3 4 Zz Zz) ?_ | refine awpH_ghost (Ghost.freeze 3 4 Zz Zz) ?_ | refine awpHop_ghost (Ghost.freeze 3 4 Zz Zz) ?_); rintro _ _ ⟨a0, rfl, rfl⟩)
  ((repeat' (first | refine stx ?_ | (refine stq ?_ ?_ <;> (intro hc; ((try simp at hc) <;> try contradiction))) | fail)) <;> try (exfalso; omega))
  refine w_G hE (fun x : Nat × List Row × Nat => x.1 ≤ lo.length ∧ rowsX x.2.1 = boxTo lo hi x.1 ∧ okTo lo hi x.1 = true) (fun x => lo.length - x.1)
    (fun x => [(0, vS 1 1 0 lo.length ca), (1, vS 2 1 0 lo.length cb), (6, vS 3 1 0 x.2.1.length x.2.2), (7, vI x.1)])
    (fun x => [(1, .ro (.ints lo)), (2, .ro (.ints hi)), (3, .own 24 x.2.2 (.rows false true x.2.1)), (4, .tok 3 false x.2.1)]) 5 [(3, 5)] (0, [⟨a0, 0, [], []⟩], 1) ⟨Nat.zero_le _, rfl, rfl⟩ ⟨w_1, w_2, rfl⟩ ?_
  rintro ⟨i, l, cap⟩ ⟨hi', hl', hok⟩
  dsimp only at hi' hl' hok
  have hcn := okTo_cnt hok
  have hbl := (box_len hw i hi').1
  have hb1 := (box_len hw i hi').2
  have hll := rowsX_len hl'
  by_cases hil : i < lo.length
  · have hih : i < hi.length := by omega
    obtain ⟨b1, b2⟩ := span_bd hlo hhi hil hl
    have ew := widW_at hil hih
    have hw1 := hw i hil
    have hwt : ((widW lo hi i).toNat : Int) = widW lo hi i := by omega
    have hbig : (((boxTo lo hi i).length * (widW lo hi i).toNat : Nat) : Int) = cntW lo hi (i + 1) := by rw [Int.natCast_mul, hwt, hbl, cntW]
    ((repeat' (first | refine stx ?_ | (refine stq ?_ ?_ <;> (intro hc; ((try simp at hc) <;> try contradiction))) | fail)) <;> try (exfalso; omega))
    ((first | refine awpL_ghost (Ghost.newTok 3 false) ?_ | refine awp_ghost (Ghost.newTok 3 false) ?_ | refine awpH_ghost (Ghost.newTok 3 false) ?_ | refine awpHop_ghost (Ghost.newTok 3 false) ?_); rintro _ _ ⟨rfl, rfl⟩)
    refine w_G hE (fun x : Nat × List Row × Nat => x.1 ≤ l.length ∧ rowsX x.2.1 = midL lo hi i x.1 0 ∧ (x.1 = 0 ∨ x.1 * (widW lo hi i).toNat ≤ 4000)) (fun x => l.length - x.1)
      (fun x => [(0, vS 1 1 0 lo.length ca), (1, vS 2 1 0 lo.length cb), (6, vS 3 1 0 l.length cap), (7, vI i), (8, vS 5 1 0 x.2.1.length x.2.2), (9, vI x.1)])
      (fun x => [(1, .ro (.ints lo)), (2, .ro (.ints hi)), (3, .own 24 cap (.rows false true l)), (4, .tok 3 false l), (5, .own 24 x.2.2 (.rows false true x.2.1)), (6, .tok 3 false x.2.1)]) 7 [] (0, [], 0) ⟨Nat.zero_le _, rfl, .inl rfl⟩ ⟨w_1, w_2, rfl⟩ ?_
    rintro ⟨j, l2, cap2⟩ ⟨hj, hl2, hj4⟩
    dsimp only at hj hl2 hj4
    have e1 := getD_at hil
    have e2 := getD_at hih
    have ew2 : widW lo hi i = hi[i]?.getD 0 - lo[i]?.getD 0 + 1 := by simp [widW]
    by_cases hjl : j < l.length
    · have hvx := rowsX_at hl' hjl
      have hvl : (l.getD (0 + (j : Int).toNat) rowD).xs.length = i := by
        rw [hvx]
        have hjb : j < (boxTo lo hi i).length := by omega
        rw [List.getD_eq_getElem?_getD, List.getElem?_eq_getElem hjb, Option.getD_some]
        exact box_row _ (List.getElem_mem hjb)
      have hl2n : l2.length = j * (widW lo hi i).toNat := by rw [rowsX_len hl2, midL_eq (by omega)]; rfl
      have hl2c : (l2.length : Int) = (j * (widW lo hi i).toNat : Nat) := by rw [hl2n]
      have hl2b : l2.length ≤ 4000 := by
        rcases hj4 with h | h
        · subst h; simp at hl2n; omega
        · omega
      rw [← e1] at b1 ew
      rw [← e2] at b2 ew
      by_cases hfull : (j + 1) * (widW lo hi i).toNat ≤ 4000
      · have hfull' := hfull
        rw [Nat.succ_mul] at hfull'
        ((repeat' (first | refine stx ?_ | (refine stq ?_ ?_ <;> (intro hc; ((try simp at hc) <;> try contradiction))) | fail)) <;> try (exfalso; omega))
        refine w_G hE (fun x : Nat × List Row × Nat => x.1 ≤ (widW lo hi i).toNat ∧ rowsX x.2.1 = midL lo hi i j x.1) (fun x => (widW lo hi i).toNat - x.1)
          (fun x => [(0, vS 1 1 0 lo.length ca), (1, vS 2 1 0 lo.length cb), (6, vS 3 1 0 l.length cap), (7, vI i), (8, vS 5 1 0 x.2.1.length x.2.2), (9, vI j), (10, vI (lo.getD (0 + (i : Int).toNat) 0 + (x.1 : Int)))])
          (fun x => [(1, .ro (.ints lo)), (2, .ro (.ints hi)), (3, .own 24 cap (.rows false true l)), (4, .tok 3 false l), (5, .own 24 x.2.2 (.rows false true x.2.1)), (6, .tok 3 false x.2.1)]) 7 [] (0, l2, cap2) ⟨Nat.zero_le _, hl2⟩ ⟨w_1, w_2, rfl⟩ ?_
        rintro ⟨m, l3, cap3⟩ ⟨hm, hl3⟩
        dsimp only at hm hl3
        have hl3n : l3.length ≤ 4000 := by
          rw [rowsX_len hl3, midL_eq (by omega)]; omega
        have e3 : lo.getD (0 + (i : Int).toNat) 0 = lo[i]?.getD 0 := by simp
        by_cases hmw : m < (widW lo hi i).toNat
        · ((repeat' (first | refine stx ?_ | (refine zqx ?_; intro cap hcap) | (refine stq ?_ ?_ <;> (intro hc; ((try simp at hc) <;> try contradiction))) | fail)) <;> try (exfalso; omega))
          ((first | refine awpL_ghost (Ghost.freeze 11 6 Zz Zz) ?_ | refine awp_ghost (Ghost.freeze 11 6 Zz Zz) ?_ | refine awpH_ghost (Ghost.freeze 11 6 Zz Zz) ?_ | refine awpHop_ghost (Ghost.freeze 11 6 Zz Zz) ?_); rintro _ _ ⟨a1, rfl, rfl⟩)
          ((repeat' (first | refine stx ?_ | (refine zqx ?_; intro cap hcap) | (refine stq ?_ ?_ <;> (intro hc; ((try simp at hc) <;> try contradiction))) | fail)) <;> try (exfalso; omega))
          refine ⟨[(5, 13)], (m + 1, _, _), ⟨hmw, ?_⟩, w_4, ⟨w_1, ⟨rfl, rfl, rfl, rfl, rfl, rfl, trivial⟩, rfl⟩⟩
          show rowsX (l3 ++ [_]) = _
          rw [midL_next, ← hl3, ← hvx]
          simp [rowsX]
        · obtain rfl : m = (widW lo hi i).toNat := by omega
          ((repeat' (first | refine stx ?_ | (refine stq ?_ ?_ <;> (intro hc; ((try simp at hc) <;> try contradiction))) | fail)) <;> try (exfalso; omega))
          exact ⟨[], (j + 1, l3, cap3), ⟨hjl, by dsimp only; rw [hl3, midL_row (by omega)], .inr hfull⟩, w_4, ⟨w_1, w_2, rfl⟩⟩
      · have hb : boxO lo hi = none := boxO_no (k := i + 1) (by omega) (by
          rw [okTo]; simp only [Bool.and_eq_false_iff, decide_eq_false_iff_not]; right
          rw [← hbig]
          have : (j + 1) * (widW lo hi i).toNat ≤ (boxTo lo hi i).length * (widW lo hi i).toNat := Nat.mul_le_mul_right _ (by omega)
          omega)
        have hfull' := hfull
        rw [Nat.succ_mul] at hfull'
        ((repeat' (first | refine stx ?_ | (refine stq ?_ ?_ <;> (intro hc; ((try simp at hc) <;> try contradiction))) | fail)) <;> try (exfalso; omega))
        exact fin rfl w_3 [(3, 7)] (.tup [.one (.sl 3 1 0 0 0), .one (.bool false)]) [(3, .own 24 0 (.rows false true []))] 4 (by rw [hb]; exact ⟨rfl, rfl, rfl⟩) rfl ⟨trivial, ⟨rfl, trivial⟩, rfl⟩ rfl
    · obtain rfl : j = l.length := by omega
      ((repeat' (first | refine stx ?_ | (refine stq ?_ ?_ <;> (intro hc; ((try simp at hc) <;> try contradiction))) | fail)) <;> try (exfalso; omega))
      have hok' : okTo lo hi (i + 1) = true := by
        rw [okTo, hok]
        simp only [Bool.true_and, decide_eq_true_eq]
        rw [← hbig]
        rcases hj4 with h | h
        · omega
        · rw [← hll]; omega
      exact ⟨[(3, 5), (4, 6)], (i + 1, l2, cap2), ⟨hil, by dsimp only; rw [hl2, hll, midL_full], hok'⟩, w_4, ⟨w_1, w_2, rfl⟩⟩
  · obtain rfl : i = lo.length := by omega
    have hbo : boxO lo hi = some (boxTo lo hi lo.length) := by simp [boxO, hok]
    rw [hbo]
    ((repeat' (first | refine stx ?_ | (refine stq ?_ ?_ <;> (intro hc; ((try simp at hc) <;> try contradiction))) | fail)) <;> try (exfalso; omega))
    exact fin rfl w_3 [] (.tup [.one (.sl 3 1 0 l.length cap), .one (.bool true)]) [(3, .own 24 cap (.rows false true l)), (4, .tok 3 false l)] 5 ⟨l, cap, hl', rfl, rfl, rfl⟩ rfl ⟨trivial, ⟨rfl, rfl, trivial⟩, rfl⟩ rfl
end Go.Proofs.YtekpamojojfplaaGreat
namespace Go.Proofs.YtekpamojojfplaaGreat
open Go.RowKit
def rowsN (l : List Row) : Prop := l.length ≤ 1000000 ∧ ∀ r ∈ l, r.xs.length ≤ 1000000
def totR (l : List Row) : Nat := (l.map fun r => r.xs.length).sum
@[simp] theorem totR_nil : totR [] = 0 := rfl
def markRows (k : Int) : List Row → List Row
  | [] => []
  | r :: l => r.put (marks k r.xs.length) :: markRows (k + r.xs.length) l
end Go.Proofs.YtekpamojojfplaaGreat
namespace Go.Proofs.YtekpamojojfplaaGreat
open Go.RowKit
def PtsR (th t : TypeId) (o : Option (List (List Int))) (k : Nat) (v : AV) (Hout : List (Nat × Blk)) (n1 : Nat) : Prop := match o with
  | some L => BoxR th t L k v Hout n1
  | none => v = .tup [.one (.sl k 1 0 0 0), .one (.bool false)] ∧ Hout = [(k, .own th 0 (.rows false true []))] ∧ n1 = k + 1
def stripR (r : Row) : Row := ⟨r.a, r.cap, r.xs, []⟩
theorem row_eta {r : Row} (h : r.ps = []) : (⟨r.a, r.cap, r.xs, []⟩ : Row) = r := by cases r; cases h; rfl
end Go.Proofs.YtekpamojojfplaaGreat
namespace Go.Proofs.YtekpamojojfplaaGreat
open Go.RowKit Go.Sort Go.Lib Go.Shelf
theorem swo_cmpV : SWO (ltOf cmpV) where
  irrefl x := by simp [ltOf, cmpV_self]
  trans x y z h1 h2 := by
    simp only [ltOf, decide_eq_true_eq] at *
    exact cmpV_trans h1 h2
  ntrans x y z h1 h2 := by
    simp only [ltOf, decide_eq_false_iff_not] at *
    intro h
    by_cases e : cmpV x y = 0
    · rw [cmpV_eq e] at h; exact h2 h
    · have h3 : cmpV y x < 0 := (cmpV_neg x y).2 (by omega)
      exact h2 (cmpV_trans h3 h)
set_option maxHeartbeats 1000000 in
theorem ordV_reads : ReadsV Tryz.prog 140 cmpV := by
  intro w x y hx hy ⟨lx, bx1, bx2⟩ ⟨ly, by1, by2⟩
  have hc : ∀ o1 o2, Calls Tryz.prog 141 #[encR x.1, encR y.1] ((w.alloc o1).alloc o2) fun e w' => e = .returned (.int .i64 (cmpL x.1.xs y.1.xs)) ∧ ((w.alloc o1).alloc o2) = w' := fun o1 o2 =>
    cmpR_any x.1 y.1 _ ((hx.grown (World.grownBy_alloc w o1 none) (by simp)).grown (World.grownBy_alloc _ o2 none) (by simp)) ((hy.grown (World.grownBy_alloc w o1 none) (by simp)).grown (World.grownBy_alloc _ o2 none) (by simp)) lx ly
  obtain ⟨x1, xn⟩ := x
  obtain ⟨y1, yn⟩ := y
  simp only [Vx, encV, encR, val_len] at *
  generalize x1.a.map (fun p => (⟨p.1, p.2, none⟩ : Addr)) = A at *
  generalize y1.a.map (fun p => (⟨p.1, p.2, none⟩ : Addr)) = B at *
  have e1 : xn ≠ yn → cmpV (x1.xs, xn) (y1.xs, yn) = xn - yn := fun h => if_pos h
  have e2 : xn = yn → cmpV (x1.xs, xn) (y1.xs, yn) = cmpL x1.xs y1.xs := fun h => if_neg (by simpa using h)
  generalize cmpV (x1.xs, xn) (y1.xs, yn) = c at *
  generalize cmpL x1.xs y1.xs = c' at *
  go_enter Tryz.func140, Tryz.ntmps140
  go_wp2_with (go_at_call 141; refine (hc _ _).mono ?_; rintro e w' ⟨rfl, rfl⟩)
  · go_ret
    exact ⟨by rw [e1 (by rename_i h; simpa using h)]; rfl, 0, _, by rw [alloc_eq_grow, alloc_eq_grow, grow_grow]; rfl⟩
  · go_ret
    exact ⟨by rw [e2 (by rename_i h; simpa using h)]; rfl, 0, _, by rw [alloc_eq_grow, alloc_eq_grow, grow_grow]; rfl⟩
theorem enters_ord : ∀ args w, (callFunc 140 args).run Tryz.prog w = .ok (.enter 140 args) w := enters_of Tryz.func140 (by kernel_rfl) rfl
def OrdR (cap : Nat) (l : List (Row × Int)) (lt : List Row) (v : AV) (Hout : List (Nat × Blk)) (n : Nat) : Prop :=
  ∃ (l' : List (Row × Int)) (lr : List Row) (c : Nat), l'.Perm l ∧ (l'.Pairwise fun x y => ¬ cmpV (Vx y) (Vx x) < 0) ∧ lr = l'.map Prod.fst ∧ v = .one (.sl 3 1 0 lr.length c) ∧
    Hout = [(1, .own 94 cap (.vals true l')), (2, .tok 3 false lt), (3, .own 24 c (.rows false true lr))] ∧ n = 4
set_option maxHeartbeats 4000000 in
theorem d_order (l : List (Row × Int)) (lt : List Row) (m cap : Nat) (hm : m = l.length) (hl : l.length ≤ 1000000) (hr : ∀ r ∈ l, VB r) (hlt : ∀ r ∈ l, r.1 ∈ lt) (hps : ∀ r ∈ l, r.1.ps = []) :
    Does Tryz.prog 96 [.one (.sl 1 2 0 m cap)] [(1, .own 94 cap (.vals false l)), (2, .tok 3 false lt)] 3 (OrdR cap l lt) := by
  subst hm
  have hs := d_sortVals 140 cmpV swo_cmpV enters_ord ordV_reads l lt 94 3 cap hl hr hlt
  refine Does.intro TT Tryz.func96 rfl (by kernel_rfl) Zz Zz fun E hE => ?_
  ((repeat' (first | refine stx ?_ | (refine awpL_callM [] hs Zz Zz Zz Zz Zz Zz Zz ft rfl ?_; rintro v Hout n1 ⟨l', hperm, hsort, rfl, rfl, rfl⟩) | (refine stq ?_ ?_ <;> (intro hc; ((try simp at hc) <;> try contradiction))) | fail)) <;> try (exfalso; omega))
  have hlen := hperm.length_eq
  refine w_G hE (fun x : Nat × List Row × Nat => x.1 ≤ l'.length ∧ x.2.1 = (l'.take x.1).map Prod.fst) (fun x => l'.length - x.1)
    (fun x => [(3, vS 3 1 0 x.2.1.length x.2.2), (9, .one (.sl 1 2 0 l'.length cap)), (10, vI l'.length), (11, vI x.1)])
    (fun x => [(1, .own 94 cap (.vals true l')), (2, .tok 3 false lt), (3, .own 24 x.2.2 (.rows false true x.2.1))]) 4 [] (0, [], 0) ⟨Nat.zero_le _, rfl⟩ ⟨w_1, w_2, rfl⟩ ?_
  rintro ⟨k, lr, cap2⟩ ⟨h1, h2⟩
  dsimp only at h1 h2
  have hln : lr.length = k := by rw [h2, List.length_map, List.length_take]; omega
  by_cases hk : k < l'.length
  · have e1 : l'.getD (0 + (k : Int).toNat) (rowD, 0) = l'[k] := by rw [show 0 + (k : Int).toNat = k by omega, getD_in hk]
    ((repeat' (first | refine stx ?_ | (refine zqx ?_; intro cap hcap) | (refine stq ?_ ?_ <;> (intro hc; ((try simp at hc) <;> try contradiction))) | fail)) <;> try (exfalso; omega))
    refine ⟨[(3, 7)], (k + 1, _, _), ⟨by omega, ?_⟩, w_4, ⟨w_1, ⟨rfl, rfl, rfl, trivial⟩, rfl⟩⟩
    have hmem : l'.getD (0 + (k : Int).toNat) (rowD, 0) ∈ l := hperm.mem_iff.1 (by rw [e1]; exact List.getElem_mem hk)
    have hrow := row_eta (hps _ hmem)
    show lr ++ [(⟨(l'.getD (0 + (k : Int).toNat) (rowD, 0)).1.a, (l'.getD (0 + (k : Int).toNat) (rowD, 0)).1.cap, (l'.getD (0 + (k : Int).toNat) (rowD, 0)).1.xs, []⟩ : Row)] = _
    rw [hrow, h2, List.take_succ_eq_append_getElem hk, List.map_append, ← e1]; rfl
  · obtain rfl : k = l'.length := by omega
    rw [List.take_of_length_le (Nat.le_refl _)] at h2
    ((repeat' (first | refine stx ?_ | (refine stq ?_ ?_ <;> (intro hc; ((try simp at hc) <;> try contradiction))) | fail)) <;> try (exfalso; omega))
    exact fin rfl w_3 [] (.one (.sl 3 1 0 lr.length cap2)) [(1, .own 94 cap (.vals true l')), (2, .tok 3 false lt), (3, .own 24 cap2 (.rows false true lr))] 4 ⟨l', lr, cap2, hperm, hsort, h2, rfl, rfl, rfl⟩ rfl ⟨trivial, ⟨rfl, rfl, rfl, trivial⟩, rfl⟩ rfl (hb := ⟨.inr ⟨2, _, lt, rfl, fun r hr => hlt _ (hperm.mem_iff.1 hr)⟩, trivial, .inr ⟨2, _, lt, rfl, fun r hr => by
      rw [h2] at hr; obtain ⟨x, hx, rfl⟩ := List.mem_map.1 hr; exact hlt _ (hperm.mem_iff.1 hx)⟩, trivial⟩)
end Go.Proofs.YtekpamojojfplaaGreat
