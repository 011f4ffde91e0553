/-
  TEXTS OF THE PROOF, put together: bBox, bHilbI.
-/
import Derived.Test.YtfkbjkmlpinoeaaGreatH20
import Derived.Test.YtfkbjkmlpinoeaaGreatH32
set_option linter.unusedVariables false
set_option linter.unusedSimpArgs false
namespace Go.Proofs.YtfkbjkmlpinoeaaGreat
open Go.RowKit
set_option maxRecDepth 100000 in
set_option maxHeartbeats 4000000 in
theorem d_boxed (lo hi : List Int) (ca cb m : Nat) (hl : lo.length = hi.length) (hm : m = lo.length) (h24 : lo.length ≤ 24) (hlo : ∀ n ∈ lo, numB n = true) (hhi : ∀ n ∈ hi, numB n = true) (hw : ∀ k, k < lo.length → 1 ≤ widW lo hi k) :
    Does Tryz.prog 70 [vS 1 1 0 lo.length ca, vS 2 1 0 m cb] [(1, .ro (.ints lo)), (2, .ro (.ints hi))] 3 (fun v Hout n1 => match boxO lo hi with
      | some L => BoxR 24 3 L 3 v Hout n1
      | none => v = .tup [.one (.sl 0 1 0 0 0), .one (.bool false)] ∧ Hout = [] ∧ n1 = 3) := by
  subst hm
  refine Does.intro TT Tryz.func70 rfl (by kernel_rfl) Zz Zz fun E hE => ?_
  ((repeat' (first | refine stx ?_ | (refine stq ?_ ?_ <;> (intro hc; ((try simp at hc) <;> try contradiction))) | fail)) <;> try (exfalso; omega))
  refine w_G hE (fun k : Nat => k ≤ lo.length ∧ okTo lo hi k = true) (fun k => lo.length - k)
    (fun k => [(0, vS 1 1 0 lo.length ca), (1, vS 2 1 0 lo.length cb), (6, vI (cntW lo hi k)), (15, vI lo.length), (16, vI k)]) (fun _ => [(1, .ro (.ints lo)), (2, .ro (.ints hi))]) 3 [] 0 ⟨Nat.zero_le _, rfl⟩ ⟨w_1, w_2, rfl⟩ ?_
  rintro k ⟨hk, hok⟩
  have hcn := okTo_cnt hok
  have hc1 := (box_len hw k hk).2
  by_cases hkl : k < lo.length
  · have hkh : k < hi.length := by omega
    obtain ⟨b1, b2⟩ := span_bd hlo hhi hkl hl
    have ew := widW_at hkl hkh
    have hw1 := hw k hkl
    have e1 := getD_at hkl
    have e2 := getD_at hkh
    have b3 : 0 ≤ cntW lo hi k * widW lo hi k ∧ cntW lo hi k * widW lo hi k ≤ 4000 * 800000001 := ⟨Int.mul_nonneg (by omega) (by omega), Int.mul_le_mul hcn (by omega) (by omega) (by omega)⟩
    rw [ew, ← e1, ← e2] at b3
    rw [← e1] at b1
    rw [← e2] at b2
    have es : cntW lo hi (k + 1) = cntW lo hi k * (hi.getD (0 + (k : Int).toNat) 0 - lo.getD (0 + (k : Int).toNat) 0 + 1) := by rw [cntW, ew, e1, e2]
    ((repeat' (first | refine stx ?_ | (refine stq ?_ ?_ <;> (intro hc; ((try simp at hc) <;> try contradiction))) | fail)) <;> try (exfalso; omega))
    · have hb : boxO lo hi = none := boxO_no (k := k + 1) (by omega) (by
        rw [okTo, es]; simp only [Bool.and_eq_false_iff, decide_eq_false_iff_not]; right
        have e3 : lo.getD (0 + (k : Int).toNat) 0 = lo[k]?.getD 0 := by simp
        have e4 : hi.getD (0 + (k : Int).toNat) 0 = hi[k]?.getD 0 := by simp
        rw [e3, e4]; omega)
      exact fin rfl w_3 [] (.tup [.one (.sl 0 1 0 0 0), .one (.bool false)]) [] 3 (by rw [hb]; exact ⟨rfl, rfl, rfl⟩) rfl ⟨trivial, trivial, rfl⟩ rfl
    · refine ⟨[], k + 1, ⟨by omega, ?_⟩, w_4, ⟨⟨rfl, rfl, congrArg some (congrArg vI es.symm), rfl, congrArg some (congrArg vI (by omega)), trivial⟩, ⟨rfl, rfl, trivial⟩, rfl⟩⟩
      rw [okTo, hok, es]
      simp only [Bool.true_and, decide_eq_true_eq]
      have e3 : lo.getD (0 + (k : Int).toNat) 0 = lo[k]?.getD 0 := by simp
      have e4 : hi.getD (0 + (k : Int).toNat) 0 = hi[k]?.getD 0 := by simp
      rw [e3, e4]; exact hc
  · obtain rfl : k = lo.length := by omega
    have hbo : boxO lo hi = some (boxTo lo hi lo.length) := by simp [boxO, hok]
    have hall : ∀ i, i ≤ lo.length → okTo lo hi i = true := fun i hi' => by
      cases c : okTo lo hi i with
      | true => rfl
      | false =>
        have := okTo_mono c (lo.length - i)
        rw [show i + (lo.length - i) = lo.length by omega, hok] at this; cases this
    rw [hbo]
    ((repeat' (first | refine stx ?_ | (refine stq ?_ ?_ <;> (intro hc; ((try simp at hc) <;> try contradiction))) | fail)) <;> try (exfalso; omega))
    ((first | refine awpL_ghost (Ghost.newTok 3 false) ?_ | refine awp_ghost (Ghost.newTok 3 false) ?_ | refine awpH_ghost (Ghost.newTok 3 false) ?_ | refine awpHop_ghost (Ghost.newTok 3 false) ?_); rintro _ _ ⟨rfl, rfl⟩)
    ((first | refine awpL_ghost (Ghost.freeze 3 4 Zz Zz) ?_ | refine awp_ghost (Ghost.freeze 3 4 Zz Zz) ?_ | refine awpH_ghost (Ghost.freeze 3 4 Zz Zz) ?_ | refine awpHop_ghost (Ghost.freeze 3 4 Zz Zz) ?_); rintro _ _ ⟨a0, rfl, rfl⟩)
    ((repeat' (first | refine stx ?_ | (refine stq ?_ ?_ <;> (intro hc; ((try simp at hc) <;> try contradiction))) | fail)) <;> try (exfalso; omega))
    refine w_G hE (fun x : Nat × List Row × Nat => x.1 ≤ lo.length ∧ rowsX x.2.1 = boxTo lo hi x.1) (fun x => lo.length - x.1)
      (fun x => [(0, vS 1 1 0 lo.length ca), (1, vS 2 1 0 lo.length cb), (8, vS 3 1 0 x.2.1.length x.2.2), (37, vI lo.length), (38, vI x.1)])
      (fun x => [(1, .ro (.ints lo)), (2, .ro (.ints hi)), (3, .own 24 x.2.2 (.rows false true x.2.1)), (4, .tok 3 false x.2.1)]) 5 [(3, 5)] (0, [⟨a0, 0, [], []⟩], 1) ⟨Nat.zero_le _, rfl⟩ ⟨w_1, w_2, rfl⟩ ?_
    rintro ⟨i, l, cap⟩ ⟨hi', hl'⟩
    dsimp only at hi' hl'
    have hcn := okTo_cnt (hall i hi')
    have hbl := (box_len hw i hi').1
    have hll := rowsX_len hl'
    by_cases hil : i < lo.length
    · have hih : i < hi.length := by omega
      obtain ⟨b1, b2⟩ := span_bd hlo hhi hil hl
      have ew := widW_at hil hih
      have hw1 := hw i hil
      have hc3 := okTo_cnt (hall (i + 1) hil)
      have hwt : ((widW lo hi i).toNat : Int) = widW lo hi i := by omega
      have hbig : (boxTo lo hi i).length * (widW lo hi i).toNat ≤ 4000 := by
        have : (((boxTo lo hi i).length * (widW lo hi i).toNat : Nat) : Int) = cntW lo hi (i + 1) := by rw [Int.natCast_mul, hwt, hbl, cntW]
        omega
      ((repeat' (first | refine stx ?_ | (refine stq ?_ ?_ <;> (intro hc; ((try simp at hc) <;> try contradiction))) | fail)) <;> try (exfalso; omega))
      ((first | refine awpL_ghost (Ghost.newTok 3 false) ?_ | refine awp_ghost (Ghost.newTok 3 false) ?_ | refine awpH_ghost (Ghost.newTok 3 false) ?_ | refine awpHop_ghost (Ghost.newTok 3 false) ?_); rintro _ _ ⟨rfl, rfl⟩)
      refine w_G hE (fun x : Nat × List Row × Nat => x.1 ≤ l.length ∧ rowsX x.2.1 = midL lo hi i x.1 0) (fun x => l.length - x.1)
        (fun x => [(0, vS 1 1 0 lo.length ca), (1, vS 2 1 0 lo.length cb), (9, vI i), (10, vS 5 1 0 x.2.1.length x.2.2), (37, vI lo.length), (38, vI i), (42, vS 3 1 0 l.length cap), (43, vI l.length), (44, vI x.1)])
        (fun x => [(1, .ro (.ints lo)), (2, .ro (.ints hi)), (3, .own 24 cap (.rows false true l)), (4, .tok 3 false l), (5, .own 24 x.2.2 (.rows false true x.2.1)), (6, .tok 3 false x.2.1)]) 7 [] (0, [], 0) ⟨Nat.zero_le _, rfl⟩ ⟨w_1, w_2, rfl⟩ ?_
      rintro ⟨j, l2, cap2⟩ ⟨hj, hl2⟩
      dsimp only at hj hl2
      by_cases hjl : j < l.length
      · have e1 := getD_at hil
        have e2 := getD_at hih
        have hvx := rowsX_at hl' hjl
        have hvl : (l.getD (0 + (j : Int).toNat) rowD).xs.length = i := by
          rw [hvx]
          have hjb : j < (boxTo lo hi i).length := by omega
          rw [List.getD_eq_getElem?_getD, List.getElem?_eq_getElem hjb, Option.getD_some]
          exact box_row _ (List.getElem_mem hjb)
        ((repeat' (first | refine stx ?_ | (refine stq ?_ ?_ <;> (intro hc; ((try simp at hc) <;> try contradiction))) | fail)) <;> try (exfalso; omega))
        refine w_G hE (fun x : Nat × List Row × Nat => x.1 ≤ (widW lo hi i).toNat ∧ rowsX x.2.1 = midL lo hi i j x.1) (fun x => (widW lo hi i).toNat - x.1)
          (fun x => [(0, vS 1 1 0 lo.length ca), (1, vS 2 1 0 lo.length cb), (9, vI i), (10, vS 5 1 0 x.2.1.length x.2.2), (12, vS 7 1 0 (l.getD (0 + (j : Int).toNat) rowD).xs.length (l.getD (0 + (j : Int).toNat) rowD).cap), (13, vI (lo.getD (0 + (i : Int).toNat) 0 + (x.1 : Int))), (37, vI lo.length), (38, vI i), (42, vS 3 1 0 l.length cap), (43, vI l.length), (44, vI j)])
          (fun x => [(1, .ro (.ints lo)), (2, .ro (.ints hi)), (3, .own 24 cap (.rows false true l)), (4, .tok 3 false l), (5, .own 24 x.2.2 (.rows false true x.2.1)), (6, .tok 3 false x.2.1), (7, .al (l.getD (0 + (j : Int).toNat) rowD).a (.ints (l.getD (0 + (j : Int).toNat) rowD).xs))]) 8 [] (0, l2, cap2) ⟨Nat.zero_le _, hl2⟩ ⟨w_1, w_2, rfl⟩ ?_
        rintro ⟨m, l3, cap3⟩ ⟨hm, hl3⟩
        dsimp only at hm hl3
        have hl3n : l3.length ≤ 4000 := by
          rw [rowsX_len hl3]
          exact Nat.le_trans (midL_len (by omega) hm) hbig
        have ew2 : widW lo hi i = hi[i]?.getD 0 - lo[i]?.getD 0 + 1 := by simp [widW]
        have e3 : lo.getD (0 + (i : Int).toNat) 0 = lo[i]?.getD 0 := by simp
        rw [← e1] at b1 ew
        rw [← e2] at b2 ew
        by_cases hmw : m < (widW lo hi i).toNat
        · ((repeat' (first | refine stx ?_ | (refine w_x TT Zz Zz Zz Zz Zz sd ?_; intro cap hcap) | (refine stq ?_ ?_ <;> (intro hc; ((try simp at hc) <;> try contradiction))) | fail)) <;> try (exfalso; omega))
          ((first | refine awpL_ghost (Ghost.freeze 11 6 Zz Zz) ?_ | refine awp_ghost (Ghost.freeze 11 6 Zz Zz) ?_ | refine awpH_ghost (Ghost.freeze 11 6 Zz Zz) ?_ | refine awpHop_ghost (Ghost.freeze 11 6 Zz Zz) ?_); rintro _ _ ⟨a1, rfl, rfl⟩)
          ((repeat' (first | refine stx ?_ | (refine w_x TT Zz Zz Zz Zz Zz sd ?_; intro cap hcap) | (refine stq ?_ ?_ <;> (intro hc; ((try simp at hc) <;> try contradiction))) | fail)) <;> try (exfalso; omega))
          refine ⟨[(5, 13)], (m + 1, _, _), ⟨hmw, ?_⟩, w_4, ⟨w_1, ⟨rfl, rfl, rfl, rfl, rfl, rfl, rfl, trivial⟩, rfl⟩⟩
          show rowsX (l3 ++ [_]) = _
          rw [midL_next, ← hl3, ← hvx]
          simp [rowsX]
        · obtain rfl : m = (widW lo hi i).toNat := by omega
          ((repeat' (first | refine stx ?_ | (refine stq ?_ ?_ <;> (intro hc; ((try simp at hc) <;> try contradiction))) | fail)) <;> try (exfalso; omega))
          exact ⟨[], (j + 1, l3, cap3), ⟨hjl, by dsimp only; rw [hl3, midL_row (by omega)]⟩, w_4, ⟨w_1, w_2, rfl⟩⟩
      · obtain rfl : j = l.length := by omega
        ((repeat' (first | refine stx ?_ | (refine stq ?_ ?_ <;> (intro hc; ((try simp at hc) <;> try contradiction))) | fail)) <;> try (exfalso; omega))
        exact ⟨[(3, 5), (4, 6)], (i + 1, l2, cap2), ⟨hil, by dsimp only; rw [hl2, hll, midL_full]⟩, w_4, ⟨w_1, w_2, rfl⟩⟩
    · obtain rfl : i = lo.length := by omega
      ((repeat' (first | refine stx ?_ | (refine stq ?_ ?_ <;> (intro hc; ((try simp at hc) <;> try contradiction))) | fail)) <;> try (exfalso; omega))
      exact fin rfl w_3 [] (.tup [.one (.sl 3 1 0 l.length cap), .one (.bool true)]) [(3, .own 24 cap (.rows false true l)), (4, .tok 3 false l)] 5 ⟨l, cap, hl', rfl, rfl, rfl⟩ rfl ⟨trivial, ⟨rfl, rfl, trivial⟩, rfl⟩ rfl
set_option maxRecDepth 100000 in
set_option maxHeartbeats 4000000 in
theorem d_boxS (lo hi : List Int) (ca cb m : Nat) (hl : lo.length = hi.length) (hm : m = lo.length) (h24 : lo.length ≤ 24) (hlo : ∀ n ∈ lo, numB n = true) (hhi : ∀ n ∈ hi, numB n = true) (hw : ∀ k, k < lo.length → 1 ≤ widW lo hi k) :
    Does Tryz.prog 78 [vS 1 1 0 lo.length ca, vS 2 1 0 m cb] [(1, .ro (.ints lo)), (2, .ro (.ints hi))] 3 (fun v Hout n1 => match boxO lo hi with
      | some L => BoxR 24 3 L 3 v Hout n1
      | none => v = .tup [.one (.sl 3 1 0 0 0), .one (.bool false)] ∧ Hout = [(3, .own 24 0 (.rows false true []))] ∧ n1 = 4) := by
  subst hm
  refine Does.intro TT Tryz.func78 rfl (by kernel_rfl) Zz Zz fun E hE => ?_
  ((repeat' (first | refine stx ?_ | (refine stq ?_ ?_ <;> (intro hc; ((try simp at hc) <;> try contradiction))) | fail)) <;> try (exfalso; omega))
  ((first | refine awpL_ghost (Ghost.newTok 3 false) ?_ | refine awp_ghost (Ghost.newTok 3 false) ?_ | refine awpH_ghost (Ghost.newTok 3 false) ?_ | refine awpHop_ghost (Ghost.newTok 3 false) ?_); rintro _ _ ⟨rfl, rfl⟩)
  ((first | refine awpL_ghost (Ghost.freeze 3 4 Zz Zz) ?_ | refine awp_ghost (Ghost.freeze 3 4 Zz Zz) ?_ | refine awpH_ghost (Ghost.freeze 3 4 Zz Zz) ?_ | refine awpHop_ghost (Ghost.freeze 3 4 Zz Zz) ?_); rintro _ _ ⟨a0, rfl, rfl⟩)
  ((repeat' (first | refine stx ?_ | (refine stq ?_ ?_ <;> (intro hc; ((try simp at hc) <;> try contradiction))) | fail)) <;> try (exfalso; omega))
  refine w_G hE (fun x : Nat × List Row × Nat => x.1 ≤ lo.length ∧ rowsX x.2.1 = boxTo lo hi x.1 ∧ okTo lo hi x.1 = true) (fun x => lo.length - x.1)
    (fun x => [(0, vS 1 1 0 lo.length ca), (1, vS 2 1 0 lo.length cb), (6, vS 3 1 0 x.2.1.length x.2.2), (7, vI x.1)])
    (fun x => [(1, .ro (.ints lo)), (2, .ro (.ints hi)), (3, .own 24 x.2.2 (.rows false true x.2.1)), (4, .tok 3 false x.2.1)]) 5 [(3, 5)] (0, [⟨a0, 0, [], []⟩], 1) ⟨Nat.zero_le _, rfl, rfl⟩ ⟨w_1, w_2, rfl⟩ ?_
  rintro ⟨i, l, cap⟩ ⟨hi', hl', hok⟩
  dsimp only at hi' hl' hok
  have hcn := okTo_cnt hok
  have hbl := (box_len hw i hi').1
  have hb1 := (box_len hw i hi').2
  have hll := rowsX_len hl'
  by_cases hil : i < lo.length
  · have hih : i < hi.length := by omega
    obtain ⟨b1, b2⟩ := span_bd hlo hhi hil hl
    have ew := widW_at hil hih
    have hw1 := hw i hil
    have hwt : ((widW lo hi i).toNat : Int) = widW lo hi i := by omega
    have hbig : (((boxTo lo hi i).length * (widW lo hi i).toNat : Nat) : Int) = cntW lo hi (i + 1) := by rw [Int.natCast_mul, hwt, hbl, cntW]
    ((repeat' (first | refine stx ?_ | (refine stq ?_ ?_ <;> (intro hc; ((try simp at hc) <;> try contradiction))) | fail)) <;> try (exfalso; omega))
    ((first | refine awpL_ghost (Ghost.newTok 3 false) ?_ | refine awp_ghost (Ghost.newTok 3 false) ?_ | refine awpH_ghost (Ghost.newTok 3 false) ?_ | refine awpHop_ghost (Ghost.newTok 3 false) ?_); rintro _ _ ⟨rfl, rfl⟩)
    refine w_G hE (fun x : Nat × List Row × Nat => x.1 ≤ l.length ∧ rowsX x.2.1 = midL lo hi i x.1 0 ∧ (x.1 = 0 ∨ x.1 * (widW lo hi i).toNat ≤ 4000)) (fun x => l.length - x.1)
      (fun x => [(0, vS 1 1 0 lo.length ca), (1, vS 2 1 0 lo.length cb), (6, vS 3 1 0 l.length cap), (7, vI i), (8, vS 5 1 0 x.2.1.length x.2.2), (9, vI x.1)])
      (fun x => [(1, .ro (.ints lo)), (2, .ro (.ints hi)), (3, .own 24 cap (.rows false true l)), (4, .tok 3 false l), (5, .own 24 x.2.2 (.rows false true x.2.1)), (6, .tok 3 false x.2.1)]) 7 [] (0, [], 0) ⟨Nat.zero_le _, rfl, .inl rfl⟩ ⟨w_1, w_2, rfl⟩ ?_
    rintro ⟨j, l2, cap2⟩ ⟨hj, hl2, hj4⟩
    dsimp only at hj hl2 hj4
    have e1 := getD_at hil
    have e2 := getD_at hih
    have ew2 : widW lo hi i = hi[i]?.getD 0 - lo[i]?.getD 0 + 1 := by simp [widW]
    by_cases hjl : j < l.length
    · have hvx := rowsX_at hl' hjl
      have hvl : (l.getD (0 + (j : Int).toNat) rowD).xs.length = i := by
        rw [hvx]
        have hjb : j < (boxTo lo hi i).length := by omega
        rw [List.getD_eq_getElem?_getD, List.getElem?_eq_getElem hjb, Option.getD_some]
        exact box_row _ (List.getElem_mem hjb)
      have hl2n : l2.length = j * (widW lo hi i).toNat := by rw [rowsX_len hl2, midL_eq (by omega)]; rfl
      have hl2c : (l2.length : Int) = (j * (widW lo hi i).toNat : Nat) := by rw [hl2n]
      have hl2b : l2.length ≤ 4000 := by
        rcases hj4 with h | h
        · subst h; simp at hl2n; omega
        · omega
      rw [← e1] at b1 ew
      rw [← e2] at b2 ew
      by_cases hfull : (j + 1) * (widW lo hi i).toNat ≤ 4000
      · have hfull' := hfull
        rw [Nat.succ_mul] at hfull'
        ((repeat' (first | refine stx ?_ | (refine stq ?_ ?_ <;> (intro hc; ((try simp at hc) <;> try contradiction))) | fail)) <;> try (exfalso; omega))
        refine w_G hE (fun x : Nat × List Row × Nat => x.1 ≤ (widW lo hi i).toNat ∧ rowsX x.2.1 = midL lo hi i j x.1) (fun x => (widW lo hi i).toNat - x.1)
          (fun x => [(0, vS 1 1 0 lo.length ca), (1, vS 2 1 0 lo.length cb), (6, vS 3 1 0 l.length cap), (7, vI i), (8, vS 5 1 0 x.2.1.length x.2.2), (9, vI j), (10, vI (lo.getD (0 + (i : Int).toNat) 0 + (x.1 : Int)))])
          (fun x => [(1, .ro (.ints lo)), (2, .ro (.ints hi)), (3, .own 24 cap (.rows false true l)), (4, .tok 3 false l), (5, .own 24 x.2.2 (.rows false true x.2.1)), (6, .tok 3 false x.2.1)]) 7 [] (0, l2, cap2) ⟨Nat.zero_le _, hl2⟩ ⟨w_1, w_2, rfl⟩ ?_
        rintro ⟨m, l3, cap3⟩ ⟨hm, hl3⟩
        dsimp only at hm hl3
        have hl3n : l3.length ≤ 4000 := by
          rw [rowsX_len hl3, midL_eq (by omega)]; omega
        have e3 : lo.getD (0 + (i : Int).toNat) 0 = lo[i]?.getD 0 := by simp
        by_cases hmw : m < (widW lo hi i).toNat
        · ((repeat' (first | refine stx ?_ | (refine w_x TT Zz Zz Zz Zz Zz sd ?_; intro cap hcap) | (refine stq ?_ ?_ <;> (intro hc; ((try simp at hc) <;> try contradiction))) | fail)) <;> try (exfalso; omega))
          ((first | refine awpL_ghost (Ghost.freeze 11 6 Zz Zz) ?_ | refine awp_ghost (Ghost.freeze 11 6 Zz Zz) ?_ | refine awpH_ghost (Ghost.freeze 11 6 Zz Zz) ?_ | refine awpHop_ghost (Ghost.freeze 11 6 Zz Zz) ?_); rintro _ _ ⟨a1, rfl, rfl⟩)
          ((repeat' (first | refine stx ?_ | (refine w_x TT Zz Zz Zz Zz Zz sd ?_; intro cap hcap) | (refine stq ?_ ?_ <;> (intro hc; ((try simp at hc) <;> try contradiction))) | fail)) <;> try (exfalso; omega))
          refine ⟨[(5, 13)], (m + 1, _, _), ⟨hmw, ?_⟩, w_4, ⟨w_1, ⟨rfl, rfl, rfl, rfl, rfl, rfl, trivial⟩, rfl⟩⟩
          show rowsX (l3 ++ [_]) = _
          rw [midL_next, ← hl3, ← hvx]
          simp [rowsX]
        · obtain rfl : m = (widW lo hi i).toNat := by omega
          ((repeat' (first | refine stx ?_ | (refine stq ?_ ?_ <;> (intro hc; ((try simp at hc) <;> try contradiction))) | fail)) <;> try (exfalso; omega))
          exact ⟨[], (j + 1, l3, cap3), ⟨hjl, by dsimp only; rw [hl3, midL_row (by omega)], .inr hfull⟩, w_4, ⟨w_1, w_2, rfl⟩⟩
      · have hb : boxO lo hi = none := boxO_no (k := i + 1) (by omega) (by
          rw [okTo]; simp only [Bool.and_eq_false_iff, decide_eq_false_iff_not]; right
          rw [← hbig]
          have : (j + 1) * (widW lo hi i).toNat ≤ (boxTo lo hi i).length * (widW lo hi i).toNat := Nat.mul_le_mul_right _ (by omega)
          omega)
        have hfull' := hfull
        rw [Nat.succ_mul] at hfull'
        ((repeat' (first | refine stx ?_ | (refine stq ?_ ?_ <;> (intro hc; ((try simp at hc) <;> try contradiction))) | fail)) <;> try (exfalso; omega))
        exact fin rfl w_3 [(3, 7)] (.tup [.one (.sl 3 1 0 0 0), .one (.bool false)]) [(3, .own 24 0 (.rows false true []))] 4 (by rw [hb]; exact ⟨rfl, rfl, rfl⟩) rfl ⟨trivial, ⟨rfl, trivial⟩, rfl⟩ rfl
    · obtain rfl : j = l.length := by omega
      ((repeat' (first | refine stx ?_ | (refine stq ?_ ?_ <;> (intro hc; ((try simp at hc) <;> try contradiction))) | fail)) <;> try (exfalso; omega))
      have hok' : okTo lo hi (i + 1) = true := by
        rw [okTo, hok]
        simp only [Bool.true_and, decide_eq_true_eq]
        rw [← hbig]
        rcases hj4 with h | h
        · omega
        · rw [← hll]; omega
      exact ⟨[(3, 5), (4, 6)], (i + 1, l2, cap2), ⟨hil, by dsimp only; rw [hl2, hll, midL_full], hok'⟩, w_4, ⟨w_1, w_2, rfl⟩⟩
  · obtain rfl : i = lo.length := by omega
    have hbo : boxO lo hi = some (boxTo lo hi lo.length) := by simp [boxO, hok]
    rw [hbo]
    ((repeat' (first | refine stx ?_ | (refine stq ?_ ?_ <;> (intro hc; ((try simp at hc) <;> try contradiction))) | fail)) <;> try (exfalso; omega))
    exact fin rfl w_3 [] (.tup [.one (.sl 3 1 0 l.length cap), .one (.bool true)]) [(3, .own 24 cap (.rows false true l)), (4, .tok 3 false l)] 5 ⟨l, cap, hl', rfl, rfl, rfl⟩ rfl ⟨trivial, ⟨rfl, rfl, trivial⟩, rfl⟩ rfl
end Go.Proofs.YtfkbjkmlpinoeaaGreat
namespace Go.Proofs.YtfkbjkmlpinoeaaGreat
open Go.RowKit
theorem hbox_dims {r c : Int} {xs w : List Int} (h : hboxB r c xs = some w) : ∃ a b : Nat, r = a ∧ c = b ∧ a ≤ 8 ∧ 1 ≤ b ∧ b ≤ 3 ∧ xs.length = a * b ∧ xs.all numB = true ∧ pointB r c xs = true ∧ w.length = b ∧ w.all numB = true ∧ ∀ k, 0 ≤ w.getD k 0 := by
  unfold hboxB at h
  split at h
  · cases h
  · rename_i s hs
    split at h
    · rename_i hn
      injection h with h
      have hs2 := hs
      obtain ⟨b', hb', -, -, -, -, hyn⟩ := raysB_dims hs2
      rw [raysB, Option.map_eq_some_iff] at hs
      obtain ⟨L, h1, rfl⟩ := hs
      obtain ⟨a, b, raw, rfl, rfl, ha, hb1, hb, hx, hnum, hC, hp, -, -⟩ := raysO_some h1
      refine ⟨a, b, rfl, rfl, ha, hb1, hb, hx, hnum, hp, by rw [← h, colB, genT_len]; rfl, by rw [← h]; exact hn, fun k => ?_⟩
      rw [← h, colB]
      by_cases hk : k < (b : Int).toNat
      · have e : ∀ (f : Nat → Nat → Int) (t : Nat), (genT f (b : Int).toNat t 0).getD k 0 = f k t := fun f t => by
          have hk2 : k < b := by simpa using hk
          simp [genT, hk2]
        rw [e]
        exact (colA_bd hyn _).1
      · rw [List.getD_eq_getElem?_getD, List.getElem?_eq_none (by rw [genT_len]; omega)]; exact Int.le_refl 0
    · cases h
def conP (xs : List Int) (a b : Nat) (v : List Int) : Bool := !isZ v && inAny xs a b v
def allR (xs : List Int) (a b : Nat) (l : List Row) : List (Row × Int) := (l.filter fun r => conP xs a b r.xs).map fun r => (r, htTo xs b r.xs a)
theorem allR_next {xs : List Int} {a b : Nat} {l : List Row} {i : Nat} (h : i < l.length) : allR xs a b (l.take (i + 1)) = allR xs a b (l.take i) ++ (if conP xs a b l[i].xs then [(l[i], htTo xs b l[i].xs a)] else []) := by
  rw [List.take_succ_eq_append_getElem h, allR, List.filter_append, List.map_append]
  congr 1
  cases hc : conP xs a b l[i].xs <;> simp [hc]
def leftR (xs : List Int) (a b : Nat) (all l : List (Row × Int)) : List (Row × Int) := l.filter fun x => !(all.any fun y => sumB xs a b x.1.xs y.1.xs)
theorem leftR_next {xs : List Int} {a b : Nat} {all l : List (Row × Int)} {i : Nat} (h : i < l.length) : leftR xs a b all (l.take (i + 1)) = leftR xs a b all (l.take i) ++ (if all.any (fun y => sumB xs a b l[i].1.xs y.1.xs) then [] else [l[i]]) := by
  rw [List.take_succ_eq_append_getElem h, leftR, List.filter_append]
  congr 1
  cases hc : all.any (fun y => sumB xs a b l[i].1.xs y.1.xs) <;> simp [hc]
def PtsR (th t : TypeId) (o : Option (List (List Int))) (k : Nat) (v : AV) (Hout : List (Nat × Blk)) (n1 : Nat) : Prop := match o with
  | some L => BoxR th t L k v Hout n1
  | none => v = .tup [.one (.sl k 1 0 0 0), .one (.bool false)] ∧ Hout = [(k, .own th 0 (.rows false true []))] ∧ n1 = k + 1
def stripR (r : Row) : Row := ⟨r.a, r.cap, r.xs, []⟩
def irrL (xs : List Int) (a b : Nat) (L : List (List Int)) : List (List Int × Int) :=
  ((L.filter (conP xs a b)).map fun v => (v, htTo xs b v a)).filter fun x => !(((L.filter (conP xs a b)).map fun v => (v, htTo xs b v a)).any fun y => sumB xs a b x.1 y.1)
theorem irr_eq {xs : List Int} {a b : Nat} {L : List (List Int)} {ls : List Row} {vl bl : List (Row × Int)} (hlx : rowsX ls = L) (h2 : vl = allR xs a b ls) (h4 : bl = leftR xs a b vl vl) : bl.map Vx = irrL xs a b L := by
  have hv : vl.map Vx = ((L.filter (conP xs a b)).map fun v => (v, htTo xs b v a)) := by
    rw [h2, ← hlx, allR, rowsX, List.filter_map, List.map_map, List.map_map]; rfl
  rw [irrL, ← hv, List.filter_map, h4, leftR]
  congr 2
  funext x
  simp only [Function.comp, List.any_map]
  rfl
def HilR (th t : TypeId) (r c : Int) (xs : List Int) (v : AV) (Hout : List (Nat × Blk)) (n1 : Nat) : Prop := match (hboxB r c xs).bind fun w => boxO (w.map fun x => -x) w with
  | none => PtsR th t none 2 v Hout n1
  | some L => ∃ M : List (List Int × Int), M.Perm (irrL xs r.toNat c.toNat L) ∧ (M.Pairwise fun x y => ¬ cmpV y x < 0) ∧ PtsR th t (some (M.map Prod.fst)) 2 v Hout n1
set_option maxRecDepth 100000 in
set_option maxHeartbeats 16000000 in
theorem d_hilbI (r c : Int) (xs : List Int) (ca : Nat) (hl : xs.length ≤ 1099511627776) (hca : xs.length ≤ ca) : Does Tryz.prog 22 [vM r c 1 xs.length ca] [(1, .ro (.ints xs))] 2 (HilR 24 3 r c xs) := by
 have hr := d_hboxI r c xs ca hl hca
 unfold HilR
 refine Does.intro TT Tryz.func22 rfl (by kernel_rfl) Zz Zz fun E hE => ?_
 cases hB : hboxB r c xs with
 | none =>
  rw [hB] at hr
  dsimp only [Option.bind_none]
  ((repeat' (first | refine stx ?_ | ((refine w_E (hr) Zz Zz Zz Zz Zz Zz Zz ft rfl ?_); rintro v Hout n1 ⟨cw, hcw, rfl, rfl, rfl⟩) | (refine stq ?_ ?_ <;> (intro hc; ((try simp at hc) <;> try contradiction))) | fail)) <;> try (exfalso; omega))
  exact fin rfl w_3 [(2, 4)] (.tup [.one (.sl 2 1 0 0 0), .one (.bool false)]) [(2, .own 24 0 (.rows false true []))] 3 ⟨rfl, rfl, rfl⟩ rfl ⟨trivial, ⟨rfl, trivial⟩, rfl⟩ rfl
 | some w =>
  rw [hB] at hr
  obtain ⟨a, b, rfl, rfl, ha, hb1, hb, hx, hxn, hp, hwl, hwn, hw0⟩ := hbox_dims hB
  have hng := fun n c (hn : n = w.length) => d_negated w n c hn (by omega) hwn
  have hbx := fun ca cb m1 m2 (h1 : m1 = (w.map fun x => -x).length) (h2 : m2 = (w.map fun x => -x).length) => (by
   subst h1
   exact d_boxed (w.map fun x => -x) w ca cb m2 (by simp) h2 (by simp; omega) (neg_num hwn) (fun n hn => List.all_eq_true.1 hwn n hn) (fun k _ => neg_wid hw0 k) : Does Tryz.prog 70 [vS 1 1 0 m1 ca, vS 2 1 0 m2 cb] [(1, .ro (.ints (w.map fun x => -x))), (2, .ro (.ints w))] 3 _)
  dsimp only [Option.bind_some]
  cases hO : boxO (w.map fun x => -x) w with
  | none =>
   rw [hO] at hbx
   ((repeat' (first | refine stx ?_ | ((refine w_E (hr) Zz Zz Zz Zz Zz Zz Zz ft rfl ?_); rintro v Hout n1 ⟨cw, hcw, rfl, rfl, rfl⟩) | ((refine w_E (hng _ _ rfl) Zz Zz Zz Zz Zz Zz Zz ft rfl ?_); rintro v Hout n1 ⟨cn, hcn, rfl, rfl, rfl⟩) | ((refine w_E (hbx _ _ _ _ rfl (by simp)) Zz Zz Zz Zz Zz Zz Zz ft rfl ?_); rintro v Hout n1 ⟨rfl, rfl, rfl⟩) | (refine stq ?_ ?_ <;> (intro hc; ((try simp at hc) <;> try contradiction))) | fail)) <;> try (exfalso; omega))
   exact fin rfl w_3 [(2, 5)] (.tup [.one (.sl 2 1 0 0 0), .one (.bool false)]) [(2, .own 24 0 (.rows false true []))] 3 ⟨rfl, rfl, rfl⟩ rfl ⟨trivial, ⟨rfl, trivial⟩, rfl⟩ rfl
  | some L =>
   rw [hO] at hbx
   have hsm := box_sm hw0 hO
   ((repeat' (first | refine stx ?_ | ((refine w_E (hr) Zz Zz Zz Zz Zz Zz Zz ft rfl ?_); rintro v Hout n1 ⟨cw, hcw, rfl, rfl, rfl⟩) | ((refine w_E (hng _ _ rfl) Zz Zz Zz Zz Zz Zz Zz ft rfl ?_); rintro v Hout n1 ⟨cn, hcn, rfl, rfl, rfl⟩) | ((refine w_E (hbx _ _ _ _ rfl (by simp)) Zz Zz Zz Zz Zz Zz Zz ft rfl ?_); rintro v Hout n1 ⟨l, cap, hlL, rfl, rfl, rfl⟩) | (refine stq ?_ ?_ <;> (intro hc; ((try simp at hc) <;> try contradiction))) | fail)) <;> try (exfalso; omega))
   have hl4 : l.length ≤ 4000 := by
    have := box_4000 (fun k _ => neg_wid hw0 k) hO
    rw [← hlL, rowsX, List.length_map] at this; exact this
   ((first | refine awpL_ghost (Ghost.partN 6 (l.map stripR) rfl (fun r hr => by obtain ⟨r0, h0, rfl⟩ := List.mem_map.1 hr; exact ⟨r0, h0, rfl, rfl, rfl⟩) (fun h => List.pairwise_map.2 (h.imp fun h => h))) ?_ | refine awp_ghost (Ghost.partN 6 (l.map stripR) rfl (fun r hr => by obtain ⟨r0, h0, rfl⟩ := List.mem_map.1 hr; exact ⟨r0, h0, rfl, rfl, rfl⟩) (fun h => List.pairwise_map.2 (h.imp fun h => h))) ?_ | refine awpH_ghost (Ghost.partN 6 (l.map stripR) rfl (fun r hr => by obtain ⟨r0, h0, rfl⟩ := List.mem_map.1 hr; exact ⟨r0, h0, rfl, rfl, rfl⟩) (fun h => List.pairwise_map.2 (h.imp fun h => h))) ?_ | refine awpHop_ghost (Ghost.partN 6 (l.map stripR) rfl (fun r hr => by obtain ⟨r0, h0, rfl⟩ := List.mem_map.1 hr; exact ⟨r0, h0, rfl, rfl, rfl⟩) (fun h => List.pairwise_map.2 (h.imp fun h => h))) ?_); rintro _ _ ⟨rfl, rfl⟩)
   ((first | refine awpL_ghost (Ghost.retell 5 6 (.rows false true (l.map stripR)) Zz Zz (by show (l.map stripR).flatMap _ = l.flatMap _; rw [List.flatMap_map]; rfl) (by show (l.map stripR).length = l.length; exact List.length_map _) rfl (fun x hx => by obtain ⟨r, hr, rfl⟩ := List.mem_map.1 hx; exact ⟨rfl, hr⟩)) ?_ | refine awp_ghost (Ghost.retell 5 6 (.rows false true (l.map stripR)) Zz Zz (by show (l.map stripR).flatMap _ = l.flatMap _; rw [List.flatMap_map]; rfl) (by show (l.map stripR).length = l.length; exact List.length_map _) rfl (fun x hx => by obtain ⟨r, hr, rfl⟩ := List.mem_map.1 hx; exact ⟨rfl, hr⟩)) ?_ | refine awpH_ghost (Ghost.retell 5 6 (.rows false true (l.map stripR)) Zz Zz (by show (l.map stripR).flatMap _ = l.flatMap _; rw [List.flatMap_map]; rfl) (by show (l.map stripR).length = l.length; exact List.length_map _) rfl (fun x hx => by obtain ⟨r, hr, rfl⟩ := List.mem_map.1 hx; exact ⟨rfl, hr⟩)) ?_ | refine awpHop_ghost (Ghost.retell 5 6 (.rows false true (l.map stripR)) Zz Zz (by show (l.map stripR).flatMap _ = l.flatMap _; rw [List.flatMap_map]; rfl) (by show (l.map stripR).length = l.length; exact List.length_map _) rfl (fun x hx => by obtain ⟨r, hr, rfl⟩ := List.mem_map.1 hx; exact ⟨rfl, hr⟩)) ?_); rintro _ _ ⟨rfl, rfl⟩)
   have hlx : rowsX (l.map stripR) = L := by rw [← hlL, rowsX, rowsX, List.map_map]; rfl
   have hlps : ∀ r ∈ l.map stripR, r.ps = [] := fun r hr => by obtain ⟨r0, h0, rfl⟩ := List.mem_map.1 hr; rfl
   have hll : (l.map stripR).length = l.length := List.length_map _
   generalize l.map stripR = ls at *
   have hrow : ∀ r ∈ ls, r.xs.length = b ∧ r.xs.all numB = true ∧ ∀ k, k < b → -2000 ≤ r.xs.getD k 0 ∧ r.xs.getD k 0 ≤ 2000 := fun r hr => by
    obtain ⟨g1, g2⟩ := hsm r.xs (by rw [← hlx]; exact List.mem_map.2 ⟨r, hr, rfl⟩)
    rw [hwl] at g1 g2
    exact ⟨g1, all_num fun k hk => by have := g2 k (by omega); omega, g2⟩
   refine w_G hE (fun x : Nat × List (Row × Int) × Nat => x.1 ≤ l.length ∧ x.2.1 = allR xs a b (ls.take x.1)) (fun x => l.length - x.1)
    (fun x => [(1, .one (.ptr 2 3 0 0)), (8, .one (.sl 7 2 0 x.2.1.length x.2.2)), (34, vS 5 1 0 l.length cap), (35, vI l.length), (36, vI x.1)])
    (fun x => [(1, .ro (.ints xs)), (2, .own 26 1 (.lit [.int a, .int b, .sl 1 1 0 xs.length ca])), (5, .own 24 cap (.rows false true ls)), (6, .tok 3 false ls), (7, .own 73 x.2.2 (.vals true x.2.1))]) 8 [] (0, [], 0) ⟨Nat.zero_le _, rfl⟩ ⟨w_1, w_2, rfl⟩ ?_
   rintro ⟨i, vl, cap1⟩ ⟨h1, h2⟩
   dsimp only at h1 h2
   by_cases hi : i < l.length
   ·have hils : i < ls.length := by omega
    have e1 : (ls.getD (0 + (i : Int).toNat) rowD) = ls[i] := by rw [show 0 + (i : Int).toNat = i by omega, getD_in hils]
    have em : (ls.getD (0 + (i : Int).toNat) rowD) ∈ ls := by rw [e1]; exact List.getElem_mem hils
    obtain ⟨g1, g2, g3⟩ := hrow (ls.getD (0 + (i : Int).toNat) rowD) em
    have g4 := row_eta (hlps (ls.getD (0 + (i : Int).toNat) rowD) em)
    have hnx := allR_next (xs := xs) (a := a) (b := b) hils
    rw [← e1] at hnx
    have hvl : vl.length ≤ i := by
     rw [h2, allR, List.length_map]
     exact Nat.le_trans (List.length_filter_le _ _) (by rw [List.length_take]; omega)
    have hz := fun n c (hn : n = (ls.getD (0 + (i : Int).toNat) rowD).xs.length) => (by subst hn; exact d_zeroO (ls.getD (0 + (i : Int).toNat) rowD).xs 0 _ c (by omega) (by omega) : Does Tryz.prog 71 [vS 1 1 0 n c] [(1, .ro (.ints (ls.getD (0 + (i : Int).toNat) rowD).xs))] 2 (Ret (vB (isZ (ls.getD (0 + (i : Int).toNat) rowD).xs)) 2))
    have hia := fun m cv (hm : m = (ls.getD (0 + (i : Int).toNat) rowD).xs.length) => d_inAny a b xs.length ca m cv xs (ls.getD (0 + (i : Int).toNat) rowD).xs rfl hm hx g1 ha hb1 hb hxn g2 hca
    have hht := fun m cv (hm : m = (ls.getD (0 + (i : Int).toNat) rowD).xs.length) => d_height a b xs.length ca m cv xs (ls.getD (0 + (i : Int).toNat) rowD).xs rfl hm hx g1 ha hb1 hb hxn g2 hca
    cases cz : isZ (ls.getD (0 + (i : Int).toNat) rowD).xs with
    | true =>
     have hcp : ¬ conP xs a b (ls.getD (0 + (i : Int).toNat) rowD).xs = true := by rw [conP, cz]; simp
     rw [cz] at hz
     ((repeat' (first | refine stx ?_ | (first | refine w_z (hz _ _ rfl) Zz Zz Zz Zz Zz Zz Zz Zz ft Zz Zz ?_ | refine w_A (hz _ _ rfl) Zz Zz Zz Zz Zz Zz Zz Zz ft Zz Zz ?_) | (first | refine w_z (hia _ _ rfl) Zz Zz Zz Zz Zz Zz Zz Zz ft Zz Zz ?_ | refine w_A (hia _ _ rfl) Zz Zz Zz Zz Zz Zz Zz Zz ft Zz Zz ?_) | (first | refine w_z (hht _ _ rfl) Zz Zz Zz Zz Zz Zz Zz Zz ft Zz Zz ?_ | refine w_A (hht _ _ rfl) Zz Zz Zz Zz Zz Zz Zz Zz ft Zz Zz ?_) | (refine stq ?_ ?_ <;> (intro hc; ((try simp at hc) <;> try contradiction))) | fail)) <;> try (exfalso; omega))
     exact ⟨[], (i + 1, vl, cap1), ⟨hi, by dsimp only; rw [hnx, if_neg hcp, List.append_nil]; exact h2⟩, w_4, ⟨w_1, w_2, rfl⟩⟩
    | false =>
     rw [cz] at hz
     cases ci : inAny xs a b (ls.getD (0 + (i : Int).toNat) rowD).xs with
     | false =>
      have hcp : ¬ conP xs a b (ls.getD (0 + (i : Int).toNat) rowD).xs = true := by rw [conP, ci]; simp
      rw [ci] at hia
      ((repeat' (first | refine stx ?_ | (first | refine w_z (hz _ _ rfl) Zz Zz Zz Zz Zz Zz Zz Zz ft Zz Zz ?_ | refine w_A (hz _ _ rfl) Zz Zz Zz Zz Zz Zz Zz Zz ft Zz Zz ?_) | (first | refine w_z (hia _ _ rfl) Zz Zz Zz Zz Zz Zz Zz Zz ft Zz Zz ?_ | refine w_A (hia _ _ rfl) Zz Zz Zz Zz Zz Zz Zz Zz ft Zz Zz ?_) | (first | refine w_z (hht _ _ rfl) Zz Zz Zz Zz Zz Zz Zz Zz ft Zz Zz ?_ | refine w_A (hht _ _ rfl) Zz Zz Zz Zz Zz Zz Zz Zz ft Zz Zz ?_) | (refine stq ?_ ?_ <;> (intro hc; ((try simp at hc) <;> try contradiction))) | fail)) <;> try (exfalso; omega))
      exact ⟨[], (i + 1, vl, cap1), ⟨hi, by dsimp only; rw [hnx, if_neg hcp, List.append_nil]; exact h2⟩, w_4, ⟨w_1, w_2, rfl⟩⟩
     | true =>
      have hcp : conP xs a b (ls.getD (0 + (i : Int).toNat) rowD).xs = true := by rw [conP, cz, ci]; rfl
      rw [ci] at hia
      ((repeat' (first | refine stx ?_ | (first | refine w_z (hz _ _ rfl) Zz Zz Zz Zz Zz Zz Zz Zz ft Zz Zz ?_ | refine w_A (hz _ _ rfl) Zz Zz Zz Zz Zz Zz Zz Zz ft Zz Zz ?_) | (first | refine w_z (hia _ _ rfl) Zz Zz Zz Zz Zz Zz Zz Zz ft Zz Zz ?_ | refine w_A (hia _ _ rfl) Zz Zz Zz Zz Zz Zz Zz Zz ft Zz Zz ?_) | (first | refine w_z (hht _ _ rfl) Zz Zz Zz Zz Zz Zz Zz Zz ft Zz Zz ?_ | refine w_A (hht _ _ rfl) Zz Zz Zz Zz Zz Zz Zz Zz ft Zz Zz ?_) | (refine w_x TT Zz Zz Zz Zz Zz sd ?_; intro cap hcap) | (refine stq ?_ ?_ <;> (intro hc; ((try simp at hc) <;> try contradiction))) | fail)) <;> try (exfalso; omega))
      refine ⟨[(7, 10)], (i + 1, _, _), ⟨hi, ?_⟩, w_4, ⟨w_1, ⟨rfl, rfl, rfl, rfl, rfl, trivial⟩, rfl⟩⟩
      show vl ++ [((⟨(ls.getD (0 + (i : Int).toNat) rowD).a, (ls.getD (0 + (i : Int).toNat) rowD).cap, (ls.getD (0 + (i : Int).toNat) rowD).xs, []⟩ : Row), htTo xs b (ls.getD (0 + (i : Int).toNat) rowD).xs a)] = _
      rw [g4, hnx, if_pos hcp, h2]
   ·obtain rfl : i = l.length := by omega
    rw [List.take_of_length_le (by omega)] at h2
    have hvl : vl.length ≤ 4000 := by
     rw [h2, allR, List.length_map]
     exact Nat.le_trans (List.length_filter_le _ _) (by omega)
    have hvm : ∀ x ∈ vl, x.1 ∈ ls ∧ x.2 = htTo xs b x.1.xs a := fun x hx' => by
     rw [h2, allR] at hx'
     obtain ⟨r, hr, rfl⟩ := List.mem_map.1 hx'
     exact ⟨(List.mem_filter.1 hr).1, rfl⟩
    ((repeat' (first | refine stx ?_ | (refine stq ?_ ?_ <;> (intro hc; ((try simp at hc) <;> try contradiction))) | fail)) <;> try (exfalso; omega))
    refine w_G hE (fun x : Nat × List (Row × Int) × Nat => x.1 ≤ vl.length ∧ x.2.1 = leftR xs a b vl (vl.take x.1)) (fun x => vl.length - x.1)
     (fun x => [(1, .one (.ptr 2 3 0 0)), (8, .one (.sl 7 2 0 vl.length cap1)), (11, .one (.sl 8 2 0 x.2.1.length x.2.2)), (58, .one (.sl 7 2 0 vl.length cap1)), (59, vI vl.length), (60, vI x.1)])
     (fun x => [(1, .ro (.ints xs)), (2, .own 26 1 (.lit [.int a, .int b, .sl 1 1 0 xs.length ca])), (5, .own 24 cap (.rows false true ls)), (6, .tok 3 false ls), (7, .own 73 cap1 (.vals true vl)), (8, .own 73 x.2.2 (.vals true x.2.1))]) 9 [] (0, [], 0) ⟨Nat.zero_le _, rfl⟩ ⟨w_1, w_2, rfl⟩ ?_
    rintro ⟨k, bl, cap2⟩ ⟨h3, h4⟩
    dsimp only at h3 h4
    have hbl : bl.length ≤ k := by
     rw [h4, leftR]
     exact Nat.le_trans (List.length_filter_le _ _) (by rw [List.length_take]; omega)
    by_cases hk : k < vl.length
    ·have e2 : (vl.getD (0 + (k : Int).toNat) (rowD, 0)) = vl[k] := by rw [show 0 + (k : Int).toNat = k by omega, getD_in hk]
     have em : (vl.getD (0 + (k : Int).toNat) (rowD, 0)) ∈ vl := by rw [e2]; exact List.getElem_mem hk
     obtain ⟨m1, m2⟩ := hvm (vl.getD (0 + (k : Int).toNat) (rowD, 0)) em
     obtain ⟨g1, g2, g3⟩ := hrow (vl.getD (0 + (k : Int).toNat) (rowD, 0)).1 m1
     have g4 := row_eta (hlps (vl.getD (0 + (k : Int).toNat) (rowD, 0)).1 m1)
     have hnx := leftR_next (xs := xs) (a := a) (b := b) (all := vl) hk
     rw [← e2] at hnx
     have hgd : ∀ r ∈ vl, GoodV b (vl.getD (0 + (k : Int).toNat) (rowD, 0)).1.xs r.1.xs := fun r hr => by
      obtain ⟨q1, q2, q3⟩ := hrow r.1 (hvm r hr).1
      refine ⟨q1, q2, all_num fun j hj => ?_⟩
      rw [difL_len] at hj
      have y1 := g3 j (by omega)
      have y2 := q3 j (by omega)
      rw [difL_at hj]; omega
     have hct := fun n2 c2 (h2 : n2 = (vl.getD (0 + (k : Int).toNat) (rowD, 0)).1.xs.length) => d_containsV a b xs.length ca n2 c2 vl.length cap1 xs (vl.getD (0 + (k : Int).toNat) (rowD, 0)).1.xs vl (vl.getD (0 + (k : Int).toNat) (rowD, 0)).2 rfl h2 rfl hx ha hb1 hb hxn hca g1 g2 (by omega) hgd
     cases cs : vl.any (fun r => sumB xs a b (vl.getD (0 + (k : Int).toNat) (rowD, 0)).1.xs r.1.xs) with
     | true =>
      rw [cs] at hct
      ((repeat' (first | refine stx ?_ | (refine awpL_callM [(1, 7), (2, 10), (3, 9), (4, 2), (5, 1)] (hct _ _ rfl) Zz Zz Zz Zz Zz Zz Zz ft rfl ?_; rintro v Hout n1 ⟨rfl, rfl, rfl⟩) | (refine stq ?_ ?_ <;> (intro hc; ((try simp at hc) <;> try contradiction))) | fail)) <;> try (exfalso; omega))
      exact ⟨[], (k + 1, bl, cap2), ⟨hk, by dsimp only; rw [hnx, if_pos cs, List.append_nil]; exact h4⟩, w_4, ⟨w_1, w_2, rfl⟩⟩
     | false =>
      rw [cs] at hct
      ((repeat' (first | refine stx ?_ | (refine awpL_callM [(1, 7), (2, 10), (3, 9), (4, 2), (5, 1)] (hct _ _ rfl) Zz Zz Zz Zz Zz Zz Zz ft rfl ?_; rintro v Hout n1 ⟨rfl, rfl, rfl⟩) | (refine w_x TT Zz Zz Zz Zz Zz sd ?_; intro cap hcap) | (refine stq ?_ ?_ <;> (intro hc; ((try simp at hc) <;> try contradiction))) | fail)) <;> try (exfalso; omega))
      refine ⟨[(8, 12)], (k + 1, _, _), ⟨hk, ?_⟩, w_4, ⟨w_1, ⟨rfl, rfl, rfl, rfl, rfl, rfl, trivial⟩, rfl⟩⟩
      show bl ++ [((⟨(vl.getD (0 + (k : Int).toNat) (rowD, 0)).1.a, (vl.getD (0 + (k : Int).toNat) (rowD, 0)).1.cap, (vl.getD (0 + (k : Int).toNat) (rowD, 0)).1.xs, []⟩ : Row), (vl.getD (0 + (k : Int).toNat) (rowD, 0)).2)] = _
      rw [g4, hnx, if_neg (by rw [cs]; simp), h4]
    ·obtain rfl : k = vl.length := by omega
     rw [List.take_of_length_le (Nat.le_refl _)] at h4
     have hbm : ∀ x ∈ bl, x ∈ vl := fun x hx' => by rw [h4, leftR] at hx'; exact (List.mem_filter.1 hx').1
     have hod := fun m hm => d_order bl ls m cap2 hm (by omega) (fun x hx' => by
      obtain ⟨m1, m2⟩ := hvm x (hbm x hx')
      obtain ⟨g1, g2, -⟩ := hrow x.1 m1
      have hh := htTo_bd hxn g2 hb a
      exact ⟨by omega, by rw [m2]; omega, by rw [m2]; omega⟩) (fun x hx' => (hvm x (hbm x hx')).1) (fun x hx' => hlps _ (hvm x (hbm x hx')).1)
     have hsub : (bl.map Prod.fst).Sublist ls := by
      rw [h4, leftR, h2, allR]
      refine List.Sublist.trans (List.Sublist.map _ List.filter_sublist) ?_
      rw [List.map_map]
      exact List.Sublist.trans (by rw [show (Prod.fst ∘ fun r : Row => (r, htTo xs b r.xs a)) = id from rfl, List.map_id]; exact List.Sublist.refl _) List.filter_sublist
     ((repeat' (first | refine stx ?_ | (((first | refine awpL_ghost (Ghost.forget 8 Zz Zz) ?_ | refine awp_ghost (Ghost.forget 8 Zz Zz) ?_ | refine awpH_ghost (Ghost.forget 8 Zz Zz) ?_ | refine awpHop_ghost (Ghost.forget 8 Zz Zz) ?_); rintro _ _ ⟨rfl, rfl⟩); refine awpL_callM [(1, 8), (2, 6)] (hod _ rfl) Zz Zz Zz Zz Zz Zz Zz ft rfl ?_; rintro v Hout n1 ⟨l', lr, co, hperm, hsort, hlr, rfl, rfl, rfl⟩; ((first | refine awpL_ghost (Ghost.part 6 (l' := lr) rfl (fun r hr => by rw [hlr] at hr; obtain ⟨x, hx', rfl⟩ := List.mem_map.1 hr; exact (hvm x (hbm x (hperm.mem_iff.1 hx'))).1) (fun hp => by rw [hlr]; exact ((hperm.map Prod.fst).pairwise_iff (fun h => h.symm)).2 (hp.sublist hsub))) ?_ | refine awp_ghost (Ghost.part 6 (l' := lr) rfl (fun r hr => by rw [hlr] at hr; obtain ⟨x, hx', rfl⟩ := List.mem_map.1 hr; exact (hvm x (hbm x (hperm.mem_iff.1 hx'))).1) (fun hp => by rw [hlr]; exact ((hperm.map Prod.fst).pairwise_iff (fun h => h.symm)).2 (hp.sublist hsub))) ?_ | refine awpH_ghost (Ghost.part 6 (l' := lr) rfl (fun r hr => by rw [hlr] at hr; obtain ⟨x, hx', rfl⟩ := List.mem_map.1 hr; exact (hvm x (hbm x (hperm.mem_iff.1 hx'))).1) (fun hp => by rw [hlr]; exact ((hperm.map Prod.fst).pairwise_iff (fun h => h.symm)).2 (hp.sublist hsub))) ?_ | refine awpHop_ghost (Ghost.part 6 (l' := lr) rfl (fun r hr => by rw [hlr] at hr; obtain ⟨x, hx', rfl⟩ := List.mem_map.1 hr; exact (hvm x (hbm x (hperm.mem_iff.1 hx'))).1) (fun hp => by rw [hlr]; exact ((hperm.map Prod.fst).pairwise_iff (fun h => h.symm)).2 (hp.sublist hsub))) ?_); rintro _ _ ⟨rfl, rfl⟩)) | (refine stq ?_ ?_ <;> (intro hc; ((try simp at hc) <;> try contradiction))) | fail)) <;> try (exfalso; omega))
     exact fin rfl w_3 [(2, 9), (3, 6)] (.tup [.one (.sl 2 1 0 lr.length co), .one (.bool true)]) [(2, .own 24 co (.rows false true lr)), (3, .tok 3 false lr)] 4
      ⟨l'.map Vx, (hperm.map Vx).trans (by rw [irr_eq hlx h2 h4]; exact List.Perm.refl _), List.pairwise_map.2 hsort, ⟨lr, co, by rw [hlr, rowsX, List.map_map, List.map_map]; rfl, rfl, rfl, rfl⟩⟩ rfl ⟨trivial, ⟨rfl, rfl, trivial⟩, rfl⟩ rfl
end Go.Proofs.YtfkbjkmlpinoeaaGreat
