/-
  TEXTS OF THE PROOF, put together: bCmpW, bBox, bSS, bStrip, bOrdV, bPos, bTimes.
-/
import Derived.Test.YtekpamojojfplaaGreatD22
import Derived.Test.YtekpamojojfplaaGreatD19
import Derived.Shelf.RegionOpenPlain
import Derived.Test.YtekpamojojfplaaGreatD16
import Derived.Test.YtekpamojojfplaaGreatD08
import Derived.Maps.AppendAt
set_option linter.unusedVariables false
set_option linter.unusedSimpArgs false
namespace Go.Proofs.YtekpamojojfplaaGreat
open Go.RowKit Go.Sort Go.Lib Go.Shelf
theorem RowAt.cellAt {w : World} {r : Row} (h : RowAt w false r) {k : Nat} (hk : k < r.xs.length) : ∃ b o, r.val false = .slice (some ⟨b, o, none⟩) r.xs.length r.cap ∧ w.cell? ⟨b, o + k, none⟩ = some (.int .i64 r.xs[k]) := by
  unfold RowAt at h
  cases hp : r.a with
  | none => rw [hp] at h; simp only [Row.len] at h; omega
  | some p =>
    rw [hp] at h
    refine ⟨p.1, p.2, by simp [Row.val, hp, Row.len], ?_⟩
    exact h.2 k (.int r.xs[k]) (by simp [Row.svs, hk])
theorem val_len (r : Row) : r.val false = .slice (r.a.map fun p => ⟨p.1, p.2, none⟩) r.xs.length r.cap := rfl
set_option maxHeartbeats 400000 in
theorem isNaN_any (n : Int) (w : World) : Calls Tryz.prog 213 #[.int .i64 n] w fun e w' => e = .returned (.bool false) ∧ w = w' := by
  go_enter Tryz.func213, Tryz.ntmps213
  go_wp2
  go_ret
  exact ⟨ret_bool (by simp), rfl⟩
def cmpI (a b : Int) : Int := if a < b then -1 else if b < a then 1 else 0
set_option maxHeartbeats 1000000 in
theorem cmpInt_any (a b : Int) (w : World) : Calls Tryz.prog 175 #[.int .i64 a, .int .i64 b] w fun e w' => e = .returned (.int .i64 (cmpI a b)) ∧ w = w' := by
  go_enter Tryz.func175, Tryz.ntmps175
  go_wp2_with (go_at_call 213; refine (isNaN_any _ _).mono ?_; rintro e w' ⟨rfl, rfl⟩)
  all_goals go_ret
  all_goals exact ⟨ret_int (by unfold cmpI; first | (rw [if_pos ‹_›]; done) | (rw [if_neg ‹_›, if_pos ‹_›]; done) | (rw [if_neg (by omega), if_pos (by omega)]; done) | (rw [if_neg (by omega), if_neg (by omega)])), rfl⟩
theorem cmpI_neg {a b : Int} (h : a < b) : cmpI a b = -1 := by simp [cmpI, h]
theorem cmpI_pos {a b : Int} (h : b < a) : cmpI a b = 1 := by unfold cmpI; rw [if_neg (by omega), if_pos h]
theorem cmpI_eq (a : Int) : cmpI a a = 0 := by simp [cmpI]
theorem cmpL_drop : ∀ {k : Nat} {s t : List Int}, k ≤ s.length → k ≤ t.length → s.take k = t.take k → cmpL s t = cmpL (s.drop k) (t.drop k)
  | 0, _, _, _, _, _ => by simp
  | k + 1, [], _, h, _, _ => by simp at h
  | k + 1, _ :: _, [], _, h, _ => by simp at h
  | k + 1, a :: s, b :: t, h1, h2, h => by
    simp only [List.take_succ_cons, List.cons.injEq] at h
    obtain ⟨rfl, h⟩ := h
    rw [cmpL, if_neg (by omega), if_neg (by omega), List.drop_succ_cons, List.drop_succ_cons]
    exact cmpL_drop (by simpa using h1) (by simpa using h2) h
theorem cmpL_at {k : Nat} {s t : List Int} (h1 : k < s.length) (h2 : k < t.length) (h : s.take k = t.take k) (hne : s[k] ≠ t[k]) : cmpL s t = if s[k] < t[k] then -1 else 1 := by
  rw [cmpL_drop (by omega) (by omega) h, List.drop_eq_getElem_cons h1, List.drop_eq_getElem_cons h2, cmpL]
  split
  · rfl
  · rw [if_pos (by omega)]
theorem cmpL_longer {s t : List Int} (h1 : t.length < s.length) (h : s.take t.length = t) : cmpL s t = 1 := by
  rw [cmpL_drop (k := t.length) (by omega) (Nat.le_refl _) (by rw [h]; simp), List.drop_of_length_le (Nat.le_refl t.length)]
  cases hd : s.drop t.length with
  | nil =>
    have := congrArg List.length hd
    rw [List.length_drop] at this
    simp at this; omega
  | cons a l => rfl
theorem cmpL_end {s t : List Int} (h1 : s.length ≤ t.length) (h : s = t.take s.length) : cmpL s t = if s.length < t.length then -1 else 0 := by
  rw [cmpL_drop (k := s.length) (Nat.le_refl _) h1 (by rw [← h]; simp), List.drop_of_length_le (Nat.le_refl _)]
  split
  · rename_i hlt
    rw [List.drop_eq_getElem_cons hlt]; simp [cmpL]
  · rw [List.drop_of_length_le (by omega)]; rfl
set_option maxHeartbeats 4000000 in
theorem cmpR_any (x y : Row) (w : World) (hx : RowAt w false x) (hy : RowAt w false y) (lx : x.xs.length ≤ 1000000) (ly : y.xs.length ≤ 1000000) :
    Calls Tryz.prog 141 #[encR x, encR y] w fun e w' => e = .returned (.int .i64 (cmpL x.xs y.xs)) ∧ w = w' := by
  have HX : Aside (∀ k (hk : k < x.xs.length), ∃ b o, x.val false = .slice (some ⟨b, o, none⟩) x.xs.length x.cap ∧ w.cell? ⟨b, o + k, none⟩ = some (.int .i64 x.xs[k])) := fun k hk => hx.cellAt hk
  have HY : Aside (∀ k (hk : k < y.xs.length), ∃ b o, y.val false = .slice (some ⟨b, o, none⟩) y.xs.length y.cap ∧ w.cell? ⟨b, o + k, none⟩ = some (.int .i64 y.xs[k])) := fun k hk => hy.cellAt hk
  clear hx hy
  simp only [encR]
  rw [val_len] at HX
  rw [val_len] at HY
  rw [val_len, val_len]
  generalize x.a.map (fun p => (⟨p.1, p.2, none⟩ : Addr)) = A at *
  generalize y.a.map (fun p => (⟨p.1, p.2, none⟩ : Addr)) = B at *
  generalize x.xs = xs at *
  generalize y.xs = ys at *
  generalize x.cap = cx at *
  generalize y.cap = cy at *
  go_enter Tryz.func141, Tryz.ntmps141
  go_wp2
  go_loopw [11] (fun i wr => ∃ k : Nat, k ≤ xs.length ∧ k ≤ ys.length ∧ i = .int .i64 k ∧ Hid (xs.take k = ys.take k) ∧ wr = w) (fun i _ => xs.length - (intOf i).toNat)
  case atStart => exact ⟨0, Nat.zero_le _, Nat.zero_le _, rfl, rfl, rfl⟩
  case round =>
    obtain ⟨k, hk, hk', rfl, he, rfl⟩ := hrel
    by_cases h1 : k < xs.length
    · obtain ⟨b, o, e1, c1⟩ := HX.out k h1
      injection e1 with e1 _ _
      subst e1
      by_cases h2 : k < ys.length
      · obtain ⟨b', o', e2, c2⟩ := HY.out k h2
        injection e2 with e2 _ _
        subst e2
        have K : Aside (xs.take k = ys.take k) := he
        clear he
        have E1 : Aside (cmpL xs ys = if xs[k] < ys[k] then -1 else if ys[k] < xs[k] then 1 else cmpL xs ys) := by
          show _ = _
          by_cases e : xs[k] = ys[k]
          · rw [if_neg (by omega), if_neg (by omega)]
          · have := cmpL_at h1 h2 K.out e
            rw [this]
            split
            · rfl
            · rw [if_pos (by omega)]
        have E2 : Aside (xs[k] = ys[k] → xs.take (k + 1) = ys.take (k + 1)) := by
          show _ → _
          intro e
          rw [List.take_succ_eq_append_getElem h1, List.take_succ_eq_append_getElem h2, K.out, e]
        generalize xs[k] = a at *
        generalize ys[k] = b at *
        rcases Int.lt_trichotomy a b with hab | rfl | hab
        · have hc := cmpI_neg hab
          go_wp2_with (go_at_call 175; refine (cmpInt_any _ _ _).mono ?_; rintro e w' ⟨rfl, rfl⟩; rw [hc])
          go_ret
          refine ⟨ret_int ?_, rfl⟩
          rw [E1.out, if_pos hab]
        · have hc := cmpI_eq a
          go_wp2_with (go_at_call 175; refine (cmpInt_any _ _ _).mono ?_; rintro e w' ⟨rfl, rfl⟩; rw [hc])
          go_roundw
          case rel => exact ⟨k + 1, h1, h2, by go_num, E2.out trivial, by first | rfl | trivial⟩
          case measure => simp [intOf]; omega
        · have hc := cmpI_pos hab
          go_wp2_with (go_at_call 175; refine (cmpInt_any _ _ _).mono ?_; rintro e w' ⟨rfl, rfl⟩; rw [hc])
          go_ret
          refine ⟨ret_int ?_, rfl⟩
          rw [E1.out, if_neg (by omega), if_pos hab]
      · have hk2 : k = ys.length := by omega
        have R : Aside (cmpL xs ys = 1) := by
          refine cmpL_longer (by omega) ?_
          have := he.out
          rw [hk2, List.take_of_length_le (Nat.le_refl ys.length)] at this
          exact this
        clear he
        subst hk2
        go_wp2
        go_ret
        exact ⟨ret_int R.out.symm, rfl⟩
    · have hk2 : k = xs.length := by omega
      have R : Aside (cmpL xs ys = if xs.length < ys.length then -1 else 0) := by
        refine cmpL_end (by omega) ?_
        have := he.out
        rw [hk2, List.take_of_length_le (Nat.le_refl xs.length)] at this
        exact this
      clear he
      by_cases hlt : xs.length < ys.length
      · go_wp2
        go_ret
        refine ⟨ret_int ?_, rfl⟩
        rw [R.out, if_pos hlt]
      · go_wp2
        go_ret
        refine ⟨ret_int ?_, rfl⟩
        rw [R.out, if_neg hlt]
end Go.Proofs.YtekpamojojfplaaGreat
namespace Go.Proofs.YtekpamojojfplaaGreat
open Go.RowKit
set_option maxRecDepth 100000 in
set_option maxHeartbeats 4000000 in
theorem d_boxed (lo hi : List Int) (ca cb m : Nat) (hl : lo.length = hi.length) (hm : m = lo.length) (h24 : lo.length ≤ 24) (hlo : ∀ n ∈ lo, numB n = true) (hhi : ∀ n ∈ hi, numB n = true) (hw : ∀ k, k < lo.length → 1 ≤ widW lo hi k) :
    Does Tryz.prog 92 [vS 1 1 0 lo.length ca, vS 2 1 0 m cb] [(1, .ro (.ints lo)), (2, .ro (.ints hi))] 3 (fun v Hout n1 => match boxO lo hi with
      | some L => BoxR 24 3 L 3 v Hout n1
      | none => v = .tup [.one (.sl 0 1 0 0 0), .one (.bool false)] ∧ Hout = [] ∧ n1 = 3) := by
  subst hm
  refine Does.intro TT Tryz.func92 rfl (by kernel_rfl) Zz Zz fun E hE => ?_
  ((repeat' (first | refine stx ?_ | (refine stq ?_ ?_ <;> (intro hc; ((try simp at hc) <;> try contradiction))) | fail)) <;> try (exfalso; omega))
  refine w_G hE (fun k : Nat => k ≤ lo.length ∧ okTo lo hi k = true) (fun k => lo.length - k)
    (fun k => [(0, vS 1 1 0 lo.length ca), (1, vS 2 1 0 lo.length cb), (6, vI (cntW lo hi k)), (15, vI lo.length), (16, vI k)]) (fun _ => [(1, .ro (.ints lo)), (2, .ro (.ints hi))]) 3 [] 0 ⟨Nat.zero_le _, rfl⟩ ⟨w_1, w_2, rfl⟩ ?_
  rintro k ⟨hk, hok⟩
  have hcn := okTo_cnt hok
  have hc1 := (box_len hw k hk).2
  by_cases hkl : k < lo.length
  · have hkh : k < hi.length := by omega
    obtain ⟨b1, b2⟩ := span_bd hlo hhi hkl hl
    have ew := widW_at hkl hkh
    have hw1 := hw k hkl
    have e1 := getD_at hkl
    have e2 := getD_at hkh
    have b3 : 0 ≤ cntW lo hi k * widW lo hi k ∧ cntW lo hi k * widW lo hi k ≤ 4000 * 800000001 := ⟨Int.mul_nonneg (by omega) (by omega), Int.mul_le_mul hcn (by omega) (by omega) (by omega)⟩
    rw [ew, ← e1, ← e2] at b3
    rw [← e1] at b1
    rw [← e2] at b2
    have es : cntW lo hi (k + 1) = cntW lo hi k * (hi.getD (0 + (k : Int).toNat) 0 - lo.getD (0 + (k : Int).toNat) 0 + 1) := by rw [cntW, ew, e1, e2]
    ((repeat' (first | refine stx ?_ | (refine stq ?_ ?_ <;> (intro hc; ((try simp at hc) <;> try contradiction))) | fail)) <;> try (exfalso; omega))
    · have hb : boxO lo hi = none := boxO_no (k := k + 1) (by omega) (by
        rw [okTo, es]; simp only [Bool.and_eq_false_iff, decide_eq_false_iff_not]; right
        have e3 : lo.getD (0 + (k : Int).toNat) 0 = lo[k]?.getD 0 := by simp
        have e4 : hi.getD (0 + (k : Int).toNat) 0 = hi[k]?.getD 0 := by simp
        rw [e3, e4]; omega)
      exact fin rfl w_3 [] (.tup [.one (.sl 0 1 0 0 0), .one (.bool false)]) [] 3 (by rw [hb]; exact ⟨rfl, rfl, rfl⟩) rfl ⟨trivial, trivial, rfl⟩ rfl
    · refine ⟨[], k + 1, ⟨by omega, ?_⟩, w_4, ⟨⟨rfl, rfl, congrArg some (congrArg vI es.symm), rfl, congrArg some (congrArg vI (by omega)), trivial⟩, ⟨rfl, rfl, trivial⟩, rfl⟩⟩
      rw [okTo, hok, es]
      simp only [Bool.true_and, decide_eq_true_eq]
      have e3 : lo.getD (0 + (k : Int).toNat) 0 = lo[k]?.getD 0 := by simp
      have e4 : hi.getD (0 + (k : Int).toNat) 0 = hi[k]?.getD 0 := by simp
      rw [e3, e4]; exact hc
  · obtain rfl : k = lo.length := by omega
    have hbo : boxO lo hi = some (boxTo lo hi lo.length) := by simp [boxO, hok]
    have hall : ∀ i, i ≤ lo.length → okTo lo hi i = true := fun i hi' => by
      cases c : okTo lo hi i with
      | true => rfl
      | false =>
        have := okTo_mono c (lo.length - i)
        rw [show i + (lo.length - i) = lo.length by omega, hok] at this; cases this
    rw [hbo]
    ((repeat' (first | refine stx ?_ | (refine stq ?_ ?_ <;> (intro hc; ((try simp at hc) <;> try contradiction))) | fail)) <;> try (exfalso; omega))
    ((first | refine awpL_ghost (Ghost.newTok 3 false) ?_ | refine awp_ghost (Ghost.newTok 3 false) ?_ | refine awpH_ghost (Ghost.newTok 3 false) ?_ | refine awpHop_ghost (Ghost.newTok 3 false) ?_); rintro _ _ ⟨rfl, rfl⟩)
    ((first | refine awpL_ghost (Ghost.freeze 3 4 Zz Zz) ?_ | refine awp_ghost (Ghost.freeze 3 4 Zz Zz) ?_ | refine awpH_ghost (Ghost.freeze 3 4 Zz Zz) ?_ | refine awpHop_ghost (Ghost.freeze 3 4 Zz Zz) ?_); rintro _ _ ⟨a0, rfl, rfl⟩)
    ((repeat' (first | refine stx ?_ | (refine stq ?_ ?_ <;> (intro hc; ((try simp at hc) <;> try contradiction))) | fail)) <;> try (exfalso; omega))
    refine w_G hE (fun x : Nat × List Row × Nat => x.1 ≤ lo.length ∧ rowsX x.2.1 = boxTo lo hi x.1) (fun x => lo.length - x.1)
      (fun x => [(0, vS 1 1 0 lo.length ca), (1, vS 2 1 0 lo.length cb), (8, vS 3 1 0 x.2.1.length x.2.2), (37, vI lo.length), (38, vI x.1)])
      (fun x => [(1, .ro (.ints lo)), (2, .ro (.ints hi)), (3, .own 24 x.2.2 (.rows false true x.2.1)), (4, .tok 3 false x.2.1)]) 5 [(3, 5)] (0, [⟨a0, 0, [], []⟩], 1) ⟨Nat.zero_le _, rfl⟩ ⟨w_1, w_2, rfl⟩ ?_
    rintro ⟨i, l, cap⟩ ⟨hi', hl'⟩
    dsimp only at hi' hl'
    have hcn := okTo_cnt (hall i hi')
    have hbl := (box_len hw i hi').1
    have hll := rowsX_len hl'
    by_cases hil : i < lo.length
    · have hih : i < hi.length := by omega
      obtain ⟨b1, b2⟩ := span_bd hlo hhi hil hl
      have ew := widW_at hil hih
      have hw1 := hw i hil
      have hc3 := okTo_cnt (hall (i + 1) hil)
      have hwt : ((widW lo hi i).toNat : Int) = widW lo hi i := by omega
      have hbig : (boxTo lo hi i).length * (widW lo hi i).toNat ≤ 4000 := by
        have : (((boxTo lo hi i).length * (widW lo hi i).toNat : Nat) : Int) = cntW lo hi (i + 1) := by rw [Int.natCast_mul, hwt, hbl, cntW]
        omega
      ((repeat' (first | refine stx ?_ | (refine stq ?_ ?_ <;> (intro hc; ((try simp at hc) <;> try contradiction))) | fail)) <;> try (exfalso; omega))
      ((first | refine awpL_ghost (Ghost.newTok 3 false) ?_ | refine awp_ghost (Ghost.newTok 3 false) ?_ | refine awpH_ghost (Ghost.newTok 3 false) ?_ | refine awpHop_ghost (Ghost.newTok 3 false) ?_); rintro _ _ ⟨rfl, rfl⟩)
      refine w_G hE (fun x : Nat × List Row × Nat => x.1 ≤ l.length ∧ rowsX x.2.1 = midL lo hi i x.1 0) (fun x => l.length - x.1)
        (fun x => [(0, vS 1 1 0 lo.length ca), (1, vS 2 1 0 lo.length cb), (9, vI i), (10, vS 5 1 0 x.2.1.length x.2.2), (37, vI lo.length), (38, vI i), (42, vS 3 1 0 l.length cap), (43, vI l.length), (44, vI x.1)])
        (fun x => [(1, .ro (.ints lo)), (2, .ro (.ints hi)), (3, .own 24 cap (.rows false true l)), (4, .tok 3 false l), (5, .own 24 x.2.2 (.rows false true x.2.1)), (6, .tok 3 false x.2.1)]) 7 [] (0, [], 0) ⟨Nat.zero_le _, rfl⟩ ⟨w_1, w_2, rfl⟩ ?_
      rintro ⟨j, l2, cap2⟩ ⟨hj, hl2⟩
      dsimp only at hj hl2
      by_cases hjl : j < l.length
      · have e1 := getD_at hil
        have e2 := getD_at hih
        have hvx := rowsX_at hl' hjl
        have hvl : (l.getD (0 + (j : Int).toNat) rowD).xs.length = i := by
          rw [hvx]
          have hjb : j < (boxTo lo hi i).length := by omega
          rw [List.getD_eq_getElem?_getD, List.getElem?_eq_getElem hjb, Option.getD_some]
          exact box_row _ (List.getElem_mem hjb)
        ((repeat' (first | refine stx ?_ | (refine stq ?_ ?_ <;> (intro hc; ((try simp at hc) <;> try contradiction))) | fail)) <;> try (exfalso; omega))
        refine w_G hE (fun x : Nat × List Row × Nat => x.1 ≤ (widW lo hi i).toNat ∧ rowsX x.2.1 = midL lo hi i j x.1) (fun x => (widW lo hi i).toNat - x.1)
          (fun x => [(0, vS 1 1 0 lo.length ca), (1, vS 2 1 0 lo.length cb), (9, vI i), (10, vS 5 1 0 x.2.1.length x.2.2), (12, vS 7 1 0 (l.getD (0 + (j : Int).toNat) rowD).xs.length (l.getD (0 + (j : Int).toNat) rowD).cap), (13, vI (lo.getD (0 + (i : Int).toNat) 0 + (x.1 : Int))), (37, vI lo.length), (38, vI i), (42, vS 3 1 0 l.length cap), (43, vI l.length), (44, vI j)])
          (fun x => [(1, .ro (.ints lo)), (2, .ro (.ints hi)), (3, .own 24 cap (.rows false true l)), (4, .tok 3 false l), (5, .own 24 x.2.2 (.rows false true x.2.1)), (6, .tok 3 false x.2.1), (7, .al (l.getD (0 + (j : Int).toNat) rowD).a (.ints (l.getD (0 + (j : Int).toNat) rowD).xs))]) 8 [] (0, l2, cap2) ⟨Nat.zero_le _, hl2⟩ ⟨w_1, w_2, rfl⟩ ?_
        rintro ⟨m, l3, cap3⟩ ⟨hm, hl3⟩
        dsimp only at hm hl3
        have hl3n : l3.length ≤ 4000 := by
          rw [rowsX_len hl3]
          exact Nat.le_trans (midL_len (by omega) hm) hbig
        have ew2 : widW lo hi i = hi[i]?.getD 0 - lo[i]?.getD 0 + 1 := by simp [widW]
        have e3 : lo.getD (0 + (i : Int).toNat) 0 = lo[i]?.getD 0 := by simp
        rw [← e1] at b1 ew
        rw [← e2] at b2 ew
        by_cases hmw : m < (widW lo hi i).toNat
        · ((repeat' (first | refine stx ?_ | (refine zqx ?_; intro cap hcap) | (refine stq ?_ ?_ <;> (intro hc; ((try simp at hc) <;> try contradiction))) | fail)) <;> try (exfalso; omega))
          ((first | refine awpL_ghost (Ghost.freeze 11 6 Zz Zz) ?_ | refine awp_ghost (Ghost.freeze 11 6 Zz Zz) ?_ | refine awpH_ghost (Ghost.freeze 11 6 Zz Zz) ?_ | refine awpHop_ghost (Ghost.freeze 11 6 Zz Zz) ?_); rintro _ _ ⟨a1, rfl, rfl⟩)
          ((repeat' (first | refine stx ?_ | (refine zqx ?_; intro cap hcap) | (refine stq ?_ ?_ <;> (intro hc; ((try simp at hc) <;> try contradiction))) | fail)) <;> try (exfalso; omega))
          refine ⟨[(5, 13)], (m + 1, _, _), ⟨hmw, ?_⟩, w_4, ⟨w_1, ⟨rfl, rfl, rfl, rfl, rfl, rfl, rfl, trivial⟩, rfl⟩⟩
          show rowsX (l3 ++ [_]) = _
          rw [midL_next, ← hl3, ← hvx]
          simp [rowsX]
        · obtain rfl : m = (widW lo hi i).toNat := by omega
          ((repeat' (first | refine stx ?_ | (refine stq ?_ ?_ <;> (intro hc; ((try simp at hc) <;> try contradiction))) | fail)) <;> try (exfalso; omega))
          exact ⟨[], (j + 1, l3, cap3), ⟨hjl, by dsimp only; rw [hl3, midL_row (by omega)]⟩, w_4, ⟨w_1, w_2, rfl⟩⟩
      · obtain rfl : j = l.length := by omega
        ((repeat' (first | refine stx ?_ | (refine stq ?_ ?_ <;> (intro hc; ((try simp at hc) <;> try contradiction))) | fail)) <;> try (exfalso; omega))
        exact ⟨[(3, 5), (4, 6)], (i + 1, l2, cap2), ⟨hil, by dsimp only; rw [hl2, hll, midL_full]⟩, w_4, ⟨w_1, w_2, rfl⟩⟩
    · obtain rfl : i = lo.length := by omega
      ((repeat' (first | refine stx ?_ | (refine stq ?_ ?_ <;> (intro hc; ((try simp at hc) <;> try contradiction))) | fail)) <;> try (exfalso; omega))
      exact fin rfl w_3 [] (.tup [.one (.sl 3 1 0 l.length cap), .one (.bool true)]) [(3, .own 24 cap (.rows false true l)), (4, .tok 3 false l)] 5 ⟨l, cap, hl', rfl, rfl, rfl⟩ rfl ⟨trivial, ⟨rfl, rfl, trivial⟩, rfl⟩ rfl
set_option maxRecDepth 100000 in
set_option maxHeartbeats 4000000 in
theorem d_boxS (lo hi : List Int) (ca cb m : Nat) (hl : lo.length = hi.length) (hm : m = lo.length) (h24 : lo.length ≤ 24) (hlo : ∀ n ∈ lo, numB n = true) (hhi : ∀ n ∈ hi, numB n = true) (hw : ∀ k, k < lo.length → 1 ≤ widW lo hi k) :
    Does Tryz.prog 168 [vS 1 1 0 lo.length ca, vS 2 1 0 m cb] [(1, .ro (.ints lo)), (2, .ro (.ints hi))] 3 (fun v Hout n1 => match boxO lo hi with
      | some L => BoxR 24 3 L 3 v Hout n1
      | none => v = .tup [.one (.sl 3 1 0 0 0), .one (.bool false)] ∧ Hout = [(3, .own 24 0 (.rows false true []))] ∧ n1 = 4) := by
  subst hm
  refine Does.intro TT Tryz.func168 rfl (by kernel_rfl) Zz Zz fun E hE => ?_
  ((repeat' (first | refine stx ?_ | (refine stq ?_ ?_ <;> (intro hc; ((try simp at hc) <;> try contradiction))) | fail)) <;> try (exfalso; omega))
  ((first | refine awpL_ghost (Ghost.newTok 3 false) ?_ | refine awp_ghost (Ghost.newTok 3 false) ?_ | refine awpH_ghost (Ghost.newTok 3 false) ?_ | refine awpHop_ghost (Ghost.newTok 3 false) ?_); rintro _ _ ⟨rfl, rfl⟩)
  ((first | refine awpL_ghost (Ghost.freeze 3 4 Zz Zz) ?_ | refine awp_ghost (Ghost.freeze 3 4 Zz Zz) ?_ | refine awpH_ghost (Ghost.freeze 3 4 Zz Zz) ?_ | refine awpHop_ghost (Ghost.freeze 3 4 Zz Zz) ?_); rintro _ _ ⟨a0, rfl, rfl⟩)
  ((repeat' (first | refine stx ?_ | (refine stq ?_ ?_ <;> (intro hc; ((try simp at hc) <;> try contradiction))) | fail)) <;> try (exfalso; omega))
  refine w_G hE (fun x : Nat × List Row × Nat => x.1 ≤ lo.length ∧ rowsX x.2.1 = boxTo lo hi x.1 ∧ okTo lo hi x.1 = true) (fun x => lo.length - x.1)
    (fun x => [(0, vS 1 1 0 lo.length ca), (1, vS 2 1 0 lo.length cb), (6, vS 3 1 0 x.2.1.length x.2.2), (7, vI x.1)])
    (fun x => [(1, .ro (.ints lo)), (2, .ro (.ints hi)), (3, .own 24 x.2.2 (.rows false true x.2.1)), (4, .tok 3 false x.2.1)]) 5 [(3, 5)] (0, [⟨a0, 0, [], []⟩], 1) ⟨Nat.zero_le _, rfl, rfl⟩ ⟨w_1, w_2, rfl⟩ ?_
  rintro ⟨i, l, cap⟩ ⟨hi', hl', hok⟩
  dsimp only at hi' hl' hok
  have hcn := okTo_cnt hok
  have hbl := (box_len hw i hi').1
  have hb1 := (box_len hw i hi').2
  have hll := rowsX_len hl'
  by_cases hil : i < lo.length
  · have hih : i < hi.length := by omega
    obtain ⟨b1, b2⟩ := span_bd hlo hhi hil hl
    have ew := widW_at hil hih
    have hw1 := hw i hil
    have hwt : ((widW lo hi i).toNat : Int) = widW lo hi i := by omega
    have hbig : (((boxTo lo hi i).length * (widW lo hi i).toNat : Nat) : Int) = cntW lo hi (i + 1) := by rw [Int.natCast_mul, hwt, hbl, cntW]
    ((repeat' (first | refine stx ?_ | (refine stq ?_ ?_ <;> (intro hc; ((try simp at hc) <;> try contradiction))) | fail)) <;> try (exfalso; omega))
    ((first | refine awpL_ghost (Ghost.newTok 3 false) ?_ | refine awp_ghost (Ghost.newTok 3 false) ?_ | refine awpH_ghost (Ghost.newTok 3 false) ?_ | refine awpHop_ghost (Ghost.newTok 3 false) ?_); rintro _ _ ⟨rfl, rfl⟩)
    refine w_G hE (fun x : Nat × List Row × Nat => x.1 ≤ l.length ∧ rowsX x.2.1 = midL lo hi i x.1 0 ∧ (x.1 = 0 ∨ x.1 * (widW lo hi i).toNat ≤ 4000)) (fun x => l.length - x.1)
      (fun x => [(0, vS 1 1 0 lo.length ca), (1, vS 2 1 0 lo.length cb), (6, vS 3 1 0 l.length cap), (7, vI i), (8, vS 5 1 0 x.2.1.length x.2.2), (9, vI x.1)])
      (fun x => [(1, .ro (.ints lo)), (2, .ro (.ints hi)), (3, .own 24 cap (.rows false true l)), (4, .tok 3 false l), (5, .own 24 x.2.2 (.rows false true x.2.1)), (6, .tok 3 false x.2.1)]) 7 [] (0, [], 0) ⟨Nat.zero_le _, rfl, .inl rfl⟩ ⟨w_1, w_2, rfl⟩ ?_
    rintro ⟨j, l2, cap2⟩ ⟨hj, hl2, hj4⟩
    dsimp only at hj hl2 hj4
    have e1 := getD_at hil
    have e2 := getD_at hih
    have ew2 : widW lo hi i = hi[i]?.getD 0 - lo[i]?.getD 0 + 1 := by simp [widW]
    by_cases hjl : j < l.length
    · have hvx := rowsX_at hl' hjl
      have hvl : (l.getD (0 + (j : Int).toNat) rowD).xs.length = i := by
        rw [hvx]
        have hjb : j < (boxTo lo hi i).length := by omega
        rw [List.getD_eq_getElem?_getD, List.getElem?_eq_getElem hjb, Option.getD_some]
        exact box_row _ (List.getElem_mem hjb)
      have hl2n : l2.length = j * (widW lo hi i).toNat := by rw [rowsX_len hl2, midL_eq (by omega)]; rfl
      have hl2c : (l2.length : Int) = (j * (widW lo hi i).toNat : Nat) := by rw [hl2n]
      have hl2b : l2.length ≤ 4000 := by
        rcases hj4 with h | h
        · subst h; simp at hl2n; omega
        · omega
      rw [← e1] at b1 ew
      rw [← e2] at b2 ew
      by_cases hfull : (j + 1) * (widW lo hi i).toNat ≤ 4000
      · have hfull' := hfull
        rw [Nat.succ_mul] at hfull'
        ((repeat' (first | refine stx ?_ | (refine stq ?_ ?_ <;> (intro hc; ((try simp at hc) <;> try contradiction))) | fail)) <;> try (exfalso; omega))
        refine w_G hE (fun x : Nat × List Row × Nat => x.1 ≤ (widW lo hi i).toNat ∧ rowsX x.2.1 = midL lo hi i j x.1) (fun x => (widW lo hi i).toNat - x.1)
          (fun x => [(0, vS 1 1 0 lo.length ca), (1, vS 2 1 0 lo.length cb), (6, vS 3 1 0 l.length cap), (7, vI i), (8, vS 5 1 0 x.2.1.length x.2.2), (9, vI j), (10, vI (lo.getD (0 + (i : Int).toNat) 0 + (x.1 : Int)))])
          (fun x => [(1, .ro (.ints lo)), (2, .ro (.ints hi)), (3, .own 24 cap (.rows false true l)), (4, .tok 3 false l), (5, .own 24 x.2.2 (.rows false true x.2.1)), (6, .tok 3 false x.2.1)]) 7 [] (0, l2, cap2) ⟨Nat.zero_le _, hl2⟩ ⟨w_1, w_2, rfl⟩ ?_
        rintro ⟨m, l3, cap3⟩ ⟨hm, hl3⟩
        dsimp only at hm hl3
        have hl3n : l3.length ≤ 4000 := by
          rw [rowsX_len hl3, midL_eq (by omega)]; omega
        have e3 : lo.getD (0 + (i : Int).toNat) 0 = lo[i]?.getD 0 := by simp
        by_cases hmw : m < (widW lo hi i).toNat
        · ((repeat' (first | refine stx ?_ | (refine zqx ?_; intro cap hcap) | (refine stq ?_ ?_ <;> (intro hc; ((try simp at hc) <;> try contradiction))) | fail)) <;> try (exfalso; omega))
          ((first | refine awpL_ghost (Ghost.freeze 11 6 Zz Zz) ?_ | refine awp_ghost (Ghost.freeze 11 6 Zz Zz) ?_ | refine awpH_ghost (Ghost.freeze 11 6 Zz Zz) ?_ | refine awpHop_ghost (Ghost.freeze 11 6 Zz Zz) ?_); rintro _ _ ⟨a1, rfl, rfl⟩)
          ((repeat' (first | refine stx ?_ | (refine zqx ?_; intro cap hcap) | (refine stq ?_ ?_ <;> (intro hc; ((try simp at hc) <;> try contradiction))) | fail)) <;> try (exfalso; omega))
          refine ⟨[(5, 13)], (m + 1, _, _), ⟨hmw, ?_⟩, w_4, ⟨w_1, ⟨rfl, rfl, rfl, rfl, rfl, rfl, trivial⟩, rfl⟩⟩
          show rowsX (l3 ++ [_]) = _
          rw [midL_next, ← hl3, ← hvx]
          simp [rowsX]
        · obtain rfl : m = (widW lo hi i).toNat := by omega
          ((repeat' (first | refine stx ?_ | (refine stq ?_ ?_ <;> (intro hc; ((try simp at hc) <;> try contradiction))) | fail)) <;> try (exfalso; omega))
          exact ⟨[], (j + 1, l3, cap3), ⟨hjl, by dsimp only; rw [hl3, midL_row (by omega)], .inr hfull⟩, w_4, ⟨w_1, w_2, rfl⟩⟩
      · have hb : boxO lo hi = none := boxO_no (k := i + 1) (by omega) (by
          rw [okTo]; simp only [Bool.and_eq_false_iff, decide_eq_false_iff_not]; right
          rw [← hbig]
          have : (j + 1) * (widW lo hi i).toNat ≤ (boxTo lo hi i).length * (widW lo hi i).toNat := Nat.mul_le_mul_right _ (by omega)
          omega)
        have hfull' := hfull
        rw [Nat.succ_mul] at hfull'
        ((repeat' (first | refine stx ?_ | (refine stq ?_ ?_ <;> (intro hc; ((try simp at hc) <;> try contradiction))) | fail)) <;> try (exfalso; omega))
        exact fin rfl w_3 [(3, 7)] (.tup [.one (.sl 3 1 0 0 0), .one (.bool false)]) [(3, .own 24 0 (.rows false true []))] 4 (by rw [hb]; exact ⟨rfl, rfl, rfl⟩) rfl ⟨trivial, ⟨rfl, trivial⟩, rfl⟩ rfl
    · obtain rfl : j = l.length := by omega
      ((repeat' (first | refine stx ?_ | (refine stq ?_ ?_ <;> (intro hc; ((try simp at hc) <;> try contradiction))) | fail)) <;> try (exfalso; omega))
      have hok' : okTo lo hi (i + 1) = true := by
        rw [okTo, hok]
        simp only [Bool.true_and, decide_eq_true_eq]
        rw [← hbig]
        rcases hj4 with h | h
        · omega
        · rw [← hll]; omega
      exact ⟨[(3, 5), (4, 6)], (i + 1, l2, cap2), ⟨hil, by dsimp only; rw [hl2, hll, midL_full], hok'⟩, w_4, ⟨w_1, w_2, rfl⟩⟩
  · obtain rfl : i = lo.length := by omega
    have hbo : boxO lo hi = some (boxTo lo hi lo.length) := by simp [boxO, hok]
    rw [hbo]
    ((repeat' (first | refine stx ?_ | (refine stq ?_ ?_ <;> (intro hc; ((try simp at hc) <;> try contradiction))) | fail)) <;> try (exfalso; omega))
    exact fin rfl w_3 [] (.tup [.one (.sl 3 1 0 l.length cap), .one (.bool true)]) [(3, .own 24 cap (.rows false true l)), (4, .tok 3 false l)] 5 ⟨l, cap, hl', rfl, rfl, rfl⟩ rfl ⟨trivial, ⟨rfl, rfl, trivial⟩, rfl⟩ rfl
end Go.Proofs.YtekpamojojfplaaGreat
namespace Go.Proofs.YtekpamojojfplaaGreat
open Go.RowKit
def rowsN (l : List Row) : Prop := l.length ≤ 1000000 ∧ ∀ r ∈ l, r.xs.length ≤ 1000000
def totR (l : List Row) : Nat := (l.map fun r => r.xs.length).sum
@[simp] theorem totR_nil : totR [] = 0 := rfl
def markRows (k : Int) : List Row → List Row
  | [] => []
  | r :: l => r.put (marks k r.xs.length) :: markRows (k + r.xs.length) l
theorem d_heldX (xs : List Int) (c : Nat) (k : Int) (h : xs = marks k xs.length) (hl : xs.length ≤ 1099511627776) (hk : 0 ≤ k) (hk' : k ≤ 4611686018427387904) : Does Tryz.prog 40 [vS 1 1 0 xs.length c, vI k] [(1, .ro (.ints xs))] 2 (Ret (vI (k + xs.length)) 2) := by
  have := d_heldIntS xs.length c k hl hk hk'
  rwa [← h] at this
end Go.Proofs.YtekpamojojfplaaGreat
namespace Go.Proofs.YtekpamojojfplaaGreat
open Go.RowKit
def PtsR (th t : TypeId) (o : Option (List (List Int))) (k : Nat) (v : AV) (Hout : List (Nat × Blk)) (n1 : Nat) : Prop := match o with
  | some L => BoxR th t L k v Hout n1
  | none => v = .tup [.one (.sl k 1 0 0 0), .one (.bool false)] ∧ Hout = [(k, .own th 0 (.rows false true []))] ∧ n1 = k + 1
def stripR (r : Row) : Row := ⟨r.a, r.cap, r.xs, []⟩
theorem row_eta {r : Row} (h : r.ps = []) : (⟨r.a, r.cap, r.xs, []⟩ : Row) = r := by cases r; cases h; rfl
end Go.Proofs.YtekpamojojfplaaGreat
namespace Go.Proofs.YtekpamojojfplaaGreat
open Go.RowKit Go.Sort Go.Lib Go.Shelf
theorem swo_cmpV : SWO (ltOf cmpV) where
  irrefl x := by simp [ltOf, cmpV_self]
  trans x y z h1 h2 := by
    simp only [ltOf, decide_eq_true_eq] at *
    exact cmpV_trans h1 h2
  ntrans x y z h1 h2 := by
    simp only [ltOf, decide_eq_false_iff_not] at *
    intro h
    by_cases e : cmpV x y = 0
    · rw [cmpV_eq e] at h; exact h2 h
    · have h3 : cmpV y x < 0 := (cmpV_neg x y).2 (by omega)
      exact h2 (cmpV_trans h3 h)
set_option maxHeartbeats 1000000 in
theorem ordV_reads : ReadsV Tryz.prog 140 cmpV := by
  intro w x y hx hy ⟨lx, bx1, bx2⟩ ⟨ly, by1, by2⟩
  have hc : ∀ o1 o2, Calls Tryz.prog 141 #[encR x.1, encR y.1] ((w.alloc o1).alloc o2) fun e w' => e = .returned (.int .i64 (cmpL x.1.xs y.1.xs)) ∧ ((w.alloc o1).alloc o2) = w' := fun o1 o2 =>
    cmpR_any x.1 y.1 _ ((hx.grown (World.grownBy_alloc w o1 none) (by simp)).grown (World.grownBy_alloc _ o2 none) (by simp)) ((hy.grown (World.grownBy_alloc w o1 none) (by simp)).grown (World.grownBy_alloc _ o2 none) (by simp)) lx ly
  obtain ⟨x1, xn⟩ := x
  obtain ⟨y1, yn⟩ := y
  simp only [Vx, encV, encR, val_len] at *
  generalize x1.a.map (fun p => (⟨p.1, p.2, none⟩ : Addr)) = A at *
  generalize y1.a.map (fun p => (⟨p.1, p.2, none⟩ : Addr)) = B at *
  have e1 : xn ≠ yn → cmpV (x1.xs, xn) (y1.xs, yn) = xn - yn := fun h => if_pos h
  have e2 : xn = yn → cmpV (x1.xs, xn) (y1.xs, yn) = cmpL x1.xs y1.xs := fun h => if_neg (by simpa using h)
  generalize cmpV (x1.xs, xn) (y1.xs, yn) = c at *
  generalize cmpL x1.xs y1.xs = c' at *
  go_enter Tryz.func140, Tryz.ntmps140
  go_wp2_with (go_at_call 141; refine (hc _ _).mono ?_; rintro e w' ⟨rfl, rfl⟩)
  · go_ret
    exact ⟨by rw [e1 (by rename_i h; simpa using h)]; rfl, 0, _, by rw [alloc_eq_grow, alloc_eq_grow, grow_grow]; rfl⟩
  · go_ret
    exact ⟨by rw [e2 (by rename_i h; simpa using h)]; rfl, 0, _, by rw [alloc_eq_grow, alloc_eq_grow, grow_grow]; rfl⟩
theorem enters_ord : ∀ args w, (callFunc 140 args).run Tryz.prog w = .ok (.enter 140 args) w := enters_of Tryz.func140 (by kernel_rfl) rfl
def OrdR (cap : Nat) (l : List (Row × Int)) (lt : List Row) (v : AV) (Hout : List (Nat × Blk)) (n : Nat) : Prop :=
  ∃ (l' : List (Row × Int)) (lr : List Row) (c : Nat), l'.Perm l ∧ (l'.Pairwise fun x y => ¬ cmpV (Vx y) (Vx x) < 0) ∧ lr = l'.map Prod.fst ∧ v = .one (.sl 3 1 0 lr.length c) ∧
    Hout = [(1, .own 94 cap (.vals true l')), (2, .tok 3 false lt), (3, .own 24 c (.rows false true lr))] ∧ n = 4
set_option maxHeartbeats 4000000 in
theorem d_order (l : List (Row × Int)) (lt : List Row) (m cap : Nat) (hm : m = l.length) (hl : l.length ≤ 1000000) (hr : ∀ r ∈ l, VB r) (hlt : ∀ r ∈ l, r.1 ∈ lt) (hps : ∀ r ∈ l, r.1.ps = []) :
    Does Tryz.prog 96 [.one (.sl 1 2 0 m cap)] [(1, .own 94 cap (.vals false l)), (2, .tok 3 false lt)] 3 (OrdR cap l lt) := by
  subst hm
  have hs := d_sortVals 140 cmpV swo_cmpV enters_ord ordV_reads l lt 94 3 cap hl hr hlt
  refine Does.intro TT Tryz.func96 rfl (by kernel_rfl) Zz Zz fun E hE => ?_
  ((repeat' (first | refine stx ?_ | (refine awpL_callM [] hs Zz Zz Zz Zz Zz Zz Zz ft rfl ?_; rintro v Hout n1 ⟨l', hperm, hsort, rfl, rfl, rfl⟩) | (refine stq ?_ ?_ <;> (intro hc; ((try simp at hc) <;> try contradiction))) | fail)) <;> try (exfalso; omega))
  have hlen := hperm.length_eq
  refine w_G hE (fun x : Nat × List Row × Nat => x.1 ≤ l'.length ∧ x.2.1 = (l'.take x.1).map Prod.fst) (fun x => l'.length - x.1)
    (fun x => [(3, vS 3 1 0 x.2.1.length x.2.2), (9, .one (.sl 1 2 0 l'.length cap)), (10, vI l'.length), (11, vI x.1)])
    (fun x => [(1, .own 94 cap (.vals true l')), (2, .tok 3 false lt), (3, .own 24 x.2.2 (.rows false true x.2.1))]) 4 [] (0, [], 0) ⟨Nat.zero_le _, rfl⟩ ⟨w_1, w_2, rfl⟩ ?_
  rintro ⟨k, lr, cap2⟩ ⟨h1, h2⟩
  dsimp only at h1 h2
  have hln : lr.length = k := by rw [h2, List.length_map, List.length_take]; omega
  by_cases hk : k < l'.length
  · have e1 : l'.getD (0 + (k : Int).toNat) (rowD, 0) = l'[k] := by rw [show 0 + (k : Int).toNat = k by omega, getD_in hk]
    ((repeat' (first | refine stx ?_ | (refine zqx ?_; intro cap hcap) | (refine stq ?_ ?_ <;> (intro hc; ((try simp at hc) <;> try contradiction))) | fail)) <;> try (exfalso; omega))
    refine ⟨[(3, 7)], (k + 1, _, _), ⟨by omega, ?_⟩, w_4, ⟨w_1, ⟨rfl, rfl, rfl, trivial⟩, rfl⟩⟩
    have hmem : l'.getD (0 + (k : Int).toNat) (rowD, 0) ∈ l := hperm.mem_iff.1 (by rw [e1]; exact List.getElem_mem hk)
    have hrow := row_eta (hps _ hmem)
    show lr ++ [(⟨(l'.getD (0 + (k : Int).toNat) (rowD, 0)).1.a, (l'.getD (0 + (k : Int).toNat) (rowD, 0)).1.cap, (l'.getD (0 + (k : Int).toNat) (rowD, 0)).1.xs, []⟩ : Row)] = _
    rw [hrow, h2, List.take_succ_eq_append_getElem hk, List.map_append, ← e1]; rfl
  · obtain rfl : k = l'.length := by omega
    rw [List.take_of_length_le (Nat.le_refl _)] at h2
    ((repeat' (first | refine stx ?_ | (refine stq ?_ ?_ <;> (intro hc; ((try simp at hc) <;> try contradiction))) | fail)) <;> try (exfalso; omega))
    exact fin rfl w_3 [] (.one (.sl 3 1 0 lr.length cap2)) [(1, .own 94 cap (.vals true l')), (2, .tok 3 false lt), (3, .own 24 cap2 (.rows false true lr))] 4 ⟨l', lr, cap2, hperm, hsort, h2, rfl, rfl, rfl⟩ rfl ⟨trivial, ⟨rfl, rfl, rfl, trivial⟩, rfl⟩ rfl (hb := ⟨.inr ⟨2, _, lt, rfl, fun r hr => hlt _ (hperm.mem_iff.1 hr)⟩, trivial, .inr ⟨2, _, lt, rfl, fun r hr => by
      rw [h2] at hr; obtain ⟨x, hx, rfl⟩ := List.mem_map.1 hr; exact hlt _ (hperm.mem_iff.1 hx)⟩, trivial⟩)
end Go.Proofs.YtekpamojojfplaaGreat
namespace Go.Proofs.YtekpamojojfplaaGreat
open Go.RowKit
theorem posF_at : ∀ {v : List Int} {k : Nat}, (∀ i, i < k → v.getD i 0 = 0) → v.getD k 0 ≠ 0 → posF v = decide (0 < v.getD k 0)
  | [], k, _, h => by simp at h
  | x :: t, 0, _, h => by
    have hx : x ≠ 0 := by simpa using h
    rw [posF, if_neg hx]; simp
  | x :: t, k + 1, h0, h => by
    have hx : x = 0 := by simpa using h0 0 (by omega)
    rw [posF, if_pos hx, posF_at (k := k) (fun i hi => by simpa using h0 (i + 1) (by omega)) (by simpa using h)]; simp
theorem posF_no : ∀ {v : List Int}, (∀ i, i < v.length → v.getD i 0 = 0) → posF v = false
  | [], _ => rfl
  | x :: t, h0 => by
    have hx : x = 0 := by simpa using h0 0 (by simp)
    rw [posF, if_pos hx, posF_no fun i hi => by simpa using h0 (i + 1) (by simpa using hi)]
theorem d_posI (v : List Int) (n c : Nat) (hn : n = v.length) (hl : v.length ≤ 1099511627776) : Does Tryz.prog 94 [vS 1 1 0 n c] [(1, .ro (.ints v))] 2 (Ret (vB (posF v)) 2) := by
 subst hn
 refine Does.intro TT Tryz.func94 rfl (by kernel_rfl) Zz Zz fun E hE => ?_
 ((repeat' (first | refine stx ?_ | ((refine w_E (d_firstCell v 0 v.length _ (by omega) hl) Zz Zz Zz Zz Zz Zz Zz ft rfl ?_); rintro w Hout n1 ⟨j, rfl, rfl, rfl, hj⟩; rcases hj with ⟨h0, rfl⟩ | ⟨k, hk, rfl, hz, h0⟩) | (refine stq ?_ ?_ <;> (intro hc; ((try simp at hc) <;> try contradiction))) | fail)) <;> try (exfalso; omega))
 ·refine fin_ret rfl w_3 (congrArg vB (posF_no fun i hi => by have := h0 i hi; rwa [Nat.zero_add] at this).symm) rfl
 ·have e : v.getD (0 + (k : Int).toNat) 0 = v.getD k 0 := by rw [show 0 + (k : Int).toNat = k by omega]
  refine fin_ret rfl w_3 (congrArg vB (by rw [posF_at (k := k) (fun i hi => by have := h0 i hi; rwa [Nat.zero_add] at this) (by rwa [Nat.zero_add] at hz), e])) rfl
theorem d_posS (v : List Int) (n c : Nat) (hn : n = v.length) (hl : v.length ≤ 1099511627776) : Does Tryz.prog 169 [vS 1 1 0 n c] [(1, .ro (.ints v))] 2 (Ret (vB (posF v)) 2) := by
 subst hn
 refine Does.intro TT Tryz.func169 rfl (by kernel_rfl) Zz Zz fun E hE => ?_
 ((repeat' (first | refine stx ?_ | (refine stq ?_ ?_ <;> (intro hc; ((try simp at hc) <;> try contradiction))) | fail)) <;> try (exfalso; omega))
 refine w_G hE (fun k : Nat => k ≤ v.length ∧ ∀ i, i < k → v.getD i 0 = 0) (fun k => v.length - k)
  (fun k => [(0, vS 1 1 0 v.length c), (3, vI k)]) (fun _ => [(1, .ro (.ints v))]) 2 [] 0 ⟨Nat.zero_le _, fun i hi => by omega⟩ ⟨w_1, w_2, rfl⟩ ?_
 rintro k ⟨h1, h2⟩
 have e : v.getD (0 + (k : Int).toNat) 0 = v.getD k 0 := by rw [show 0 + (k : Int).toNat = k by omega]
 by_cases hk : k < v.length
 ·by_cases hz : v.getD k 0 = 0
  ·have hz2 : v[k]?.getD 0 = 0 := by rw [← List.getD_eq_getElem?_getD]; exact hz
   ((repeat' (first | refine stx ?_ | (refine stq ?_ ?_ <;> (intro hc; ((try simp at hc) <;> try contradiction))) | fail)) <;> try (exfalso; omega))
   refine ⟨[], k + 1, ⟨hk, fun i hi => ?_⟩, w_4, ⟨w_1, w_2, rfl⟩⟩
   rcases Nat.lt_or_ge i k with q | q
   ·exact h2 i q
   ·obtain rfl : i = k := by omega
    exact hz
  ·have hz2 : ¬ v[k]?.getD 0 = 0 := by rw [← List.getD_eq_getElem?_getD]; exact hz
   rw [posF_at h2 hz]
   ((repeat' (first | refine stx ?_ | (refine stq ?_ ?_ <;> (intro hc; ((try simp at hc) <;> try contradiction))) | fail)) <;> try (exfalso; omega))
   all_goals refine fin_ret rfl w_3 (congrArg vB (by rw [e])) rfl
 ·obtain rfl : k = v.length := by omega
  rw [posF_no h2]
  ((repeat' (first | refine stx ?_ | (refine stq ?_ ?_ <;> (intro hc; ((try simp at hc) <;> try contradiction))) | fail)) <;> try (exfalso; omega))
  all_goals refine fin_ret rfl w_3 (rfl) rfl
end Go.Proofs.YtekpamojojfplaaGreat
namespace Go.Proofs.YtekpamojojfplaaGreat
open Go.RowKit
def RowM (r c : Int) (t : TypeId) (xs : List Int) (v : AV) (Hout : List (Nat × Blk)) (n1 : Nat) : Prop := ∃ cap, xs.length ≤ cap ∧ v = vM r c 2 xs.length cap ∧ Hout = [(2, .own t cap (.ints xs))] ∧ n1 = 3
theorem RowM.out {r c : Int} {t : TypeId} {xs : List Int} : ∀ v Hout n1, RowM r c t xs v Hout n1 → ∃ b, Hout = [(2, b)] ∧ n1 = 2 + 1 ∧ b.keys = [] := fun _ _ _ ⟨_, _, _, h2, h3⟩ => ⟨_, h2, h3, by simp [Blk.keys, Elts.keys, Elts.all, ints_keys]⟩
theorem d_row (xs : List Int) (c : Nat) (hl : xs.length ≤ 1099511627776) : Does Tryz.prog 77 [vS 1 1 0 xs.length c] [(1, .ro (.ints xs))] 2 (RowM 1 xs.length 3 xs) := by
 refine Does.intro TT Tryz.func77 rfl (by kernel_rfl) Zz Zz fun E hE => ?_
 (repeat' (first | refine stx ?_ | (refine zqx ?_; intro cap hcap) | (refine stq ?_ ?_ <;> (intro hc; ((try simp at hc) <;> try contradiction))) | fail))
 rw [Nat.zero_add] at hcap
 rw [show 0 + xs.length = xs.length from Nat.zero_add _]
 exact fin rfl w_3 [(2, 4)] (vM 1 xs.length 2 xs.length cap) [(2, .own 3 cap (.ints xs))] 3 (⟨cap, hcap, rfl, rfl, rfl⟩) rfl ⟨trivial, ⟨own_ints (by simp), trivial⟩, rfl⟩ rfl
theorem d_col (xs : List Int) (c : Nat) (hl : xs.length ≤ 1099511627776) : Does Tryz.prog 70 [vS 1 1 0 xs.length c] [(1, .ro (.ints xs))] 2 (RowM xs.length 1 3 xs) := by
 refine Does.intro TT Tryz.func70 rfl (by kernel_rfl) Zz Zz fun E hE => ?_
 (repeat' (first | refine stx ?_ | (refine zqx ?_; intro cap hcap) | (refine stq ?_ ?_ <;> (intro hc; ((try simp at hc) <;> try contradiction))) | fail))
 rw [Nat.zero_add] at hcap
 rw [show 0 + xs.length = xs.length from Nat.zero_add _]
 exact fin rfl w_3 [(2, 4)] (vM xs.length 1 2 xs.length cap) [(2, .own 3 cap (.ints xs))] 3 (⟨cap, hcap, rfl, rfl, rfl⟩) rfl ⟨trivial, ⟨own_ints (by simp), trivial⟩, rfl⟩ rfl
theorem mulZ_len {r n n' c : Int} {xs ys zs : List Int} (h : mulZ r n n' c xs ys = some zs) : zs.length = r.toNat * c.toNat := by
  unfold mulZ at h
  split at h
  · cases h; exact mulM_len
  · cases h
def GotSl (t : TypeId) (o : Option (List Int)) (k : Nat) (v : AV) (Hout : List (Nat × Blk)) (n1 : Nat) : Prop :=
  ∃ cap, (o.getD []).length ≤ cap ∧ v = .tup [.one (.sl k 1 0 (o.getD []).length cap), .one (.bool o.isSome)] ∧ Hout = [(k, .own t cap (.ints (o.getD [])))] ∧ n1 = k + 1
theorem GotSl.out {t : TypeId} {o : Option (List Int)} {k : Nat} : ∀ v Hout n1, GotSl t o k v Hout n1 → ∃ b, Hout = [(k, b)] ∧ n1 = k + 1 ∧ b.keys = [] := fun _ _ _ ⟨_, _, _, h2, h3⟩ => ⟨_, h2, h3, by simp [Blk.keys, Elts.keys, Elts.all, ints_keys]⟩
end Go.Proofs.YtekpamojojfplaaGreat
