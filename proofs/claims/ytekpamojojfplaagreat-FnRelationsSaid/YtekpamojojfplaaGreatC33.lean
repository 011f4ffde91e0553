/-
  TEXTS OF THE PROOF, put together: bBox, bSS, bStrip, bOrdV, bPos, bVal, bNeg.
-/
import Derived.Test.YtekpamojojfplaaGreatC22
import Derived.Test.YtekpamojojfplaaGreatC26
import Derived.Test.YtekpamojojfplaaGreatC08
import Derived.Test.YtekpamojojfplaaGreatC32
import Derived.Test.YtekpamojojfplaaGreatC23
import Derived.Maps.AppendAt
import Derived.Test.YtekpamojojfplaaGreatC31
import Derived.Test.YtekpamojojfplaaGreatC07
set_option linter.unusedVariables false
set_option linter.unusedSimpArgs false
namespace Go.Proofs.YtekpamojojfplaaGreat
open Go.RowKit
set_option maxRecDepth 100000 in
set_option maxHeartbeats 4000000 in
theorem d_boxed (lo hi : List Int) (ca cb m : Nat) (hl : lo.length = hi.length) (hm : m = lo.length) (h24 : lo.length ≤ 24) (hlo : ∀ n ∈ lo, numB n = true) (hhi : ∀ n ∈ hi, numB n = true) (hw : ∀ k, k < lo.length → 1 ≤ widW lo hi k) :
    Does Tryz.prog 92 [vS 1 1 0 lo.length ca, vS 2 1 0 m cb] [(1, .ro (.ints lo)), (2, .ro (.ints hi))] 3 (fun v Hout n1 => match boxO lo hi with
      | some L => BoxR 24 3 L 3 v Hout n1
      | none => v = .tup [.one (.sl 0 1 0 0 0), .one (.bool false)] ∧ Hout = [] ∧ n1 = 3) := by
  subst hm
  refine Does.intro TT Tryz.func92 rfl (by kernel_rfl) Zz Zz fun E hE => ?_
  ((repeat' (first | refine stx ?_ | (refine stq ?_ ?_ <;> (intro hc; ((try simp at hc) <;> try contradiction))) | fail)) <;> try (exfalso; omega))
  refine w_G hE (fun k : Nat => k ≤ lo.length ∧ okTo lo hi k = true) (fun k => lo.length - k)
    (fun k => [(0, vS 1 1 0 lo.length ca), (1, vS 2 1 0 lo.length cb), (6, vI (cntW lo hi k)), (15, vI lo.length), (16, vI k)]) (fun _ => [(1, .ro (.ints lo)), (2, .ro (.ints hi))]) 3 [] 0 ⟨Nat.zero_le _, rfl⟩ ⟨w_1, w_2, rfl⟩ ?_
  rintro k ⟨hk, hok⟩
  have hcn := okTo_cnt hok
  have hc1 := (box_len hw k hk).2
  by_cases hkl : k < lo.length
  · have hkh : k < hi.length := by omega
    obtain ⟨b1, b2⟩ := span_bd hlo hhi hkl hl
    have ew := widW_at hkl hkh
    have hw1 := hw k hkl
    have e1 := getD_at hkl
    have e2 := getD_at hkh
    have b3 : 0 ≤ cntW lo hi k * widW lo hi k ∧ cntW lo hi k * widW lo hi k ≤ 4000 * 800000001 := ⟨Int.mul_nonneg (by omega) (by omega), Int.mul_le_mul hcn (by omega) (by omega) (by omega)⟩
    rw [ew, ← e1, ← e2] at b3
    rw [← e1] at b1
    rw [← e2] at b2
    have es : cntW lo hi (k + 1) = cntW lo hi k * (hi.getD (0 + (k : Int).toNat) 0 - lo.getD (0 + (k : Int).toNat) 0 + 1) := by rw [cntW, ew, e1, e2]
    ((repeat' (first | refine stx ?_ | (refine stq ?_ ?_ <;> (intro hc; ((try simp at hc) <;> try contradiction))) | fail)) <;> try (exfalso; omega))
    · have hb : boxO lo hi = none := boxO_no (k := k + 1) (by omega) (by
        rw [okTo, es]; simp only [Bool.and_eq_false_iff, decide_eq_false_iff_not]; right
        have e3 : lo.getD (0 + (k : Int).toNat) 0 = lo[k]?.getD 0 := by simp
        have e4 : hi.getD (0 + (k : Int).toNat) 0 = hi[k]?.getD 0 := by simp
        rw [e3, e4]; omega)
      exact fin rfl w_3 [] (.tup [.one (.sl 0 1 0 0 0), .one (.bool false)]) [] 3 (by rw [hb]; exact ⟨rfl, rfl, rfl⟩) rfl ⟨trivial, trivial, rfl⟩ rfl
    · refine ⟨[], k + 1, ⟨by omega, ?_⟩, w_4, ⟨⟨rfl, rfl, congrArg some (congrArg vI es.symm), rfl, congrArg some (congrArg vI (by omega)), trivial⟩, ⟨rfl, rfl, trivial⟩, rfl⟩⟩
      rw [okTo, hok, es]
      simp only [Bool.true_and, decide_eq_true_eq]
      have e3 : lo.getD (0 + (k : Int).toNat) 0 = lo[k]?.getD 0 := by simp
      have e4 : hi.getD (0 + (k : Int).toNat) 0 = hi[k]?.getD 0 := by simp
      rw [e3, e4]; exact hc
  · obtain rfl : k = lo.length := by omega
    have hbo : boxO lo hi = some (boxTo lo hi lo.length) := by simp [boxO, hok]
    have hall : ∀ i, i ≤ lo.length → okTo lo hi i = true := fun i hi' => by
      cases c : okTo lo hi i with
      | true => rfl
      | false =>
        have := okTo_mono c (lo.length - i)
        rw [show i + (lo.length - i) = lo.length by omega, hok] at this; cases this
    rw [hbo]
    ((repeat' (first | refine stx ?_ | (refine stq ?_ ?_ <;> (intro hc; ((try simp at hc) <;> try contradiction))) | fail)) <;> try (exfalso; omega))
    ((first | refine awpL_ghost (Ghost.newTok 3 false) ?_ | refine awp_ghost (Ghost.newTok 3 false) ?_ | refine awpH_ghost (Ghost.newTok 3 false) ?_ | refine awpHop_ghost (Ghost.newTok 3 false) ?_); rintro _ _ ⟨rfl, rfl⟩)
    ((first | refine awpL_ghost (Ghost.freeze 3 4 Zz Zz) ?_ | refine awp_ghost (Ghost.freeze 3 4 Zz Zz) ?_ | refine awpH_ghost (Ghost.freeze 3 4 Zz Zz) ?_ | refine awpHop_ghost (Ghost.freeze 3 4 Zz Zz) ?_); rintro _ _ ⟨a0, rfl, rfl⟩)
    ((repeat' (first | refine stx ?_ | (refine stq ?_ ?_ <;> (intro hc; ((try simp at hc) <;> try contradiction))) | fail)) <;> try (exfalso; omega))
    refine w_G hE (fun x : Nat × List Row × Nat => x.1 ≤ lo.length ∧ rowsX x.2.1 = boxTo lo hi x.1) (fun x => lo.length - x.1)
      (fun x => [(0, vS 1 1 0 lo.length ca), (1, vS 2 1 0 lo.length cb), (8, vS 3 1 0 x.2.1.length x.2.2), (37, vI lo.length), (38, vI x.1)])
      (fun x => [(1, .ro (.ints lo)), (2, .ro (.ints hi)), (3, .own 24 x.2.2 (.rows false true x.2.1)), (4, .tok 3 false x.2.1)]) 5 [(3, 5)] (0, [⟨a0, 0, [], []⟩], 1) ⟨Nat.zero_le _, rfl⟩ ⟨w_1, w_2, rfl⟩ ?_
    rintro ⟨i, l, cap⟩ ⟨hi', hl'⟩
    dsimp only at hi' hl'
    have hcn := okTo_cnt (hall i hi')
    have hbl := (box_len hw i hi').1
    have hll := rowsX_len hl'
    by_cases hil : i < lo.length
    · have hih : i < hi.length := by omega
      obtain ⟨b1, b2⟩ := span_bd hlo hhi hil hl
      have ew := widW_at hil hih
      have hw1 := hw i hil
      have hc3 := okTo_cnt (hall (i + 1) hil)
      have hwt : ((widW lo hi i).toNat : Int) = widW lo hi i := by omega
      have hbig : (boxTo lo hi i).length * (widW lo hi i).toNat ≤ 4000 := by
        have : (((boxTo lo hi i).length * (widW lo hi i).toNat : Nat) : Int) = cntW lo hi (i + 1) := by rw [Int.natCast_mul, hwt, hbl, cntW]
        omega
      ((repeat' (first | refine stx ?_ | (refine stq ?_ ?_ <;> (intro hc; ((try simp at hc) <;> try contradiction))) | fail)) <;> try (exfalso; omega))
      ((first | refine awpL_ghost (Ghost.newTok 3 false) ?_ | refine awp_ghost (Ghost.newTok 3 false) ?_ | refine awpH_ghost (Ghost.newTok 3 false) ?_ | refine awpHop_ghost (Ghost.newTok 3 false) ?_); rintro _ _ ⟨rfl, rfl⟩)
      refine w_G hE (fun x : Nat × List Row × Nat => x.1 ≤ l.length ∧ rowsX x.2.1 = midL lo hi i x.1 0) (fun x => l.length - x.1)
        (fun x => [(0, vS 1 1 0 lo.length ca), (1, vS 2 1 0 lo.length cb), (9, vI i), (10, vS 5 1 0 x.2.1.length x.2.2), (37, vI lo.length), (38, vI i), (42, vS 3 1 0 l.length cap), (43, vI l.length), (44, vI x.1)])
        (fun x => [(1, .ro (.ints lo)), (2, .ro (.ints hi)), (3, .own 24 cap (.rows false true l)), (4, .tok 3 false l), (5, .own 24 x.2.2 (.rows false true x.2.1)), (6, .tok 3 false x.2.1)]) 7 [] (0, [], 0) ⟨Nat.zero_le _, rfl⟩ ⟨w_1, w_2, rfl⟩ ?_
      rintro ⟨j, l2, cap2⟩ ⟨hj, hl2⟩
      dsimp only at hj hl2
      by_cases hjl : j < l.length
      · have e1 := getD_at hil
        have e2 := getD_at hih
        have hvx := rowsX_at hl' hjl
        have hvl : (l.getD (0 + (j : Int).toNat) rowD).xs.length = i := by
          rw [hvx]
          have hjb : j < (boxTo lo hi i).length := by omega
          rw [List.getD_eq_getElem?_getD, List.getElem?_eq_getElem hjb, Option.getD_some]
          exact box_row _ (List.getElem_mem hjb)
        ((repeat' (first | refine stx ?_ | (refine stq ?_ ?_ <;> (intro hc; ((try simp at hc) <;> try contradiction))) | fail)) <;> try (exfalso; omega))
        refine w_G hE (fun x : Nat × List Row × Nat => x.1 ≤ (widW lo hi i).toNat ∧ rowsX x.2.1 = midL lo hi i j x.1) (fun x => (widW lo hi i).toNat - x.1)
          (fun x => [(0, vS 1 1 0 lo.length ca), (1, vS 2 1 0 lo.length cb), (9, vI i), (10, vS 5 1 0 x.2.1.length x.2.2), (12, vS 7 1 0 (l.getD (0 + (j : Int).toNat) rowD).xs.length (l.getD (0 + (j : Int).toNat) rowD).cap), (13, vI (lo.getD (0 + (i : Int).toNat) 0 + (x.1 : Int))), (37, vI lo.length), (38, vI i), (42, vS 3 1 0 l.length cap), (43, vI l.length), (44, vI j)])
          (fun x => [(1, .ro (.ints lo)), (2, .ro (.ints hi)), (3, .own 24 cap (.rows false true l)), (4, .tok 3 false l), (5, .own 24 x.2.2 (.rows false true x.2.1)), (6, .tok 3 false x.2.1), (7, .al (l.getD (0 + (j : Int).toNat) rowD).a (.ints (l.getD (0 + (j : Int).toNat) rowD).xs))]) 8 [] (0, l2, cap2) ⟨Nat.zero_le _, hl2⟩ ⟨w_1, w_2, rfl⟩ ?_
        rintro ⟨m, l3, cap3⟩ ⟨hm, hl3⟩
        dsimp only at hm hl3
        have hl3n : l3.length ≤ 4000 := by
          rw [rowsX_len hl3]
          exact Nat.le_trans (midL_len (by omega) hm) hbig
        have ew2 : widW lo hi i = hi[i]?.getD 0 - lo[i]?.getD 0 + 1 := by simp [widW]
        have e3 : lo.getD (0 + (i : Int).toNat) 0 = lo[i]?.getD 0 := by simp
        rw [← e1] at b1 ew
        rw [← e2] at b2 ew
        by_cases hmw : m < (widW lo hi i).toNat
        · ((repeat' (first | refine stx ?_ | (refine zqx ?_; intro cap hcap) | (refine stq ?_ ?_ <;> (intro hc; ((try simp at hc) <;> try contradiction))) | fail)) <;> try (exfalso; omega))
          ((first | refine awpL_ghost (Ghost.freeze 11 6 Zz Zz) ?_ | refine awp_ghost (Ghost.freeze 11 6 Zz Zz) ?_ | refine awpH_ghost (Ghost.freeze 11 6 Zz Zz) ?_ | refine awpHop_ghost (Ghost.freeze 11 6 Zz Zz) ?_); rintro _ _ ⟨a1, rfl, rfl⟩)
          ((repeat' (first | refine stx ?_ | (refine zqx ?_; intro cap hcap) | (refine stq ?_ ?_ <;> (intro hc; ((try simp at hc) <;> try contradiction))) | fail)) <;> try (exfalso; omega))
          refine ⟨[(5, 13)], (m + 1, _, _), ⟨hmw, ?_⟩, w_4, ⟨w_1, ⟨rfl, rfl, rfl, rfl, rfl, rfl, rfl, trivial⟩, rfl⟩⟩
          show rowsX (l3 ++ [_]) = _
          rw [midL_next, ← hl3, ← hvx]
          simp [rowsX]
        · obtain rfl : m = (widW lo hi i).toNat := by omega
          ((repeat' (first | refine stx ?_ | (refine stq ?_ ?_ <;> (intro hc; ((try simp at hc) <;> try contradiction))) | fail)) <;> try (exfalso; omega))
          exact ⟨[], (j + 1, l3, cap3), ⟨hjl, by dsimp only; rw [hl3, midL_row (by omega)]⟩, w_4, ⟨w_1, w_2, rfl⟩⟩
      · obtain rfl : j = l.length := by omega
        ((repeat' (first | refine stx ?_ | (refine stq ?_ ?_ <;> (intro hc; ((try simp at hc) <;> try contradiction))) | fail)) <;> try (exfalso; omega))
        exact ⟨[(3, 5), (4, 6)], (i + 1, l2, cap2), ⟨hil, by dsimp only; rw [hl2, hll, midL_full]⟩, w_4, ⟨w_1, w_2, rfl⟩⟩
    · obtain rfl : i = lo.length := by omega
      ((repeat' (first | refine stx ?_ | (refine stq ?_ ?_ <;> (intro hc; ((try simp at hc) <;> try contradiction))) | fail)) <;> try (exfalso; omega))
      exact fin rfl w_3 [] (.tup [.one (.sl 3 1 0 l.length cap), .one (.bool true)]) [(3, .own 24 cap (.rows false true l)), (4, .tok 3 false l)] 5 ⟨l, cap, hl', rfl, rfl, rfl⟩ rfl ⟨trivial, ⟨rfl, rfl, trivial⟩, rfl⟩ rfl
end Go.Proofs.YtekpamojojfplaaGreat
namespace Go.Proofs.YtekpamojojfplaaGreat
open Go.RowKit
def rowsN (l : List Row) : Prop := l.length ≤ 1000000 ∧ ∀ r ∈ l, r.xs.length ≤ 1000000
def totR (l : List Row) : Nat := (l.map fun r => r.xs.length).sum
@[simp] theorem totR_nil : totR [] = 0 := rfl
def markRows (k : Int) : List Row → List Row
  | [] => []
  | r :: l => r.put (marks k r.xs.length) :: markRows (k + r.xs.length) l
end Go.Proofs.YtekpamojojfplaaGreat
namespace Go.Proofs.YtekpamojojfplaaGreat
open Go.RowKit
def PtsR (th t : TypeId) (o : Option (List (List Int))) (k : Nat) (v : AV) (Hout : List (Nat × Blk)) (n1 : Nat) : Prop := match o with
  | some L => BoxR th t L k v Hout n1
  | none => v = .tup [.one (.sl k 1 0 0 0), .one (.bool false)] ∧ Hout = [(k, .own th 0 (.rows false true []))] ∧ n1 = k + 1
def stripR (r : Row) : Row := ⟨r.a, r.cap, r.xs, []⟩
theorem row_eta {r : Row} (h : r.ps = []) : (⟨r.a, r.cap, r.xs, []⟩ : Row) = r := by cases r; cases h; rfl
end Go.Proofs.YtekpamojojfplaaGreat
namespace Go.Proofs.YtekpamojojfplaaGreat
open Go.RowKit Go.Sort Go.Lib Go.Shelf
theorem swo_cmpV : SWO (ltOf cmpV) where
  irrefl x := by simp [ltOf, cmpV_self]
  trans x y z h1 h2 := by
    simp only [ltOf, decide_eq_true_eq] at *
    exact cmpV_trans h1 h2
  ntrans x y z h1 h2 := by
    simp only [ltOf, decide_eq_false_iff_not] at *
    intro h
    by_cases e : cmpV x y = 0
    · rw [cmpV_eq e] at h; exact h2 h
    · have h3 : cmpV y x < 0 := (cmpV_neg x y).2 (by omega)
      exact h2 (cmpV_trans h3 h)
set_option maxHeartbeats 1000000 in
theorem ordV_reads : ReadsV Tryz.prog 140 cmpV := by
  intro w x y hx hy ⟨lx, bx1, bx2⟩ ⟨ly, by1, by2⟩
  have hc : ∀ o1 o2, Calls Tryz.prog 141 #[encR x.1, encR y.1] ((w.alloc o1).alloc o2) fun e w' => e = .returned (.int .i64 (cmpL x.1.xs y.1.xs)) ∧ ((w.alloc o1).alloc o2) = w' := fun o1 o2 =>
    cmpR_any x.1 y.1 _ ((hx.grown (World.grownBy_alloc w o1 none) (by simp)).grown (World.grownBy_alloc _ o2 none) (by simp)) ((hy.grown (World.grownBy_alloc w o1 none) (by simp)).grown (World.grownBy_alloc _ o2 none) (by simp)) lx ly
  obtain ⟨x1, xn⟩ := x
  obtain ⟨y1, yn⟩ := y
  simp only [Vx, encV, encR, val_len] at *
  generalize x1.a.map (fun p => (⟨p.1, p.2, none⟩ : Addr)) = A at *
  generalize y1.a.map (fun p => (⟨p.1, p.2, none⟩ : Addr)) = B at *
  have e1 : xn ≠ yn → cmpV (x1.xs, xn) (y1.xs, yn) = xn - yn := fun h => if_pos h
  have e2 : xn = yn → cmpV (x1.xs, xn) (y1.xs, yn) = cmpL x1.xs y1.xs := fun h => if_neg (by simpa using h)
  generalize cmpV (x1.xs, xn) (y1.xs, yn) = c at *
  generalize cmpL x1.xs y1.xs = c' at *
  go_enter Tryz.func140, Tryz.ntmps140
  go_wp2_with (go_at_call 141; refine (hc _ _).mono ?_; rintro e w' ⟨rfl, rfl⟩)
  · go_ret
    exact ⟨by rw [e1 (by rename_i h; simpa using h)]; rfl, 0, _, by rw [alloc_eq_grow, alloc_eq_grow, grow_grow]; rfl⟩
  · go_ret
    exact ⟨by rw [e2 (by rename_i h; simpa using h)]; rfl, 0, _, by rw [alloc_eq_grow, alloc_eq_grow, grow_grow]; rfl⟩
theorem enters_ord : ∀ args w, (callFunc 140 args).run Tryz.prog w = .ok (.enter 140 args) w := enters_of Tryz.func140 (by kernel_rfl) rfl
def OrdR (cap : Nat) (l : List (Row × Int)) (lt : List Row) (v : AV) (Hout : List (Nat × Blk)) (n : Nat) : Prop :=
  ∃ (l' : List (Row × Int)) (lr : List Row) (c : Nat), l'.Perm l ∧ (l'.Pairwise fun x y => ¬ cmpV (Vx y) (Vx x) < 0) ∧ lr = l'.map Prod.fst ∧ v = .one (.sl 3 1 0 lr.length c) ∧
    Hout = [(1, .own 94 cap (.vals true l')), (2, .tok 3 false lt), (3, .own 24 c (.rows false true lr))] ∧ n = 4
set_option maxHeartbeats 4000000 in
theorem d_order (l : List (Row × Int)) (lt : List Row) (m cap : Nat) (hm : m = l.length) (hl : l.length ≤ 1000000) (hr : ∀ r ∈ l, VB r) (hlt : ∀ r ∈ l, r.1 ∈ lt) (hps : ∀ r ∈ l, r.1.ps = []) :
    Does Tryz.prog 96 [.one (.sl 1 2 0 m cap)] [(1, .own 94 cap (.vals false l)), (2, .tok 3 false lt)] 3 (OrdR cap l lt) := by
  subst hm
  have hs := d_sortVals 140 cmpV swo_cmpV enters_ord ordV_reads l lt 94 3 cap hl hr hlt
  refine Does.intro TT Tryz.func96 rfl (by kernel_rfl) Zz Zz fun E hE => ?_
  ((repeat' (first | refine stx ?_ | (refine awpL_callM [] hs Zz Zz Zz Zz Zz Zz Zz ft rfl ?_; rintro v Hout n1 ⟨l', hperm, hsort, rfl, rfl, rfl⟩) | (refine stq ?_ ?_ <;> (intro hc; ((try simp at hc) <;> try contradiction))) | fail)) <;> try (exfalso; omega))
  have hlen := hperm.length_eq
  refine w_G hE (fun x : Nat × List Row × Nat => x.1 ≤ l'.length ∧ x.2.1 = (l'.take x.1).map Prod.fst) (fun x => l'.length - x.1)
    (fun x => [(3, vS 3 1 0 x.2.1.length x.2.2), (9, .one (.sl 1 2 0 l'.length cap)), (10, vI l'.length), (11, vI x.1)])
    (fun x => [(1, .own 94 cap (.vals true l')), (2, .tok 3 false lt), (3, .own 24 x.2.2 (.rows false true x.2.1))]) 4 [] (0, [], 0) ⟨Nat.zero_le _, rfl⟩ ⟨w_1, w_2, rfl⟩ ?_
  rintro ⟨k, lr, cap2⟩ ⟨h1, h2⟩
  dsimp only at h1 h2
  have hln : lr.length = k := by rw [h2, List.length_map, List.length_take]; omega
  by_cases hk : k < l'.length
  · have e1 : l'.getD (0 + (k : Int).toNat) (rowD, 0) = l'[k] := by rw [show 0 + (k : Int).toNat = k by omega, getD_in hk]
    ((repeat' (first | refine stx ?_ | (refine zqx ?_; intro cap hcap) | (refine stq ?_ ?_ <;> (intro hc; ((try simp at hc) <;> try contradiction))) | fail)) <;> try (exfalso; omega))
    refine ⟨[(3, 7)], (k + 1, _, _), ⟨by omega, ?_⟩, w_4, ⟨w_1, ⟨rfl, rfl, rfl, trivial⟩, rfl⟩⟩
    have hmem : l'.getD (0 + (k : Int).toNat) (rowD, 0) ∈ l := hperm.mem_iff.1 (by rw [e1]; exact List.getElem_mem hk)
    have hrow := row_eta (hps _ hmem)
    show lr ++ [(⟨(l'.getD (0 + (k : Int).toNat) (rowD, 0)).1.a, (l'.getD (0 + (k : Int).toNat) (rowD, 0)).1.cap, (l'.getD (0 + (k : Int).toNat) (rowD, 0)).1.xs, []⟩ : Row)] = _
    rw [hrow, h2, List.take_succ_eq_append_getElem hk, List.map_append, ← e1]; rfl
  · obtain rfl : k = l'.length := by omega
    rw [List.take_of_length_le (Nat.le_refl _)] at h2
    ((repeat' (first | refine stx ?_ | (refine stq ?_ ?_ <;> (intro hc; ((try simp at hc) <;> try contradiction))) | fail)) <;> try (exfalso; omega))
    exact fin rfl w_3 [] (.one (.sl 3 1 0 lr.length cap2)) [(1, .own 94 cap (.vals true l')), (2, .tok 3 false lt), (3, .own 24 cap2 (.rows false true lr))] 4 ⟨l', lr, cap2, hperm, hsort, h2, rfl, rfl, rfl⟩ rfl ⟨trivial, ⟨rfl, rfl, rfl, trivial⟩, rfl⟩ rfl (hb := ⟨.inr ⟨2, _, lt, rfl, fun r hr => hlt _ (hperm.mem_iff.1 hr)⟩, trivial, .inr ⟨2, _, lt, rfl, fun r hr => by
      rw [h2] at hr; obtain ⟨x, hx, rfl⟩ := List.mem_map.1 hr; exact hlt _ (hperm.mem_iff.1 hx)⟩, trivial⟩)
end Go.Proofs.YtekpamojojfplaaGreat
namespace Go.Proofs.YtekpamojojfplaaGreat
open Go.RowKit
theorem posF_at : ∀ {v : List Int} {k : Nat}, (∀ i, i < k → v.getD i 0 = 0) → v.getD k 0 ≠ 0 → posF v = decide (0 < v.getD k 0)
  | [], k, _, h => by simp at h
  | x :: t, 0, _, h => by
    have hx : x ≠ 0 := by simpa using h
    rw [posF, if_neg hx]; simp
  | x :: t, k + 1, h0, h => by
    have hx : x = 0 := by simpa using h0 0 (by omega)
    rw [posF, if_pos hx, posF_at (k := k) (fun i hi => by simpa using h0 (i + 1) (by omega)) (by simpa using h)]; simp
theorem posF_no : ∀ {v : List Int}, (∀ i, i < v.length → v.getD i 0 = 0) → posF v = false
  | [], _ => rfl
  | x :: t, h0 => by
    have hx : x = 0 := by simpa using h0 0 (by simp)
    rw [posF, if_pos hx, posF_no fun i hi => by simpa using h0 (i + 1) (by simpa using hi)]
theorem d_posI (v : List Int) (n c : Nat) (hn : n = v.length) (hl : v.length ≤ 1099511627776) : Does Tryz.prog 94 [vS 1 1 0 n c] [(1, .ro (.ints v))] 2 (Ret (vB (posF v)) 2) := by
 subst hn
 refine Does.intro TT Tryz.func94 rfl (by kernel_rfl) Zz Zz fun E hE => ?_
 ((repeat' (first | refine stx ?_ | ((refine w_E (d_firstCell v 0 v.length _ (by omega) hl) Zz Zz Zz Zz Zz Zz Zz ft rfl ?_); rintro w Hout n1 ⟨j, rfl, rfl, rfl, hj⟩; rcases hj with ⟨h0, rfl⟩ | ⟨k, hk, rfl, hz, h0⟩) | (refine stq ?_ ?_ <;> (intro hc; ((try simp at hc) <;> try contradiction))) | fail)) <;> try (exfalso; omega))
 ·refine fin_ret rfl w_3 (congrArg vB (posF_no fun i hi => by have := h0 i hi; rwa [Nat.zero_add] at this).symm) rfl
 ·have e : v.getD (0 + (k : Int).toNat) 0 = v.getD k 0 := by rw [show 0 + (k : Int).toNat = k by omega]
  refine fin_ret rfl w_3 (congrArg vB (by rw [posF_at (k := k) (fun i hi => by have := h0 i hi; rwa [Nat.zero_add] at this) (by rwa [Nat.zero_add] at hz), e])) rfl
end Go.Proofs.YtekpamojojfplaaGreat
namespace Go.Proofs.YtekpamojojfplaaGreat
open Go.RowKit
def valT (o : Option Int) : AV := .tup [.one (.int (o.getD 0)), .one (.bool o.isSome)]
theorem vatO_no {r c : Int} {g v : List Int} (h : gramB r c g = false ∨ ¬ (v.length : Int) = r) : vatO r c g v = none := by
  unfold vatO
  rw [if_neg]
  rcases h with h | h
  · rw [h]; simp
  · simp [h]
theorem vatO_yes {n : Nat} {g v : List Int} (h : gramB n n g = true) (hv : v.length = n) : vatO n n g v = (mulZ 1 n n n v g).bind fun p => (mulZ 1 n n 1 p v).map fun z => z.getD 0 0 := by
  unfold vatO
  rw [if_pos (by rw [h, hv]; simp), hv]
theorem mulZ_1 {n n' : Int} {xs ys p : List Int} (h : mulZ 1 n n' 1 xs ys = some p) : p.length = 1 := by rw [mulZ_len h]; rfl
set_option maxRecDepth 100000 in
set_option maxHeartbeats 4000000 in
theorem d_valI (r c : Int) (g v : List Int) (ca cv : Nat) (hl : g.length ≤ 1099511627776) (hl' : v.length ≤ 1099511627776) :
    Does Tryz.prog 95 [vM r c 1 g.length ca, vS 2 1 0 v.length cv] [(1, .ro (.ints g)), (2, .ro (.ints v))] 3 (Ret (valT (vatO r c g v)) 3) := by
  refine Does.intro TT Tryz.func95 rfl (by kernel_rfl) Zz Zz fun E hE => ?_
  have hgr := d_gramI r c g ca hl
  cases hG : gramB r c g with
  | false =>
    rw [hG] at hgr
    rw [vatO_no (.inl hG)]
    ((repeat' (first | refine stx ?_ | refine zqc (hgr) ?_ | (refine stq ?_ ?_ <;> (intro hc; ((try simp at hc) <;> try contradiction))) | fail)) <;> try (exfalso; omega))
    all_goals exact fin rfl w_3 [] (.tup [.one (.int 0), .one (.bool false)]) [] 3 ⟨rfl, rfl, rfl⟩ rfl ⟨trivial, trivial, rfl⟩ rfl
  | true =>
    rw [hG] at hgr
    obtain ⟨n, rfl, rfl, hn, hx, hnum, -⟩ := gramB_nat hG
    by_cases hv : v.length = n
    · subst hv
      have hrow := fun cc => d_row v cc hl'
      have hcol := fun cc => d_col v cc hl'
      have hm1 := fun cc => d_mulI 1 v.length v.length v.length v g cc ca hl' hl
      rw [vatO_yes hG rfl]
      cases hp : mulZ 1 v.length v.length v.length v g with
      | none =>
        rw [hp] at hm1
        ((repeat' (first | refine stp ?_ | refine zqc (hgr) ?_ | (refine stq ?_ ?_ <;> (intro hc; ((try simp at hc) <;> try contradiction))) | fail)) <;> try (exfalso; omega))
        refine awp_held TM [(2, _), (3, _)] sb rfl (fun ρs => ?_)
        refine zt0 ?_
        refine zt2 ?_
        refine w_u [1, 7] kr rfl ⟨?_, ?_, trivial⟩
        first | (refine zho ?_) | (refine zqf (hrow _) ?_; rintro v Hout n1 ⟨c1, hc1, rfl, rfl, rfl⟩; refine ⟨sb, ?_⟩) | (refine zqf (hm1 _) ?_; rintro v Hout n1 ⟨rfl, rfl, rfl⟩; refine ⟨sb, ?_⟩)
        refine w_u [3, 7] kr rfl ⟨?_, ?_, trivial⟩
        first | (refine zho ?_) | (refine zqf (hrow _) ?_; rintro v Hout n1 ⟨c1, hc1, rfl, rfl, rfl⟩; refine ⟨sb, ?_⟩) | (refine zqf (hm1 _) ?_; rintro v Hout n1 ⟨rfl, rfl, rfl⟩; refine ⟨sb, ?_⟩)
        refine zt4 ?_
        refine zt5 ?_
        refine zt6 ?_
        refine w_u [7] kr rfl ⟨?_, trivial⟩
        first | (refine zho ?_) | (refine zqf (hrow _) ?_; rintro v Hout n1 ⟨c1, hc1, rfl, rfl, rfl⟩; refine ⟨sb, ?_⟩) | (refine zqf (hm1 _) ?_; rintro v Hout n1 ⟨rfl, rfl, rfl⟩; refine ⟨sb, ?_⟩)
        refine w_u [8] kr rfl ⟨?_, trivial⟩
        first | (refine zho ?_) | (refine zqf (hrow _) ?_; rintro v Hout n1 ⟨c1, hc1, rfl, rfl, rfl⟩; refine ⟨sb, ?_⟩) | (refine zqf (hm1 _) ?_; rintro v Hout n1 ⟨rfl, rfl, rfl⟩; refine ⟨sb, ?_⟩)
        refine zt9 ?_
        refine w_v kr ?_
        rotate_left
        first | (refine zho ?_) | (refine zqf (hrow _) ?_; rintro v Hout n1 ⟨c1, hc1, rfl, rfl, rfl⟩; refine ⟨sb, ?_⟩) | (refine zqf (hm1 _) ?_; rintro v Hout n1 ⟨rfl, rfl, rfl⟩; refine ⟨sb, ?_⟩)
        refine w_u [3] kr rfl ⟨?_, trivial⟩
        first | (refine zho ?_) | (refine zqf (hrow _) ?_; rintro v Hout n1 ⟨c1, hc1, rfl, rfl, rfl⟩; refine ⟨sb, ?_⟩) | (refine zqf (hm1 _) ?_; rintro v Hout n1 ⟨rfl, rfl, rfl⟩; refine ⟨sb, ?_⟩)
        refine zt4 ?_
        refine zt5 ?_
        refine zt6 ?_
        refine w_u [8] kr rfl ⟨?_, trivial⟩
        first | (refine zho ?_) | (refine zqf (hrow _) ?_; rintro v Hout n1 ⟨c1, hc1, rfl, rfl, rfl⟩; refine ⟨sb, ?_⟩) | (refine zqf (hm1 _) ?_; rintro v Hout n1 ⟨rfl, rfl, rfl⟩; refine ⟨sb, ?_⟩)
        refine zt9 ?_
        refine w_v kr ?_
        rotate_left
        first | (refine zho ?_) | (refine zqf (hrow _) ?_; rintro v Hout n1 ⟨c1, hc1, rfl, rfl, rfl⟩; refine ⟨sb, ?_⟩) | (refine zqf (hm1 _) ?_; rintro v Hout n1 ⟨rfl, rfl, rfl⟩; refine ⟨sb, ?_⟩)
        refine w_u [1] kr rfl ⟨?_, trivial⟩
        first | (refine zho ?_) | (refine zqf (hrow _) ?_; rintro v Hout n1 ⟨c1, hc1, rfl, rfl, rfl⟩; refine ⟨sb, ?_⟩) | (refine zqf (hm1 _) ?_; rintro v Hout n1 ⟨rfl, rfl, rfl⟩; refine ⟨sb, ?_⟩)
        refine w_u [3] kr rfl ⟨?_, trivial⟩
        first | (refine zho ?_) | (refine zqf (hrow _) ?_; rintro v Hout n1 ⟨c1, hc1, rfl, rfl, rfl⟩; refine ⟨sb, ?_⟩) | (refine zqf (hm1 _) ?_; rintro v Hout n1 ⟨rfl, rfl, rfl⟩; refine ⟨sb, ?_⟩)
        refine zt4 ?_
        refine zt5 ?_
        refine zt6 ?_
        refine w_u [8] kr rfl ⟨?_, trivial⟩
        first | (refine zho ?_) | (refine zqf (hrow _) ?_; rintro v Hout n1 ⟨c1, hc1, rfl, rfl, rfl⟩; refine ⟨sb, ?_⟩) | (refine zqf (hm1 _) ?_; rintro v Hout n1 ⟨rfl, rfl, rfl⟩; refine ⟨sb, ?_⟩)
        refine zt9 ?_
        refine w_v kr ?_
        rotate_left
        all_goals ((repeat' (first | refine stx ?_ | (refine stq ?_ ?_ <;> (intro hc; ((try simp at hc) <;> try contradiction))) | fail)) <;> try (exfalso; omega))
        all_goals exact fin rfl w_3 [] (.tup [.one (.int 0), .one (.bool false)]) [] 3 ⟨rfl, rfl, rfl⟩ rfl ⟨trivial, trivial, rfl⟩ rfl
      | some p =>
        rw [hp] at hm1
        have hpl := isM_le (mulZ_some hp).2.2.2
        have hm2 := fun cp cc => d_mulI 1 v.length v.length 1 p v cp cc (by omega) hl'
        rw [Option.bind_some]
        cases hq : mulZ 1 v.length v.length 1 p v with
        | none =>
          rw [hq] at hm2
          ((repeat' (first | refine stp ?_ | refine zqc (hgr) ?_ | (refine stq ?_ ?_ <;> (intro hc; ((try simp at hc) <;> try contradiction))) | fail)) <;> try (exfalso; omega))
          refine awp_held TM [(2, _), (3, _)] sb rfl (fun ρs => ?_)
          refine zt0 ?_
          refine zt2 ?_
          refine w_u [1, 7] kr rfl ⟨?_, ?_, trivial⟩
          first | (refine zho ?_) | (refine zqf (hrow _) ?_; rintro v Hout n1 ⟨c1, hc1, rfl, rfl, rfl⟩; refine ⟨sb, ?_⟩) | (refine zqf (hm1 _) ?_; rintro v Hout n1 ⟨c2, hc2, rfl, rfl, rfl⟩; refine ⟨sb, ?_⟩)
          refine w_u [3, 7] kr rfl ⟨?_, ?_, trivial⟩
          first | (refine zho ?_) | (refine zqf (hrow _) ?_; rintro v Hout n1 ⟨c1, hc1, rfl, rfl, rfl⟩; refine ⟨sb, ?_⟩) | (refine zqf (hm1 _) ?_; rintro v Hout n1 ⟨c2, hc2, rfl, rfl, rfl⟩; refine ⟨sb, ?_⟩)
          refine zt4 ?_
          refine zt5 ?_
          refine zt6 ?_
          refine w_u [7] kr rfl ⟨?_, trivial⟩
          first | (refine zho ?_) | (refine zqf (hrow _) ?_; rintro v Hout n1 ⟨c1, hc1, rfl, rfl, rfl⟩; refine ⟨sb, ?_⟩) | (refine zqf (hm1 _) ?_; rintro v Hout n1 ⟨c2, hc2, rfl, rfl, rfl⟩; refine ⟨sb, ?_⟩)
          refine w_u [8] kr rfl ⟨?_, trivial⟩
          first | (refine zho ?_) | (refine zqf (hrow _) ?_; rintro v Hout n1 ⟨c1, hc1, rfl, rfl, rfl⟩; refine ⟨sb, ?_⟩) | (refine zqf (hm1 _) ?_; rintro v Hout n1 ⟨c2, hc2, rfl, rfl, rfl⟩; refine ⟨sb, ?_⟩)
          refine zt9 ?_
          refine w_v kr ?_
          rotate_left
          first | (refine zho ?_) | (refine zqf (hrow _) ?_; rintro v Hout n1 ⟨c1, hc1, rfl, rfl, rfl⟩; refine ⟨sb, ?_⟩) | (refine zqf (hm1 _) ?_; rintro v Hout n1 ⟨c2, hc2, rfl, rfl, rfl⟩; refine ⟨sb, ?_⟩)
          refine w_u [3] kr rfl ⟨?_, trivial⟩
          first | (refine zho ?_) | (refine zqf (hrow _) ?_; rintro v Hout n1 ⟨c1, hc1, rfl, rfl, rfl⟩; refine ⟨sb, ?_⟩) | (refine zqf (hm1 _) ?_; rintro v Hout n1 ⟨c2, hc2, rfl, rfl, rfl⟩; refine ⟨sb, ?_⟩)
          refine zt4 ?_
          refine zt5 ?_
          refine zt6 ?_
          refine w_u [8] kr rfl ⟨?_, trivial⟩
          first | (refine zho ?_) | (refine zqf (hrow _) ?_; rintro v Hout n1 ⟨c1, hc1, rfl, rfl, rfl⟩; refine ⟨sb, ?_⟩) | (refine zqf (hm1 _) ?_; rintro v Hout n1 ⟨c2, hc2, rfl, rfl, rfl⟩; refine ⟨sb, ?_⟩)
          refine zt9 ?_
          refine w_v kr ?_
          rotate_left
          first | (refine zho ?_) | (refine zqf (hrow _) ?_; rintro v Hout n1 ⟨c1, hc1, rfl, rfl, rfl⟩; refine ⟨sb, ?_⟩) | (refine zqf (hm1 _) ?_; rintro v Hout n1 ⟨c2, hc2, rfl, rfl, rfl⟩; refine ⟨sb, ?_⟩)
          refine w_u [1] kr rfl ⟨?_, trivial⟩
          first | (refine zho ?_) | (refine zqf (hrow _) ?_; rintro v Hout n1 ⟨c1, hc1, rfl, rfl, rfl⟩; refine ⟨sb, ?_⟩) | (refine zqf (hm1 _) ?_; rintro v Hout n1 ⟨c2, hc2, rfl, rfl, rfl⟩; refine ⟨sb, ?_⟩)
          refine w_u [3] kr rfl ⟨?_, trivial⟩
          first | (refine zho ?_) | (refine zqf (hrow _) ?_; rintro v Hout n1 ⟨c1, hc1, rfl, rfl, rfl⟩; refine ⟨sb, ?_⟩) | (refine zqf (hm1 _) ?_; rintro v Hout n1 ⟨c2, hc2, rfl, rfl, rfl⟩; refine ⟨sb, ?_⟩)
          refine zt4 ?_
          refine zt5 ?_
          refine zt6 ?_
          refine w_u [8] kr rfl ⟨?_, trivial⟩
          first | (refine zho ?_) | (refine zqf (hrow _) ?_; rintro v Hout n1 ⟨c1, hc1, rfl, rfl, rfl⟩; refine ⟨sb, ?_⟩) | (refine zqf (hm1 _) ?_; rintro v Hout n1 ⟨c2, hc2, rfl, rfl, rfl⟩; refine ⟨sb, ?_⟩)
          refine zt9 ?_
          refine w_v kr ?_
          rotate_left
          all_goals ((repeat' (first | refine stp ?_ | (refine stq ?_ ?_ <;> (intro hc; ((try simp at hc) <;> try contradiction))) | fail)) <;> try (exfalso; omega))
          all_goals
            refine awp_held TM [(2, _), (4, _), (5, _), (6, _)] sb rfl (fun ρs => ?_)
            refine zt0 ?_
            refine zt1 ?_
            refine w_u [2, 7] kr rfl ⟨?_, ?_, trivial⟩
            first | (refine zho ?_) | (refine zqf (hcol _) ?_; rintro v Hout n1 ⟨c3, hc3, rfl, rfl, rfl⟩; refine ⟨sb, ?_⟩) | (refine zqf (hm2 _ _) ?_; rintro v Hout n1 ⟨rfl, rfl, rfl⟩; refine ⟨sb, ?_⟩)
            refine w_u [3, 7] kr rfl ⟨?_, ?_, trivial⟩
            first | (refine zho ?_) | (refine zqf (hcol _) ?_; rintro v Hout n1 ⟨c3, hc3, rfl, rfl, rfl⟩; refine ⟨sb, ?_⟩) | (refine zqf (hm2 _ _) ?_; rintro v Hout n1 ⟨rfl, rfl, rfl⟩; refine ⟨sb, ?_⟩)
            refine zt4 ?_
            refine zt5 ?_
            refine zt6 ?_
            refine w_u [7] kr rfl ⟨?_, trivial⟩
            first | (refine zho ?_) | (refine zqf (hcol _) ?_; rintro v Hout n1 ⟨c3, hc3, rfl, rfl, rfl⟩; refine ⟨sb, ?_⟩) | (refine zqf (hm2 _ _) ?_; rintro v Hout n1 ⟨rfl, rfl, rfl⟩; refine ⟨sb, ?_⟩)
            refine w_u [8] kr rfl ⟨?_, trivial⟩
            first | (refine zho ?_) | (refine zqf (hcol _) ?_; rintro v Hout n1 ⟨c3, hc3, rfl, rfl, rfl⟩; refine ⟨sb, ?_⟩) | (refine zqf (hm2 _ _) ?_; rintro v Hout n1 ⟨rfl, rfl, rfl⟩; refine ⟨sb, ?_⟩)
            refine zt9 ?_
            refine w_v kr ?_
            rotate_left
            first | (refine zho ?_) | (refine zqf (hcol _) ?_; rintro v Hout n1 ⟨c3, hc3, rfl, rfl, rfl⟩; refine ⟨sb, ?_⟩) | (refine zqf (hm2 _ _) ?_; rintro v Hout n1 ⟨rfl, rfl, rfl⟩; refine ⟨sb, ?_⟩)
            refine w_u [3] kr rfl ⟨?_, trivial⟩
            first | (refine zho ?_) | (refine zqf (hcol _) ?_; rintro v Hout n1 ⟨c3, hc3, rfl, rfl, rfl⟩; refine ⟨sb, ?_⟩) | (refine zqf (hm2 _ _) ?_; rintro v Hout n1 ⟨rfl, rfl, rfl⟩; refine ⟨sb, ?_⟩)
            refine zt4 ?_
            refine zt5 ?_
            refine zt6 ?_
            refine w_u [8] kr rfl ⟨?_, trivial⟩
            first | (refine zho ?_) | (refine zqf (hcol _) ?_; rintro v Hout n1 ⟨c3, hc3, rfl, rfl, rfl⟩; refine ⟨sb, ?_⟩) | (refine zqf (hm2 _ _) ?_; rintro v Hout n1 ⟨rfl, rfl, rfl⟩; refine ⟨sb, ?_⟩)
            refine zt9 ?_
            refine w_v kr ?_
            rotate_left
            first | (refine zho ?_) | (refine zqf (hcol _) ?_; rintro v Hout n1 ⟨c3, hc3, rfl, rfl, rfl⟩; refine ⟨sb, ?_⟩) | (refine zqf (hm2 _ _) ?_; rintro v Hout n1 ⟨rfl, rfl, rfl⟩; refine ⟨sb, ?_⟩)
            refine w_u [2] kr rfl ⟨?_, trivial⟩
            first | (refine zho ?_) | (refine zqf (hcol _) ?_; rintro v Hout n1 ⟨c3, hc3, rfl, rfl, rfl⟩; refine ⟨sb, ?_⟩) | (refine zqf (hm2 _ _) ?_; rintro v Hout n1 ⟨rfl, rfl, rfl⟩; refine ⟨sb, ?_⟩)
            refine w_u [3] kr rfl ⟨?_, trivial⟩
            first | (refine zho ?_) | (refine zqf (hcol _) ?_; rintro v Hout n1 ⟨c3, hc3, rfl, rfl, rfl⟩; refine ⟨sb, ?_⟩) | (refine zqf (hm2 _ _) ?_; rintro v Hout n1 ⟨rfl, rfl, rfl⟩; refine ⟨sb, ?_⟩)
            refine zt4 ?_
            refine zt5 ?_
            refine zt6 ?_
            refine w_u [8] kr rfl ⟨?_, trivial⟩
            first | (refine zho ?_) | (refine zqf (hcol _) ?_; rintro v Hout n1 ⟨c3, hc3, rfl, rfl, rfl⟩; refine ⟨sb, ?_⟩) | (refine zqf (hm2 _ _) ?_; rintro v Hout n1 ⟨rfl, rfl, rfl⟩; refine ⟨sb, ?_⟩)
            refine zt9 ?_
            refine w_v kr ?_
            rotate_left
            all_goals ((repeat' (first | refine stx ?_ | (refine stq ?_ ?_ <;> (intro hc; ((try simp at hc) <;> try contradiction))) | fail)) <;> try (exfalso; omega))
            all_goals exact fin rfl w_3 [] (.tup [.one (.int 0), .one (.bool false)]) [] 3 ⟨rfl, rfl, rfl⟩ rfl ⟨trivial, trivial, rfl⟩ rfl
        | some z =>
          rw [hq] at hm2
          have hz1 := mulZ_1 hq
          ((repeat' (first | refine stp ?_ | refine zqc (hgr) ?_ | (refine stq ?_ ?_ <;> (intro hc; ((try simp at hc) <;> try contradiction))) | fail)) <;> try (exfalso; omega))
          refine awp_held TM [(2, _), (3, _)] sb rfl (fun ρs => ?_)
          refine zt0 ?_
          refine zt2 ?_
          refine w_u [1, 7] kr rfl ⟨?_, ?_, trivial⟩
          first | (refine zho ?_) | (refine zqf (hrow _) ?_; rintro v Hout n1 ⟨c1, hc1, rfl, rfl, rfl⟩; refine ⟨sb, ?_⟩) | (refine zqf (hm1 _) ?_; rintro v Hout n1 ⟨c2, hc2, rfl, rfl, rfl⟩; refine ⟨sb, ?_⟩)
          refine w_u [3, 7] kr rfl ⟨?_, ?_, trivial⟩
          first | (refine zho ?_) | (refine zqf (hrow _) ?_; rintro v Hout n1 ⟨c1, hc1, rfl, rfl, rfl⟩; refine ⟨sb, ?_⟩) | (refine zqf (hm1 _) ?_; rintro v Hout n1 ⟨c2, hc2, rfl, rfl, rfl⟩; refine ⟨sb, ?_⟩)
          refine zt4 ?_
          refine zt5 ?_
          refine zt6 ?_
          refine w_u [7] kr rfl ⟨?_, trivial⟩
          first | (refine zho ?_) | (refine zqf (hrow _) ?_; rintro v Hout n1 ⟨c1, hc1, rfl, rfl, rfl⟩; refine ⟨sb, ?_⟩) | (refine zqf (hm1 _) ?_; rintro v Hout n1 ⟨c2, hc2, rfl, rfl, rfl⟩; refine ⟨sb, ?_⟩)
          refine w_u [8] kr rfl ⟨?_, trivial⟩
          first | (refine zho ?_) | (refine zqf (hrow _) ?_; rintro v Hout n1 ⟨c1, hc1, rfl, rfl, rfl⟩; refine ⟨sb, ?_⟩) | (refine zqf (hm1 _) ?_; rintro v Hout n1 ⟨c2, hc2, rfl, rfl, rfl⟩; refine ⟨sb, ?_⟩)
          refine zt9 ?_
          refine w_v kr ?_
          rotate_left
          first | (refine zho ?_) | (refine zqf (hrow _) ?_; rintro v Hout n1 ⟨c1, hc1, rfl, rfl, rfl⟩; refine ⟨sb, ?_⟩) | (refine zqf (hm1 _) ?_; rintro v Hout n1 ⟨c2, hc2, rfl, rfl, rfl⟩; refine ⟨sb, ?_⟩)
          refine w_u [3] kr rfl ⟨?_, trivial⟩
          first | (refine zho ?_) | (refine zqf (hrow _) ?_; rintro v Hout n1 ⟨c1, hc1, rfl, rfl, rfl⟩; refine ⟨sb, ?_⟩) | (refine zqf (hm1 _) ?_; rintro v Hout n1 ⟨c2, hc2, rfl, rfl, rfl⟩; refine ⟨sb, ?_⟩)
          refine zt4 ?_
          refine zt5 ?_
          refine zt6 ?_
          refine w_u [8] kr rfl ⟨?_, trivial⟩
          first | (refine zho ?_) | (refine zqf (hrow _) ?_; rintro v Hout n1 ⟨c1, hc1, rfl, rfl, rfl⟩; refine ⟨sb, ?_⟩) | (refine zqf (hm1 _) ?_; rintro v Hout n1 ⟨c2, hc2, rfl, rfl, rfl⟩; refine ⟨sb, ?_⟩)
          refine zt9 ?_
          refine w_v kr ?_
          rotate_left
          first | (refine zho ?_) | (refine zqf (hrow _) ?_; rintro v Hout n1 ⟨c1, hc1, rfl, rfl, rfl⟩; refine ⟨sb, ?_⟩) | (refine zqf (hm1 _) ?_; rintro v Hout n1 ⟨c2, hc2, rfl, rfl, rfl⟩; refine ⟨sb, ?_⟩)
          refine w_u [1] kr rfl ⟨?_, trivial⟩
          first | (refine zho ?_) | (refine zqf (hrow _) ?_; rintro v Hout n1 ⟨c1, hc1, rfl, rfl, rfl⟩; refine ⟨sb, ?_⟩) | (refine zqf (hm1 _) ?_; rintro v Hout n1 ⟨c2, hc2, rfl, rfl, rfl⟩; refine ⟨sb, ?_⟩)
          refine w_u [3] kr rfl ⟨?_, trivial⟩
          first | (refine zho ?_) | (refine zqf (hrow _) ?_; rintro v Hout n1 ⟨c1, hc1, rfl, rfl, rfl⟩; refine ⟨sb, ?_⟩) | (refine zqf (hm1 _) ?_; rintro v Hout n1 ⟨c2, hc2, rfl, rfl, rfl⟩; refine ⟨sb, ?_⟩)
          refine zt4 ?_
          refine zt5 ?_
          refine zt6 ?_
          refine w_u [8] kr rfl ⟨?_, trivial⟩
          first | (refine zho ?_) | (refine zqf (hrow _) ?_; rintro v Hout n1 ⟨c1, hc1, rfl, rfl, rfl⟩; refine ⟨sb, ?_⟩) | (refine zqf (hm1 _) ?_; rintro v Hout n1 ⟨c2, hc2, rfl, rfl, rfl⟩; refine ⟨sb, ?_⟩)
          refine zt9 ?_
          refine w_v kr ?_
          rotate_left
          all_goals ((repeat' (first | refine stp ?_ | (refine stq ?_ ?_ <;> (intro hc; ((try simp at hc) <;> try contradiction))) | fail)) <;> try (exfalso; omega))
          all_goals
            refine awp_held TM [(2, _), (4, _), (5, _), (6, _)] sb rfl (fun ρs => ?_)
            refine zt0 ?_
            refine zt1 ?_
            refine w_u [2, 7] kr rfl ⟨?_, ?_, trivial⟩
            first | (refine zho ?_) | (refine zqf (hcol _) ?_; rintro v Hout n1 ⟨c3, hc3, rfl, rfl, rfl⟩; refine ⟨sb, ?_⟩) | (refine zqf (hm2 _ _) ?_; rintro v Hout n1 ⟨c4, hc4, rfl, rfl, rfl⟩; refine ⟨sb, ?_⟩)
            refine w_u [3, 7] kr rfl ⟨?_, ?_, trivial⟩
            first | (refine zho ?_) | (refine zqf (hcol _) ?_; rintro v Hout n1 ⟨c3, hc3, rfl, rfl, rfl⟩; refine ⟨sb, ?_⟩) | (refine zqf (hm2 _ _) ?_; rintro v Hout n1 ⟨c4, hc4, rfl, rfl, rfl⟩; refine ⟨sb, ?_⟩)
            refine zt4 ?_
            refine zt5 ?_
            refine zt6 ?_
            refine w_u [7] kr rfl ⟨?_, trivial⟩
            first | (refine zho ?_) | (refine zqf (hcol _) ?_; rintro v Hout n1 ⟨c3, hc3, rfl, rfl, rfl⟩; refine ⟨sb, ?_⟩) | (refine zqf (hm2 _ _) ?_; rintro v Hout n1 ⟨c4, hc4, rfl, rfl, rfl⟩; refine ⟨sb, ?_⟩)
            refine w_u [8] kr rfl ⟨?_, trivial⟩
            first | (refine zho ?_) | (refine zqf (hcol _) ?_; rintro v Hout n1 ⟨c3, hc3, rfl, rfl, rfl⟩; refine ⟨sb, ?_⟩) | (refine zqf (hm2 _ _) ?_; rintro v Hout n1 ⟨c4, hc4, rfl, rfl, rfl⟩; refine ⟨sb, ?_⟩)
            refine zt9 ?_
            refine w_v kr ?_
            rotate_left
            first | (refine zho ?_) | (refine zqf (hcol _) ?_; rintro v Hout n1 ⟨c3, hc3, rfl, rfl, rfl⟩; refine ⟨sb, ?_⟩) | (refine zqf (hm2 _ _) ?_; rintro v Hout n1 ⟨c4, hc4, rfl, rfl, rfl⟩; refine ⟨sb, ?_⟩)
            refine w_u [3] kr rfl ⟨?_, trivial⟩
            first | (refine zho ?_) | (refine zqf (hcol _) ?_; rintro v Hout n1 ⟨c3, hc3, rfl, rfl, rfl⟩; refine ⟨sb, ?_⟩) | (refine zqf (hm2 _ _) ?_; rintro v Hout n1 ⟨c4, hc4, rfl, rfl, rfl⟩; refine ⟨sb, ?_⟩)
            refine zt4 ?_
            refine zt5 ?_
            refine zt6 ?_
            refine w_u [8] kr rfl ⟨?_, trivial⟩
            first | (refine zho ?_) | (refine zqf (hcol _) ?_; rintro v Hout n1 ⟨c3, hc3, rfl, rfl, rfl⟩; refine ⟨sb, ?_⟩) | (refine zqf (hm2 _ _) ?_; rintro v Hout n1 ⟨c4, hc4, rfl, rfl, rfl⟩; refine ⟨sb, ?_⟩)
            refine zt9 ?_
            refine w_v kr ?_
            rotate_left
            first | (refine zho ?_) | (refine zqf (hcol _) ?_; rintro v Hout n1 ⟨c3, hc3, rfl, rfl, rfl⟩; refine ⟨sb, ?_⟩) | (refine zqf (hm2 _ _) ?_; rintro v Hout n1 ⟨c4, hc4, rfl, rfl, rfl⟩; refine ⟨sb, ?_⟩)
            refine w_u [2] kr rfl ⟨?_, trivial⟩
            first | (refine zho ?_) | (refine zqf (hcol _) ?_; rintro v Hout n1 ⟨c3, hc3, rfl, rfl, rfl⟩; refine ⟨sb, ?_⟩) | (refine zqf (hm2 _ _) ?_; rintro v Hout n1 ⟨c4, hc4, rfl, rfl, rfl⟩; refine ⟨sb, ?_⟩)
            refine w_u [3] kr rfl ⟨?_, trivial⟩
            first | (refine zho ?_) | (refine zqf (hcol _) ?_; rintro v Hout n1 ⟨c3, hc3, rfl, rfl, rfl⟩; refine ⟨sb, ?_⟩) | (refine zqf (hm2 _ _) ?_; rintro v Hout n1 ⟨c4, hc4, rfl, rfl, rfl⟩; refine ⟨sb, ?_⟩)
            refine zt4 ?_
            refine zt5 ?_
            refine zt6 ?_
            refine w_u [8] kr rfl ⟨?_, trivial⟩
            first | (refine zho ?_) | (refine zqf (hcol _) ?_; rintro v Hout n1 ⟨c3, hc3, rfl, rfl, rfl⟩; refine ⟨sb, ?_⟩) | (refine zqf (hm2 _ _) ?_; rintro v Hout n1 ⟨c4, hc4, rfl, rfl, rfl⟩; refine ⟨sb, ?_⟩)
            refine zt9 ?_
            refine w_v kr ?_
            rotate_left
            all_goals ((repeat' (first | refine stx ?_ | (refine stq ?_ ?_ <;> (intro hc; ((try simp at hc) <;> try contradiction))) | fail)) <;> try (exfalso; omega))
            all_goals exact fin rfl w_3 [] (.tup [.one (.int (z.getD 0 0)), .one (.bool true)]) [] 3 ⟨rfl, rfl, rfl⟩ rfl ⟨trivial, trivial, rfl⟩ rfl
    · rw [vatO_no (.inr (by omega))]
      ((repeat' (first | refine stx ?_ | refine zqc (hgr) ?_ | (refine stq ?_ ?_ <;> (intro hc; ((try simp at hc) <;> try contradiction))) | fail)) <;> try (exfalso; omega))
      all_goals exact fin rfl w_3 [] (.tup [.one (.int 0), .one (.bool false)]) [] 3 ⟨rfl, rfl, rfl⟩ rfl ⟨trivial, trivial, rfl⟩ rfl
end Go.Proofs.YtekpamojojfplaaGreat
namespace Go.Proofs.YtekpamojojfplaaGreat
open Go.RowKit
theorem d_negated (xs : List Int) (n c : Nat) (hn : n = xs.length) (hl : xs.length ≤ 1000000) (hx : xs.all numB = true) : Does Tryz.prog 93 [vS 1 1 0 n c] [(1, .ro (.ints xs))] 2 (MadeI (xs.map fun x => -x) 2) := by
 subst hn
 refine Does.intro TT Tryz.func93 rfl (by kernel_rfl) Zz Zz fun E hE => ?_
 ((repeat' (first | refine stx ?_ | (refine stq ?_ ?_ <;> (intro hc; ((try simp at hc) <;> try contradiction))) | fail)) <;> try (exfalso; omega))
 refine w_G hE (fun x : Nat × Nat => x.1 ≤ xs.length ∧ x.1 ≤ x.2) (fun x => xs.length - x.1)
  (fun x => [(3, vS 2 1 0 x.1 x.2), (7, vS 1 1 0 xs.length c), (8, vI xs.length), (9, vI x.1)]) (fun x => [(1, .ro (.ints xs)), (2, .own 3 x.2 (.ints ((xs.take x.1).map fun x => -x)))]) 3 [] (0, 0) ⟨Nat.zero_le _, Nat.zero_le _⟩ ⟨w_1, w_2, rfl⟩ ?_
 rintro ⟨k, cap⟩ ⟨h1, h2⟩
 dsimp only at h1 h2
 have e1 := num_getD hx (0 + (k : Int).toNat)
 have e2 := num_getD hx k
 by_cases hk : k < xs.length
 ·have en : ((xs.take (k + 1)).map fun x => -x) = ((xs.take k).map fun x => -x) ++ [-(xs.getD (0 + (k : Int).toNat) 0)] := by
   rw [List.take_succ_eq_append_getElem hk, List.map_append]; simp [hk]
  have ek : ((xs.take k).map fun x => -x).length = k := by simp; omega
  ((repeat' (first | refine stx ?_ | (refine zqx ?_; intro cap hcap) | (refine stq ?_ ?_ <;> (intro hc; ((try simp at hc) <;> try contradiction))) | fail)) <;> try (exfalso; omega))
  refine ⟨[(2, 4)], (k + 1, cap), ⟨hk, by dsimp only at hcap ⊢; omega⟩, w_4, ⟨w_1, ⟨rfl, own_ints en.symm, trivial⟩, rfl⟩⟩
 ·obtain rfl : k = xs.length := by omega
  ((repeat' (first | refine stx ?_ | (refine stq ?_ ?_ <;> (intro hc; ((try simp at hc) <;> try contradiction))) | fail)) <;> try (exfalso; omega))
  refine fin rfl w_3 [] (vS 2 1 0 (xs.map fun x => -x).length cap) [(2, .own 3 cap (.ints (xs.map fun x => -x)))] 3 ⟨cap, by simpa using h2, rfl, rfl, rfl⟩ (by rw [List.length_map]; rfl) ⟨trivial, ⟨own_ints (by simp), trivial⟩, rfl⟩ rfl
end Go.Proofs.YtekpamojojfplaaGreat
