/-
  TEXTS OF THE PROOF, put together: bSearchS, bCands.
-/
import Derived.Test.YtekpamojojfplaaGreatD29
import Derived.Test.YtekpamojojfplaaGreatD21
import Derived.Test.YtekpamojojfplaaGreatD27
set_option linter.unusedVariables false
set_option linter.unusedSimpArgs false
namespace Go.Proofs.YtekpamojojfplaaGreat
open Go.RowKit
theorem accN_stop {g h : List Int} {n most : Nat} {pool : List (List Int)} {d : Nat} {rows : List (List Int)} {k p : Nat} (hm : most ≤ k + (accN g h n most pool d rows k p).length) : ∀ q, p + q ≤ pool.length → accN g h n most pool d rows k (p + q) = accN g h n most pool d rows k p
  | 0, _ => rfl
  | q + 1, hq => by
    have ih := accN_stop hm q (by omega)
    rw [← Nat.add_assoc, accN_next (show p + q < pool.length by omega), ih]
    split
    · rw [schN_stop hm, List.append_nil]
    · rfl
def okS (g h : List Int) (n k : Nat) (rows : List (List Int)) (x : List Int) : Nat → Bool
  | 0 => decide (prodH h n x x = g.getD (k * n + k) 0)
  | j + 1 => okS g h n k rows x j && decide (prodH h n (rows.getD j []) x = g.getD (j * n + k) 0)
theorem okS_iff {g h : List Int} {n k : Nat} {rows : List (List Int)} {x : List Int} : ∀ {j : Nat}, okS g h n k rows x j = true ↔ prodH h n x x = g.getD (k * n + k) 0 ∧ ∀ i, i < j → prodH h n (rows.getD i []) x = g.getD (i * n + k) 0
  | 0 => by simp [okS]
  | j + 1 => by
    rw [okS, Bool.and_eq_true, okS_iff, decide_eq_true_eq]
    constructor
    · rintro ⟨⟨h1, h2⟩, h3⟩
      refine ⟨h1, fun i hi => ?_⟩
      by_cases c : i < j
      · exact h2 i c
      · obtain rfl : i = j := by omega
        exact h3
    · rintro ⟨h1, h2⟩
      exact ⟨⟨h1, fun i hi => h2 i (by omega)⟩, h2 j (by omega)⟩
theorem okS_fit {g h : List Int} {n : Nat} {rows : List (List Int)} {x : List Int} (hg : SymM n (mxL n g)) (hh : SymM n (mxL n h)) (hr : rows.length < n) : okS g h n rows.length rows x rows.length = fitB g h n rows x := by
  rw [Bool.eq_iff_iff, okS_iff]
  unfold fitB
  rw [Bool.and_eq_true, decide_eq_true_eq, decide_eq_true_eq]
  have e : ∀ i, i < rows.length → g.getD (i * n + rows.length) 0 = g.getD (rows.length * n + i) 0 := fun i hi => hg i rows.length (by omega) hr
  constructor
  · rintro ⟨h1, h2⟩
    exact ⟨fun i hi => by rw [prodH_sym hh, h2 i hi, e i hi], h1⟩
  · rintro ⟨h1, h2⟩
    exact ⟨h2, fun i hi => by rw [prodH_sym hh, h1 i hi, e i hi]⟩
theorem okS_no {g h : List Int} {n : Nat} {rows : List (List Int)} {x : List Int} {j : Nat} (hg : SymM n (mxL n g)) (hh : SymM n (mxL n h)) (hr : rows.length < n) (hj : j ≤ rows.length) (h0 : okS g h n rows.length rows x j = false) : fitB g h n rows x = false := by
  rw [← okS_fit hg hh hr, Bool.eq_false_iff]
  intro h1
  obtain ⟨h2, h3⟩ := okS_iff.1 h1
  have := okS_iff.2 ⟨h2, fun i (hi : i < j) => h3 i (by omega)⟩
  rw [h0] at this; cases this
def SchS (tm ti : TypeId) (n : Nat) (fl : List (Int × Int × Row)) (fln : Nat) (L : List (List Int)) (v : AV) (Hout : List (Nat × Blk)) (n1 : Nat) : Prop :=
  ∃ (new : List (Int × Int × Row)) (cap : Nat), Fnd n new L ∧ v = .one (.sl 6 3 0 (fln + new.length) cap) ∧ Hout = [(6, .own tm cap (.mats false (fl ++ new))), (7, .tok ti false (new.map fun m => m.2.2))] ∧ n1 = 8
set_option maxRecDepth 100000 in
set_option maxHeartbeats 16000000 in
theorem d_searchS (n cg ch cl most : Nat) (g h : List Int) (lc : List Row) (hn : n ≤ 6) (hg : g.length = n * n) (hh : h.length = n * n) (hgn : g.all numB = true) (hhn : h.all numB = true) (hgs : SymM n (mxL n g)) (hhs : SymM n (mxL n h)) (hl4 : lc.length ≤ 8000) (hcs : ∀ r ∈ lc, Sm n r.xs) (hmost : most ≤ 1000) :
    ∀ (d : Nat) (lr : List Row) (c4 fc fln m : Nat) (fl : List (Int × Int × Row)), lr.length + d = n → (∀ r ∈ lr, Sm n r.xs) → m = lr.length → fln = fl.length → fln < most →
    Does Tryz.prog 103 [vM n n 1 g.length cg, vM n n 2 h.length ch, vS 3 1 0 lc.length cl, vS 4 1 0 m c4, vI most, .one (.sl 5 3 0 fln fc)] [(1, .ro (.ints g)), (2, .ro (.ints h)), (3, .ro (.rows false true lc)), (4, .ro (.rows false true lr)), (5, .own 26 fc (.mats false fl))] 6
      (SchS 26 3 n fl fln (schN g h n most (rowsX lc) d (rowsX lr) fln))
  | 0, lr, c4, fc, fln, m, fl, hd, hr, hm, hfl, hfm => by
    subst hm
    refine Does.intro TT Tryz.func103 rfl (by kernel_rfl) Zz Zz fun E hE => ?_
    ((first | refine awpL_ghost (Ghost.newTok 3 false) ?_ | refine awp_ghost (Ghost.newTok 3 false) ?_ | refine awpH_ghost (Ghost.newTok 3 false) ?_ | refine awpHop_ghost (Ghost.newTok 3 false) ?_); rintro _ _ ⟨rfl, rfl⟩)
    obtain rfl : lr.length = n := by omega
    have hcl2 : (cellsOf lr).length ≤ 1000000 := by
      rw [cells_len hr]
      have := Nat.mul_le_mul hn hn
      omega
    rw [schN, if_neg (by omega), flat_cells]
    ((repeat' (first | refine stx ?_ | (refine stq ?_ ?_ <;> (intro hc; ((try simp at hc) <;> try contradiction))) | fail)) <;> try (exfalso; omega))
    refine awp_nil (k := 9) (f := 2) (sz := 1) (et := 3) (e0 := .ints []) Zz Zz Zz Zz (fun _ h => by cases h) ?_
    refine w_G hE (fun x : Nat × Nat => x.1 ≤ lr.length ∧ (cellsOf (lr.take x.1)).length ≤ x.2) (fun x => lr.length - x.1)
      (fun x => [(3, vS 4 1 0 lr.length c4), (5, .one (.sl 5 3 0 fln fc)), (13, vI lr.length), (14, .one (.ptr 9 3 0 0)), (15, vI x.1)])
      (fun x => [(4, .ro (.rows false true lr)), (5, .own 26 fc (.mats false fl)), (6, .tok 3 false []), (9, .own 26 1 (.lit [.int lr.length, .int lr.length, .sl 10 1 0 (cellsOf (lr.take x.1)).length x.2])), (10, .own 3 x.2 (.ints (cellsOf (lr.take x.1))))]) 11 [] (0, 0) ⟨Nat.zero_le _, Nat.zero_le _⟩ ⟨w_1, w_2, rfl⟩ ?_
    rintro ⟨i, cp⟩ ⟨hi, hcp⟩
    dsimp only at hi hcp
    by_cases hil : i < lr.length
    · have b1 := cells_le (l := lr) (k := i + 1)
      have e1 := cellsOf_take hil
      have b2 : (cellsOf (lr.take i)).length + (lr[i]).xs.length ≤ 1000000 := by
        have := congrArg List.length e1
        simp only [List.length_append] at this
        omega
      have b3 := getD_row hil
      rw [← b3] at b2 e1
      ((repeat' (first | refine stp ?_ | (refine stq ?_ ?_ <;> (intro hc; ((try simp at hc) <;> try contradiction))) | fail)) <;> try (exfalso; omega))
      refine awp_held TM [(4, _)] sb rfl (fun ρs => ?_)
      refine zt2 ?_
      refine zt3 ?_
      refine zt4 ?_
      refine w_u [0, 5] kr rfl ⟨?_, ?_, trivial⟩
      first | (refine zho ?_) | (refine zqy ?_; intro cap hcap)
      refine w_u [1, 5] kr rfl ⟨?_, ?_, trivial⟩
      first | (refine zho ?_) | (refine zqy ?_; intro cap hcap)
      refine w_u [5] kr rfl ⟨?_, trivial⟩
      first | (refine zho ?_) | (refine zqy ?_; intro cap hcap)
      refine w_u [6] kr rfl ⟨?_, trivial⟩
      first | (refine zho ?_) | (refine zqy ?_; intro cap hcap)
      refine w_u [7] kr rfl ⟨?_, trivial⟩
      first | (refine zho ?_) | (refine zqy ?_; intro cap hcap)
      refine w_u [8] kr rfl ⟨?_, trivial⟩
      first | (refine zho ?_) | (refine zqy ?_; intro cap hcap)
      refine w_v kr ?_
      rotate_left
      first | (refine zho ?_) | (refine zqy ?_; intro cap hcap)
      refine w_u [1] kr rfl ⟨?_, trivial⟩
      first | (refine zho ?_) | (refine zqy ?_; intro cap hcap)
      refine w_u [6] kr rfl ⟨?_, trivial⟩
      first | (refine zho ?_) | (refine zqy ?_; intro cap hcap)
      refine w_u [7] kr rfl ⟨?_, trivial⟩
      first | (refine zho ?_) | (refine zqy ?_; intro cap hcap)
      refine w_u [8] kr rfl ⟨?_, trivial⟩
      first | (refine zho ?_) | (refine zqy ?_; intro cap hcap)
      refine w_v kr ?_
      rotate_left
      first | (refine zho ?_) | (refine zqy ?_; intro cap hcap)
      refine w_u [0] kr rfl ⟨?_, trivial⟩
      first | (refine zho ?_) | (refine zqy ?_; intro cap hcap)
      refine w_u [1] kr rfl ⟨?_, trivial⟩
      first | (refine zho ?_) | (refine zqy ?_; intro cap hcap)
      refine w_u [6] kr rfl ⟨?_, trivial⟩
      first | (refine zho ?_) | (refine zqy ?_; intro cap hcap)
      refine w_u [7] kr rfl ⟨?_, trivial⟩
      first | (refine zho ?_) | (refine zqy ?_; intro cap hcap)
      refine w_u [8] kr rfl ⟨?_, trivial⟩
      first | (refine zho ?_) | (refine zqy ?_; intro cap hcap)
      refine w_v kr ?_
      rotate_left
      all_goals ((repeat' (first | refine stx ?_ | (refine stq ?_ ?_ <;> (intro hc; ((try simp at hc) <;> try contradiction))) | fail)) <;> try (exfalso; omega))
      all_goals
        have e2 : (cellsOf (lr.take i)).length + (lr.getD (0 + (i : Int).toNat) rowD).xs.length = (cellsOf (lr.take (i + 1))).length := by rw [e1]; simp
        exact ⟨[(10, 12)], (i + 1, cap), ⟨by dsimp only; omega, by dsimp only at hcap ⊢; omega⟩, w_4, ⟨w_1, ⟨rfl, rfl, rfl, own_lit3R e2, own_ints (by simp [e1]), trivial⟩, rfl⟩⟩
    · obtain rfl : i = lr.length := by omega
      rw [List.take_length] at hcp ⊢
      ((first | refine awpL_ghost (Ghost.freeze 10 6 Zz Zz) ?_ | refine awp_ghost (Ghost.freeze 10 6 Zz Zz) ?_ | refine awpH_ghost (Ghost.freeze 10 6 Zz Zz) ?_ | refine awpHop_ghost (Ghost.freeze 10 6 Zz Zz) ?_); rintro _ _ ⟨a8, rfl, rfl⟩)
      ((repeat' (first | refine stx ?_ | (refine awpL_ghost (Ghost.forget 11 Zz Zz) ?_; rintro _ _ ⟨rfl, rfl⟩; (refine zqx ?_; intro cap hcap)) | (refine stq ?_ ?_ <;> (intro hc; ((try simp at hc) <;> try contradiction))) | fail)) <;> try (exfalso; omega))
      exact fin rfl w_3 [(6, 12), (7, 6)] (.one (.sl 6 3 0 (fln + 1) cap)) [(6, .own 26 cap (.mats false (fl ++ [((lr.length : Int), (lr.length : Int), (⟨a8, cp, cellsOf lr, []⟩ : Row))]))), (7, .tok 3 false [⟨a8, cp, cellsOf lr, []⟩])] 8 ⟨[((lr.length : Int), (lr.length : Int), (⟨a8, cp, cellsOf lr, []⟩ : Row))], cap, rfl, rfl, rfl, rfl⟩ rfl ⟨trivial, ⟨rfl, rfl, trivial⟩, rfl⟩ rfl
  | d + 1, lr, c4, fc, fln, m, fl, hd, hr, hm, hfl, hfm => by
    subst hm
    refine Does.intro TT Tryz.func103 rfl (by kernel_rfl) Zz Zz fun E hE => ?_
    ((first | refine awpL_ghost (Ghost.newTok 3 false) ?_ | refine awp_ghost (Ghost.newTok 3 false) ?_ | refine awpH_ghost (Ghost.newTok 3 false) ?_ | refine awpHop_ghost (Ghost.newTok 3 false) ?_); rintro _ _ ⟨rfl, rfl⟩)
    have hlrn : lr.length < n := by omega
    have hrl : (rowsX lr).length = lr.length := by simp [rowsX]
    have hcl : (rowsX lc).length = lc.length := by simp [rowsX]
    have hnn : n * n ≤ 36 := Nat.mul_le_mul hn hn
    rw [schN_go (by omega)]
    ((repeat' (first | refine stx ?_ | (refine stq ?_ ?_ <;> (intro hc; ((try simp at hc) <;> try contradiction))) | fail)) <;> try (exfalso; omega))
    refine w_G hE (fun x : Nat × List (Int × Int × Row) × Nat => x.1 ≤ lc.length ∧ Fnd n x.2.1 (accN g h n most (rowsX lc) d (rowsX lr) fln x.1)) (fun x => lc.length - x.1)
      (fun x => [(2, vS 3 1 0 lc.length cl), (3, vS 4 1 0 lr.length c4), (4, vI most), (5, .one (.sl 6 3 0 (fln + x.2.1.length) x.2.2)), (6, .one (.ptr 8 3 0 0)), (7, .one (.ptr 9 3 0 0)), (13, vI lr.length), (16, vI x.1)])
      (fun x => [(1, .ro (.ints g)), (2, .ro (.ints h)), (3, .ro (.rows false true lc)), (4, .ro (.rows false true lr)), (6, .own 26 x.2.2 (.mats false (fl ++ x.2.1))), (7, .tok 3 false (x.2.1.map fun m => m.2.2)), (8, .own 26 1 (.lit [.int n, .int n, .sl 1 1 0 g.length cg])), (9, .own 26 1 (.lit [.int n, .int n, .sl 2 1 0 h.length ch]))]) 10 [(6, 5), (7, 6), (8, 7), (9, 8)] (0, [], fc) ⟨Nat.zero_le _, rfl⟩ ⟨w_1, ⟨rfl, rfl, rfl, rfl, own_mats (List.append_nil fl).symm, rfl, rfl, rfl, trivial⟩, rfl⟩ ?_
    rintro ⟨i, new, cp⟩ ⟨hi, hF⟩
    dsimp only at hi hF
    have hal := accN_len (g := g) (h := h) (n := n) (most := most) (pool := rowsX lc) (d := d) (rows := rowsX lr) (k := fln) (by omega) i (by omega)
    rw [← hF.len] at hal
    by_cases hil : i < lc.length
    · by_cases hfu : fln + new.length < most
      · have e1 : lc.getD (0 + (i : Int).toNat) rowD = lc[i] := by rw [show 0 + (i : Int).toNat = i by omega, getD_in hil]
        have em : (lc.getD (0 + (i : Int).toNat) rowD) ∈ lc := by rw [e1]; exact List.getElem_mem hil
        have hX := hcs _ em
        have hxl := hX.1
        have hpx : (rowsX lc)[i]'(by omega) = (lc.getD (0 + (i : Int).toNat) rowD).xs := by rw [e1]; simp [rowsX]
        have hnx := accN_next (g := g) (h := h) (n := n) (most := most) (d := d) (rows := rowsX lr) (k := fln) (show i < (rowsX lc).length by omega)
        rw [hpx] at hnx
        have hce0 := d_cellH n n lr.length lr.length g.length cg g rfl hg (by omega) (by omega) hlrn hlrn
        have hpr0 := fun m1 c1 m2 c2 (q1 : m1 = (lc.getD (0 + (i : Int).toNat) rowD).xs.length) (q2 : m2 = (lc.getD (0 + (i : Int).toNat) rowD).xs.length) => d_prodP n ch c1 c2 m1 m2 h (lc.getD (0 + (i : Int).toNat) rowD).xs (lc.getD (0 + (i : Int).toNat) rowD).xs hn hh hhn hX hX q1 q2
        ((repeat' (first | (refine awp_cutR 12 hE (fun _ : Unit => True) (fun _ => [(2, vS 3 1 0 lc.length cl), (3, vS 4 1 0 lr.length c4), (4, vI most), (5, .one (.sl 6 3 0 (fln + new.length) cp)), (6, .one (.ptr 8 3 0 0)), (7, .one (.ptr 9 3 0 0)), (13, vI lr.length), (16, vI i), (17, vB (okS g h n lr.length (rowsX lr) (lc.getD (0 + (i : Int).toNat) rowD).xs 0))]) (fun _ => [(1, .ro (.ints g)), (2, .ro (.ints h)), (3, .ro (.rows false true lc)), (4, .ro (.rows false true lr)), (6, .own 26 cp (.mats false (fl ++ new))), (7, .tok 3 false (new.map fun m => m.2.2)), (8, .own 26 1 (.lit [.int n, .int n, .sl 1 1 0 g.length cg])), (9, .own 26 1 (.lit [.int n, .int n, .sl 2 1 0 h.length ch]))]) 10 ?_ ?_) | refine stp ?_ | (refine stq ?_ ?_ <;> (intro hc; ((try simp at hc) <;> try contradiction))) | fail)) <;> try (exfalso; omega))
        · refine awp_held TM [(3, _), (8, _), (9, _)] sb rfl (fun ρs => ?_)
          refine zt0 ?_
          refine zt1 ?_
          refine zt2 ?_
          refine zt3 ?_
          refine zt5 ?_
          refine zt6 ?_
          refine zt7 ?_
          refine zt10 ?_
          refine zt11 ?_
          refine zt12 ?_
          refine w_u [4, 8] kr rfl ⟨?_, ?_, trivial⟩
          first | (refine zho ?_) | refine zqb (hpr0 _ _ _ _ Zz Zz) ?_ | refine zqb (hce0) ?_
          refine w_u [8] kr rfl ⟨?_, trivial⟩
          first | (refine zho ?_) | refine zqb (hpr0 _ _ _ _ Zz Zz) ?_ | refine zqb (hce0) ?_
          refine w_u [9] kr rfl ⟨?_, trivial⟩
          first | (refine zho ?_) | refine zqb (hpr0 _ _ _ _ Zz Zz) ?_ | refine zqb (hce0) ?_
          refine w_u [13] kr rfl ⟨?_, trivial⟩
          first | (refine zho ?_) | refine zqb (hpr0 _ _ _ _ Zz Zz) ?_ | refine zqb (hce0) ?_
          refine zt14 ?_
          refine zt15 ?_
          refine w_v kr ?_
          rotate_left
          first | (refine zho ?_) | refine zqb (hpr0 _ _ _ _ Zz Zz) ?_ | refine zqb (hce0) ?_
          refine w_u [4] kr rfl ⟨?_, trivial⟩
          first | (refine zho ?_) | refine zqb (hpr0 _ _ _ _ Zz Zz) ?_ | refine zqb (hce0) ?_
          refine w_u [9] kr rfl ⟨?_, trivial⟩
          first | (refine zho ?_) | refine zqb (hpr0 _ _ _ _ Zz Zz) ?_ | refine zqb (hce0) ?_
          refine w_u [13] kr rfl ⟨?_, trivial⟩
          first | (refine zho ?_) | refine zqb (hpr0 _ _ _ _ Zz Zz) ?_ | refine zqb (hce0) ?_
          refine zt14 ?_
          refine zt15 ?_
          refine w_v kr ?_
          rotate_left
          all_goals exact ⟨[], (), trivial, ⟨w_1, w_2, rfl⟩⟩
        rintro ⟨⟩ -
        try dsimp only
        ((repeat' (first | refine stx ?_ | (refine stq ?_ ?_ <;> (intro hc; ((try simp at hc) <;> try contradiction))) | fail)) <;> try (exfalso; omega))
        refine w_G hE (fun j : Nat => j ≤ lr.length) (fun j => lr.length - j)
          (fun j => [(2, vS 3 1 0 lc.length cl), (3, vS 4 1 0 lr.length c4), (4, vI most), (5, .one (.sl 6 3 0 (fln + new.length) cp)), (6, .one (.ptr 8 3 0 0)), (7, .one (.ptr 9 3 0 0)), (13, vI lr.length), (16, vI i), (17, vB (okS g h n lr.length (rowsX lr) (lc.getD (0 + (i : Int).toNat) rowD).xs j)), (18, vI j)])
          (fun _ => [(1, .ro (.ints g)), (2, .ro (.ints h)), (3, .ro (.rows false true lc)), (4, .ro (.rows false true lr)), (6, .own 26 cp (.mats false (fl ++ new))), (7, .tok 3 false (new.map fun m => m.2.2)), (8, .own 26 1 (.lit [.int n, .int n, .sl 1 1 0 g.length cg])), (9, .own 26 1 (.lit [.int n, .int n, .sl 2 1 0 h.length ch]))]) 10 [] 0 (Nat.zero_le _) ⟨w_1, w_2, rfl⟩ ?_
        intro j hj
        cases hok : okS g h n lr.length (rowsX lr) (lc.getD (0 + (i : Int).toNat) rowD).xs j with
        | false =>
          have hB : fitB g h n (rowsX lr) (lc.getD (0 + (i : Int).toNat) rowD).xs = false := okS_no (j := j) hgs hhs (by omega) (by omega) (by rw [hrl]; exact hok)
          rw [hB, if_neg (by simp)] at hnx
          ((repeat' (first | refine stx ?_ | (refine stq ?_ ?_ <;> (intro hc; ((try simp at hc) <;> try contradiction))) | fail)) <;> try (exfalso; omega))
          all_goals exact ⟨[], (i + 1, new, cp), ⟨hil, by dsimp only; rw [hnx]; exact hF⟩, w_4, ⟨w_1, w_2, rfl⟩⟩
        | true =>
          by_cases hjl : j < lr.length
          · have emj : (lr.getD (0 + (j : Int).toNat) rowD) ∈ lr := by rw [show 0 + (j : Int).toNat = j by omega, getD_in hjl]; exact List.getElem_mem hjl
            have hYs := hr _ emj
            have hyl := hYs.1
            have hce := d_cellH n n j lr.length g.length cg g rfl hg (by omega) (by omega) (by omega) hlrn
            have hpr := fun m1 c1 m2 c2 (q1 : m1 = (lr.getD (0 + (j : Int).toNat) rowD).xs.length) (q2 : m2 = (lc.getD (0 + (i : Int).toNat) rowD).xs.length) => d_prodP n ch c1 c2 m1 m2 h (lr.getD (0 + (j : Int).toNat) rowD).xs (lc.getD (0 + (i : Int).toNat) rowD).xs hn hh hhn hYs hX q1 q2
            have es : okS g h n lr.length (rowsX lr) (lc.getD (0 + (i : Int).toNat) rowD).xs (j + 1) = decide (prodH h n (lr.getD (0 + (j : Int).toNat) rowD).xs (lc.getD (0 + (i : Int).toNat) rowD).xs = g.getD (j * n + lr.length) 0) := by
              rw [okS, hok, Bool.true_and, show 0 + (j : Int).toNat = j by omega, getD_in (l := lr) hjl, getD_in (show j < (rowsX lr).length by rw [hrl]; exact hjl)]
              simp [rowsX]
            ((repeat' (first | refine stp ?_ | (refine stq ?_ ?_ <;> (intro hc; ((try simp at hc) <;> try contradiction))) | fail)) <;> try (exfalso; omega))
            refine awp_held TM [(3, _), (4, _), (8, _), (9, _)] sb rfl (fun ρs => ?_)
            refine zt0 ?_
            refine zt1 ?_
            refine zt2 ?_
            refine zt3 ?_
            refine zt5 ?_
            refine zt6 ?_
            refine zt7 ?_
            refine zt10 ?_
            refine zt11 ?_
            refine zt12 ?_
            refine w_u [4, 8] kr rfl ⟨?_, ?_, trivial⟩
            first | (refine zho ?_) | refine zqb (hpr _ _ _ _ Zz Zz) ?_ | refine zqb (hce) ?_
            refine w_u [8] kr rfl ⟨?_, trivial⟩
            first | (refine zho ?_) | refine zqb (hpr _ _ _ _ Zz Zz) ?_ | refine zqb (hce) ?_
            refine w_u [9] kr rfl ⟨?_, trivial⟩
            first | (refine zho ?_) | refine zqb (hpr _ _ _ _ Zz Zz) ?_ | refine zqb (hce) ?_
            refine w_u [13] kr rfl ⟨?_, trivial⟩
            first | (refine zho ?_) | refine zqb (hpr _ _ _ _ Zz Zz) ?_ | refine zqb (hce) ?_
            refine zt14 ?_
            refine zt15 ?_
            refine w_v kr ?_
            rotate_left
            first | (refine zho ?_) | refine zqb (hpr _ _ _ _ Zz Zz) ?_ | refine zqb (hce) ?_
            refine w_u [4] kr rfl ⟨?_, trivial⟩
            first | (refine zho ?_) | refine zqb (hpr _ _ _ _ Zz Zz) ?_ | refine zqb (hce) ?_
            refine w_u [9] kr rfl ⟨?_, trivial⟩
            first | (refine zho ?_) | refine zqb (hpr _ _ _ _ Zz Zz) ?_ | refine zqb (hce) ?_
            refine w_u [13] kr rfl ⟨?_, trivial⟩
            first | (refine zho ?_) | refine zqb (hpr _ _ _ _ Zz Zz) ?_ | refine zqb (hce) ?_
            refine zt14 ?_
            refine zt15 ?_
            refine w_v kr ?_
            rotate_left
            all_goals ((repeat' (first | refine stp ?_ | (refine stq ?_ ?_ <;> (intro hc; ((try simp at hc) <;> try contradiction))) | fail)) <;> try (exfalso; omega))
            all_goals exact ⟨[], j + 1, hjl, w_4, ⟨⟨rfl, rfl, rfl, rfl, rfl, rfl, rfl, rfl, congrArg some (congrArg vB es.symm), rfl, trivial⟩, w_2, rfl⟩⟩
          · obtain rfl : j = lr.length := by omega
            have hB : fitB g h n (rowsX lr) (lc.getD (0 + (i : Int).toNat) rowD).xs = true := by
              rw [← okS_fit hgs hhs (by omega), hrl]; exact hok
            rw [hB, if_pos rfl, ← hF.len] at hnx
            have hlr2 : (([] ++ (lr.drop 0).take lr.length) ++ ([(⟨(lc.getD (0 + (i : Int).toNat) rowD).a, (lc.getD (0 + (i : Int).toNat) rowD).cap, (lc.getD (0 + (i : Int).toNat) rowD).xs, []⟩ : Row)].drop 0).take 1) = lr ++ [(⟨(lc.getD (0 + (i : Int).toNat) rowD).a, (lc.getD (0 + (i : Int).toNat) rowD).cap, (lc.getD (0 + (i : Int).toNat) rowD).xs, []⟩ : Row)] := by simp
            have hrec := fun c4 => d_searchS n cg ch cl most g h lc hn hg hh hgn hhn hgs hhs hl4 hcs hmost d (([] ++ (lr.drop 0).take lr.length) ++ ([(⟨(lc.getD (0 + (i : Int).toNat) rowD).a, (lc.getD (0 + (i : Int).toNat) rowD).cap, (lc.getD (0 + (i : Int).toNat) rowD).xs, []⟩ : Row)].drop 0).take 1) c4 cp (fln + new.length) (0 + lr.length + 1) (fl ++ new) (by simp; omega) (by
              rw [hlr2]
              intro r hr'
              rcases List.mem_append.1 hr' with e | e
              · exact hr r e
              · rw [List.mem_singleton.1 e]; exact hX) (by simp) (by simp [hfl]) hfu
            have hrx : rowsX (([] ++ (lr.drop 0).take lr.length) ++ ([(⟨(lc.getD (0 + (i : Int).toNat) rowD).a, (lc.getD (0 + (i : Int).toNat) rowD).cap, (lc.getD (0 + (i : Int).toNat) rowD).xs, []⟩ : Row)].drop 0).take 1) = rowsX lr ++ [(lc.getD (0 + (i : Int).toNat) rowD).xs] := by rw [hlr2]; simp [rowsX]
            rw [hrx] at hrec
            ((repeat' (first | refine stp ?_ | (refine stq ?_ ?_ <;> (intro hc; ((try simp at hc) <;> try contradiction))) | fail)) <;> try (exfalso; omega))
            refine awp_held TM [(3, _), (4, _), (8, _), (9, _)] sb rfl (fun ρs => ?_)
            refine zt0 ?_
            refine zt1 ?_
            refine zt2 ?_
            refine zt4 ?_
            refine zt6 ?_
            refine zt7 ?_
            refine zt8 ?_
            refine zt12 ?_
            refine zt13 ?_
            refine w_u [3, 9] kr rfl ⟨?_, ?_, trivial⟩
            first | (refine zho ?_) | (refine zqy ?_; intro cap hcap) | (refine zqf (hrec _) ?_; rintro v Hout n1 ⟨new', cap', hF', rfl, rfl, rfl⟩; refine ⟨sb, ?_⟩; refine awpH_ghost (Ghost.join 7 16 Zz Zz Zz) ?_; rintro _ _ ⟨rfl, rfl⟩)
            refine w_u [5, 9] kr rfl ⟨?_, ?_, trivial⟩
            first | (refine zho ?_) | (refine zqy ?_; intro cap hcap) | (refine zqf (hrec _) ?_; rintro v Hout n1 ⟨new', cap', hF', rfl, rfl, rfl⟩; refine ⟨sb, ?_⟩; refine awpH_ghost (Ghost.join 7 16 Zz Zz Zz) ?_; rintro _ _ ⟨rfl, rfl⟩)
            refine w_u [9] kr rfl ⟨?_, trivial⟩
            first | (refine zho ?_) | (refine zqy ?_; intro cap hcap) | (refine zqf (hrec _) ?_; rintro v Hout n1 ⟨new', cap', hF', rfl, rfl, rfl⟩; refine ⟨sb, ?_⟩; refine awpH_ghost (Ghost.join 7 16 Zz Zz Zz) ?_; rintro _ _ ⟨rfl, rfl⟩)
            refine w_u [10] kr rfl ⟨?_, trivial⟩
            first | (refine zho ?_) | (refine zqy ?_; intro cap hcap) | (refine zqf (hrec _) ?_; rintro v Hout n1 ⟨new', cap', hF', rfl, rfl, rfl⟩; refine ⟨sb, ?_⟩; refine awpH_ghost (Ghost.join 7 16 Zz Zz Zz) ?_; rintro _ _ ⟨rfl, rfl⟩)
            refine w_u [11] kr rfl ⟨?_, trivial⟩
            first | (refine zho ?_) | (refine zqy ?_; intro cap hcap) | (refine zqf (hrec _) ?_; rintro v Hout n1 ⟨new', cap', hF', rfl, rfl, rfl⟩; refine ⟨sb, ?_⟩; refine awpH_ghost (Ghost.join 7 16 Zz Zz Zz) ?_; rintro _ _ ⟨rfl, rfl⟩)
            refine w_u [14] kr rfl ⟨?_, trivial⟩
            first | (refine zho ?_) | (refine zqy ?_; intro cap hcap) | (refine zqf (hrec _) ?_; rintro v Hout n1 ⟨new', cap', hF', rfl, rfl, rfl⟩; refine ⟨sb, ?_⟩; refine awpH_ghost (Ghost.join 7 16 Zz Zz Zz) ?_; rintro _ _ ⟨rfl, rfl⟩)
            refine zt15 ?_
            refine w_v kr ?_
            rotate_left
            first | (refine zho ?_) | (refine zqy ?_; intro cap hcap) | (refine zqf (hrec _) ?_; rintro v Hout n1 ⟨new', cap', hF', rfl, rfl, rfl⟩; refine ⟨sb, ?_⟩; refine awpH_ghost (Ghost.join 7 16 Zz Zz Zz) ?_; rintro _ _ ⟨rfl, rfl⟩)
            refine w_u [5, 10] kr rfl ⟨?_, ?_, trivial⟩
            first | (refine zho ?_) | (refine zqy ?_; intro cap hcap) | (refine zqf (hrec _) ?_; rintro v Hout n1 ⟨new', cap', hF', rfl, rfl, rfl⟩; refine ⟨sb, ?_⟩; refine awpH_ghost (Ghost.join 7 16 Zz Zz Zz) ?_; rintro _ _ ⟨rfl, rfl⟩)
            refine w_u [10] kr rfl ⟨?_, trivial⟩
            first | (refine zho ?_) | (refine zqy ?_; intro cap hcap) | (refine zqf (hrec _) ?_; rintro v Hout n1 ⟨new', cap', hF', rfl, rfl, rfl⟩; refine ⟨sb, ?_⟩; refine awpH_ghost (Ghost.join 7 16 Zz Zz Zz) ?_; rintro _ _ ⟨rfl, rfl⟩)
            refine w_u [11] kr rfl ⟨?_, trivial⟩
            first | (refine zho ?_) | (refine zqy ?_; intro cap hcap) | (refine zqf (hrec _) ?_; rintro v Hout n1 ⟨new', cap', hF', rfl, rfl, rfl⟩; refine ⟨sb, ?_⟩; refine awpH_ghost (Ghost.join 7 16 Zz Zz Zz) ?_; rintro _ _ ⟨rfl, rfl⟩)
            refine w_u [14] kr rfl ⟨?_, trivial⟩
            first | (refine zho ?_) | (refine zqy ?_; intro cap hcap) | (refine zqf (hrec _) ?_; rintro v Hout n1 ⟨new', cap', hF', rfl, rfl, rfl⟩; refine ⟨sb, ?_⟩; refine awpH_ghost (Ghost.join 7 16 Zz Zz Zz) ?_; rintro _ _ ⟨rfl, rfl⟩)
            refine zt15 ?_
            refine w_v kr ?_
            rotate_left
            first | (refine zho ?_) | (refine zqy ?_; intro cap hcap) | (refine zqf (hrec _) ?_; rintro v Hout n1 ⟨new', cap', hF', rfl, rfl, rfl⟩; refine ⟨sb, ?_⟩; refine awpH_ghost (Ghost.join 7 16 Zz Zz Zz) ?_; rintro _ _ ⟨rfl, rfl⟩)
            refine w_u [5] kr rfl ⟨?_, trivial⟩
            first | (refine zho ?_) | (refine zqy ?_; intro cap hcap) | (refine zqf (hrec _) ?_; rintro v Hout n1 ⟨new', cap', hF', rfl, rfl, rfl⟩; refine ⟨sb, ?_⟩; refine awpH_ghost (Ghost.join 7 16 Zz Zz Zz) ?_; rintro _ _ ⟨rfl, rfl⟩)
            refine w_u [11] kr rfl ⟨?_, trivial⟩
            first | (refine zho ?_) | (refine zqy ?_; intro cap hcap) | (refine zqf (hrec _) ?_; rintro v Hout n1 ⟨new', cap', hF', rfl, rfl, rfl⟩; refine ⟨sb, ?_⟩; refine awpH_ghost (Ghost.join 7 16 Zz Zz Zz) ?_; rintro _ _ ⟨rfl, rfl⟩)
            refine w_u [14] kr rfl ⟨?_, trivial⟩
            first | (refine zho ?_) | (refine zqy ?_; intro cap hcap) | (refine zqf (hrec _) ?_; rintro v Hout n1 ⟨new', cap', hF', rfl, rfl, rfl⟩; refine ⟨sb, ?_⟩; refine awpH_ghost (Ghost.join 7 16 Zz Zz Zz) ?_; rintro _ _ ⟨rfl, rfl⟩)
            refine zt15 ?_
            refine w_v kr ?_
            rotate_left
            first | (refine zho ?_) | (refine zqy ?_; intro cap hcap) | (refine zqf (hrec _) ?_; rintro v Hout n1 ⟨new', cap', hF', rfl, rfl, rfl⟩; refine ⟨sb, ?_⟩; refine awpH_ghost (Ghost.join 7 16 Zz Zz Zz) ?_; rintro _ _ ⟨rfl, rfl⟩)
            refine w_u [3, 10] kr rfl ⟨?_, ?_, trivial⟩
            first | (refine zho ?_) | (refine zqy ?_; intro cap hcap) | (refine zqf (hrec _) ?_; rintro v Hout n1 ⟨new', cap', hF', rfl, rfl, rfl⟩; refine ⟨sb, ?_⟩; refine awpH_ghost (Ghost.join 7 16 Zz Zz Zz) ?_; rintro _ _ ⟨rfl, rfl⟩)
            refine w_u [5, 10] kr rfl ⟨?_, ?_, trivial⟩
            first | (refine zho ?_) | (refine zqy ?_; intro cap hcap) | (refine zqf (hrec _) ?_; rintro v Hout n1 ⟨new', cap', hF', rfl, rfl, rfl⟩; refine ⟨sb, ?_⟩; refine awpH_ghost (Ghost.join 7 16 Zz Zz Zz) ?_; rintro _ _ ⟨rfl, rfl⟩)
            refine w_u [10] kr rfl ⟨?_, trivial⟩
            first | (refine zho ?_) | (refine zqy ?_; intro cap hcap) | (refine zqf (hrec _) ?_; rintro v Hout n1 ⟨new', cap', hF', rfl, rfl, rfl⟩; refine ⟨sb, ?_⟩; refine awpH_ghost (Ghost.join 7 16 Zz Zz Zz) ?_; rintro _ _ ⟨rfl, rfl⟩)
            refine w_u [11] kr rfl ⟨?_, trivial⟩
            first | (refine zho ?_) | (refine zqy ?_; intro cap hcap) | (refine zqf (hrec _) ?_; rintro v Hout n1 ⟨new', cap', hF', rfl, rfl, rfl⟩; refine ⟨sb, ?_⟩; refine awpH_ghost (Ghost.join 7 16 Zz Zz Zz) ?_; rintro _ _ ⟨rfl, rfl⟩)
            refine w_u [14] kr rfl ⟨?_, trivial⟩
            first | (refine zho ?_) | (refine zqy ?_; intro cap hcap) | (refine zqf (hrec _) ?_; rintro v Hout n1 ⟨new', cap', hF', rfl, rfl, rfl⟩; refine ⟨sb, ?_⟩; refine awpH_ghost (Ghost.join 7 16 Zz Zz Zz) ?_; rintro _ _ ⟨rfl, rfl⟩)
            refine zt15 ?_
            refine w_v kr ?_
            rotate_left
            first | (refine zho ?_) | (refine zqy ?_; intro cap hcap) | (refine zqf (hrec _) ?_; rintro v Hout n1 ⟨new', cap', hF', rfl, rfl, rfl⟩; refine ⟨sb, ?_⟩; refine awpH_ghost (Ghost.join 7 16 Zz Zz Zz) ?_; rintro _ _ ⟨rfl, rfl⟩)
            refine w_u [5] kr rfl ⟨?_, trivial⟩
            first | (refine zho ?_) | (refine zqy ?_; intro cap hcap) | (refine zqf (hrec _) ?_; rintro v Hout n1 ⟨new', cap', hF', rfl, rfl, rfl⟩; refine ⟨sb, ?_⟩; refine awpH_ghost (Ghost.join 7 16 Zz Zz Zz) ?_; rintro _ _ ⟨rfl, rfl⟩)
            refine w_u [11] kr rfl ⟨?_, trivial⟩
            first | (refine zho ?_) | (refine zqy ?_; intro cap hcap) | (refine zqf (hrec _) ?_; rintro v Hout n1 ⟨new', cap', hF', rfl, rfl, rfl⟩; refine ⟨sb, ?_⟩; refine awpH_ghost (Ghost.join 7 16 Zz Zz Zz) ?_; rintro _ _ ⟨rfl, rfl⟩)
            refine w_u [14] kr rfl ⟨?_, trivial⟩
            first | (refine zho ?_) | (refine zqy ?_; intro cap hcap) | (refine zqf (hrec _) ?_; rintro v Hout n1 ⟨new', cap', hF', rfl, rfl, rfl⟩; refine ⟨sb, ?_⟩; refine awpH_ghost (Ghost.join 7 16 Zz Zz Zz) ?_; rintro _ _ ⟨rfl, rfl⟩)
            refine zt15 ?_
            refine w_v kr ?_
            rotate_left
            first | (refine zho ?_) | (refine zqy ?_; intro cap hcap) | (refine zqf (hrec _) ?_; rintro v Hout n1 ⟨new', cap', hF', rfl, rfl, rfl⟩; refine ⟨sb, ?_⟩; refine awpH_ghost (Ghost.join 7 16 Zz Zz Zz) ?_; rintro _ _ ⟨rfl, rfl⟩)
            refine w_u [3] kr rfl ⟨?_, trivial⟩
            first | (refine zho ?_) | (refine zqy ?_; intro cap hcap) | (refine zqf (hrec _) ?_; rintro v Hout n1 ⟨new', cap', hF', rfl, rfl, rfl⟩; refine ⟨sb, ?_⟩; refine awpH_ghost (Ghost.join 7 16 Zz Zz Zz) ?_; rintro _ _ ⟨rfl, rfl⟩)
            refine w_u [5] kr rfl ⟨?_, trivial⟩
            first | (refine zho ?_) | (refine zqy ?_; intro cap hcap) | (refine zqf (hrec _) ?_; rintro v Hout n1 ⟨new', cap', hF', rfl, rfl, rfl⟩; refine ⟨sb, ?_⟩; refine awpH_ghost (Ghost.join 7 16 Zz Zz Zz) ?_; rintro _ _ ⟨rfl, rfl⟩)
            refine w_u [11] kr rfl ⟨?_, trivial⟩
            first | (refine zho ?_) | (refine zqy ?_; intro cap hcap) | (refine zqf (hrec _) ?_; rintro v Hout n1 ⟨new', cap', hF', rfl, rfl, rfl⟩; refine ⟨sb, ?_⟩; refine awpH_ghost (Ghost.join 7 16 Zz Zz Zz) ?_; rintro _ _ ⟨rfl, rfl⟩)
            refine w_u [14] kr rfl ⟨?_, trivial⟩
            first | (refine zho ?_) | (refine zqy ?_; intro cap hcap) | (refine zqf (hrec _) ?_; rintro v Hout n1 ⟨new', cap', hF', rfl, rfl, rfl⟩; refine ⟨sb, ?_⟩; refine awpH_ghost (Ghost.join 7 16 Zz Zz Zz) ?_; rintro _ _ ⟨rfl, rfl⟩)
            refine zt15 ?_
            refine w_v kr ?_
            rotate_left
            all_goals ((repeat' (first | refine stp ?_ | (refine stq ?_ ?_ <;> (intro hc; ((try simp at hc) <;> try contradiction))) | fail)) <;> try (exfalso; omega))
            all_goals exact ⟨[(6, 15)], (i + 1, new ++ new', cap'), ⟨hil, by dsimp only; rw [hnx]; exact hF.app hF'⟩, w_4, ⟨w_1, ⟨rfl, rfl, rfl, rfl, own_mats (List.append_assoc _ _ _), own_tok (by rw [List.map_append]), rfl, rfl, trivial⟩, rfl⟩⟩
      · have hst := accN_stop (g := g) (h := h) (n := n) (most := most) (pool := rowsX lc) (d := d) (rows := rowsX lr) (k := fln) (p := i) (by rw [← hF.len]; omega) (lc.length - i) (by omega)
        rw [show i + (lc.length - i) = (rowsX lc).length by omega] at hst
        rw [hst]
        ((repeat' (first | refine stx ?_ | (refine stq ?_ ?_ <;> (intro hc; ((try simp at hc) <;> try contradiction))) | fail)) <;> try (exfalso; omega))
        all_goals exact fin rfl w_3 [] (.one (.sl 6 3 0 (fln + new.length) cp)) [(6, .own 26 cp (.mats false (fl ++ new))), (7, .tok 3 false (new.map fun m => m.2.2))] 8 ⟨new, cp, hF, rfl, rfl, rfl⟩ rfl ⟨trivial, ⟨rfl, rfl, trivial⟩, rfl⟩ rfl
    · obtain rfl : i = lc.length := by omega
      rw [hcl]
      ((repeat' (first | refine stx ?_ | (refine stq ?_ ?_ <;> (intro hc; ((try simp at hc) <;> try contradiction))) | fail)) <;> try (exfalso; omega))
      all_goals exact fin rfl w_3 [] (.one (.sl 6 3 0 (fln + new.length) cp)) [(6, .own 26 cp (.mats false (fl ++ new))), (7, .tok 3 false (new.map fun m => m.2.2))] 8 ⟨new, cp, hF, rfl, rfl, rfl⟩ rfl ⟨trivial, ⟨rfl, rfl, trivial⟩, rfl⟩ rfl
end Go.Proofs.YtekpamojojfplaaGreat
namespace Go.Proofs.YtekpamojojfplaaGreat
open Go.RowKit
theorem poolI_take {S : List (List Int)} {i : Nat} (h : i < S.length) : poolI (S.take (i + 1)) = poolI (S.take i) ++ [S[i], S[i].map fun x => -x] := by
  rw [List.take_succ_eq_append_getElem h, poolI, List.flatMap_append]; rfl
theorem can_rows {l lo : List Row} {i : Nat} {a1 a2 : Option (Nat × Nat)} {c1 c2 : Nat} {x : List Int} (h : rowsX lo = poolI (rowsX (l.take i))) (hp : poolI ((rowsX l).take (i + 1)) = poolI ((rowsX l).take i) ++ [x, x.map fun x => -x]) :
    rowsX (lo ++ ([(⟨a1, c1, x, []⟩ : Row)].drop 0).take 1 ++ ([(⟨a2, c2, x.map fun x => -x, []⟩ : Row)].drop 0).take 1) = poolI (rowsX (l.take (i + 1))) := by
  have e : ∀ j, rowsX (l.take j) = (rowsX l).take j := fun j => by simp [rowsX]
  rw [e] at h ⊢
  rw [hp, ← h]
  simp [rowsX]
theorem can_perm {ls lt lo : List Row} {i : Nat} {r w : Row} (hi : i < ls.length) (h : lt.Perm (ls.drop i ++ lo)) (e : ls[i] = r) : (lt ++ [w]).Perm (ls.drop (i + 1) ++ (lo ++ ([r].drop 0).take 1 ++ ([w].drop 0).take 1)) := by
  rw [← List.getElem_cons_drop hi, e] at h
  refine (h.append_right [w]).trans ?_
  show (r :: (ls.drop (i + 1) ++ lo) ++ [w]).Perm (ls.drop (i + 1) ++ (lo ++ [r] ++ [w]))
  rw [← List.append_assoc, ← List.append_assoc]
  exact List.Perm.append_right [w] (List.perm_append_singleton r _).symm
def CanR (th ti : TypeId) (o : Option (List (List Int))) (k : Nat) (v : AV) (Hout : List (Nat × Blk)) (n1 : Nat) : Prop := match o with
  | none => v = .tup [.one (.sl k 1 0 0 0), .one (.bool false)] ∧ Hout = [(k, .own th 0 (.rows false true []))] ∧ n1 = k + 1
  | some S => ∃ (l : List Row) (cap : Nat), rowsX l = poolI S ∧ v = .tup [.one (.sl k 1 0 l.length cap), .one (.bool true)] ∧ Hout = [(k, .own th cap (.rows false true l)), (k + 1, .tok ti false l)] ∧ n1 = k + 2
set_option maxRecDepth 100000 in
set_option maxHeartbeats 4000000 in
theorem d_cands (n : Nat) (g : List Int) (b : Int) (ca : Nat) (hl : g.length ≤ 1099511627776) : Does Tryz.prog 102 [vM n n 1 g.length ca, vI b] [(1, .ro (.ints g))] 2 (CanR 24 3 (shO n n g b) 2) := by
 have hsh := d_shS n n g b ca hl
 refine Does.intro TT Tryz.func102 rfl (by kernel_rfl) Zz Zz fun E hE => ?_
 cases hS : shO n n g b with
 | none =>
  rw [hS] at hsh
  ((repeat' (first | refine stx ?_ | ((refine zqe (hsh) ?_); rintro v Hout n1 ⟨rfl, rfl, rfl⟩) | (refine stq ?_ ?_ <;> (intro hc; ((try simp at hc) <;> try contradiction))) | fail)) <;> try (exfalso; omega))
  refine w_G hE (fun _ : Unit => True) (fun _ => 0)
   (fun _ => [(6, vS 3 1 0 0 0), (7, vB false), (8, vS 4 1 0 0 0), (9, vI 0)])
   (fun _ => [(3, .own 24 0 (.rows false true [])), (4, .own 24 0 (.rows false true []))]) 5 [] () trivial ⟨w_1, w_2, rfl⟩ ?_
  rintro ⟨⟩ -
  ((repeat' (first | refine stx ?_ | (refine stq ?_ ?_ <;> (intro hc; ((try simp at hc) <;> try contradiction))) | fail)) <;> try (exfalso; omega))
  exact fin rfl w_3 [(2, 4)] (.tup [.one (.sl 2 1 0 0 0), .one (.bool false)]) [(2, .own 24 0 (.rows false true []))] 3 ⟨rfl, rfl, rfl⟩ rfl ⟨trivial, ⟨rfl, trivial⟩, rfl⟩ rfl
 | some S0 =>
  rw [hS] at hsh
  have hsm : ∀ v ∈ S0, Sm n v := fun v hv => sh_sm hS hv
  have hS4 := sh_4000 hS
  have hn6 : n ≤ 6 := by
   obtain ⟨w, L, hB, -, -, -⟩ := shO_some hS
   obtain ⟨m, e1, -, h6, -⟩ := boxG_some hB
   omega
  ((repeat' (first | refine stx ?_ | ((refine zqe (hsh) ?_); rintro v Hout n1 ⟨l, cl, hlx, rfl, rfl, rfl⟩) | (refine stq ?_ ?_ <;> (intro hc; ((try simp at hc) <;> try contradiction))) | fail)) <;> try (exfalso; omega))
  have hll : l.length ≤ 4000 := by rw [← hlx] at hS4; simpa [rowsX] using hS4
  ((first | refine awpL_ghost (Ghost.partN 4 (l.map stripR) rfl (fun r hr => by obtain ⟨r0, h0, rfl⟩ := List.mem_map.1 hr; exact ⟨r0, h0, rfl, rfl, rfl⟩) (fun h => List.pairwise_map.2 (h.imp fun h => h))) ?_ | refine awp_ghost (Ghost.partN 4 (l.map stripR) rfl (fun r hr => by obtain ⟨r0, h0, rfl⟩ := List.mem_map.1 hr; exact ⟨r0, h0, rfl, rfl, rfl⟩) (fun h => List.pairwise_map.2 (h.imp fun h => h))) ?_ | refine awpH_ghost (Ghost.partN 4 (l.map stripR) rfl (fun r hr => by obtain ⟨r0, h0, rfl⟩ := List.mem_map.1 hr; exact ⟨r0, h0, rfl, rfl, rfl⟩) (fun h => List.pairwise_map.2 (h.imp fun h => h))) ?_ | refine awpHop_ghost (Ghost.partN 4 (l.map stripR) rfl (fun r hr => by obtain ⟨r0, h0, rfl⟩ := List.mem_map.1 hr; exact ⟨r0, h0, rfl, rfl, rfl⟩) (fun h => List.pairwise_map.2 (h.imp fun h => h))) ?_); rintro _ _ ⟨rfl, rfl⟩)
  ((first | refine awpL_ghost (Ghost.retell 3 4 (.rows false true (l.map stripR)) Zz Zz (by show (l.map stripR).flatMap _ = l.flatMap _; rw [List.flatMap_map]; rfl) (by show (l.map stripR).length = l.length; exact List.length_map _) rfl (fun x hx => by obtain ⟨r, hr, rfl⟩ := List.mem_map.1 hx; exact ⟨rfl, hr⟩)) ?_ | refine awp_ghost (Ghost.retell 3 4 (.rows false true (l.map stripR)) Zz Zz (by show (l.map stripR).flatMap _ = l.flatMap _; rw [List.flatMap_map]; rfl) (by show (l.map stripR).length = l.length; exact List.length_map _) rfl (fun x hx => by obtain ⟨r, hr, rfl⟩ := List.mem_map.1 hx; exact ⟨rfl, hr⟩)) ?_ | refine awpH_ghost (Ghost.retell 3 4 (.rows false true (l.map stripR)) Zz Zz (by show (l.map stripR).flatMap _ = l.flatMap _; rw [List.flatMap_map]; rfl) (by show (l.map stripR).length = l.length; exact List.length_map _) rfl (fun x hx => by obtain ⟨r, hr, rfl⟩ := List.mem_map.1 hx; exact ⟨rfl, hr⟩)) ?_ | refine awpHop_ghost (Ghost.retell 3 4 (.rows false true (l.map stripR)) Zz Zz (by show (l.map stripR).flatMap _ = l.flatMap _; rw [List.flatMap_map]; rfl) (by show (l.map stripR).length = l.length; exact List.length_map _) rfl (fun x hx => by obtain ⟨r, hr, rfl⟩ := List.mem_map.1 hx; exact ⟨rfl, hr⟩)) ?_); rintro _ _ ⟨rfl, rfl⟩)
  have hlx2 : rowsX (l.map stripR) = S0 := by rw [← hlx, rowsX, rowsX, List.map_map]; rfl
  have hlps : ∀ r ∈ l.map stripR, r.ps = [] := fun r hr => by obtain ⟨r0, h0, rfl⟩ := List.mem_map.1 hr; rfl
  have hlen : (l.map stripR).length = l.length := List.length_map _
  generalize l.map stripR = ls at *
  refine w_G hE (fun x : Nat × List Row × Nat × List Row => x.1 ≤ l.length ∧ rowsX x.2.1 = poolI (rowsX (ls.take x.1)) ∧ x.2.1.length = 2 * x.1 ∧ x.2.2.2.Perm (ls.drop x.1 ++ x.2.1)) (fun x => l.length - x.1)
   (fun x => [(6, vS 3 1 0 l.length cl), (7, vB true), (8, vS 5 1 0 x.2.1.length x.2.2.1), (9, vI x.1)])
   (fun x => [(3, .own 24 cl (.rows false true ls)), (4, .tok 3 false x.2.2.2), (5, .own 24 x.2.2.1 (.rows false true x.2.1))]) 6 [] (0, [], 0, ls) ⟨Nat.zero_le _, rfl, rfl, by simp⟩ ⟨w_1, w_2, rfl⟩ ?_
  rintro ⟨i, lo, cp, lt⟩ ⟨h1, h2, h3, h4⟩
  dsimp only at h1 h2 h3 h4
  by_cases hi : i < l.length
  ·have hi2 : i < ls.length := by omega
   have e1 : ls.getD (0 + (i : Int).toNat) rowD = ls[i] := by rw [show 0 + (i : Int).toNat = i by omega, getD_in hi2]
   have em : (ls.getD (0 + (i : Int).toNat) rowD) ∈ ls := by rw [e1]; exact List.getElem_mem hi2
   have g4 := row_eta (hlps _ em)
   have hX : Sm n (ls.getD (0 + (i : Int).toNat) rowD).xs := hsm _ (by rw [← hlx2]; exact List.mem_map.2 ⟨_, em, rfl⟩)
   have hxl := hX.1
   have hpt := poolI_take (S := rowsX ls) (i := i) (by simpa [rowsX] using hi2)
   have hpx : (rowsX ls)[i]'(by simpa [rowsX] using hi2) = (ls.getD (0 + (i : Int).toNat) rowD).xs := by rw [e1]; simp [rowsX]
   rw [hpx] at hpt
   ((repeat' (first | refine stx ?_ | (refine stq ?_ ?_ <;> (intro hc; ((try simp at hc) <;> try contradiction))) | fail)) <;> try (exfalso; omega))
   refine w_G hE (fun x : Nat × Nat => x.1 ≤ (ls.getD (0 + (i : Int).toNat) rowD).xs.length ∧ x.1 ≤ x.2) (fun x => (ls.getD (0 + (i : Int).toNat) rowD).xs.length - x.1)
    (fun x => [(6, vS 3 1 0 l.length cl), (7, vB true), (8, vS 5 1 0 lo.length cp), (9, vI i), (10, vS 6 1 0 x.1 x.2), (11, vI x.1)])
    (fun x => [(3, .own 24 cl (.rows false true ls)), (4, .tok 3 false lt), (5, .own 24 cp (.rows false true lo)), (6, .own 3 x.2 (.ints (((ls.getD (0 + (i : Int).toNat) rowD).xs.take x.1).map fun x => -x)))]) 7 [] (0, 0) ⟨Nat.zero_le _, Nat.zero_le _⟩ ⟨w_1, w_2, rfl⟩ ?_
   rintro ⟨k, cw⟩ ⟨k1, k2⟩
   dsimp only at k1 k2
   by_cases hk : k < (ls.getD (0 + (i : Int).toNat) rowD).xs.length
   ·have hk2 : k < (ls[i]?.getD rowD).xs.length := by simpa using hk
    have hb1 := hX.2 (0 + (k : Int).toNat)
    have hb2 := hX.2 k
    have en : ((ls.getD (0 + (i : Int).toNat) rowD).xs.take (k + 1)).map (fun x => -x) = (((ls.getD (0 + (i : Int).toNat) rowD).xs.take k).map fun x => -x) ++ [-((ls.getD (0 + (i : Int).toNat) rowD).xs.getD (0 + (k : Int).toNat) 0)] := by
     rw [List.take_succ_eq_append_getElem hk, List.map_append, show 0 + (k : Int).toNat = k by omega, getD_in hk]; rfl
    have ek : (((ls.getD (0 + (i : Int).toNat) rowD).xs.take k).map fun x => -x).length = k := by rw [List.length_map, List.length_take]; omega
    ((repeat' (first | refine stx ?_ | (refine zqx ?_; intro cap hcap) | (refine stq ?_ ?_ <;> (intro hc; ((try simp at hc) <;> try contradiction))) | fail)) <;> try (exfalso; omega))
    all_goals exact ⟨[(6, 10)], (k + 1, cap), ⟨hk, by dsimp only at hcap ⊢; omega⟩, w_4, ⟨w_1, ⟨rfl, rfl, rfl, own_ints en.symm, trivial⟩, rfl⟩⟩
   ·obtain rfl : k = (ls.getD (0 + (i : Int).toNat) rowD).xs.length := by omega
    rw [List.take_length]
    ((first | refine awpL_ghost (Ghost.freeze 6 4 Zz Zz) ?_ | refine awp_ghost (Ghost.freeze 6 4 Zz Zz) ?_ | refine awpH_ghost (Ghost.freeze 6 4 Zz Zz) ?_ | refine awpHop_ghost (Ghost.freeze 6 4 Zz Zz) ?_); rintro _ _ ⟨an, rfl, rfl⟩)
    ((repeat' (first | refine stx ?_ | (refine zqx ?_; intro cap hcap) | (refine stq ?_ ?_ <;> (intro hc; ((try simp at hc) <;> try contradiction))) | fail)) <;> try (exfalso; omega))
    all_goals exact ⟨[(5, 12)], (i + 1, _, _, _), ⟨hi, can_rows h2 hpt, by simp; omega, can_perm hi2 h4 (by rw [← e1, g4])⟩, w_4, ⟨w_1, ⟨rfl, rfl, rfl, trivial⟩, rfl⟩⟩
  ·obtain rfl : i = l.length := by omega
   rw [List.take_of_length_le (by omega), hlx2] at h2
   rw [List.drop_eq_nil_of_le (by omega), List.nil_append] at h4
   ((first | refine awpL_ghost (Ghost.part 4 (l' := lo) rfl (fun r hr => h4.mem_iff.2 hr) (fun hp => (h4.pairwise_iff (fun h => h.symm)).1 hp)) ?_ | refine awp_ghost (Ghost.part 4 (l' := lo) rfl (fun r hr => h4.mem_iff.2 hr) (fun hp => (h4.pairwise_iff (fun h => h.symm)).1 hp)) ?_ | refine awpH_ghost (Ghost.part 4 (l' := lo) rfl (fun r hr => h4.mem_iff.2 hr) (fun hp => (h4.pairwise_iff (fun h => h.symm)).1 hp)) ?_ | refine awpHop_ghost (Ghost.part 4 (l' := lo) rfl (fun r hr => h4.mem_iff.2 hr) (fun hp => (h4.pairwise_iff (fun h => h.symm)).1 hp)) ?_); rintro _ _ ⟨rfl, rfl⟩)
   ((repeat' (first | refine stx ?_ | (refine stq ?_ ?_ <;> (intro hc; ((try simp at hc) <;> try contradiction))) | fail)) <;> try (exfalso; omega))
   exact fin rfl w_3 [(2, 5), (3, 4)] (.tup [.one (.sl 2 1 0 lo.length cp), .one (.bool true)]) [(2, .own 24 cp (.rows false true lo)), (3, .tok 3 false lo)] 4 ⟨lo, cp, h2, rfl, rfl, rfl⟩ rfl ⟨trivial, ⟨rfl, rfl, trivial⟩, rfl⟩ rfl
end Go.Proofs.YtekpamojojfplaaGreat
