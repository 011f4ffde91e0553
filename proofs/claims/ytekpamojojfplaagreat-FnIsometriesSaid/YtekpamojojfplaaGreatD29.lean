/-
  TEXTS OF THE PROOF, put together: bSearch, bProdS.
-/
import Derived.Test.YtekpamojojfplaaGreatD27
import Derived.Test.YtekpamojojfplaaGreatD12
import Derived.Test.YtekpamojojfplaaGreatD24
import Derived.Test.YtekpamojojfplaaGreatD28
import Derived.Test.YtekpamojojfplaaGreatD19
import Derived.Test.YtekpamojojfplaaGreatD11
import Derived.Test.YtekpamojojfplaaGreatD21
set_option linter.unusedVariables false
set_option linter.unusedSimpArgs false
namespace Go.Proofs.YtekpamojojfplaaGreat
open Go.RowKit
def Fnd (n : Nat) (new : List (Int × Int × Row)) (L : List (List Int)) : Prop := new.map (fun m => (m.1, m.2.1, m.2.2.xs)) = L.map fun c => ((n : Int), (n : Int), c)
theorem Fnd.len {n : Nat} {new : List (Int × Int × Row)} {L : List (List Int)} (h : Fnd n new L) : new.length = L.length := by
  have := congrArg List.length h
  simpa using this
theorem Fnd.app {n : Nat} {new new' : List (Int × Int × Row)} {L L' : List (List Int)} (h : Fnd n new L) (h' : Fnd n new' L') : Fnd n (new ++ new') (L ++ L') := by
  unfold Fnd at *
  rw [List.map_append, List.map_append, h, h']
theorem own_mats {t : TypeId} {c : Nat} {m : Nat → Nat} {a b : List (Int × Int × Row)} (h : a = b) : some (Blk.own t c (.mats false a)) = some ((Blk.own t c (.mats false b)).ren m) := by subst h; rfl
theorem own_iso {t : TypeId} {n gl cg hl ch cl cc fl fl' fc : Nat} {most : Int} {m : Nat → Nat} (h : fl = fl') (h1 : m 1 = 1 := by rfl) (h2 : m 2 = 2 := by rfl) (h3 : m 3 = 3 := by rfl) {k : Nat} (h6 : m 7 = k := by rfl) : some (Blk.own t 1 (.lit (isoL n gl cg hl ch cl cc most k fl fc))) = some ((Blk.own t 1 (.lit (isoL n gl cg hl ch cl cc most 7 fl' fc))).ren m) := by subst h h6; simp [Blk.ren, Elts.ren, SV.ren, h1, h2, h3]
theorem own_tok {t : TypeId} {q : Bool} {m : Nat → Nat} {a b : List Row} (h : a = b) : some (Blk.tok t q a) = some ((Blk.tok t q b).ren m) := by subst h; rfl
theorem cells_len {n : Nat} : ∀ {lr : List Row}, (∀ r ∈ lr, Sm n r.xs) → (cellsOf lr).length = lr.length * n
  | [], _ => by simp [cellsOf]
  | r :: lr, h => by
    have ih := cells_len (lr := lr) fun x hx => h x (by simp [hx])
    have := (h r (by simp)).1
    simp only [cellsOf, List.flatMap_cons, List.length_append, List.length_cons, Nat.succ_mul] at *
    omega
theorem flat_cells {lr : List Row} : (rowsX lr).flatten = cellsOf lr := by
  simp [rowsX, cellsOf, List.flatMap_def]
def SchR (tm ti tx : TypeId) (n gl cg hl ch cl cc : Nat) (most : Int) (fl : List (Int × Int × Row)) (fln : Nat) (L : List (List Int)) (v : AV) (Hout : List (Nat × Blk)) (n1 : Nat) : Prop :=
  ∃ (new : List (Int × Int × Row)) (cap : Nat), Fnd n new L ∧ v = .tup [] ∧ Hout = [(5, .own tx 1 (.lit (isoL n gl cg hl ch cl cc most 7 (fln + new.length) cap))), (7, .own tm cap (.mats false (fl ++ new))), (8, .tok ti false (new.map fun m => m.2.2))] ∧ n1 = 9
theorem neg_row {n : Nat} {x : List Int} (h : Sm n x) : x.all numB = true := List.all_eq_true.2 fun z hz => by
  obtain ⟨j, hj, rfl⟩ := List.mem_iff_getElem.1 hz
  have := h.2 j
  rw [getD_in hj] at this
  exact numB_true.2 (by omega)
set_option maxRecDepth 100000 in
set_option maxHeartbeats 16000000 in
theorem d_search (n cg ch cc most : Nat) (g h : List Int) (lc : List Row) (hn : n ≤ 6) (hg : g.length = n * n) (hh : h.length = n * n) (hgn : g.all numB = true) (hhn : h.all numB = true) (hl4 : lc.length ≤ 4000) (hcs : ∀ r ∈ lc, Sm n r.xs) (hmost : most ≤ 1000) :
    ∀ (d : Nat) (lr : List Row) (c4 fc fln m : Nat) (fl : List (Int × Int × Row)), lr.length + d = n → (∀ r ∈ lr, Sm n r.xs) → m = lr.length → fln = fl.length → fln ≤ most → m ≤ c4 →
    Does Tryz.prog 46 [.one (.ptr 5 9 0 0), vS 4 1 0 m c4] [(1, .ro (.ints g)), (2, .ro (.ints h)), (3, .ro (.rows false true lc)), (4, .ro (.rows false true lr)), (5, .own 64 1 (.lit (isoL n g.length cg h.length ch lc.length cc most 6 fln fc))), (6, .own 26 fc (.mats false fl))] 7
      (SchR 26 3 64 n g.length cg h.length ch lc.length cc most fl fln (schN g h n most (poolI (rowsX lc)) d (rowsX lr) fln))
  | 0, lr, c4, fc, fln, m, fl, hd, hr, hm, hfl, hfm, hc4 => by
    subst hm
    refine Does.intro TT Tryz.func46 rfl (by kernel_rfl) Zz Zz fun E hE => ?_
    ((first | refine awpL_ghost (Ghost.newTok 3 false) ?_ | refine awp_ghost (Ghost.newTok 3 false) ?_ | refine awpH_ghost (Ghost.newTok 3 false) ?_ | refine awpHop_ghost (Ghost.newTok 3 false) ?_); rintro _ _ ⟨rfl, rfl⟩)
    obtain rfl : lr.length = n := by omega
    have hcl2 : (cellsOf lr).length ≤ 1000000 := by
      rw [cells_len hr]
      have := Nat.mul_le_mul hn hn
      omega
    have hfr := fun cp => d_fromRows lr lr.length cp (by omega) hcl2
    by_cases hmf : most ≤ fln
    · rw [schN_stop hmf]
      ((repeat' (first | refine stx ?_ | (refine stq ?_ ?_ <;> (intro hc; ((try simp at hc) <;> try contradiction))) | fail)) <;> try (exfalso; omega))
      all_goals exact fin rfl w_3 [(7, 6), (8, 7)] (.tup []) [(5, .own 64 1 (.lit (isoL lr.length g.length cg h.length ch lc.length cc most 7 (fln + 0) fc))), (7, .own 26 fc (.mats false (fl ++ []))), (8, .tok 3 false [])] 9 ⟨[], fc, rfl, rfl, rfl, rfl⟩ rfl ⟨trivial, ⟨rfl, own_mats (List.append_nil fl).symm, rfl, trivial⟩, rfl⟩ rfl
    · rw [schN, if_neg hmf, flat_cells]
      ((repeat' (first | refine stp ?_ | (refine stq ?_ ?_ <;> (intro hc; ((try simp at hc) <;> try contradiction))) | fail)) <;> try (exfalso; omega))
      refine w_o TM rfl kr ?_
      ((repeat' (first | refine stp ?_ | (refine stq ?_ ?_ <;> (intro hc; ((try simp at hc) <;> try contradiction))) | fail)) <;> try (exfalso; omega))
      refine awp_held TM [(4, _)] sb rfl (fun ρs => ?_)
      refine zt0 ?_
      refine zt1 ?_
      refine awpH_nck 2 rfl kr kr kr nh Zz Zz Zz Zz Zz sd ?_
      refine awpH_fld TT 3 rfl kr kr kr nh Zz Zz Zz Zz Zz sd ?_
      refine zt5 ?_
      refine zt6 ?_
      refine awpH_nck 7 rfl kr kr kr nh Zz Zz Zz Zz Zz sd ?_
      refine awpH_fld TT 8 rfl kr kr kr nh Zz Zz Zz Zz Zz sd ?_
      refine awpH_fld TT 9 rfl kr kr kr nh Zz Zz Zz Zz Zz sd ?_
      refine w_u [4, 10] kr rfl ⟨?_, ?_, trivial⟩
      refine zho ?_
      refine w_u [10] kr rfl ⟨?_, trivial⟩
      refine zho ?_
      refine w_u [11] kr rfl ⟨?_, trivial⟩
      (refine zqf (hfr _) ?_; rintro v Hout n1 ⟨cw, hcw, rfl, rfl, rfl⟩; refine ⟨sb, ?_⟩; refine awpH_ghost (Ghost.freeze 8 7 Zz Zz) ?_; rintro _ _ ⟨a8, rfl, rfl⟩)
      refine w_u [12] kr rfl ⟨?_, trivial⟩
      refine zho ?_
      refine w_u [13] kr rfl ⟨?_, trivial⟩
      (refine awpHop_ghost (Ghost.forget 9 Zz Zz) ?_; rintro _ _ ⟨rfl, rfl⟩; ((first | refine zqx ?_ | refine zqy ?_); intro cap hcap))
      refine awpH_nck 14 rfl kr kr kr nh Zz Zz Zz Zz Zz sd ?_
      refine awpH_fld TT 15 rfl kr kr kr nh Zz Zz Zz Zz Zz sd ?_
      refine w_u [16] kr rfl ⟨?_, trivial⟩
      refine zho ?_
      refine w_v kr ?_
      rotate_left
      refine zho ?_
      refine w_u [4, 11] kr rfl ⟨?_, ?_, trivial⟩
      refine zho ?_
      refine w_u [11] kr rfl ⟨?_, trivial⟩
      (refine zqf (hfr _) ?_; rintro v Hout n1 ⟨cw, hcw, rfl, rfl, rfl⟩; refine ⟨sb, ?_⟩; refine awpH_ghost (Ghost.freeze 8 7 Zz Zz) ?_; rintro _ _ ⟨a8, rfl, rfl⟩)
      refine w_u [12] kr rfl ⟨?_, trivial⟩
      refine zho ?_
      refine w_u [13] kr rfl ⟨?_, trivial⟩
      (refine awpHop_ghost (Ghost.forget 9 Zz Zz) ?_; rintro _ _ ⟨rfl, rfl⟩; ((first | refine zqx ?_ | refine zqy ?_); intro cap hcap))
      refine awpH_nck 14 rfl kr kr kr nh Zz Zz Zz Zz Zz sd ?_
      refine awpH_fld TT 15 rfl kr kr kr nh Zz Zz Zz Zz Zz sd ?_
      refine w_u [16] kr rfl ⟨?_, trivial⟩
      refine zho ?_
      refine w_v kr ?_
      rotate_left
      (refine zqf (hfr _) ?_; rintro v Hout n1 ⟨cw, hcw, rfl, rfl, rfl⟩; refine ⟨sb, ?_⟩; refine awpH_ghost (Ghost.freeze 8 7 Zz Zz) ?_; rintro _ _ ⟨a8, rfl, rfl⟩)
      refine w_u [4, 12] kr rfl ⟨?_, ?_, trivial⟩
      refine zho ?_
      refine w_u [12] kr rfl ⟨?_, trivial⟩
      refine zho ?_
      refine w_u [13] kr rfl ⟨?_, trivial⟩
      (refine awpHop_ghost (Ghost.forget 9 Zz Zz) ?_; rintro _ _ ⟨rfl, rfl⟩; ((first | refine zqx ?_ | refine zqy ?_); intro cap hcap))
      refine awpH_nck 14 rfl kr kr kr nh Zz Zz Zz Zz Zz sd ?_
      refine awpH_fld TT 15 rfl kr kr kr nh Zz Zz Zz Zz Zz sd ?_
      refine w_u [16] kr rfl ⟨?_, trivial⟩
      refine zho ?_
      refine w_v kr ?_
      rotate_left
      refine zho ?_
      refine w_u [4] kr rfl ⟨?_, trivial⟩
      refine zho ?_
      refine w_u [13] kr rfl ⟨?_, trivial⟩
      (refine awpHop_ghost (Ghost.forget 9 Zz Zz) ?_; rintro _ _ ⟨rfl, rfl⟩; ((first | refine zqx ?_ | refine zqy ?_); intro cap hcap))
      refine awpH_nck 14 rfl kr kr kr nh Zz Zz Zz Zz Zz sd ?_
      refine awpH_fld TT 15 rfl kr kr kr nh Zz Zz Zz Zz Zz sd ?_
      refine w_u [16] kr rfl ⟨?_, trivial⟩
      refine zho ?_
      refine w_v kr ?_
      rotate_left
      all_goals ((repeat' (first | refine stx ?_ | (refine stq ?_ ?_ <;> (intro hc; ((try simp at hc) <;> try contradiction))) | fail)) <;> try (exfalso; omega))
      all_goals exact fin rfl w_3 [(7, 10), (8, 7)] (.tup []) [(5, .own 64 1 (.lit (isoL lr.length g.length cg h.length ch lc.length cc most 7 (fln + 1) cap))), (7, .own 26 cap (.mats false (fl ++ [((lr.length : Int), (lr.length : Int), (⟨a8, cw, cellsOf lr, []⟩ : Row))]))), (8, .tok 3 false [⟨a8, cw, cellsOf lr, []⟩])] 9 ⟨[((lr.length : Int), (lr.length : Int), (⟨a8, cw, cellsOf lr, []⟩ : Row))], cap, rfl, rfl, rfl, rfl⟩ rfl ⟨trivial, ⟨rfl, rfl, rfl, trivial⟩, rfl⟩ rfl
  | d + 1, lr, c4, fc, fln, m, fl, hd, hr, hm, hfl, hfm, hc4 => by
    subst hm
    refine Does.intro TT Tryz.func46 rfl (by kernel_rfl) Zz Zz fun E hE => ?_
    ((first | refine awpL_ghost (Ghost.newTok 3 false) ?_ | refine awp_ghost (Ghost.newTok 3 false) ?_ | refine awpH_ghost (Ghost.newTok 3 false) ?_ | refine awpHop_ghost (Ghost.newTok 3 false) ?_); rintro _ _ ⟨rfl, rfl⟩)
    have hlrn : lr.length < n := by omega
    have hpl : (poolI (rowsX lc)).length = 2 * lc.length := by rw [poolI_len]; simp [rowsX]
    by_cases hmf : most ≤ fln
    · rw [schN_stop hmf]
      ((repeat' (first | refine stx ?_ | (refine stq ?_ ?_ <;> (intro hc; ((try simp at hc) <;> try contradiction))) | fail)) <;> try (exfalso; omega))
      all_goals exact fin rfl w_3 [(7, 6), (8, 7)] (.tup []) [(5, .own 64 1 (.lit (isoL n g.length cg h.length ch lc.length cc most 7 (fln + 0) fc))), (7, .own 26 fc (.mats false (fl ++ []))), (8, .tok 3 false [])] 9 ⟨[], fc, rfl, rfl, rfl, rfl⟩ rfl ⟨trivial, ⟨rfl, own_mats (List.append_nil fl).symm, rfl, trivial⟩, rfl⟩ rfl
    · rw [schN_go hmf]
      ((repeat' (first | refine stx ?_ | (refine stq ?_ ?_ <;> (intro hc; ((try simp at hc) <;> try contradiction))) | fail)) <;> try (exfalso; omega))
      refine w_G hE (fun x : Nat × List (Int × Int × Row) × Nat => x.1 ≤ lc.length ∧ Fnd n x.2.1 (accN g h n most (poolI (rowsX lc)) d (rowsX lr) fln (2 * x.1))) (fun x => lc.length - x.1)
        (fun x => [(0, .one (.ptr 5 9 0 0)), (1, vS 4 1 0 lr.length c4), (45, vS 3 1 0 lc.length cc), (46, vI lc.length), (47, vI x.1)])
        (fun x => [(1, .ro (.ints g)), (2, .ro (.ints h)), (3, .ro (.rows false true lc)), (4, .ro (.rows false true lr)), (5, .own 64 1 (.lit (isoL n g.length cg h.length ch lc.length cc most 7 (fln + x.2.1.length) x.2.2))), (7, .own 26 x.2.2 (.mats false (fl ++ x.2.1))), (8, .tok 3 false (x.2.1.map fun m => m.2.2))]) 9 [(7, 6), (8, 7)] (0, [], fc) ⟨Nat.zero_le _, rfl⟩ ⟨w_1, ⟨rfl, rfl, rfl, rfl, rfl, own_mats (List.append_nil fl).symm, rfl, trivial⟩, rfl⟩ ?_
      rintro ⟨i, new, cp⟩ ⟨hi, hF⟩
      dsimp only at hi hF
      by_cases hil : i < lc.length
      · have e1 : lc.getD (0 + (i : Int).toNat) rowD = lc[i] := by rw [show 0 + (i : Int).toNat = i by omega, getD_in hil]
        have em : (lc.getD (0 + (i : Int).toNat) rowD) ∈ lc := by rw [e1]; exact List.getElem_mem hil
        have hS := hcs _ em
        have hpp := poolI_at (S := rowsX lc) (i := i) (by simpa [rowsX] using hil)
        have hp0 : (poolI (rowsX lc))[2 * i + 0]'(by omega) = (lc.getD (0 + (i : Int).toNat) rowD).xs := by rw [e1]; exact hpp.1.trans (by simp [rowsX])
        have hp1 : (poolI (rowsX lc))[2 * i + 1]'(by omega) = (lc.getD (0 + (i : Int).toNat) rowD).xs.map fun x => -x := by rw [e1]; exact hpp.2.trans (by simp [rowsX])
        have hxl := hS.1
        have hng := fun m c (hm : m = (lc.getD (0 + (i : Int).toNat) rowD).xs.length) => d_negated (lc.getD (0 + (i : Int).toNat) rowD).xs m c hm (by omega) (neg_row hS)
        ((repeat' (first | refine stx ?_ | ((refine zqe (hng _ _ rfl) ?_); rintro v Hout n1 ⟨cn, hcn, rfl, rfl, rfl⟩; ((first | refine awpL_ghost (Ghost.reveal 10 rfl) ?_ | refine awp_ghost (Ghost.reveal 10 rfl) ?_ | refine awpH_ghost (Ghost.reveal 10 rfl) ?_ | refine awpHop_ghost (Ghost.reveal 10 rfl) ?_); rintro _ _ ⟨an, rfl, rfl⟩)) | (refine stq ?_ ?_ <;> (intro hc; ((try simp at hc) <;> try contradiction))) | fail)) <;> try (exfalso; omega))
        refine w_G hE (fun x : Nat × List (Int × Int × Row) × Nat => x.1 ≤ 2 ∧ Fnd n x.2.1 (accN g h n most (poolI (rowsX lc)) d (rowsX lr) fln (2 * i + x.1))) (fun x => 2 - x.1)
          (fun x => [(0, .one (.ptr 5 9 0 0)), (1, vS 4 1 0 lr.length c4), (45, vS 3 1 0 lc.length cc), (46, vI lc.length), (47, vI i), (54, vS 9 1 0 2 2), (55, vI 2), (56, vI x.1)])
          (fun x => [(1, .ro (.ints g)), (2, .ro (.ints h)), (3, .ro (.rows false true lc)), (4, .ro (.rows false true lr)), (5, .own 64 1 (.lit (isoL n g.length cg h.length ch lc.length cc most 7 (fln + x.2.1.length) x.2.2))), (7, .own 26 x.2.2 (.mats false (fl ++ x.2.1))), (8, .tok 3 false (x.2.1.map fun m => m.2.2)), (9, .own 24 2 (.rows false true [⟨(lc.getD (0 + (i : Int).toNat) rowD).a, (lc.getD (0 + (i : Int).toNat) rowD).cap, (lc.getD (0 + (i : Int).toNat) rowD).xs, []⟩, ⟨an, cn, (lc.getD (0 + (i : Int).toNat) rowD).xs.map fun x => -x, []⟩]))]) 10 [(9, 11)] (0, new, cp) ⟨Nat.zero_le _, hF⟩ ⟨w_1, w_2, rfl⟩ ?_
        rintro ⟨j, new, cp⟩ ⟨hj, hF⟩
        dsimp only at hj hF
        rcases (by omega : j = 0 ∨ j = 1 ∨ j = 2) with rfl | rfl | rfl
        · have hX : Sm n (lc.getD (0 + (i : Int).toNat) rowD).xs := hS
          have hnx := accN_next (g := g) (h := h) (n := n) (most := most) (d := d) (rows := rowsX lr) (k := fln) (p := 2 * i + 0) (show 2 * i + 0 < (poolI (rowsX lc)).length by omega)
          rw [show (poolI (rowsX lc))[2 * i + 0]'(by omega) = (lc.getD (0 + (i : Int).toNat) rowD).xs from hp0] at hnx
          have hal := accN_len (g := g) (h := h) (n := n) (most := most) (pool := poolI (rowsX lc)) (d := d) (rows := rowsX lr) hfm (2 * i + 0) (by omega)
          rw [← hF.len] at hal
          have hfit := fun m cx (hm : m = (lc.getD (0 + (i : Int).toNat) rowD).xs.length) => d_fits n cg ch lc.length cc (fln + new.length) cp c4 cx m most g h (lc.getD (0 + (i : Int).toNat) rowD).xs lr hn hg hh hgn hhn hlrn hr hX hm
          cases hB : fitB g h n (rowsX lr) (lc.getD (0 + (i : Int).toNat) rowD).xs with
          | false =>
            rw [hB] at hfit
            rw [hB, if_neg (by simp)] at hnx
            ((repeat' (first | refine stx ?_ | (refine awpL_callM [(6, 7), (7, 10)] (hfit _ _ rfl) Zz Zz Zz Zz Zz Zz Zz ft rfl ?_; rintro v Hout n1 ⟨rfl, rfl, rfl⟩) | (refine stq ?_ ?_ <;> (intro hc; ((try simp at hc) <;> try contradiction))) | fail)) <;> try (exfalso; omega))
            all_goals exact ⟨[], (0 + 1, new, cp), ⟨by dsimp only; omega, by dsimp only; rw [show 2 * i + (0 + 1) = 2 * i + 0 + 1 from rfl, hnx]; exact hF⟩, w_4, ⟨w_1, w_2, rfl⟩⟩
          | true =>
            rw [hB] at hfit
            rw [hB, if_pos rfl] at hnx
            have hlr2 : ((lr.drop 0).take lr.length ++ ([(⟨(lc.getD (0 + (i : Int).toNat) rowD).a, (lc.getD (0 + (i : Int).toNat) rowD).cap, (lc.getD (0 + (i : Int).toNat) rowD).xs, []⟩ : Row)].drop 0).take 1) = lr ++ [(⟨(lc.getD (0 + (i : Int).toNat) rowD).a, (lc.getD (0 + (i : Int).toNat) rowD).cap, (lc.getD (0 + (i : Int).toNat) rowD).xs, []⟩ : Row)] := by simp
            have hrec := fun cap (hcap : lr.length + 1 ≤ cap) => d_search n cg ch cc most g h lc hn hg hh hgn hhn hl4 hcs hmost d ((lr.drop 0).take lr.length ++ ([(⟨(lc.getD (0 + (i : Int).toNat) rowD).a, (lc.getD (0 + (i : Int).toNat) rowD).cap, (lc.getD (0 + (i : Int).toNat) rowD).xs, []⟩ : Row)].drop 0).take 1) cap cp (fln + new.length) (lr.length + 1) (fl ++ new) (by simp; omega) (by
              rw [hlr2]
              intro r hr'
              rcases List.mem_append.1 hr' with e | e
              · exact hr r e
              · rw [List.mem_singleton.1 e]; exact hX) (by simp) (by simp [hfl]) hal hcap
            have hrx : rowsX ((lr.drop 0).take lr.length ++ ([(⟨(lc.getD (0 + (i : Int).toNat) rowD).a, (lc.getD (0 + (i : Int).toNat) rowD).cap, (lc.getD (0 + (i : Int).toNat) rowD).xs, []⟩ : Row)].drop 0).take 1) = rowsX lr ++ [(lc.getD (0 + (i : Int).toNat) rowD).xs] := by rw [hlr2]; simp [rowsX]
            rw [hrx] at hrec
            rw [← hF.len] at hnx
            ((repeat' (first | refine stx ?_ | (refine awpL_callM [(6, 7), (7, 10)] (hfit _ _ rfl) Zz Zz Zz Zz Zz Zz Zz ft rfl ?_; rintro v Hout n1 ⟨rfl, rfl, rfl⟩) | (refine awpL_appF TT Zz Zz Zz Zz Zz sd ?_; intro cap hcap) | (refine awpL_callM [(4, 12), (6, 7)] (hrec _ hcap) Zz Zz Zz Zz Zz Zz Zz ft rfl ?_; rintro v Hout n1 ⟨new', cap', hF', rfl, rfl, rfl⟩; ((first | refine awpL_ghost (Ghost.join 8 14 Zz Zz Zz) ?_ | refine awp_ghost (Ghost.join 8 14 Zz Zz Zz) ?_ | refine awpH_ghost (Ghost.join 8 14 Zz Zz Zz) ?_ | refine awpHop_ghost (Ghost.join 8 14 Zz Zz Zz) ?_); rintro _ _ ⟨rfl, rfl⟩)) | (refine stq ?_ ?_ <;> (intro hc; ((try simp at hc) <;> try contradiction))) | fail)) <;> try (exfalso; omega))
            all_goals exact ⟨[(7, 13)], (0 + 1, new ++ new', cap'), ⟨by dsimp only; omega, by dsimp only; rw [show 2 * i + (0 + 1) = 2 * i + 0 + 1 from rfl, hnx]; exact hF.app hF'⟩, w_4, ⟨w_1, ⟨rfl, rfl, rfl, rfl, own_iso (by simp; omega), own_mats (List.append_assoc _ _ _), own_tok (by rw [List.map_append]), rfl, trivial⟩, rfl⟩⟩
        · have hX : Sm n ((lc.getD (0 + (i : Int).toNat) rowD).xs.map fun x => -x) := hS.neg
          have hnx := accN_next (g := g) (h := h) (n := n) (most := most) (d := d) (rows := rowsX lr) (k := fln) (p := 2 * i + 1) (show 2 * i + 1 < (poolI (rowsX lc)).length by omega)
          rw [show (poolI (rowsX lc))[2 * i + 1]'(by omega) = ((lc.getD (0 + (i : Int).toNat) rowD).xs.map fun x => -x) from hp1] at hnx
          have hal := accN_len (g := g) (h := h) (n := n) (most := most) (pool := poolI (rowsX lc)) (d := d) (rows := rowsX lr) hfm (2 * i + 1) (by omega)
          rw [← hF.len] at hal
          have hfit := fun m cx (hm : m = ((lc.getD (0 + (i : Int).toNat) rowD).xs.map fun x => -x).length) => d_fits n cg ch lc.length cc (fln + new.length) cp c4 cx m most g h ((lc.getD (0 + (i : Int).toNat) rowD).xs.map fun x => -x) lr hn hg hh hgn hhn hlrn hr hX hm
          cases hB : fitB g h n (rowsX lr) ((lc.getD (0 + (i : Int).toNat) rowD).xs.map fun x => -x) with
          | false =>
            rw [hB] at hfit
            rw [hB, if_neg (by simp)] at hnx
            ((repeat' (first | refine stx ?_ | (refine awpL_callM [(6, 7), (7, 10)] (hfit _ _ rfl) Zz Zz Zz Zz Zz Zz Zz ft rfl ?_; rintro v Hout n1 ⟨rfl, rfl, rfl⟩) | (refine stq ?_ ?_ <;> (intro hc; ((try simp at hc) <;> try contradiction))) | fail)) <;> try (exfalso; omega))
            all_goals exact ⟨[], (1 + 1, new, cp), ⟨by dsimp only; omega, by dsimp only; rw [show 2 * i + (1 + 1) = 2 * i + 1 + 1 from rfl, hnx]; exact hF⟩, w_4, ⟨w_1, w_2, rfl⟩⟩
          | true =>
            rw [hB] at hfit
            rw [hB, if_pos rfl] at hnx
            have hlr2 : ((lr.drop 0).take lr.length ++ ([(⟨an, cn, ((lc.getD (0 + (i : Int).toNat) rowD).xs.map fun x => -x), []⟩ : Row)].drop 0).take 1) = lr ++ [(⟨an, cn, ((lc.getD (0 + (i : Int).toNat) rowD).xs.map fun x => -x), []⟩ : Row)] := by simp
            have hrec := fun cap (hcap : lr.length + 1 ≤ cap) => d_search n cg ch cc most g h lc hn hg hh hgn hhn hl4 hcs hmost d ((lr.drop 0).take lr.length ++ ([(⟨an, cn, ((lc.getD (0 + (i : Int).toNat) rowD).xs.map fun x => -x), []⟩ : Row)].drop 0).take 1) cap cp (fln + new.length) (lr.length + 1) (fl ++ new) (by simp; omega) (by
              rw [hlr2]
              intro r hr'
              rcases List.mem_append.1 hr' with e | e
              · exact hr r e
              · rw [List.mem_singleton.1 e]; exact hX) (by simp) (by simp [hfl]) hal hcap
            have hrx : rowsX ((lr.drop 0).take lr.length ++ ([(⟨an, cn, ((lc.getD (0 + (i : Int).toNat) rowD).xs.map fun x => -x), []⟩ : Row)].drop 0).take 1) = rowsX lr ++ [((lc.getD (0 + (i : Int).toNat) rowD).xs.map fun x => -x)] := by rw [hlr2]; simp [rowsX]
            rw [hrx] at hrec
            rw [← hF.len] at hnx
            ((repeat' (first | refine stx ?_ | (refine awpL_callM [(6, 7), (7, 10)] (hfit _ _ rfl) Zz Zz Zz Zz Zz Zz Zz ft rfl ?_; rintro v Hout n1 ⟨rfl, rfl, rfl⟩) | (refine awpL_appF TT Zz Zz Zz Zz Zz sd ?_; intro cap hcap) | (refine awpL_callM [(4, 12), (6, 7)] (hrec _ hcap) Zz Zz Zz Zz Zz Zz Zz ft rfl ?_; rintro v Hout n1 ⟨new', cap', hF', rfl, rfl, rfl⟩; ((first | refine awpL_ghost (Ghost.join 8 14 Zz Zz Zz) ?_ | refine awp_ghost (Ghost.join 8 14 Zz Zz Zz) ?_ | refine awpH_ghost (Ghost.join 8 14 Zz Zz Zz) ?_ | refine awpHop_ghost (Ghost.join 8 14 Zz Zz Zz) ?_); rintro _ _ ⟨rfl, rfl⟩)) | (refine stq ?_ ?_ <;> (intro hc; ((try simp at hc) <;> try contradiction))) | fail)) <;> try (exfalso; omega))
            all_goals exact ⟨[(7, 13)], (1 + 1, new ++ new', cap'), ⟨by dsimp only; omega, by dsimp only; rw [show 2 * i + (1 + 1) = 2 * i + 1 + 1 from rfl, hnx]; exact hF.app hF'⟩, w_4, ⟨w_1, ⟨rfl, rfl, rfl, rfl, own_iso (by simp; omega), own_mats (List.append_assoc _ _ _), own_tok (by rw [List.map_append]), rfl, trivial⟩, rfl⟩⟩
        · ((repeat' (first | refine stx ?_ | (refine stq ?_ ?_ <;> (intro hc; ((try simp at hc) <;> try contradiction))) | fail)) <;> try (exfalso; omega))
          exact ⟨[], (i + 1, new, cp), ⟨hil, hF⟩, w_4, ⟨w_1, w_2, rfl⟩⟩
      · obtain rfl : i = lc.length := by omega
        rw [hpl]
        ((repeat' (first | refine stx ?_ | (refine stq ?_ ?_ <;> (intro hc; ((try simp at hc) <;> try contradiction))) | fail)) <;> try (exfalso; omega))
        exact fin rfl w_3 [] (.tup []) [(5, .own 64 1 (.lit (isoL n g.length cg h.length ch lc.length cc most 7 (fln + new.length) cp))), (7, .own 26 cp (.mats false (fl ++ new))), (8, .tok 3 false (new.map fun m => m.2.2))] 9 ⟨new, cp, hF, rfl, rfl, rfl⟩ rfl ⟨trivial, ⟨rfl, rfl, rfl, trivial⟩, rfl⟩ rfl
end Go.Proofs.YtekpamojojfplaaGreat
namespace Go.Proofs.YtekpamojojfplaaGreat
open Go.RowKit
set_option maxRecDepth 100000 in
set_option maxHeartbeats 8000000 in
theorem d_prodP (n ch c1 c2 m1 m2 : Nat) (h x y : List Int) (hn : n ≤ 6) (hh : h.length = n * n) (hhn : h.all numB = true) (hx : Sm n x) (hy : Sm n y) (hm1 : m1 = x.length) (hm2 : m2 = y.length) :
    Does Tryz.prog 144 [vM n n 1 h.length ch, vS 2 1 0 m1 c1, vS 3 1 0 m2 c2] [(1, .ro (.ints h)), (2, .ro (.ints x)), (3, .ro (.ints y))] 4 (Ret (vI (prodH h n x y)) 4) := by
  subst hm1 hm2
  refine Does.intro TT Tryz.func144 rfl (by kernel_rfl) Zz Zz fun E hE => ?_
  have hxl := hx.1
  have hyl := hy.1
  have hnn : n * n ≤ 36 := Nat.mul_le_mul hn hn
  ((repeat' (first | refine stx ?_ | (refine stq ?_ ?_ <;> (intro hc; ((try simp at hc) <;> try contradiction))) | fail)) <;> try (exfalso; omega))
  refine w_G hE (fun a : Nat => a ≤ n) (fun a => n - a)
    (fun a => [(1, vS 2 1 0 x.length c1), (2, vS 3 1 0 y.length c2), (3, .one (.ptr 4 3 0 0)), (7, vI (prTo h n x y a)), (8, vI a)])
    (fun _ => [(1, .ro (.ints h)), (2, .ro (.ints x)), (3, .ro (.ints y)), (4, .own 26 1 (.lit [.int n, .int n, .sl 1 1 0 h.length ch]))]) 5 [] 0 (Nat.zero_le _) ⟨w_1, w_2, rfl⟩ ?_
  intro a ha
  have hpb := pr_bd hn hhn hx hy a
  by_cases han : a < n
  · have han2 : ¬ x.length ≤ a := by omega
    ((repeat' (first | refine stx ?_ | (refine stq ?_ ?_ <;> (intro hc; ((try simp at hc) <;> try contradiction))) | fail)) <;> try (exfalso; omega))
    refine w_G hE (fun b : Nat => b ≤ n) (fun b => n - b)
      (fun b => [(1, vS 2 1 0 x.length c1), (2, vS 3 1 0 y.length c2), (3, .one (.ptr 4 3 0 0)), (7, vI (prTo h n x y a + inTo h n x y a b)), (8, vI a), (9, vI b)])
      (fun _ => [(1, .ro (.ints h)), (2, .ro (.ints x)), (3, .ro (.ints y)), (4, .own 26 1 (.lit [.int n, .int n, .sl 1 1 0 h.length ch]))]) 5 [] 0 (Nat.zero_le _) ⟨⟨rfl, rfl, rfl, congrArg some (congrArg vI (Int.add_zero _).symm), rfl, rfl, trivial⟩, w_2, rfl⟩ ?_
    intro b hb
    have hib := in_bd (a := a) hhn hx hy b
    by_cases hbn : b < n
    · have hbn2 : ¬ y.length ≤ b := by omega
      have hat := d_cellH n n a b h.length ch h rfl hh (by omega) (by omega) han hbn
      obtain ⟨t1, t2⟩ := tm_bd (a := a) (j := b) hhn hx hy
      have ea : 0 + (a : Int).toNat = a := by omega
      have eb : 0 + (b : Int).toNat = b := by omega
      have es : prTo h n x y a + inTo h n x y a (b + 1) = prTo h n x y a + inTo h n x y a b + x.getD (0 + (a : Int).toNat) 0 * h.getD (a * n + b) 0 * y.getD (0 + (b : Int).toNat) 0 := by rw [ea, eb, Int.add_assoc]; rfl
      rw [← ea] at t1 t2
      rw [← eb] at t1 t2
      simp only [ea] at t1 t2
      have t3 := t1
      have t4 := t2
      rw [show x.getD a 0 = x.getD (0 + (a : Int).toNat) 0 by rw [ea], show h.getD (a * n + (0 + (b : Int).toNat)) 0 = h.getD (a * n + b) 0 by rw [eb]] at t3 t4
      ((repeat' (first | refine stx ?_ | refine zqc (hat) ?_ | (refine stq ?_ ?_ <;> (intro hc; ((try simp at hc) <;> try contradiction))) | fail)) <;> try (exfalso; omega))
      all_goals exact ⟨[], b + 1, hbn, w_4, ⟨⟨rfl, rfl, rfl, congrArg some (congrArg vI es.symm), rfl, rfl, trivial⟩, w_2, rfl⟩⟩
    · obtain rfl : b = n := by omega
      have es : prTo h b x y (a + 1) = prTo h b x y a + inTo h b x y a b := rfl
      ((repeat' (first | refine stx ?_ | (refine stq ?_ ?_ <;> (intro hc; ((try simp at hc) <;> try contradiction))) | fail)) <;> try (exfalso; omega))
      all_goals exact ⟨[], a + 1, han, w_4, ⟨⟨rfl, rfl, rfl, congrArg some (congrArg vI es.symm), rfl, trivial⟩, w_2, rfl⟩⟩
  · obtain rfl : a = n := by omega
    ((repeat' (first | refine stx ?_ | (refine stq ?_ ?_ <;> (intro hc; ((try simp at hc) <;> try contradiction))) | fail)) <;> try (exfalso; omega))
    all_goals refine fin_ret rfl w_3 (rfl) rfl
end Go.Proofs.YtekpamojojfplaaGreat
