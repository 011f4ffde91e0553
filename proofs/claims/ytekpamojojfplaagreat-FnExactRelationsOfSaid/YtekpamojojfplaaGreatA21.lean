/-
  TEXTS OF THE PROOF, put together: bRgI.
-/
import Derived.Test.YtekpamojojfplaaGreatA18
import Derived.Test.YtekpamojojfplaaGreatA20
set_option linter.unusedVariables false
set_option linter.unusedSimpArgs false
namespace Go.Proofs.YtekpamojojfplaaGreat
open Go.RowKit
set_option maxRecDepth 100000 in
set_option maxHeartbeats 4000000 in
theorem d_inOrdI (n k c1 c2 : Nat) (l : List Row) (sq : List RP) (hn : n ≤ 24) (hl : l.length = n) (hs : sq.length = n) (hk1 : 1 ≤ k) (hk : k < n) (hp : (l.getD k rowD).ps.length = k) :
    Does Tryz.prog 199 [.agg [.sl 1 1 0 n c1, .sl 2 2 0 n c2], vI k] [(1, .ro (.rows true true l)), (2, .ro (.i2 sq))] 3 (Ret (.tup [.one (.bool (decide (ordC (psX l) sq k = 0 ∨ ordC (psX l) sq k = 1))), .one (.bool (!decide (ordC (psX l) sq k = 2)))]) 3) := by
  have e0 : 0 + (k : Int).toNat = k := by omega
  have e1 : 0 + ((k : Int) - 1).toNat = k - 1 := by omega
  have ex : (l.getD (0 + (k : Int).toNat) rowD).ps = (psX l).getD k [] := by
    rw [e0, getD_in (show k < l.length by omega), getD_in (by rw [psX, List.length_map]; omega)]; simp [psX]
  have exl : (l.getD (0 + (k : Int).toNat) rowD).ps.length = k := by rw [e0]; exact hp
  have exn : (l[k]?.getD rowD).ps.length = k := by rw [← List.getD_eq_getElem?_getD]; exact hp
  obtain ⟨c, hc⟩ : ∃ c, c = ordC (psX l) sq k := ⟨_, rfl⟩
  obtain ⟨X, hX⟩ : ∃ X : RP, X = mulR (subR 3 4 (mulR ((l.getD (0 + (k : Int).toNat) rowD).ps.getD (0 + ((k : Int) - 1).toNat) (0, 0)).1 ((l.getD (0 + (k : Int).toNat) rowD).ps.getD (0 + ((k : Int) - 1).toNat) (0, 0)).2 ((l.getD (0 + (k : Int).toNat) rowD).ps.getD (0 + ((k : Int) - 1).toNat) (0, 0)).1 ((l.getD (0 + (k : Int).toNat) rowD).ps.getD (0 + ((k : Int) - 1).toNat) (0, 0)).2).1 (mulR ((l.getD (0 + (k : Int).toNat) rowD).ps.getD (0 + ((k : Int) - 1).toNat) (0, 0)).1 ((l.getD (0 + (k : Int).toNat) rowD).ps.getD (0 + ((k : Int) - 1).toNat) (0, 0)).2 ((l.getD (0 + (k : Int).toNat) rowD).ps.getD (0 + ((k : Int) - 1).toNat) (0, 0)).1 ((l.getD (0 + (k : Int).toNat) rowD).ps.getD (0 + ((k : Int) - 1).toNat) (0, 0)).2).2).1 (subR 3 4 (mulR ((l.getD (0 + (k : Int).toNat) rowD).ps.getD (0 + ((k : Int) - 1).toNat) (0, 0)).1 ((l.getD (0 + (k : Int).toNat) rowD).ps.getD (0 + ((k : Int) - 1).toNat) (0, 0)).2 ((l.getD (0 + (k : Int).toNat) rowD).ps.getD (0 + ((k : Int) - 1).toNat) (0, 0)).1 ((l.getD (0 + (k : Int).toNat) rowD).ps.getD (0 + ((k : Int) - 1).toNat) (0, 0)).2).1 (mulR ((l.getD (0 + (k : Int).toNat) rowD).ps.getD (0 + ((k : Int) - 1).toNat) (0, 0)).1 ((l.getD (0 + (k : Int).toNat) rowD).ps.getD (0 + ((k : Int) - 1).toNat) (0, 0)).2 ((l.getD (0 + (k : Int).toNat) rowD).ps.getD (0 + ((k : Int) - 1).toNat) (0, 0)).1 ((l.getD (0 + (k : Int).toNat) rowD).ps.getD (0 + ((k : Int) - 1).toNat) (0, 0)).2).2).2 (sq.getD (0 + ((k : Int) - 1).toNat) (0, 0)).1 (sq.getD (0 + ((k : Int) - 1).toNat) (0, 0)).2 := ⟨_, rfl⟩
  have hce : cmpR (sq.getD (0 + (k : Int).toNat) (0, 0)).1 (sq.getD (0 + (k : Int).toNat) (0, 0)).2 X.1 X.2 = c := by
    rw [hX, hc, ex, e0, e1]; rfl
  rw [← hc]
  refine Does.intro TT Tryz.func199 rfl (by kernel_rfl) Zz Zz fun E hE => ?_
  ((repeat' (first | (refine awp_cutR 2 hE (fun _ : Unit => True) (fun _ => [(1, vI k), (2, .one (.ptr 3 2 0 0)), (7, .one (.ptr 6 2 0 0))]) (fun _ => [(1, .ro (.rows true true l)), (2, .ro (.i2 sq)), (3, .own 142 1 (.lit [.sl 1 1 0 n c1, .sl 2 2 0 n c2])), (6, .own 129 1 (.lit [.int X.1, .int X.2]))]) 7 ?_ ?_) | refine stp ?_ | (refine stq ?_ ?_ <;> (intro hc; ((try simp at hc) <;> try contradiction))) | fail)) <;> try (exfalso; omega))
  · refine awp_held TM [(2, _), (3, _), (5, _)] sb rfl (fun ρs => ?_)
    refine zt0 ?_
    refine zt1 ?_
    refine zt2 ?_
    refine zt5 ?_
    refine zt6 ?_
    refine zt7 ?_
    refine zt8 ?_
    refine zt9 ?_
    refine zt10 ?_
    refine w_u [3, 12] kr rfl ⟨?_, ?_, trivial⟩
    first | (refine zho ?_) | refine w_B _ (d_mulRI _ _ _ _) Zz Zz Zz Zz Zz Zz Zz Zz Zz ft Zz Zz sb rfl ?_ | refine w_B _ (d_subRI _ _ _ _) Zz Zz Zz Zz Zz Zz Zz Zz Zz ft Zz Zz sb rfl ?_
    refine w_u [4, 12] kr rfl ⟨?_, ?_, trivial⟩
    first | (refine zho ?_) | refine w_B _ (d_mulRI _ _ _ _) Zz Zz Zz Zz Zz Zz Zz Zz Zz ft Zz Zz sb rfl ?_ | refine w_B _ (d_subRI _ _ _ _) Zz Zz Zz Zz Zz Zz Zz Zz Zz ft Zz Zz sb rfl ?_
    refine w_u [11, 12] kr rfl ⟨?_, ?_, trivial⟩
    first | (refine zho ?_) | refine w_B _ (d_mulRI _ _ _ _) Zz Zz Zz Zz Zz Zz Zz Zz Zz ft Zz Zz sb rfl ?_ | refine w_B _ (d_subRI _ _ _ _) Zz Zz Zz Zz Zz Zz Zz Zz Zz ft Zz Zz sb rfl ?_
    refine w_u [12] kr rfl ⟨?_, trivial⟩
    first | (refine zho ?_) | refine w_B _ (d_mulRI _ _ _ _) Zz Zz Zz Zz Zz Zz Zz Zz Zz ft Zz Zz sb rfl ?_ | refine w_B _ (d_subRI _ _ _ _) Zz Zz Zz Zz Zz Zz Zz Zz Zz ft Zz Zz sb rfl ?_
    refine w_u [13] kr rfl ⟨?_, trivial⟩
    first | (refine zho ?_) | refine w_B _ (d_mulRI _ _ _ _) Zz Zz Zz Zz Zz Zz Zz Zz Zz ft Zz Zz sb rfl ?_ | refine w_B _ (d_subRI _ _ _ _) Zz Zz Zz Zz Zz Zz Zz Zz Zz ft Zz Zz sb rfl ?_
    refine w_v kr ?_
    rotate_left
    first | (refine zho ?_) | refine w_B _ (d_mulRI _ _ _ _) Zz Zz Zz Zz Zz Zz Zz Zz Zz ft Zz Zz sb rfl ?_ | refine w_B _ (d_subRI _ _ _ _) Zz Zz Zz Zz Zz Zz Zz Zz Zz ft Zz Zz sb rfl ?_
    refine w_u [11] kr rfl ⟨?_, trivial⟩
    first | (refine zho ?_) | refine w_B _ (d_mulRI _ _ _ _) Zz Zz Zz Zz Zz Zz Zz Zz Zz ft Zz Zz sb rfl ?_ | refine w_B _ (d_subRI _ _ _ _) Zz Zz Zz Zz Zz Zz Zz Zz Zz ft Zz Zz sb rfl ?_
    refine w_u [13] kr rfl ⟨?_, trivial⟩
    first | (refine zho ?_) | refine w_B _ (d_mulRI _ _ _ _) Zz Zz Zz Zz Zz Zz Zz Zz Zz ft Zz Zz sb rfl ?_ | refine w_B _ (d_subRI _ _ _ _) Zz Zz Zz Zz Zz Zz Zz Zz Zz ft Zz Zz sb rfl ?_
    refine w_v kr ?_
    rotate_left
    first | (refine zho ?_) | refine w_B _ (d_mulRI _ _ _ _) Zz Zz Zz Zz Zz Zz Zz Zz Zz ft Zz Zz sb rfl ?_ | refine w_B _ (d_subRI _ _ _ _) Zz Zz Zz Zz Zz Zz Zz Zz Zz ft Zz Zz sb rfl ?_
    refine w_u [4] kr rfl ⟨?_, trivial⟩
    first | (refine zho ?_) | refine w_B _ (d_mulRI _ _ _ _) Zz Zz Zz Zz Zz Zz Zz Zz Zz ft Zz Zz sb rfl ?_ | refine w_B _ (d_subRI _ _ _ _) Zz Zz Zz Zz Zz Zz Zz Zz Zz ft Zz Zz sb rfl ?_
    refine w_u [11] kr rfl ⟨?_, trivial⟩
    first | (refine zho ?_) | refine w_B _ (d_mulRI _ _ _ _) Zz Zz Zz Zz Zz Zz Zz Zz Zz ft Zz Zz sb rfl ?_ | refine w_B _ (d_subRI _ _ _ _) Zz Zz Zz Zz Zz Zz Zz Zz Zz ft Zz Zz sb rfl ?_
    refine w_u [13] kr rfl ⟨?_, trivial⟩
    first | (refine zho ?_) | refine w_B _ (d_mulRI _ _ _ _) Zz Zz Zz Zz Zz Zz Zz Zz Zz ft Zz Zz sb rfl ?_ | refine w_B _ (d_subRI _ _ _ _) Zz Zz Zz Zz Zz Zz Zz Zz Zz ft Zz Zz sb rfl ?_
    refine w_v kr ?_
    rotate_left
    first | (refine zho ?_) | refine w_B _ (d_mulRI _ _ _ _) Zz Zz Zz Zz Zz Zz Zz Zz Zz ft Zz Zz sb rfl ?_ | refine w_B _ (d_subRI _ _ _ _) Zz Zz Zz Zz Zz Zz Zz Zz Zz ft Zz Zz sb rfl ?_
    refine w_u [3] kr rfl ⟨?_, trivial⟩
    first | (refine zho ?_) | refine w_B _ (d_mulRI _ _ _ _) Zz Zz Zz Zz Zz Zz Zz Zz Zz ft Zz Zz sb rfl ?_ | refine w_B _ (d_subRI _ _ _ _) Zz Zz Zz Zz Zz Zz Zz Zz Zz ft Zz Zz sb rfl ?_
    refine w_u [4] kr rfl ⟨?_, trivial⟩
    first | (refine zho ?_) | refine w_B _ (d_mulRI _ _ _ _) Zz Zz Zz Zz Zz Zz Zz Zz Zz ft Zz Zz sb rfl ?_ | refine w_B _ (d_subRI _ _ _ _) Zz Zz Zz Zz Zz Zz Zz Zz Zz ft Zz Zz sb rfl ?_
    refine w_u [11] kr rfl ⟨?_, trivial⟩
    first | (refine zho ?_) | refine w_B _ (d_mulRI _ _ _ _) Zz Zz Zz Zz Zz Zz Zz Zz Zz ft Zz Zz sb rfl ?_ | refine w_B _ (d_subRI _ _ _ _) Zz Zz Zz Zz Zz Zz Zz Zz Zz ft Zz Zz sb rfl ?_
    refine w_u [13] kr rfl ⟨?_, trivial⟩
    first | (refine zho ?_) | refine w_B _ (d_mulRI _ _ _ _) Zz Zz Zz Zz Zz Zz Zz Zz Zz ft Zz Zz sb rfl ?_ | refine w_B _ (d_subRI _ _ _ _) Zz Zz Zz Zz Zz Zz Zz Zz Zz ft Zz Zz sb rfl ?_
    refine w_v kr ?_
    rotate_left
    all_goals ((repeat' (first | refine stp ?_ | (refine stq ?_ ?_ <;> (intro hc; ((try simp at hc) <;> try contradiction))) | fail)) <;> try (exfalso; omega))
    all_goals exact ⟨[], (), trivial, ⟨w_1, ⟨rfl, rfl, rfl, congrArg (fun p : RP => some (Blk.own 129 1 (.lit [.int p.1, .int p.2]))) hX.symm, trivial⟩, rfl⟩⟩
  rintro ⟨⟩ -
  ((repeat' (first | refine stp ?_ | (refine stq ?_ ?_ <;> (intro hc; ((try simp at hc) <;> try contradiction))) | fail)) <;> try (exfalso; omega))
  refine awp_held TM [(2, _), (3, _), (6, _)] sb rfl (fun ρs => ?_)
  refine zt0 ?_
  refine zt1 ?_
  refine zt2 ?_
  refine zt3 ?_
  refine zt4 ?_
  refine zt5 ?_
  refine w_u [6] kr rfl ⟨?_, trivial⟩
  first | (refine zho ?_) | refine w_B _ (d_cmpRI _ _ _ _) Zz Zz Zz Zz Zz Zz Zz Zz Zz ft Zz Zz sb rfl ?_
  refine zt7 ?_
  refine w_v kr ?_
  rotate_left
  all_goals rw [hce]
  all_goals ((repeat' (first | refine stp ?_ | (refine stq ?_ ?_ <;> (intro hc; ((try simp at hc) <;> try contradiction))) | fail)) <;> try (exfalso; omega))
  · refine fin_ret rfl w_3 ((by simp [hc])) rfl
  · refine fin_ret rfl w_3 ((by simp [hc])) rfl
def BothR (t tw : TypeId) (n cx cu cv : Nat) (o : Option S3) (v : AV) (Hout : List (Nat × Blk)) (n1 : Nat) : Prop := v = .tup [] ∧ n1 = 8 ∧ match o with
  | some s => Hout = [(2, .own tw 1 (.lit (workL 6 4 7 n n (n * n) (n * n) cu (n * n) false))), (6, .own t (n * n) (.ints s.1)), (4, .own t cu (.ints s.2.1)), (7, .own t (n * n) (.ints s.2.2))]
  | none => Hout = [(2, .own tw 1 (.lit (workL 6 4 7 n n (n * n) cx cu cv true)))]
theorem addS_ok3 {r c i j : Nat} {q : Int} {s : S3} {y : TwoL} (h : OK3 r c s) (ho : addS c r i j q (s.1, s.2.1) = some y) : OK3 r c (y.1, y.2, s.2.2) := by
  have o := addS_ok h.row ho
  exact ⟨o.1, o.2.1, h.v, o.2.2.1, o.2.2.2, h.nv⟩
set_option maxHeartbeats 4000000 in
theorem d_bothAdd (n i j cx cu cv : Nat) (q : Int) (s : S3) (hs : OK3 n n s) (hn : n ≤ 24) (hi : i < n) (hj : j < n) (hij : i ≠ j) (hq : numB q = true) (hcx : n * n ≤ cx) (hcu : n * n ≤ cu) :
    Does Tryz.prog 198 [vW, vO 2 i j q] [(2, .own 137 1 (.lit (workL 3 4 5 n n (n * n) cx cu cv false))), (3, .own 3 cx (.ints s.1)), (4, .own 3 cu (.ints s.2.1)), (5, .own 3 cv (.ints s.2.2))] 6 (BothR 3 137 n cx cu cv (bothO n i j q s)) := by
  have h1 := hs.x
  have h2 := hs.u
  refine Does.intro TT Tryz.func198 rfl (by kernel_rfl) Zz Zz fun E hE => ?_
  have g1 := d_rowsAdd n n i j (n * n) cx cu cv q s.1 s.2.1 hs.row h1.symm hn hn hi hj hij hq (by omega) (by omega)
  cases ho : addS n n i j q (s.1, s.2.1) with
  | none =>
    rw [ho] at g1
    have hN : bothO n i j q s = none := by unfold bothO row3; rw [ho]; rfl
    rw [hN]
    ((repeat' (first | refine stx ?_ | ((refine w_E (g1) Zz Zz Zz Zz Zz Zz Zz ft rfl ?_); rintro v Hout n1 ⟨rfl, rfl, ys, zs, rfl⟩) | (refine stq ?_ ?_ <;> (intro hc; ((try simp at hc) <;> try contradiction))) | fail)) <;> try (exfalso; omega))
    all_goals exact fin_n rfl w_3 [(6, 3), (7, 5)] (.tup []) [(2, .own 137 1 (.lit (workL 6 4 7 n n (n * n) cx cu cv true)))] 8 ⟨rfl, rfl, rfl⟩ rfl ⟨trivial, ⟨rfl, trivial⟩, rfl⟩ rfl
  | some y =>
    rw [ho] at g1
    have hS : bothO n i j q s = col3 n n i j q (y.1, y.2, s.2.2) := by unfold bothO row3; rw [ho]; rfl
    have g2 := d_colsAdd n n i j cx cu cv q (y.1, y.2, s.2.2) (addS_ok3 hs ho) hn hn hi hj hij hq
    rw [hS]
    cases hc : col3 n n i j q (y.1, y.2, s.2.2) with
    | none =>
      rw [hc] at g2
      ((repeat' (first | refine stx ?_ | ((refine w_E (g1) Zz Zz Zz Zz Zz Zz Zz ft rfl ?_); rintro v Hout n1 ⟨rfl, rfl, rfl⟩) | ((refine w_E (g2) Zz Zz Zz Zz Zz Zz Zz ft rfl ?_); rintro v Hout n1 ⟨rfl, rfl, rfl⟩) | (refine stq ?_ ?_ <;> (intro hc; ((try simp at hc) <;> try contradiction))) | fail)) <;> try (exfalso; omega))
      all_goals exact fin_n rfl w_3 [(6, 7), (7, 8)] (.tup []) [(2, .own 137 1 (.lit (workL 6 4 7 n n (n * n) cx cu cv true)))] 8 ⟨rfl, rfl, rfl⟩ rfl ⟨trivial, ⟨rfl, trivial⟩, rfl⟩ rfl
    | some z =>
      rw [hc] at g2
      have e : z.2.1 = y.2 := by
        rw [col3_if] at hc
        split at hc
        · cases hc; rfl
        · cases hc
      ((repeat' (first | refine stx ?_ | ((refine w_E (g1) Zz Zz Zz Zz Zz Zz Zz ft rfl ?_); rintro v Hout n1 ⟨rfl, rfl, rfl⟩) | ((refine w_E (g2) Zz Zz Zz Zz Zz Zz Zz ft rfl ?_); rintro v Hout n1 ⟨rfl, rfl, rfl⟩) | (refine stq ?_ ?_ <;> (intro hc; ((try simp at hc) <;> try contradiction))) | fail)) <;> try (exfalso; omega))
      all_goals exact fin_n rfl w_3 [(6, 7), (7, 8)] (.tup []) [(2, .own 137 1 (.lit (workL 6 4 7 n n (n * n) (n * n) cu (n * n) false))), (6, .own 3 (n * n) (.ints z.1)), (4, .own 3 cu (.ints z.2.1)), (7, .own 3 (n * n) (.ints z.2.2))] 8 ⟨rfl, rfl, rfl⟩ rfl ⟨trivial, ⟨rfl, rfl, own_ints e.symm, rfl, trivial⟩, rfl⟩ rfl
set_option maxHeartbeats 4000000 in
theorem d_bothSwap (n i j cx cu cv : Nat) (s : S3) (hs : OK3 n n s) (hn : n ≤ 24) (hi : i < n) (hj : j < n) (hij : i ≠ j) (hcx : n * n ≤ cx) (hcu : n * n ≤ cu) :
    Does Tryz.prog 198 [vW, vO 0 i j 0] [(2, .own 137 1 (.lit (workL 3 4 5 n n (n * n) cx cu cv false))), (3, .own 3 cx (.ints s.1)), (4, .own 3 cu (.ints s.2.1)), (5, .own 3 cv (.ints s.2.2))] 6 (BothR 3 137 n cx cu cv (some (swC n n i j (swR n n i j s)))) := by
  have h1 := hs.x
  have h2 := hs.u
  refine Does.intro TT Tryz.func198 rfl (by kernel_rfl) Zz Zz fun E hE => ?_
  have g1 := d_rowsSwap n n i j (n * n) cx cu cv s.1 s.2.1 hs.row h1.symm hn hn hi hj hij (by omega) (by omega)
  have o2 := swR_ok (a := i) (t := j) hs
  have e2 : swR n n i j s = (swapTo s.1 (i * n) (j * n) n, swapTo s.2.1 (i * n) (j * n) n, s.2.2) := if_neg hij
  rw [e2] at o2
  have g2 := d_colsSwap n n i j cx cu cv (swapTo s.1 (i * n) (j * n) n, swapTo s.2.1 (i * n) (j * n) n, s.2.2) o2 hn hn hi hj hij
  rw [e2]
  generalize hz : swC n n i j (swapTo s.1 (i * n) (j * n) n, swapTo s.2.1 (i * n) (j * n) n, s.2.2) = z at g2
  have e : z.2.1 = swapTo s.2.1 (i * n) (j * n) n := by rw [← hz, swC, if_neg hij]
  ((repeat' (first | refine stx ?_ | ((refine w_E (g1) Zz Zz Zz Zz Zz Zz Zz ft rfl ?_); rintro v Hout n1 ⟨rfl, rfl, rfl⟩) | ((refine w_E (g2) Zz Zz Zz Zz Zz Zz Zz ft rfl ?_); rintro v Hout n1 ⟨rfl, rfl, rfl⟩) | (refine stq ?_ ?_ <;> (intro hc; ((try simp at hc) <;> try contradiction))) | fail)) <;> try (exfalso; omega))
  all_goals exact fin_n rfl w_3 [(6, 7), (7, 8)] (.tup []) [(2, .own 137 1 (.lit (workL 6 4 7 n n (n * n) (n * n) cu (n * n) false))), (6, .own 3 (n * n) (.ints z.1)), (4, .own 3 cu (.ints z.2.1)), (7, .own 3 (n * n) (.ints z.2.2))] 8 ⟨rfl, rfl, rfl⟩ rfl ⟨trivial, ⟨rfl, rfl, own_ints e.symm, rfl, trivial⟩, rfl⟩ rfl
end Go.Proofs.YtekpamojojfplaaGreat
