/-
  TEXTS OF THE PROOF, put together: bRgI, bRgJ, bRgK.
-/
import Derived.Test.YtekpamojojfplaaGreatB33
import Derived.Test.YtekpamojojfplaaGreatB29
import Derived.Test.YtekpamojojfplaaGreatB32
import Derived.Test.YtekpamojojfplaaGreatB34
import Derived.Test.YtekpamojojfplaaGreatB28
set_option linter.unusedVariables false
set_option linter.unusedSimpArgs false
namespace Go.Proofs.YtekpamojojfplaaGreat
open Go.RowKit
set_option maxRecDepth 100000 in
set_option maxHeartbeats 4000000 in
theorem d_inOrdI (n k c1 c2 : Nat) (l : List Row) (sq : List RP) (hn : n ≤ 24) (hl : l.length = n) (hs : sq.length = n) (hk1 : 1 ≤ k) (hk : k < n) (hp : (l.getD k rowD).ps.length = k) :
    Does Tryz.prog 199 [.agg [.sl 1 1 0 n c1, .sl 2 2 0 n c2], vI k] [(1, .ro (.rows true true l)), (2, .ro (.i2 sq))] 3 (Ret (.tup [.one (.bool (decide (ordC (psX l) sq k = 0 ∨ ordC (psX l) sq k = 1))), .one (.bool (!decide (ordC (psX l) sq k = 2)))]) 3) := by
  have e0 : 0 + (k : Int).toNat = k := by omega
  have e1 : 0 + ((k : Int) - 1).toNat = k - 1 := by omega
  have ex : (l.getD (0 + (k : Int).toNat) rowD).ps = (psX l).getD k [] := by
    rw [e0, getD_in (show k < l.length by omega), getD_in (by rw [psX, List.length_map]; omega)]; simp [psX]
  have exl : (l.getD (0 + (k : Int).toNat) rowD).ps.length = k := by rw [e0]; exact hp
  have exn : (l[k]?.getD rowD).ps.length = k := by rw [← List.getD_eq_getElem?_getD]; exact hp
  obtain ⟨c, hc⟩ : ∃ c, c = ordC (psX l) sq k := ⟨_, rfl⟩
  obtain ⟨X, hX⟩ : ∃ X : RP, X = mulR (subR 3 4 (mulR ((l.getD (0 + (k : Int).toNat) rowD).ps.getD (0 + ((k : Int) - 1).toNat) (0, 0)).1 ((l.getD (0 + (k : Int).toNat) rowD).ps.getD (0 + ((k : Int) - 1).toNat) (0, 0)).2 ((l.getD (0 + (k : Int).toNat) rowD).ps.getD (0 + ((k : Int) - 1).toNat) (0, 0)).1 ((l.getD (0 + (k : Int).toNat) rowD).ps.getD (0 + ((k : Int) - 1).toNat) (0, 0)).2).1 (mulR ((l.getD (0 + (k : Int).toNat) rowD).ps.getD (0 + ((k : Int) - 1).toNat) (0, 0)).1 ((l.getD (0 + (k : Int).toNat) rowD).ps.getD (0 + ((k : Int) - 1).toNat) (0, 0)).2 ((l.getD (0 + (k : Int).toNat) rowD).ps.getD (0 + ((k : Int) - 1).toNat) (0, 0)).1 ((l.getD (0 + (k : Int).toNat) rowD).ps.getD (0 + ((k : Int) - 1).toNat) (0, 0)).2).2).1 (subR 3 4 (mulR ((l.getD (0 + (k : Int).toNat) rowD).ps.getD (0 + ((k : Int) - 1).toNat) (0, 0)).1 ((l.getD (0 + (k : Int).toNat) rowD).ps.getD (0 + ((k : Int) - 1).toNat) (0, 0)).2 ((l.getD (0 + (k : Int).toNat) rowD).ps.getD (0 + ((k : Int) - 1).toNat) (0, 0)).1 ((l.getD (0 + (k : Int).toNat) rowD).ps.getD (0 + ((k : Int) - 1).toNat) (0, 0)).2).1 (mulR ((l.getD (0 + (k : Int).toNat) rowD).ps.getD (0 + ((k : Int) - 1).toNat) (0, 0)).1 ((l.getD (0 + (k : Int).toNat) rowD).ps.getD (0 + ((k : Int) - 1).toNat) (0, 0)).2 ((l.getD (0 + (k : Int).toNat) rowD).ps.getD (0 + ((k : Int) - 1).toNat) (0, 0)).1 ((l.getD (0 + (k : Int).toNat) rowD).ps.getD (0 + ((k : Int) - 1).toNat) (0, 0)).2).2).2 (sq.getD (0 + ((k : Int) - 1).toNat) (0, 0)).1 (sq.getD (0 + ((k : Int) - 1).toNat) (0, 0)).2 := ⟨_, rfl⟩
  have hce : cmpR (sq.getD (0 + (k : Int).toNat) (0, 0)).1 (sq.getD (0 + (k : Int).toNat) (0, 0)).2 X.1 X.2 = c := by
    rw [hX, hc, ex, e0, e1]; rfl
  rw [← hc]
  refine Does.intro TT Tryz.func199 rfl (by kernel_rfl) Zz Zz fun E hE => ?_
  ((repeat' (first | (refine awp_cutR 2 hE (fun _ : Unit => True) (fun _ => [(1, vI k), (2, .one (.ptr 3 2 0 0)), (7, .one (.ptr 6 2 0 0))]) (fun _ => [(1, .ro (.rows true true l)), (2, .ro (.i2 sq)), (3, .own 142 1 (.lit [.sl 1 1 0 n c1, .sl 2 2 0 n c2])), (6, .own 129 1 (.lit [.int X.1, .int X.2]))]) 7 ?_ ?_) | refine stp ?_ | (refine stq ?_ ?_ <;> (intro hc; ((try simp at hc) <;> try contradiction))) | fail)) <;> try (exfalso; omega))
  · refine awp_held TM [(2, _), (3, _), (5, _)] sb rfl (fun ρs => ?_)
    refine zt0 ?_
    refine zt1 ?_
    refine zt2 ?_
    refine zt5 ?_
    refine zt6 ?_
    refine zt7 ?_
    refine zt8 ?_
    refine zt9 ?_
    refine zt10 ?_
    refine w_u [3, 12] kr rfl ⟨?_, ?_, trivial⟩
    first | (refine zho ?_) | refine zqb (d_mulRI _ _ _ _) ?_ | refine zqb (d_subRI _ _ _ _) ?_
    refine w_u [4, 12] kr rfl ⟨?_, ?_, trivial⟩
    first | (refine zho ?_) | refine zqb (d_mulRI _ _ _ _) ?_ | refine zqb (d_subRI _ _ _ _) ?_
    refine w_u [11, 12] kr rfl ⟨?_, ?_, trivial⟩
    first | (refine zho ?_) | refine zqb (d_mulRI _ _ _ _) ?_ | refine zqb (d_subRI _ _ _ _) ?_
    refine w_u [12] kr rfl ⟨?_, trivial⟩
    first | (refine zho ?_) | refine zqb (d_mulRI _ _ _ _) ?_ | refine zqb (d_subRI _ _ _ _) ?_
    refine w_u [13] kr rfl ⟨?_, trivial⟩
    first | (refine zho ?_) | refine zqb (d_mulRI _ _ _ _) ?_ | refine zqb (d_subRI _ _ _ _) ?_
    refine w_v kr ?_
    rotate_left
    first | (refine zho ?_) | refine zqb (d_mulRI _ _ _ _) ?_ | refine zqb (d_subRI _ _ _ _) ?_
    refine w_u [11] kr rfl ⟨?_, trivial⟩
    first | (refine zho ?_) | refine zqb (d_mulRI _ _ _ _) ?_ | refine zqb (d_subRI _ _ _ _) ?_
    refine w_u [13] kr rfl ⟨?_, trivial⟩
    first | (refine zho ?_) | refine zqb (d_mulRI _ _ _ _) ?_ | refine zqb (d_subRI _ _ _ _) ?_
    refine w_v kr ?_
    rotate_left
    first | (refine zho ?_) | refine zqb (d_mulRI _ _ _ _) ?_ | refine zqb (d_subRI _ _ _ _) ?_
    refine w_u [4] kr rfl ⟨?_, trivial⟩
    first | (refine zho ?_) | refine zqb (d_mulRI _ _ _ _) ?_ | refine zqb (d_subRI _ _ _ _) ?_
    refine w_u [11] kr rfl ⟨?_, trivial⟩
    first | (refine zho ?_) | refine zqb (d_mulRI _ _ _ _) ?_ | refine zqb (d_subRI _ _ _ _) ?_
    refine w_u [13] kr rfl ⟨?_, trivial⟩
    first | (refine zho ?_) | refine zqb (d_mulRI _ _ _ _) ?_ | refine zqb (d_subRI _ _ _ _) ?_
    refine w_v kr ?_
    rotate_left
    first | (refine zho ?_) | refine zqb (d_mulRI _ _ _ _) ?_ | refine zqb (d_subRI _ _ _ _) ?_
    refine w_u [3] kr rfl ⟨?_, trivial⟩
    first | (refine zho ?_) | refine zqb (d_mulRI _ _ _ _) ?_ | refine zqb (d_subRI _ _ _ _) ?_
    refine w_u [4] kr rfl ⟨?_, trivial⟩
    first | (refine zho ?_) | refine zqb (d_mulRI _ _ _ _) ?_ | refine zqb (d_subRI _ _ _ _) ?_
    refine w_u [11] kr rfl ⟨?_, trivial⟩
    first | (refine zho ?_) | refine zqb (d_mulRI _ _ _ _) ?_ | refine zqb (d_subRI _ _ _ _) ?_
    refine w_u [13] kr rfl ⟨?_, trivial⟩
    first | (refine zho ?_) | refine zqb (d_mulRI _ _ _ _) ?_ | refine zqb (d_subRI _ _ _ _) ?_
    refine w_v kr ?_
    rotate_left
    all_goals ((repeat' (first | refine stp ?_ | (refine stq ?_ ?_ <;> (intro hc; ((try simp at hc) <;> try contradiction))) | fail)) <;> try (exfalso; omega))
    all_goals exact ⟨[], (), trivial, ⟨w_1, ⟨rfl, rfl, rfl, congrArg (fun p : RP => some (Blk.own 129 1 (.lit [.int p.1, .int p.2]))) hX.symm, trivial⟩, rfl⟩⟩
  rintro ⟨⟩ -
  ((repeat' (first | refine stp ?_ | (refine stq ?_ ?_ <;> (intro hc; ((try simp at hc) <;> try contradiction))) | fail)) <;> try (exfalso; omega))
  refine awp_held TM [(2, _), (3, _), (6, _)] sb rfl (fun ρs => ?_)
  refine zt0 ?_
  refine zt1 ?_
  refine zt2 ?_
  refine zt3 ?_
  refine zt4 ?_
  refine zt5 ?_
  refine w_u [6] kr rfl ⟨?_, trivial⟩
  first | (refine zho ?_) | refine zqb (d_cmpRI _ _ _ _) ?_
  refine zt7 ?_
  refine w_v kr ?_
  rotate_left
  all_goals rw [hce]
  all_goals ((repeat' (first | refine stp ?_ | (refine stq ?_ ?_ <;> (intro hc; ((try simp at hc) <;> try contradiction))) | fail)) <;> try (exfalso; omega))
  · refine fin_ret rfl w_3 ((by simp [hc])) rfl
  · refine fin_ret rfl w_3 ((by simp [hc])) rfl
def BothR (t tw : TypeId) (n cx cu cv : Nat) (o : Option S3) (v : AV) (Hout : List (Nat × Blk)) (n1 : Nat) : Prop := v = .tup [] ∧ n1 = 8 ∧ match o with
  | some s => Hout = [(2, .own tw 1 (.lit (workL 6 4 7 n n (n * n) (n * n) cu (n * n) false))), (6, .own t (n * n) (.ints s.1)), (4, .own t cu (.ints s.2.1)), (7, .own t (n * n) (.ints s.2.2))]
  | none => Hout = [(2, .own tw 1 (.lit (workL 6 4 7 n n (n * n) cx cu cv true)))]
theorem addS_ok3 {r c i j : Nat} {q : Int} {s : S3} {y : TwoL} (h : OK3 r c s) (ho : addS c r i j q (s.1, s.2.1) = some y) : OK3 r c (y.1, y.2, s.2.2) := by
  have o := addS_ok h.row ho
  exact ⟨o.1, o.2.1, h.v, o.2.2.1, o.2.2.2, h.nv⟩
set_option maxHeartbeats 4000000 in
theorem d_bothAdd (n i j cx cu cv : Nat) (q : Int) (s : S3) (hs : OK3 n n s) (hn : n ≤ 24) (hi : i < n) (hj : j < n) (hij : i ≠ j) (hq : numB q = true) (hcx : n * n ≤ cx) (hcu : n * n ≤ cu) :
    Does Tryz.prog 198 [vW, vO 2 i j q] [(2, .own 137 1 (.lit (workL 3 4 5 n n (n * n) cx cu cv false))), (3, .own 3 cx (.ints s.1)), (4, .own 3 cu (.ints s.2.1)), (5, .own 3 cv (.ints s.2.2))] 6 (BothR 3 137 n cx cu cv (bothO n i j q s)) := by
  have h1 := hs.x
  have h2 := hs.u
  refine Does.intro TT Tryz.func198 rfl (by kernel_rfl) Zz Zz fun E hE => ?_
  have g1 := d_rowsAdd n n i j (n * n) cx cu cv q s.1 s.2.1 hs.row h1.symm hn hn hi hj hij hq (by omega) (by omega)
  cases ho : addS n n i j q (s.1, s.2.1) with
  | none =>
    rw [ho] at g1
    have hN : bothO n i j q s = none := by unfold bothO row3; rw [ho]; rfl
    rw [hN]
    ((repeat' (first | refine stx ?_ | ((refine zqe (g1) ?_); rintro v Hout n1 ⟨rfl, rfl, ys, zs, rfl⟩) | (refine stq ?_ ?_ <;> (intro hc; ((try simp at hc) <;> try contradiction))) | fail)) <;> try (exfalso; omega))
    all_goals exact fin_n rfl w_3 [(6, 3), (7, 5)] (.tup []) [(2, .own 137 1 (.lit (workL 6 4 7 n n (n * n) cx cu cv true)))] 8 ⟨rfl, rfl, rfl⟩ rfl ⟨trivial, ⟨rfl, trivial⟩, rfl⟩ rfl
  | some y =>
    rw [ho] at g1
    have hS : bothO n i j q s = col3 n n i j q (y.1, y.2, s.2.2) := by unfold bothO row3; rw [ho]; rfl
    have g2 := d_colsAdd n n i j cx cu cv q (y.1, y.2, s.2.2) (addS_ok3 hs ho) hn hn hi hj hij hq
    rw [hS]
    cases hc : col3 n n i j q (y.1, y.2, s.2.2) with
    | none =>
      rw [hc] at g2
      ((repeat' (first | refine stx ?_ | ((refine zqe (g1) ?_); rintro v Hout n1 ⟨rfl, rfl, rfl⟩) | ((refine zqe (g2) ?_); rintro v Hout n1 ⟨rfl, rfl, rfl⟩) | (refine stq ?_ ?_ <;> (intro hc; ((try simp at hc) <;> try contradiction))) | fail)) <;> try (exfalso; omega))
      all_goals exact fin_n rfl w_3 [(6, 7), (7, 8)] (.tup []) [(2, .own 137 1 (.lit (workL 6 4 7 n n (n * n) cx cu cv true)))] 8 ⟨rfl, rfl, rfl⟩ rfl ⟨trivial, ⟨rfl, trivial⟩, rfl⟩ rfl
    | some z =>
      rw [hc] at g2
      have e : z.2.1 = y.2 := by
        rw [col3_if] at hc
        split at hc
        · cases hc; rfl
        · cases hc
      ((repeat' (first | refine stx ?_ | ((refine zqe (g1) ?_); rintro v Hout n1 ⟨rfl, rfl, rfl⟩) | ((refine zqe (g2) ?_); rintro v Hout n1 ⟨rfl, rfl, rfl⟩) | (refine stq ?_ ?_ <;> (intro hc; ((try simp at hc) <;> try contradiction))) | fail)) <;> try (exfalso; omega))
      all_goals exact fin_n rfl w_3 [(6, 7), (7, 8)] (.tup []) [(2, .own 137 1 (.lit (workL 6 4 7 n n (n * n) (n * n) cu (n * n) false))), (6, .own 3 (n * n) (.ints z.1)), (4, .own 3 cu (.ints z.2.1)), (7, .own 3 (n * n) (.ints z.2.2))] 8 ⟨rfl, rfl, rfl⟩ rfl ⟨trivial, ⟨rfl, rfl, own_ints e.symm, rfl, trivial⟩, rfl⟩ rfl
set_option maxHeartbeats 4000000 in
theorem d_bothSwap (n i j cx cu cv : Nat) (s : S3) (hs : OK3 n n s) (hn : n ≤ 24) (hi : i < n) (hj : j < n) (hij : i ≠ j) (hcx : n * n ≤ cx) (hcu : n * n ≤ cu) :
    Does Tryz.prog 198 [vW, vO 0 i j 0] [(2, .own 137 1 (.lit (workL 3 4 5 n n (n * n) cx cu cv false))), (3, .own 3 cx (.ints s.1)), (4, .own 3 cu (.ints s.2.1)), (5, .own 3 cv (.ints s.2.2))] 6 (BothR 3 137 n cx cu cv (some (swC n n i j (swR n n i j s)))) := by
  have h1 := hs.x
  have h2 := hs.u
  refine Does.intro TT Tryz.func198 rfl (by kernel_rfl) Zz Zz fun E hE => ?_
  have g1 := d_rowsSwap n n i j (n * n) cx cu cv s.1 s.2.1 hs.row h1.symm hn hn hi hj hij (by omega) (by omega)
  have o2 := swR_ok (a := i) (t := j) hs
  have e2 : swR n n i j s = (swapTo s.1 (i * n) (j * n) n, swapTo s.2.1 (i * n) (j * n) n, s.2.2) := if_neg hij
  rw [e2] at o2
  have g2 := d_colsSwap n n i j cx cu cv (swapTo s.1 (i * n) (j * n) n, swapTo s.2.1 (i * n) (j * n) n, s.2.2) o2 hn hn hi hj hij
  rw [e2]
  generalize hz : swC n n i j (swapTo s.1 (i * n) (j * n) n, swapTo s.2.1 (i * n) (j * n) n, s.2.2) = z at g2
  have e : z.2.1 = swapTo s.2.1 (i * n) (j * n) n := by rw [← hz, swC, if_neg hij]
  ((repeat' (first | refine stx ?_ | ((refine zqe (g1) ?_); rintro v Hout n1 ⟨rfl, rfl, rfl⟩) | ((refine zqe (g2) ?_); rintro v Hout n1 ⟨rfl, rfl, rfl⟩) | (refine stq ?_ ?_ <;> (intro hc; ((try simp at hc) <;> try contradiction))) | fail)) <;> try (exfalso; omega))
  all_goals exact fin_n rfl w_3 [(6, 7), (7, 8)] (.tup []) [(2, .own 137 1 (.lit (workL 6 4 7 n n (n * n) (n * n) cu (n * n) false))), (6, .own 3 (n * n) (.ints z.1)), (4, .own 3 cu (.ints z.2.1)), (7, .own 3 (n * n) (.ints z.2.2))] 8 ⟨rfl, rfl, rfl⟩ rfl ⟨trivial, ⟨rfl, rfl, own_ints e.symm, rfl, trivial⟩, rfl⟩ rfl
end Go.Proofs.YtekpamojojfplaaGreat
namespace Go.Proofs.YtekpamojojfplaaGreat
open Go.RowKit
def redIn (n k : Nat) (s : S3) (st : List (List RP) × List RP) : Option (S3 × Nat) := match rdJ (st.1.getD k []) k with
  | none => none
  | some (some j) => (bothO n k j (-rndP2 ((st.1.getD k []).getD j (0, 0))) s).map fun s' => (s', k)
  | some none => if ordC st.1 st.2 k = 2 then none else if ordC st.1 st.2 k = 0 ∨ ordC st.1 st.2 k = 1 then some (s, k + 1) else some (swC n n k (k - 1) (swR n n k (k - 1) s), max 1 (k - 1))
theorem redStep_in {n k : Nat} {s : S3} : redStep n k s = (acTo s.1 n n).bind (redIn n k s) := rfl
theorem rdJ_same {row : List RP} {k m : Nat} (h : rdJ row k = rdJ row (m + 1)) : rdJ row k = if ratP (row.getD m (0, 0)) then (if rndP2 (row.getD m (0, 0)) = 0 then rdJ row m else some (some m)) else none := h
def StepR (ti tw : TypeId) (n cu : Nat) (o : Option (S3 × Nat)) (v : AV) (Hout : List (Nat × Blk)) (n1 : Nat) : Prop := match o with
  | none => v = vB false ∧ Hout = [] ∧ n1 = 9
  | some x => ∃ cx cv, n * n ≤ cx ∧ v = vB true ∧ n1 = 11 ∧ Hout = [(2, .own tw 1 (.lit (workL 9 4 10 n n (n * n) cx cu cv false))), (9, .own ti cx (.ints x.1.1)), (4, .own ti cu (.ints x.1.2.1)), (10, .own ti cv (.ints x.1.2.2)), (8, .own ti 1 (.lit [.int x.2]))]
set_option maxRecDepth 100000 in
set_option maxHeartbeats 16000000 in
theorem d_stepI (n k c1 c2 cx cu cv : Nat) (s : S3) (l : List Row) (sq : List RP) (hs : OK3 n n s) (hn : n ≤ 24) (hk1 : 1 ≤ k) (hk : k < n) (hl : l.length = n) (hsq : sq.length = n) (hp : (l.getD k rowD).ps.length = k) (hcx : n * n ≤ cx) (hcu : n * n ≤ cu) :
    Does Tryz.prog 162 [vW, .agg [.sl 6 1 0 n c1, .sl 7 2 0 n c2], .one (.ptr 8 1 0 0)] [(2, .own 137 1 (.lit (workL 3 4 5 n n (n * n) cx cu cv false))), (3, .own 3 cx (.ints s.1)), (4, .own 3 cu (.ints s.2.1)), (5, .own 3 cv (.ints s.2.2)), (6, .ro (.rows true true l)), (7, .ro (.i2 sq)), (8, .own 3 1 (.lit [.int k]))] 9 (StepR 3 137 n cu (redIn n k s (psX l, sq))) := by
  have e0 : 0 + (k : Int).toNat = k := by omega
  have ex : (l.getD (0 + (k : Int).toNat) rowD).ps = (psX l).getD k [] := by
    rw [e0, getD_in (show k < l.length by omega), getD_in (by rw [psX, List.length_map]; omega)]; simp [psX]
  have exl : (l.getD (0 + (k : Int).toNat) rowD).ps.length = k := by rw [e0]; exact hp
  have exn : (l[k]?.getD rowD).ps.length = k := by rw [← List.getD_eq_getElem?_getD]; exact hp
  obtain ⟨row, hrow⟩ : ∃ row, row = (psX l).getD k [] := ⟨_, rfl⟩
  have h1 := hs.x
  have h2 := hs.u
  refine Does.intro TT Tryz.func162 rfl (by kernel_rfl) Zz Zz fun E hE => ?_
  ((repeat' (first | refine stx ?_ | (refine stq ?_ ?_ <;> (intro hc; ((try simp at hc) <;> try contradiction))) | fail)) <;> try (exfalso; omega))
  refine w_G hE (fun m : Nat => m ≤ k ∧ rdJ row k = rdJ row m) (fun m => m)
    (fun m => [(0, vW), (2, .one (.ptr 8 1 0 0)), (4, .one (.ptr 9 2 0 0)), (7, vI ((m : Int) - 1))])
    (fun _ => [(2, .own 137 1 (.lit (workL 3 4 5 n n (n * n) cx cu cv false))), (3, .own 3 cx (.ints s.1)), (4, .own 3 cu (.ints s.2.1)), (5, .own 3 cv (.ints s.2.2)), (6, .ro (.rows true true l)), (7, .ro (.i2 sq)), (8, .own 3 1 (.lit [.int k])), (9, .own 142 1 (.lit [.sl 6 1 0 n c1, .sl 7 2 0 n c2]))]) 10 [] k ⟨Nat.le_refl _, rfl⟩ ⟨w_1, w_2, rfl⟩ ?_
  rintro m ⟨hm, hrd⟩
  cases m with
  | zero =>
    have hio := d_inOrdI n k c1 c2 l sq hn hl hsq hk1 hk hp
    have hin : redIn n k s (psX l, sq) = if ordC (psX l) sq k = 2 then none else if ordC (psX l) sq k = 0 ∨ ordC (psX l) sq k = 1 then some (s, k + 1) else some (swC n n k (k - 1) (swR n n k (k - 1) s), max 1 (k - 1)) := by
      unfold redIn
      dsimp only
      rw [← hrow, hrd]; rfl
    rw [hin]
    obtain ⟨c, hc⟩ : ∃ c, c = ordC (psX l) sq k := ⟨_, rfl⟩
    rw [← hc] at hio ⊢
    rw [show (((0 : Nat) : Int) - 1) = -1 from rfl]
    by_cases c2 : c = 2
    · rw [if_pos c2]
      rw [decide_eq_true c2] at hio
      ((repeat' (first | refine stp ?_ | (refine stq ?_ ?_ <;> (intro hc; ((try simp at hc) <;> try contradiction))) | fail)) <;> try (exfalso; omega))
      refine awp_held TM [(8, _), (9, _)] sb rfl (fun ρs => ?_)
      refine zt0 ?_
      refine zt1 ?_
      refine zt2 ?_
      refine zt3 ?_
      refine w_u [4] kr rfl ⟨?_, trivial⟩
      first | (refine zho ?_) | refine zqb (hio) ?_
      refine zt5 ?_
      refine zt6 ?_
      refine zt7 ?_
      refine zt8 ?_
      refine zt9 ?_
      refine w_v kr ?_
      rotate_left
      all_goals ((repeat' (first | refine stx ?_ | (refine stq ?_ ?_ <;> (intro hc; ((try simp at hc) <;> try contradiction))) | fail)) <;> try (exfalso; omega))
      all_goals exact fin rfl w_3 [] (vB false) [] 9 ⟨rfl, rfl, rfl⟩ rfl ⟨trivial, trivial, rfl⟩ rfl
    · rw [if_neg c2]
      rw [decide_eq_false c2] at hio
      by_cases c1 : c = 0 ∨ c = 1
      · rw [if_pos c1]
        rw [decide_eq_true c1] at hio
        ((repeat' (first | refine stp ?_ | (refine stq ?_ ?_ <;> (intro hc; ((try simp at hc) <;> try contradiction))) | fail)) <;> try (exfalso; omega))
        refine awp_held TM [(8, _), (9, _)] sb rfl (fun ρs => ?_)
        refine zt0 ?_
        refine zt1 ?_
        refine zt2 ?_
        refine zt3 ?_
        refine w_u [4] kr rfl ⟨?_, trivial⟩
        first | (refine zho ?_) | refine zqb (hio) ?_
        refine zt5 ?_
        refine zt6 ?_
        refine zt7 ?_
        refine zt8 ?_
        refine zt9 ?_
        refine w_v kr ?_
        rotate_left
        all_goals ((repeat' (first | refine stx ?_ | (refine stq ?_ ?_ <;> (intro hc; ((try simp at hc) <;> try contradiction))) | fail)) <;> try (exfalso; omega))
        all_goals exact fin rfl w_3 [(9, 3), (10, 5)] (vB true) [(2, .own 137 1 (.lit (workL 9 4 10 n n (n * n) cx cu cv false))), (9, .own 3 cx (.ints s.1)), (4, .own 3 cu (.ints s.2.1)), (10, .own 3 cv (.ints s.2.2)), (8, .own 3 1 (.lit [.int (k + 1 : Nat)]))] 11 ⟨cx, cv, hcx, rfl, rfl, rfl⟩ rfl ⟨trivial, ⟨rfl, rfl, rfl, rfl, rfl, trivial⟩, rfl⟩ rfl
      · rw [if_neg c1]
        rw [decide_eq_false c1] at hio
        have hb := d_bothSwap n k (k - 1) cx cu cv s hs hn hk (by omega) (by omega) hcx hcu
        rw [show ((k - 1 : Nat) : Int) = (k : Int) - 1 by omega] at hb
        have emx : (if 1 < (k : Int) - 1 then (k : Int) - 1 else 1) = ((max 1 (k - 1) : Nat) : Int) := by split <;> omega
        generalize swC n n k (k - 1) (swR n n k (k - 1) s) = z at hb ⊢
        ((repeat' (first | refine stp ?_ | (refine stq ?_ ?_ <;> (intro hc; ((try simp at hc) <;> try contradiction))) | fail)) <;> try (exfalso; omega))
        refine awp_held TM [(8, _), (9, _)] sb rfl (fun ρs => ?_)
        refine zt0 ?_
        refine zt1 ?_
        refine zt2 ?_
        refine zt3 ?_
        refine w_u [4] kr rfl ⟨?_, trivial⟩
        first | (refine zho ?_) | refine zqb (hio) ?_
        refine zt5 ?_
        refine zt6 ?_
        refine zt7 ?_
        refine zt8 ?_
        refine zt9 ?_
        refine w_v kr ?_
        rotate_left
        all_goals ((repeat' (first | refine stp ?_ | (refine stq ?_ ?_ <;> (intro hc; ((try simp at hc) <;> try contradiction))) | fail)) <;> try (exfalso; omega))
        refine awp_held TM [(8, _)] sb rfl (fun ρs => ?_)
        refine zt0 ?_
        refine zt1 ?_
        refine zt2 ?_
        refine zt3 ?_
        refine zt4 ?_
        refine zt5 ?_
        refine zt6 ?_
        refine zt7 ?_
        refine zt8 ?_
        refine w_u [9] kr rfl ⟨?_, trivial⟩
        first | (refine zho ?_) | (refine zqf (hb) ?_; rintro v Hout n1 ⟨rfl, rfl, rfl⟩; refine ⟨sb, ?_⟩)
        refine w_v kr ?_
        rotate_left
        all_goals ((repeat' (first | refine stx ?_ | (refine stq ?_ ?_ <;> (intro hc; ((try simp at hc) <;> try contradiction))) | fail)) <;> try (exfalso; omega))
        all_goals exact fin rfl w_3 [(9, 10), (10, 11)] (vB true) [(2, .own 137 1 (.lit (workL 9 4 10 n n (n * n) (n * n) cu (n * n) false))), (9, .own 3 (n * n) (.ints z.1)), (4, .own 3 cu (.ints z.2.1)), (10, .own 3 (n * n) (.ints z.2.2)), (8, .own 3 1 (.lit [.int (max 1 (k - 1) : Nat)]))] 11 ⟨_, _, Nat.le_refl _, rfl, rfl, rfl⟩ rfl ⟨trivial, ⟨rfl, rfl, rfl, rfl, congrArg (fun x : Int => some (Blk.own 3 1 (.lit [.int x]))) emx, trivial⟩, rfl⟩ rfl
  | succ m =>
    rw [show (((m + 1 : Nat) : Int) - 1) = m by omega]
    obtain ⟨T, hT⟩ : ∃ T, T = (l.getD (0 + (k : Int).toNat) rowD).ps.getD (0 + (m : Int).toNat) (0, 0) := ⟨_, rfl⟩
    have eT : T = row.getD m (0, 0) := by rw [hT, ex, ← hrow, show 0 + (m : Int).toNat = m by omega]
    have h3 := rdJ_same hrd
    rw [← eT] at h3
    have hqb : -1000000000000 ≤ rndP2 T ∧ rndP2 T ≤ 1000000000000 := rnd_bd T
    have hrt := d_ratioI T.1 T.2
    have hrn := d_rndRI T.1 T.2
    rw [show ratioB T.1 T.2 = ratP T from rfl] at hrt
    rw [show rndR T.1 T.2 = rndP2 T from rfl] at hrn
    rw [hT] at hrt hrn
    generalize hq : rndP2 ((l.getD (0 + (k : Int).toNat) rowD).ps.getD (0 + (m : Int).toNat) (0, 0)) = q at hrn
    rw [hT, hq] at hqb
    rw [hT, hq] at h3
    cases hr : ratP ((l.getD (0 + (k : Int).toNat) rowD).ps.getD (0 + (m : Int).toNat) (0, 0)) with
    | false =>
      rw [hr] at hrt h3
      have hin : redIn n k s (psX l, sq) = none := by
        unfold redIn
        dsimp only
        rw [← hrow, h3]; rfl
      rw [hin]
      ((repeat' (first | refine stp ?_ | (refine stq ?_ ?_ <;> (intro hc; ((try simp at hc) <;> try contradiction))) | fail)) <;> try (exfalso; omega))
      refine awp_held TM [(8, _), (9, _)] sb rfl (fun ρs => ?_)
      refine zt0 ?_
      refine zt1 ?_
      refine zt2 ?_
      refine zt3 ?_
      refine zt4 ?_
      refine zt5 ?_
      refine zt7 ?_
      refine w_u [6, 10] kr rfl ⟨?_, ?_, trivial⟩
      first | (refine zho ?_)
      refine zt8 ?_
      refine w_u [9, 10] kr rfl ⟨?_, ?_, trivial⟩
      first | (refine zho ?_)
      refine w_u [10] kr rfl ⟨?_, trivial⟩
      first | (refine zho ?_)
      refine w_u [11] kr rfl ⟨?_, trivial⟩
      first | (refine zho ?_)
      refine w_v kr ?_
      rotate_left
      first | (refine zho ?_)
      refine w_u [9] kr rfl ⟨?_, trivial⟩
      first | (refine zho ?_)
      refine w_u [11] kr rfl ⟨?_, trivial⟩
      first | (refine zho ?_)
      refine w_v kr ?_
      rotate_left
      first | (refine zho ?_)
      refine w_u [6] kr rfl ⟨?_, trivial⟩
      first | (refine zho ?_)
      refine zt8 ?_
      refine w_u [9] kr rfl ⟨?_, trivial⟩
      first | (refine zho ?_)
      refine w_u [11] kr rfl ⟨?_, trivial⟩
      first | (refine zho ?_)
      refine w_v kr ?_
      rotate_left
      all_goals ((repeat' (first | refine stx ?_ | refine zqc (hrt) ?_ | (refine stq ?_ ?_ <;> (intro hc; ((try simp at hc) <;> try contradiction))) | fail)) <;> try (exfalso; omega))
      all_goals exact fin rfl w_3 [] (vB false) [] 9 ⟨rfl, rfl, rfl⟩ rfl ⟨trivial, trivial, rfl⟩ rfl
    | true =>
      rw [hr] at hrt h3
      rw [if_pos rfl] at h3
      by_cases q0 : q = 0
      · rw [if_pos q0] at h3
        ((repeat' (first | refine stp ?_ | (refine stq ?_ ?_ <;> (intro hc; ((try simp at hc) <;> try contradiction))) | fail)) <;> try (exfalso; omega))
        refine awp_held TM [(8, _), (9, _)] sb rfl (fun ρs => ?_)
        refine zt0 ?_
        refine zt1 ?_
        refine zt2 ?_
        refine zt3 ?_
        refine zt4 ?_
        refine zt5 ?_
        refine zt7 ?_
        refine w_u [6, 10] kr rfl ⟨?_, ?_, trivial⟩
        first | (refine zho ?_)
        refine zt8 ?_
        refine w_u [9, 10] kr rfl ⟨?_, ?_, trivial⟩
        first | (refine zho ?_)
        refine w_u [10] kr rfl ⟨?_, trivial⟩
        first | (refine zho ?_)
        refine w_u [11] kr rfl ⟨?_, trivial⟩
        first | (refine zho ?_)
        refine w_v kr ?_
        rotate_left
        first | (refine zho ?_)
        refine w_u [9] kr rfl ⟨?_, trivial⟩
        first | (refine zho ?_)
        refine w_u [11] kr rfl ⟨?_, trivial⟩
        first | (refine zho ?_)
        refine w_v kr ?_
        rotate_left
        first | (refine zho ?_)
        refine w_u [6] kr rfl ⟨?_, trivial⟩
        first | (refine zho ?_)
        refine zt8 ?_
        refine w_u [9] kr rfl ⟨?_, trivial⟩
        first | (refine zho ?_)
        refine w_u [11] kr rfl ⟨?_, trivial⟩
        first | (refine zho ?_)
        refine w_v kr ?_
        rotate_left
        all_goals ((repeat' (first | refine stx ?_ | refine zqc (hrt) ?_ | refine zqc (hrn) ?_ | (refine stq ?_ ?_ <;> (intro hc; ((try simp at hc) <;> try contradiction))) | fail)) <;> try (exfalso; omega))
        all_goals exact ⟨[], m, ⟨by omega, h3⟩, Nat.lt_succ_self m, ⟨w_1, w_2, rfl⟩⟩
      · rw [if_neg q0] at h3
        have hin : redIn n k s (psX l, sq) = (bothO n k m (-q) s).map fun s' => (s', k) := by
          unfold redIn
          dsimp only
          rw [← hrow, h3]
          dsimp only
          rw [← eT, hT, hq]
        rw [hin]
        have hqn : numB (-q) = true := by rw [← hq]; exact rnd_num _
        have hb := d_bothAdd n k m cx cu cv (-q) s hs hn hk (by omega) (by omega) hqn hcx hcu
        cases ho : bothO n k m (-q) s with
        | none =>
          rw [ho] at hb
          ((repeat' (first | refine stp ?_ | (refine stq ?_ ?_ <;> (intro hc; ((try simp at hc) <;> try contradiction))) | fail)) <;> try (exfalso; omega))
          refine awp_held TM [(8, _), (9, _)] sb rfl (fun ρs => ?_)
          refine zt0 ?_
          refine zt1 ?_
          refine zt2 ?_
          refine zt3 ?_
          refine zt4 ?_
          refine zt5 ?_
          refine zt7 ?_
          refine w_u [6, 10] kr rfl ⟨?_, ?_, trivial⟩
          first | (refine zho ?_)
          refine zt8 ?_
          refine w_u [9, 10] kr rfl ⟨?_, ?_, trivial⟩
          first | (refine zho ?_)
          refine w_u [10] kr rfl ⟨?_, trivial⟩
          first | (refine zho ?_)
          refine w_u [11] kr rfl ⟨?_, trivial⟩
          first | (refine zho ?_)
          refine w_v kr ?_
          rotate_left
          first | (refine zho ?_)
          refine w_u [9] kr rfl ⟨?_, trivial⟩
          first | (refine zho ?_)
          refine w_u [11] kr rfl ⟨?_, trivial⟩
          first | (refine zho ?_)
          refine w_v kr ?_
          rotate_left
          first | (refine zho ?_)
          refine w_u [6] kr rfl ⟨?_, trivial⟩
          first | (refine zho ?_)
          refine zt8 ?_
          refine w_u [9] kr rfl ⟨?_, trivial⟩
          first | (refine zho ?_)
          refine w_u [11] kr rfl ⟨?_, trivial⟩
          first | (refine zho ?_)
          refine w_v kr ?_
          rotate_left
          all_goals ((repeat' (first | refine stx ?_ | refine zqc (hrt) ?_ | refine zqc (hrn) ?_ | ((refine zqe (hb) ?_); rintro v Hout n1 ⟨rfl, rfl, rfl⟩) | (refine stq ?_ ?_ <;> (intro hc; ((try simp at hc) <;> try contradiction))) | fail)) <;> try (exfalso; omega))
          all_goals exact fin rfl w_3 [] (vB false) [] 9 ⟨rfl, rfl, rfl⟩ rfl ⟨trivial, trivial, rfl⟩ rfl
        | some z =>
          rw [ho] at hb
          ((repeat' (first | refine stp ?_ | (refine stq ?_ ?_ <;> (intro hc; ((try simp at hc) <;> try contradiction))) | fail)) <;> try (exfalso; omega))
          refine awp_held TM [(8, _), (9, _)] sb rfl (fun ρs => ?_)
          refine zt0 ?_
          refine zt1 ?_
          refine zt2 ?_
          refine zt3 ?_
          refine zt4 ?_
          refine zt5 ?_
          refine zt7 ?_
          refine w_u [6, 10] kr rfl ⟨?_, ?_, trivial⟩
          first | (refine zho ?_)
          refine zt8 ?_
          refine w_u [9, 10] kr rfl ⟨?_, ?_, trivial⟩
          first | (refine zho ?_)
          refine w_u [10] kr rfl ⟨?_, trivial⟩
          first | (refine zho ?_)
          refine w_u [11] kr rfl ⟨?_, trivial⟩
          first | (refine zho ?_)
          refine w_v kr ?_
          rotate_left
          first | (refine zho ?_)
          refine w_u [9] kr rfl ⟨?_, trivial⟩
          first | (refine zho ?_)
          refine w_u [11] kr rfl ⟨?_, trivial⟩
          first | (refine zho ?_)
          refine w_v kr ?_
          rotate_left
          first | (refine zho ?_)
          refine w_u [6] kr rfl ⟨?_, trivial⟩
          first | (refine zho ?_)
          refine zt8 ?_
          refine w_u [9] kr rfl ⟨?_, trivial⟩
          first | (refine zho ?_)
          refine w_u [11] kr rfl ⟨?_, trivial⟩
          first | (refine zho ?_)
          refine w_v kr ?_
          rotate_left
          all_goals ((repeat' (first | refine stx ?_ | refine zqc (hrt) ?_ | refine zqc (hrn) ?_ | ((refine zqe (hb) ?_); rintro v Hout n1 ⟨rfl, rfl, rfl⟩) | (refine stq ?_ ?_ <;> (intro hc; ((try simp at hc) <;> try contradiction))) | fail)) <;> try (exfalso; omega))
          all_goals exact fin rfl w_3 [(9, 12), (10, 13)] (vB true) [(2, .own 137 1 (.lit (workL 9 4 10 n n (n * n) (n * n) cu (n * n) false))), (9, .own 3 (n * n) (.ints z.1)), (4, .own 3 cu (.ints z.2.1)), (10, .own 3 (n * n) (.ints z.2.2)), (8, .own 3 1 (.lit [.int k]))] 11 ⟨_, _, Nat.le_refl _, rfl, rfl, rfl⟩ rfl ⟨trivial, ⟨rfl, rfl, rfl, rfl, rfl, trivial⟩, rfl⟩ rfl
end Go.Proofs.YtekpamojojfplaaGreat
namespace Go.Proofs.YtekpamojojfplaaGreat
open Go.RowKit
theorem turn_id {n : Nat} : turnM (idTo n n) n n = idTo n n := by
  apply List.ext_getElem (by simp [turnM])
  intro p h1 h2
  have hp : p < n * n := by simpa [turnM] using h1
  have hn : 0 < n := by
    rcases Nat.eq_zero_or_pos n with h | h
    · subst h; omega
    · exact h
  have hd := div_lt_c hp
  have hm := Nat.mod_lt p hn
  obtain ⟨e1, e2⟩ := turn_idx (j := p % n) hd
  have hq : p % n * n + p / n < n * n := by
    have := Nat.mul_le_mul_right n (show p % n + 1 ≤ n by omega)
    rw [Nat.succ_mul] at this; omega
  simp only [turnM, List.getElem_map, List.getElem_range]
  rw [getD_in (by rw [idTo_len]; exact hq)]
  simp only [idTo, List.getElem_map, List.getElem_range, e1, e2]
  have : (p % n = p / n ∧ p % n < n) ↔ (p / n = p % n ∧ p / n < n) := by
    generalize p % n = u at *
    generalize p / n = v at *
    omega
  simp only [this]
theorem defB_dims {r c : Int} {xs : List Int} (h : defB r c xs = true) : ∃ n : Nat, r = n ∧ c = n ∧ n ≤ 6 ∧ xs.length = n * n ∧ xs.all numB = true ∧ turnM xs n n = xs := by
  simp only [defB, Bool.and_eq_true] at h
  have h2 := h.2
  simp only [gramB, Bool.and_eq_true, decide_eq_true_eq] at h2
  obtain ⟨n, rfl, rfl, hn, hx, hnum⟩ := sqB_dims h2.1
  exact ⟨n, rfl, rfl, hn, hx, hnum, by simpa using h2.2⟩
theorem turnS0 {n : Nat} {xs : List Int} (hx : xs.length = n * n) (hnum : xs.all numB = true) : TurnS n (xs, idTo n n, idTo n n) := ⟨⟨hx, idTo_len, idTo_len, hnum, id_num, id_num⟩, turn_id.symm⟩
theorem redG_go {n f k : Nat} {s : S3} (h : k < n) : redG n (f + 1) s k = (redStep n k s).bind fun x => redG n f x.1 x.2 := by rw [redG, if_pos h]
theorem redG_end {n f k : Nat} {s : S3} (h : ¬ k < n) : redG n f s k = some s := by cases f <;> rw [redG, if_neg h]
theorem redG_out {n k : Nat} {s : S3} (h : k < n) : redG n 0 s k = none := by rw [redG, if_pos h]
def RedR (t : TypeId) (r : Int) (o : Option S3) (v : AV) (Hout : List (Nat × Blk)) (n1 : Nat) : Prop := match o with
  | none => v = .tup [.agg zeroM, .agg zeroM, .one (.bool false)] ∧ Hout = [] ∧ n1 = 2
  | some s => ∃ cx cu, s.1.length ≤ cx ∧ s.2.1.length ≤ cu ∧ v = .tup [.agg [.int r, .int r, .sl 2 1 0 s.1.length cx], .agg [.int r, .int r, .sl 3 1 0 s.2.1.length cu], .one (.bool true)] ∧ Hout = [(2, .own t cx (.ints s.1)), (3, .own t cu (.ints s.2.1))] ∧ n1 = 4
theorem own_workR {tw : TypeId} {kx ku kv a b nx nx' cx cu cv : Nat} {bad : Bool} {m : Nat → Nat} (h : nx = nx') : some (Blk.own tw 1 (.lit (workL (m kx) (m ku) (m kv) a b nx cx cu cv bad))) = some ((Blk.own tw 1 (.lit (workL kx ku kv a b nx' cx cu cv bad))).ren m) := by subst h; rfl
set_option maxRecDepth 100000 in
set_option maxHeartbeats 16000000 in
theorem d_redI (r c : Int) (xs : List Int) (ca : Nat) (hl : xs.length ≤ 1099511627776) (hca : xs.length ≤ ca) : Does Tryz.prog 123 [vM r c 1 xs.length ca] [(1, .ro (.ints xs))] 2 (RedR 3 r (redO r c xs)) := by
 refine Does.intro TT Tryz.func123 rfl (by kernel_rfl) Zz Zz fun E hE => ?_
 have hde := d_defI r c xs ca hl hca
 cases hd : defB r c xs with
 | false =>
  have hR : redO r c xs = none := by rw [redO, hd]; rfl
  rw [hR]
  rw [hd] at hde
  ((repeat' (first | refine stx ?_ | refine zqc (hde) ?_ | (refine stq ?_ ?_ <;> (intro hc; ((try simp at hc) <;> try contradiction))) | fail)) <;> try (exfalso; omega))
  all_goals exact fin rfl w_3 [] (.tup [.agg zeroM, .agg zeroM, .one (.bool false)]) [] 2 ⟨rfl, rfl, rfl⟩ rfl ⟨trivial, trivial, rfl⟩ rfl
 | true =>
  rw [hd] at hde
  have hR0 : redO r c xs = redG r.toNat 200 (xs, idTo r.toNat r.toNat, idTo r.toNat r.toNat) 1 := by rw [redO, hd]; rfl
  obtain ⟨n, rfl, rfl, hn, hx, hnum, -⟩ := defB_dims hd
  have o0 := turnS0 hx hnum
  have hR : redO n n xs = redG n 200 (xs, idTo n n, idTo n n) 1 := by rw [hR0, Int.toNat_natCast]
  generalize hs0 : (xs, idTo n n, idTo n n) = s0 at o0 hR
  have hx0 : xs = s0.1 := by rw [← hs0]
  have hu0 : idTo n n = s0.2.1 := by rw [← hs0]
  have hv0 : idTo n n = s0.2.2 := by rw [← hs0]
  have hn24 : n ≤ 24 := by omega
  have hn3 : n * n ≤ 36 := Nat.mul_le_mul hn hn
  rw [hR]
  generalize hRR : redG n 200 s0 1 = R
  ((repeat' (first | refine stx ?_ | refine zqc (hde) ?_ | ((refine zqe (d_newWork n n xs _ hn24 hn24 hl) ?_); rintro v Hout n1 ⟨cx0, hcx0, rfl, rfl, rfl⟩) | (refine stq ?_ ?_ <;> (intro hc; ((try simp at hc) <;> try contradiction))) | fail)) <;> try (exfalso; omega))
  refine w_G hE (fun x : Nat × Nat × S3 × Nat × Nat => x.1 ≤ 200 ∧ 1 ≤ x.2.1 ∧ TurnS n x.2.2.1 ∧ n * n ≤ x.2.2.2.1 ∧ redG n (200 - x.1) x.2.2.1 x.2.1 = R) (fun x => 200 - x.1)
   (fun x => [(1, .one (.ptr 6 3 0 0)), (2, .one (.ptr 7 3 0 0)), (3, .one (.ptr 8 3 0 0)), (5, vW), (6, .one (.ptr 9 1 0 0)), (7, vI x.1)])
   (fun x => [(1, .ro (.ints xs)), (2, .own 137 1 (.lit (workL 3 4 5 n n (n * n) x.2.2.2.1 (n * n) x.2.2.2.2 false))), (3, .own 3 x.2.2.2.1 (.ints x.2.2.1.1)), (4, .own 3 (n * n) (.ints x.2.2.1.2.1)), (5, .own 3 x.2.2.2.2 (.ints x.2.2.1.2.2)), (6, .own 26 1 (.lit [.int n, .int n, .sl 1 1 0 xs.length ca])), (7, .own 26 1 (.lit zeroM)), (8, .own 26 1 (.lit zeroM)), (9, .own 3 1 (.lit [.int x.2.1]))]) 10 [(2, 8), (3, 5), (4, 6), (5, 7), (6, 2), (7, 3), (8, 4)] (0, 1, s0, cx0, n * n) ⟨Nat.zero_le _, Nat.le_refl _, o0, by dsimp only; omega, hRR⟩ ⟨w_1, ⟨rfl, own_workR hx, own_ints hx0, own_ints hu0, own_ints hv0, rfl, rfl, rfl, rfl, trivial⟩, rfl⟩ ?_
  rintro ⟨steps, k, s, cx, cv⟩ ⟨hst, hk1, hT, hcx, hrg⟩
  dsimp only at hst hk1 hT hcx hrg ⊢
  have o1 := hT.1
  have k1 := o1.x
  have k2 := o1.u
  by_cases hkn : k < n
  ·have hkn2 : ¬ n ≤ k := by omega
   have hac := d_accI n s.1 cx (n * n) k1.symm k1 hn24
   cases ho : acTo s.1 n n with
   | none =>
    rw [ho] at hac
    have hRn : R = none := by
     rw [← hrg]
     cases h : 200 - steps with
     | zero => exact redG_out hkn
     | succ f => rw [redG_go hkn, redStep_in, ho]; rfl
    rw [hRn]
    ((repeat' (first | refine stx ?_ | ((refine zqe (hac) ?_); rintro v Hout n1 ⟨rfl, rfl, rfl⟩) | (refine stq ?_ ?_ <;> (intro hc; ((try simp at hc) <;> try contradiction))) | fail)) <;> try (exfalso; omega))
    all_goals exact fin rfl w_3 [] (.tup [.agg zeroM, .agg zeroM, .one (.bool false)]) [] 2 ⟨rfl, rfl, rfl⟩ rfl ⟨trivial, trivial, rfl⟩ rfl
   | some st =>
    rw [ho] at hac
    by_cases h200 : steps = 200
    ·have hRn : R = none := by
      rw [← hrg, h200]; exact redG_out hkn
     rw [hRn]
     have h200i : (steps : Int) = 200 := by omega
     ((repeat' (first | refine stx ?_ | ((refine zqe (hac) ?_); rintro v Hout n1 ⟨l, c1, c2, hps, rfl, rfl, rfl⟩) | (refine stq ?_ ?_ <;> (intro hc; ((try simp at hc) <;> try contradiction))) | fail)) <;> try (exfalso; omega))
     all_goals exact fin rfl w_3 [] (.tup [.agg zeroM, .agg zeroM, .one (.bool false)]) [] 2 ⟨rfl, rfl, rfl⟩ rfl ⟨trivial, trivial, rfl⟩ rfl
    ·have h200i : ¬ (steps : Int) = 200 := by omega
     obtain ⟨a1, a2, a3⟩ := acTo_len ho
     have hsi := fun l c1 c2 hl hp => d_stepI n k c1 c2 cx (n * n) cv s l st.2 o1 hn24 hk1 hkn hl a2 hp hcx (Nat.le_refl _)
     have hgo : redG n (200 - steps) s k = (redStep n k s).bind fun x => redG n (200 - (steps + 1)) x.1 x.2 := by
      rw [show 200 - steps = (200 - (steps + 1)) + 1 by omega]; exact redG_go hkn
     rw [redStep_in, ho, Option.bind_some] at hgo
     have hlen : ∀ l : List Row, psX l = st.1 → l.length = n ∧ (l.getD k rowD).ps.length = k := fun l hl => by
      have e1 : l.length = n := by rw [← a1, ← hl, psX, List.length_map]
      refine ⟨e1, ?_⟩
      have e2 := a3 k hkn
      rw [← hl, psX, getD_in (by rw [List.length_map]; omega)] at e2
      rw [getD_in (show k < l.length by omega)]
      simpa using e2
     have hsj : ∀ (l : List Row) (c1 c2 : Nat), psX l = st.1 → _ := fun l c1 c2 hl => hsi l c1 c2 (hlen l hl).1 (hlen l hl).2
     have hpe : ∀ l : List Row, psX l = st.1 → (psX l, st.2) = st := fun l hl => by rw [hl]
     cases hin : redIn n k s st with
     | none =>
      have hRn : R = none := by rw [← hrg, hgo, hin]; rfl
      rw [hRn]
      have hsk : ∀ (l : List Row) (c1 c2 : Nat), psX l = st.1 → Does Tryz.prog 162 [vW, .agg [.sl 6 1 0 l.length c1, .sl 7 2 0 st.2.length c2], .one (.ptr 8 1 0 0)] [(2, .own 137 1 (.lit (workL 3 4 5 n n (n * n) cx (n * n) cv false))), (3, .own 3 cx (.ints s.1)), (4, .own 3 (n * n) (.ints s.2.1)), (5, .own 3 cv (.ints s.2.2)), (6, .ro (.rows true true l)), (7, .ro (.i2 st.2)), (8, .own 3 1 (.lit [.int k]))] 9 (StepR 3 137 n (n * n) none) := fun l c1 c2 hl => by
       have h := hsj l c1 c2 hl
       rw [hpe l hl, hin] at h
       rw [(hlen l hl).1, a2]
       exact h
      ((repeat' (first | refine stx ?_ | ((refine zqe (hac) ?_); rintro v Hout n1 ⟨l, c1, c2, hps, rfl, rfl, rfl⟩) | ((refine zqe (hsk _ _ _ hps) ?_); rintro v Hout n1 ⟨rfl, rfl, rfl⟩) | (refine stq ?_ ?_ <;> (intro hc; ((try simp at hc) <;> try contradiction))) | fail)) <;> try (exfalso; omega))
      all_goals exact fin rfl w_3 [] (.tup [.agg zeroM, .agg zeroM, .one (.bool false)]) [] 2 ⟨rfl, rfl, rfl⟩ rfl ⟨trivial, trivial, rfl⟩ rfl
     | some y =>
      have hnx : redG n (200 - (steps + 1)) y.1 y.2 = R := by rw [← hrg, hgo, hin]; rfl
      have hT2 := redStep_turn hT ⟨hk1, hkn⟩ (s' := y.1) (k' := y.2) (by rw [redStep_in, ho, Option.bind_some, hin])
      have hsk : ∀ (l : List Row) (c1 c2 : Nat), psX l = st.1 → Does Tryz.prog 162 [vW, .agg [.sl 6 1 0 l.length c1, .sl 7 2 0 st.2.length c2], .one (.ptr 8 1 0 0)] [(2, .own 137 1 (.lit (workL 3 4 5 n n (n * n) cx (n * n) cv false))), (3, .own 3 cx (.ints s.1)), (4, .own 3 (n * n) (.ints s.2.1)), (5, .own 3 cv (.ints s.2.2)), (6, .ro (.rows true true l)), (7, .ro (.i2 st.2)), (8, .own 3 1 (.lit [.int k]))] 9 (StepR 3 137 n (n * n) (some y)) := fun l c1 c2 hl => by
       have h := hsj l c1 c2 hl
       rw [hpe l hl, hin] at h
       rw [(hlen l hl).1, a2]
       exact h
      ((repeat' (first | refine stx ?_ | ((refine zqe (hac) ?_); rintro v Hout n1 ⟨l, c1, c2, hps, rfl, rfl, rfl⟩) | ((refine zqe (hsk _ _ _ hps) ?_); rintro v Hout n1 ⟨cx1, cv1, hcx1, rfl, rfl, rfl⟩) | (refine stq ?_ ?_ <;> (intro hc; ((try simp at hc) <;> try contradiction))) | fail)) <;> try (exfalso; omega))
      all_goals exact ⟨[(3, 14), (5, 15)], (steps + 1, y.2, y.1, cx1, cv1), ⟨by dsimp only; omega, hT2.2.1, hT2.1, hcx1, hnx⟩, w_4, ⟨w_1, w_2, rfl⟩⟩
  ·rw [redG_end hkn] at hrg
   rw [← hrg]
   have hkn2 : n ≤ k := by omega
   ((repeat' (first | refine stx ?_ | (refine stq ?_ ?_ <;> (intro hc; ((try simp at hc) <;> try contradiction))) | fail)) <;> try (exfalso; omega))
   refine awp_held TM [(2, _)] sb rfl (fun ρs => ?_)
   refine zt0 ?_
   refine zt1 ?_
   refine zt2 ?_
   refine zt3 ?_
   refine zt4 ?_
   refine zt5 ?_
   refine zt6 ?_
   refine zt7 ?_
   refine w_u [8] kr rfl ⟨?_, trivial⟩
   first | (refine zho ?_)
   refine w_u [9] kr rfl ⟨?_, trivial⟩
   first | (refine zho ?_)
   refine zt10 ?_
   refine w_v kr ?_
   rotate_left
   all_goals ((repeat' (first | refine stx ?_ | (refine stq ?_ ?_ <;> (intro hc; ((try simp at hc) <;> try contradiction))) | fail)) <;> try (exfalso; omega))
   all_goals exact fin rfl w_3 [(2, 3), (3, 4)] (.tup [.agg [.int n, .int n, .sl 2 1 0 (n * n) cx], .agg [.int n, .int n, .sl 3 1 0 (n * n) (n * n)], .one (.bool true)]) [(2, .own 3 cx (.ints s.1)), (3, .own 3 (n * n) (.ints s.2.1))] 4 ⟨cx, n * n, by omega, by omega, by rw [k1, k2], rfl, rfl⟩ rfl ⟨trivial, ⟨rfl, rfl, trivial⟩, rfl⟩ rfl
end Go.Proofs.YtekpamojojfplaaGreat
