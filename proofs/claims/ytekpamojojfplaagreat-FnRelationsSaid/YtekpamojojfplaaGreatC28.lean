/-
  TEXTS OF THE PROOF, put together: bRgI, bPart, bFirst, bDef.
-/
import Derived.Test.YtekpamojojfplaaGreatC26
import Derived.Test.YtekpamojojfplaaGreatC27
import Derived.Test.YtekpamojojfplaaGreatC25
import Derived.Test.YtekpamojojfplaaGreatC17
import Derived.Test.YtekpamojojfplaaGreatC23
import Derived.Test.YtekpamojojfplaaGreatC22
import Derived.Test.YtekpamojojfplaaGreatC09
set_option linter.unusedVariables false
set_option linter.unusedSimpArgs false
namespace Go.Proofs.YtekpamojojfplaaGreat
open Go.RowKit
set_option maxRecDepth 100000 in
set_option maxHeartbeats 4000000 in
theorem d_inOrdI (n k c1 c2 : Nat) (l : List Row) (sq : List RP) (hn : n ≤ 24) (hl : l.length = n) (hs : sq.length = n) (hk1 : 1 ≤ k) (hk : k < n) (hp : (l.getD k rowD).ps.length = k) :
    Does Tryz.prog 199 [.agg [.sl 1 1 0 n c1, .sl 2 2 0 n c2], vI k] [(1, .ro (.rows true true l)), (2, .ro (.i2 sq))] 3 (Ret (.tup [.one (.bool (decide (ordC (psX l) sq k = 0 ∨ ordC (psX l) sq k = 1))), .one (.bool (!decide (ordC (psX l) sq k = 2)))]) 3) := by
  have e0 : 0 + (k : Int).toNat = k := by omega
  have e1 : 0 + ((k : Int) - 1).toNat = k - 1 := by omega
  have ex : (l.getD (0 + (k : Int).toNat) rowD).ps = (psX l).getD k [] := by
    rw [e0, getD_in (show k < l.length by omega), getD_in (by rw [psX, List.length_map]; omega)]; simp [psX]
  have exl : (l.getD (0 + (k : Int).toNat) rowD).ps.length = k := by rw [e0]; exact hp
  have exn : (l[k]?.getD rowD).ps.length = k := by rw [← List.getD_eq_getElem?_getD]; exact hp
  obtain ⟨c, hc⟩ : ∃ c, c = ordC (psX l) sq k := ⟨_, rfl⟩
  obtain ⟨X, hX⟩ : ∃ X : RP, X = mulR (subR 3 4 (mulR ((l.getD (0 + (k : Int).toNat) rowD).ps.getD (0 + ((k : Int) - 1).toNat) (0, 0)).1 ((l.getD (0 + (k : Int).toNat) rowD).ps.getD (0 + ((k : Int) - 1).toNat) (0, 0)).2 ((l.getD (0 + (k : Int).toNat) rowD).ps.getD (0 + ((k : Int) - 1).toNat) (0, 0)).1 ((l.getD (0 + (k : Int).toNat) rowD).ps.getD (0 + ((k : Int) - 1).toNat) (0, 0)).2).1 (mulR ((l.getD (0 + (k : Int).toNat) rowD).ps.getD (0 + ((k : Int) - 1).toNat) (0, 0)).1 ((l.getD (0 + (k : Int).toNat) rowD).ps.getD (0 + ((k : Int) - 1).toNat) (0, 0)).2 ((l.getD (0 + (k : Int).toNat) rowD).ps.getD (0 + ((k : Int) - 1).toNat) (0, 0)).1 ((l.getD (0 + (k : Int).toNat) rowD).ps.getD (0 + ((k : Int) - 1).toNat) (0, 0)).2).2).1 (subR 3 4 (mulR ((l.getD (0 + (k : Int).toNat) rowD).ps.getD (0 + ((k : Int) - 1).toNat) (0, 0)).1 ((l.getD (0 + (k : Int).toNat) rowD).ps.getD (0 + ((k : Int) - 1).toNat) (0, 0)).2 ((l.getD (0 + (k : Int).toNat) rowD).ps.getD (0 + ((k : Int) - 1).toNat) (0, 0)).1 ((l.getD (0 + (k : Int).toNat) rowD).ps.getD (0 + ((k : Int) - 1).toNat) (0, 0)).2).1 (mulR ((l.getD (0 + (k : Int).toNat) rowD).ps.getD (0 + ((k : Int) - 1).toNat) (0, 0)).1 ((l.getD (0 + (k : Int).toNat) rowD).ps.getD (0 + ((k : Int) - 1).toNat) (0, 0)).2 ((l.getD (0 + (k : Int).toNat) rowD).ps.getD (0 + ((k : Int) - 1).toNat) (0, 0)).1 ((l.getD (0 + (k : Int).toNat) rowD).ps.getD (0 + ((k : Int) - 1).toNat) (0, 0)).2).2).2 (sq.getD (0 + ((k : Int) - 1).toNat) (0, 0)).1 (sq.getD (0 + ((k : Int) - 1).toNat) (0, 0)).2 := ⟨_, rfl⟩
  have hce : cmpR (sq.getD (0 + (k : Int).toNat) (0, 0)).1 (sq.getD (0 + (k : Int).toNat) (0, 0)).2 X.1 X.2 = c := by
    rw [hX, hc, ex, e0, e1]; rfl
  rw [← hc]
  refine Does.intro TT Tryz.func199 rfl (by kernel_rfl) Zz Zz fun E hE => ?_
  ((repeat' (first | (refine awp_cutR 2 hE (fun _ : Unit => True) (fun _ => [(1, vI k), (2, .one (.ptr 3 2 0 0)), (7, .one (.ptr 6 2 0 0))]) (fun _ => [(1, .ro (.rows true true l)), (2, .ro (.i2 sq)), (3, .own 142 1 (.lit [.sl 1 1 0 n c1, .sl 2 2 0 n c2])), (6, .own 129 1 (.lit [.int X.1, .int X.2]))]) 7 ?_ ?_) | refine stp ?_ | (refine stq ?_ ?_ <;> (intro hc; ((try simp at hc) <;> try contradiction))) | fail)) <;> try (exfalso; omega))
  · refine awp_held TM [(2, _), (3, _), (5, _)] sb rfl (fun ρs => ?_)
    refine zt0 ?_
    refine zt1 ?_
    refine zt2 ?_
    refine zt5 ?_
    refine zt6 ?_
    refine zt7 ?_
    refine zt8 ?_
    refine zt9 ?_
    refine zt10 ?_
    refine w_u [3, 12] kr rfl ⟨?_, ?_, trivial⟩
    first | (refine zho ?_) | refine zqb (d_mulRI _ _ _ _) ?_ | refine zqb (d_subRI _ _ _ _) ?_
    refine w_u [4, 12] kr rfl ⟨?_, ?_, trivial⟩
    first | (refine zho ?_) | refine zqb (d_mulRI _ _ _ _) ?_ | refine zqb (d_subRI _ _ _ _) ?_
    refine w_u [11, 12] kr rfl ⟨?_, ?_, trivial⟩
    first | (refine zho ?_) | refine zqb (d_mulRI _ _ _ _) ?_ | refine zqb (d_subRI _ _ _ _) ?_
    refine w_u [12] kr rfl ⟨?_, trivial⟩
    first | (refine zho ?_) | refine zqb (d_mulRI _ _ _ _) ?_ | refine zqb (d_subRI _ _ _ _) ?_
    refine w_u [13] kr rfl ⟨?_, trivial⟩
    first | (refine zho ?_) | refine zqb (d_mulRI _ _ _ _) ?_ | refine zqb (d_subRI _ _ _ _) ?_
    refine w_v kr ?_
    rotate_left
    first | (refine zho ?_) | refine zqb (d_mulRI _ _ _ _) ?_ | refine zqb (d_subRI _ _ _ _) ?_
    refine w_u [11] kr rfl ⟨?_, trivial⟩
    first | (refine zho ?_) | refine zqb (d_mulRI _ _ _ _) ?_ | refine zqb (d_subRI _ _ _ _) ?_
    refine w_u [13] kr rfl ⟨?_, trivial⟩
    first | (refine zho ?_) | refine zqb (d_mulRI _ _ _ _) ?_ | refine zqb (d_subRI _ _ _ _) ?_
    refine w_v kr ?_
    rotate_left
    first | (refine zho ?_) | refine zqb (d_mulRI _ _ _ _) ?_ | refine zqb (d_subRI _ _ _ _) ?_
    refine w_u [4] kr rfl ⟨?_, trivial⟩
    first | (refine zho ?_) | refine zqb (d_mulRI _ _ _ _) ?_ | refine zqb (d_subRI _ _ _ _) ?_
    refine w_u [11] kr rfl ⟨?_, trivial⟩
    first | (refine zho ?_) | refine zqb (d_mulRI _ _ _ _) ?_ | refine zqb (d_subRI _ _ _ _) ?_
    refine w_u [13] kr rfl ⟨?_, trivial⟩
    first | (refine zho ?_) | refine zqb (d_mulRI _ _ _ _) ?_ | refine zqb (d_subRI _ _ _ _) ?_
    refine w_v kr ?_
    rotate_left
    first | (refine zho ?_) | refine zqb (d_mulRI _ _ _ _) ?_ | refine zqb (d_subRI _ _ _ _) ?_
    refine w_u [3] kr rfl ⟨?_, trivial⟩
    first | (refine zho ?_) | refine zqb (d_mulRI _ _ _ _) ?_ | refine zqb (d_subRI _ _ _ _) ?_
    refine w_u [4] kr rfl ⟨?_, trivial⟩
    first | (refine zho ?_) | refine zqb (d_mulRI _ _ _ _) ?_ | refine zqb (d_subRI _ _ _ _) ?_
    refine w_u [11] kr rfl ⟨?_, trivial⟩
    first | (refine zho ?_) | refine zqb (d_mulRI _ _ _ _) ?_ | refine zqb (d_subRI _ _ _ _) ?_
    refine w_u [13] kr rfl ⟨?_, trivial⟩
    first | (refine zho ?_) | refine zqb (d_mulRI _ _ _ _) ?_ | refine zqb (d_subRI _ _ _ _) ?_
    refine w_v kr ?_
    rotate_left
    all_goals ((repeat' (first | refine stp ?_ | (refine stq ?_ ?_ <;> (intro hc; ((try simp at hc) <;> try contradiction))) | fail)) <;> try (exfalso; omega))
    all_goals exact ⟨[], (), trivial, ⟨w_1, ⟨rfl, rfl, rfl, congrArg (fun p : RP => some (Blk.own 129 1 (.lit [.int p.1, .int p.2]))) hX.symm, trivial⟩, rfl⟩⟩
  rintro ⟨⟩ -
  ((repeat' (first | refine stp ?_ | (refine stq ?_ ?_ <;> (intro hc; ((try simp at hc) <;> try contradiction))) | fail)) <;> try (exfalso; omega))
  refine awp_held TM [(2, _), (3, _), (6, _)] sb rfl (fun ρs => ?_)
  refine zt0 ?_
  refine zt1 ?_
  refine zt2 ?_
  refine zt3 ?_
  refine zt4 ?_
  refine zt5 ?_
  refine w_u [6] kr rfl ⟨?_, trivial⟩
  first | (refine zho ?_) | refine zqb (d_cmpRI _ _ _ _) ?_
  refine zt7 ?_
  refine w_v kr ?_
  rotate_left
  all_goals rw [hce]
  all_goals ((repeat' (first | refine stp ?_ | (refine stq ?_ ?_ <;> (intro hc; ((try simp at hc) <;> try contradiction))) | fail)) <;> try (exfalso; omega))
  · refine fin_ret rfl w_3 ((by simp [hc])) rfl
  · refine fin_ret rfl w_3 ((by simp [hc])) rfl
def BothR (t tw : TypeId) (n cx cu cv : Nat) (o : Option S3) (v : AV) (Hout : List (Nat × Blk)) (n1 : Nat) : Prop := v = .tup [] ∧ n1 = 8 ∧ match o with
  | some s => Hout = [(2, .own tw 1 (.lit (workL 6 4 7 n n (n * n) (n * n) cu (n * n) false))), (6, .own t (n * n) (.ints s.1)), (4, .own t cu (.ints s.2.1)), (7, .own t (n * n) (.ints s.2.2))]
  | none => Hout = [(2, .own tw 1 (.lit (workL 6 4 7 n n (n * n) cx cu cv true)))]
theorem addS_ok3 {r c i j : Nat} {q : Int} {s : S3} {y : TwoL} (h : OK3 r c s) (ho : addS c r i j q (s.1, s.2.1) = some y) : OK3 r c (y.1, y.2, s.2.2) := by
  have o := addS_ok h.row ho
  exact ⟨o.1, o.2.1, h.v, o.2.2.1, o.2.2.2, h.nv⟩
set_option maxHeartbeats 4000000 in
theorem d_bothAdd (n i j cx cu cv : Nat) (q : Int) (s : S3) (hs : OK3 n n s) (hn : n ≤ 24) (hi : i < n) (hj : j < n) (hij : i ≠ j) (hq : numB q = true) (hcx : n * n ≤ cx) (hcu : n * n ≤ cu) :
    Does Tryz.prog 198 [vW, vO 2 i j q] [(2, .own 137 1 (.lit (workL 3 4 5 n n (n * n) cx cu cv false))), (3, .own 3 cx (.ints s.1)), (4, .own 3 cu (.ints s.2.1)), (5, .own 3 cv (.ints s.2.2))] 6 (BothR 3 137 n cx cu cv (bothO n i j q s)) := by
  have h1 := hs.x
  have h2 := hs.u
  refine Does.intro TT Tryz.func198 rfl (by kernel_rfl) Zz Zz fun E hE => ?_
  have g1 := d_rowsAdd n n i j (n * n) cx cu cv q s.1 s.2.1 hs.row h1.symm hn hn hi hj hij hq (by omega) (by omega)
  cases ho : addS n n i j q (s.1, s.2.1) with
  | none =>
    rw [ho] at g1
    have hN : bothO n i j q s = none := by unfold bothO row3; rw [ho]; rfl
    rw [hN]
    ((repeat' (first | refine stx ?_ | ((refine zqe (g1) ?_); rintro v Hout n1 ⟨rfl, rfl, ys, zs, rfl⟩) | (refine stq ?_ ?_ <;> (intro hc; ((try simp at hc) <;> try contradiction))) | fail)) <;> try (exfalso; omega))
    all_goals exact fin_n rfl w_3 [(6, 3), (7, 5)] (.tup []) [(2, .own 137 1 (.lit (workL 6 4 7 n n (n * n) cx cu cv true)))] 8 ⟨rfl, rfl, rfl⟩ rfl ⟨trivial, ⟨rfl, trivial⟩, rfl⟩ rfl
  | some y =>
    rw [ho] at g1
    have hS : bothO n i j q s = col3 n n i j q (y.1, y.2, s.2.2) := by unfold bothO row3; rw [ho]; rfl
    have g2 := d_colsAdd n n i j cx cu cv q (y.1, y.2, s.2.2) (addS_ok3 hs ho) hn hn hi hj hij hq
    rw [hS]
    cases hc : col3 n n i j q (y.1, y.2, s.2.2) with
    | none =>
      rw [hc] at g2
      ((repeat' (first | refine stx ?_ | ((refine zqe (g1) ?_); rintro v Hout n1 ⟨rfl, rfl, rfl⟩) | ((refine zqe (g2) ?_); rintro v Hout n1 ⟨rfl, rfl, rfl⟩) | (refine stq ?_ ?_ <;> (intro hc; ((try simp at hc) <;> try contradiction))) | fail)) <;> try (exfalso; omega))
      all_goals exact fin_n rfl w_3 [(6, 7), (7, 8)] (.tup []) [(2, .own 137 1 (.lit (workL 6 4 7 n n (n * n) cx cu cv true)))] 8 ⟨rfl, rfl, rfl⟩ rfl ⟨trivial, ⟨rfl, trivial⟩, rfl⟩ rfl
    | some z =>
      rw [hc] at g2
      have e : z.2.1 = y.2 := by
        rw [col3_if] at hc
        split at hc
        · cases hc; rfl
        · cases hc
      ((repeat' (first | refine stx ?_ | ((refine zqe (g1) ?_); rintro v Hout n1 ⟨rfl, rfl, rfl⟩) | ((refine zqe (g2) ?_); rintro v Hout n1 ⟨rfl, rfl, rfl⟩) | (refine stq ?_ ?_ <;> (intro hc; ((try simp at hc) <;> try contradiction))) | fail)) <;> try (exfalso; omega))
      all_goals exact fin_n rfl w_3 [(6, 7), (7, 8)] (.tup []) [(2, .own 137 1 (.lit (workL 6 4 7 n n (n * n) (n * n) cu (n * n) false))), (6, .own 3 (n * n) (.ints z.1)), (4, .own 3 cu (.ints z.2.1)), (7, .own 3 (n * n) (.ints z.2.2))] 8 ⟨rfl, rfl, rfl⟩ rfl ⟨trivial, ⟨rfl, rfl, own_ints e.symm, rfl, trivial⟩, rfl⟩ rfl
set_option maxHeartbeats 4000000 in
theorem d_bothSwap (n i j cx cu cv : Nat) (s : S3) (hs : OK3 n n s) (hn : n ≤ 24) (hi : i < n) (hj : j < n) (hij : i ≠ j) (hcx : n * n ≤ cx) (hcu : n * n ≤ cu) :
    Does Tryz.prog 198 [vW, vO 0 i j 0] [(2, .own 137 1 (.lit (workL 3 4 5 n n (n * n) cx cu cv false))), (3, .own 3 cx (.ints s.1)), (4, .own 3 cu (.ints s.2.1)), (5, .own 3 cv (.ints s.2.2))] 6 (BothR 3 137 n cx cu cv (some (swC n n i j (swR n n i j s)))) := by
  have h1 := hs.x
  have h2 := hs.u
  refine Does.intro TT Tryz.func198 rfl (by kernel_rfl) Zz Zz fun E hE => ?_
  have g1 := d_rowsSwap n n i j (n * n) cx cu cv s.1 s.2.1 hs.row h1.symm hn hn hi hj hij (by omega) (by omega)
  have o2 := swR_ok (a := i) (t := j) hs
  have e2 : swR n n i j s = (swapTo s.1 (i * n) (j * n) n, swapTo s.2.1 (i * n) (j * n) n, s.2.2) := if_neg hij
  rw [e2] at o2
  have g2 := d_colsSwap n n i j cx cu cv (swapTo s.1 (i * n) (j * n) n, swapTo s.2.1 (i * n) (j * n) n, s.2.2) o2 hn hn hi hj hij
  rw [e2]
  generalize hz : swC n n i j (swapTo s.1 (i * n) (j * n) n, swapTo s.2.1 (i * n) (j * n) n, s.2.2) = z at g2
  have e : z.2.1 = swapTo s.2.1 (i * n) (j * n) n := by rw [← hz, swC, if_neg hij]
  ((repeat' (first | refine stx ?_ | ((refine zqe (g1) ?_); rintro v Hout n1 ⟨rfl, rfl, rfl⟩) | ((refine zqe (g2) ?_); rintro v Hout n1 ⟨rfl, rfl, rfl⟩) | (refine stq ?_ ?_ <;> (intro hc; ((try simp at hc) <;> try contradiction))) | fail)) <;> try (exfalso; omega))
  all_goals exact fin_n rfl w_3 [(6, 7), (7, 8)] (.tup []) [(2, .own 137 1 (.lit (workL 6 4 7 n n (n * n) (n * n) cu (n * n) false))), (6, .own 3 (n * n) (.ints z.1)), (4, .own 3 cu (.ints z.2.1)), (7, .own 3 (n * n) (.ints z.2.2))] 8 ⟨rfl, rfl, rfl⟩ rfl ⟨trivial, ⟨rfl, rfl, own_ints e.symm, rfl, trivial⟩, rfl⟩ rfl
end Go.Proofs.YtekpamojojfplaaGreat
namespace Go.Proofs.YtekpamojojfplaaGreat
open Go.RowKit
def partP (xs : List Int) (c : Nat) (is : List Nat) (i j : Nat) : List Int := pickR xs c (is.take i) ++ (xs.drop (is.getD i 0 * c)).take j
theorem own_litP {t : TypeId} {c : Nat} {x x' y : Int} {k k' a b cp : Nat} {m : Nat → Nat} (hx : x = x') (h : a = b) (hk : k' = m k := by rfl) : some (Blk.own t c (.lit [.int x, .int y, .sl k' 1 0 a cp])) = some ((Blk.own t c (.lit [.int x', .int y, .sl k 1 0 b cp])).ren m) := by subst hx h hk; rfl
theorem natsI_getD {is : List Nat} {i : Nat} : (natsI is).getD i 0 = ((is.getD i 0 : Nat) : Int) := by
  simp only [natsI, List.getD_eq_getElem?_getD, List.getElem?_map]
  cases is[i]? <;> simp
theorem range_getD {n i : Nat} (h : i < n) : (List.range n).getD i 0 = i := by rw [getD_in (by simpa using h)]; simp
end Go.Proofs.YtekpamojojfplaaGreat
namespace Go.Proofs.YtekpamojojfplaaGreat
open Go.RowKit
def prF (xs : List Int) (c k i j : Nat) : List Int := ldR xs c k i ++ (xs.drop (i * c)).take j
theorem prF_zero {xs : List Int} {c k i : Nat} : prF xs c k i 0 = ldR xs c k i := by simp [prF]
theorem prF_row {xs : List Int} {c k i : Nat} : prF xs c k i k = ldR xs c k (i + 1) := by rw [ldR_next]; rfl
theorem prF_next {xs : List Int} {r c k i j : Nat} (hx : xs.length = r * c) (hi : i < r) (hj : j < c) : prF xs c k i (j + 1) = prF xs c k i j ++ [xs.getD (i * c + j) 0] := by
  have h1 := row_in (c := c) hi
  have h2 : j < (xs.drop (i * c)).length := by rw [List.length_drop]; omega
  have e : xs.getD (i * c + j) 0 = (xs.drop (i * c))[j] := by rw [List.getElem_drop, getD_in (by omega)]
  rw [prF, prF, List.take_succ_eq_append_getElem h2, ← e, List.append_assoc]
theorem prF_len {xs : List Int} {r c k i j : Nat} (hx : xs.length = r * c) (hi : i < r) (hk : k ≤ c) (hj : j ≤ k) : (prF xs c k i j).length = i * k + j := by
  have h1 := row_in (c := c) hi
  rw [prF, List.length_append, ldR_len hk (by omega), List.length_take, List.length_drop]; omega
set_option maxRecDepth 100000 in
set_option maxHeartbeats 4000000 in
theorem d_partF (r c k : Nat) (xs : List Int) (ca cp cq n m1 m2 : Nat) (hn : n = xs.length) (hm1 : m1 = k) (hm2 : m2 = k) (hx : xs.length = r * c) (hr : r ≤ 24) (hc24 : c ≤ 24) (hkr : k ≤ r) (hkc : k ≤ c) :
    Does Tryz.prog 147 [vM r c 1 n ca, vS 2 1 0 m1 cp, vS 3 1 0 m2 cq] [(1, .ro (.ints xs)), (2, .ro (.ints (natsI (List.range k)))), (3, .ro (.ints (natsI (List.range k))))] 4 (FromR k k 3 (ldR xs c k k) 4) := by
  subst hn hm1 hm2
  refine Does.intro TT Tryz.func147 rfl (by kernel_rfl) Zz Zz fun E hE => ?_
  ((repeat' (first | refine stx ?_ | (refine stq ?_ ?_ <;> (intro hc; ((try simp at hc) <;> try contradiction))) | fail)) <;> try (exfalso; omega))
  refine awp_nil (k := 6) (f := 2) (sz := 1) (et := 3) (e0 := .ints []) Zz Zz Zz Zz (fun _ h => by cases h) ?_
  refine w_G hE (fun i : Nat × Nat => i.1 ≤ m2 ∧ (ldR xs c m2 i.1).length ≤ i.2) (fun i => m2 - i.1)
    (fun i => [(1, vS 2 1 0 m2 cp), (2, vS 3 1 0 m2 cq), (3, .one (.ptr 4 3 0 0)), (6, .one (.ptr 5 3 0 0)), (7, .one (.ptr 6 3 0 0)), (8, vI i.1)])
    (fun i => [(1, .ro (.ints xs)), (2, .ro (.ints (natsI (List.range m2)))), (3, .ro (.ints (natsI (List.range m2)))), (4, .own 26 1 (.lit [.int r, .int c, .sl 1 1 0 xs.length ca])), (5, .own 26 1 (.lit zeroM)), (6, .own 26 1 (.lit [.int m2, .int m2, .sl 7 1 0 (ldR xs c m2 i.1).length i.2])), (7, .own 3 i.2 (.ints (ldR xs c m2 i.1)))]) 8 [] (0, 0) ⟨Nat.zero_le _, Nat.zero_le _⟩ ⟨w_1, w_2, rfl⟩ ?_
  rintro ⟨i, cap⟩ ⟨hi, hcap⟩
  dsimp only at hi hcap
  have hxs : xs.length ≤ 576 := by rw [hx]; exact Nat.mul_le_mul hr hc24
  by_cases hik : i < m2
  · have hik2 : ¬ m2 ≤ i := by omega
    ((repeat' (first | refine stx ?_ | (refine stq ?_ ?_ <;> (intro hc; ((try simp at hc) <;> try contradiction))) | fail)) <;> try (exfalso; omega))
    refine w_G hE (fun x : Nat × Nat => x.1 ≤ m2 ∧ (prF xs c m2 i x.1).length ≤ x.2) (fun x => m2 - x.1)
      (fun x => [(1, vS 2 1 0 m2 cp), (2, vS 3 1 0 m2 cq), (3, .one (.ptr 4 3 0 0)), (6, .one (.ptr 5 3 0 0)), (7, .one (.ptr 6 3 0 0)), (8, vI i), (9, vI x.1)])
      (fun x => [(1, .ro (.ints xs)), (2, .ro (.ints (natsI (List.range m2)))), (3, .ro (.ints (natsI (List.range m2)))), (4, .own 26 1 (.lit [.int r, .int c, .sl 1 1 0 xs.length ca])), (5, .own 26 1 (.lit zeroM)), (6, .own 26 1 (.lit [.int m2, .int m2, .sl 7 1 0 (prF xs c m2 i x.1).length x.2])), (7, .own 3 x.2 (.ints (prF xs c m2 i x.1)))]) 8 [] (0, cap) ⟨Nat.zero_le _, by dsimp only; rw [prF_zero]; exact hcap⟩ (by rw [prF_zero]; exact ⟨w_1, w_2, rfl⟩) ?_
    rintro ⟨j, cap2⟩ ⟨hj, hcap2⟩
    dsimp only at hj hcap2
    have hir : i < r := by omega
    have hin := row_in (c := c) hir
    have hpl := prF_len hx hir hkc hj
    have hpb : i * m2 + j ≤ 24 * 24 + 24 := by have := Nat.mul_le_mul (show i ≤ 24 by omega) (show m2 ≤ 24 by omega); omega
    by_cases hjk : j < m2
    · have hjk2 : ¬ m2 ≤ j := by omega
      have hln1 : (natsI (List.range m2)).length = m2 := by rw [natsI_len, List.length_range]
      have e1 : (natsI (List.range m2)).getD (0 + (i : Int).toNat) 0 = (i : Int) := by rw [show 0 + (i : Int).toNat = i by omega, natsI_getD, range_getD hik]
      have e2 : (natsI (List.range m2)).getD (0 + (j : Int).toNat) 0 = (j : Int) := by rw [show 0 + (j : Int).toNat = j by omega, natsI_getD, range_getD hjk]
      have e3 : (i : Int) * c = ((i * c : Nat) : Int) := by simp
      have hcell := fun h1 h3 => d_cell12 r c (i : Int) j xs xs.length ca rfl h1 (by omega) h3 (by omega)
      have hcell := hcell (by rw [e3]; omega) (by rw [e3]; omega)
      rw [← e1, ← e2] at hcell
      have hnx := prF_next (k := m2) (j := j) hx hir (by omega)
      have ev : xs.getD (0 + ((natsI (List.range m2)).getD (0 + (i : Int).toNat) 0 * c + (natsI (List.range m2)).getD (0 + (j : Int).toNat) 0).toNat) 0 = xs.getD (i * c + j) 0 := by
        rw [e1, e2, e3]; congr 1; omega
      rw [← ev] at hnx
      ((repeat' (first | refine stp ?_ | (refine stq ?_ ?_ <;> (intro hc; ((try simp at hc) <;> try contradiction))) | fail)) <;> try (exfalso; omega))
      refine awp_held TM [(1, _), (2, _), (3, _), (4, _)] sb rfl (fun ρs => ?_)
      refine zt2 ?_
      refine zt3 ?_
      refine zt4 ?_
      refine zt5 ?_
      refine zt6 ?_
      refine zt7 ?_
      refine zt8 ?_
      refine zt9 ?_
      refine zt10 ?_
      refine w_u [0, 11] kr rfl ⟨?_, ?_, trivial⟩
      first | (refine zho ?_) | (refine zqy ?_; intro cap hcap) | refine zqb (hcell) ?_
      refine w_u [1, 11] kr rfl ⟨?_, ?_, trivial⟩
      first | (refine zho ?_) | (refine zqy ?_; intro cap hcap) | refine zqb (hcell) ?_
      refine w_u [11] kr rfl ⟨?_, trivial⟩
      first | (refine zho ?_) | (refine zqy ?_; intro cap hcap) | refine zqb (hcell) ?_
      refine w_u [12] kr rfl ⟨?_, trivial⟩
      first | (refine zho ?_) | (refine zqy ?_; intro cap hcap) | refine zqb (hcell) ?_
      refine w_u [13] kr rfl ⟨?_, trivial⟩
      first | (refine zho ?_) | (refine zqy ?_; intro cap hcap) | refine zqb (hcell) ?_
      refine w_u [14] kr rfl ⟨?_, trivial⟩
      first | (refine zho ?_) | (refine zqy ?_; intro cap hcap) | refine zqb (hcell) ?_
      refine w_u [15] kr rfl ⟨?_, trivial⟩
      first | (refine zho ?_) | (refine zqy ?_; intro cap hcap) | refine zqb (hcell) ?_
      refine w_v kr ?_
      rotate_left
      first | (refine zho ?_) | (refine zqy ?_; intro cap hcap) | refine zqb (hcell) ?_
      refine w_u [1, 12] kr rfl ⟨?_, ?_, trivial⟩
      first | (refine zho ?_) | (refine zqy ?_; intro cap hcap) | refine zqb (hcell) ?_
      refine w_u [12] kr rfl ⟨?_, trivial⟩
      first | (refine zho ?_) | (refine zqy ?_; intro cap hcap) | refine zqb (hcell) ?_
      refine w_u [13] kr rfl ⟨?_, trivial⟩
      first | (refine zho ?_) | (refine zqy ?_; intro cap hcap) | refine zqb (hcell) ?_
      refine w_u [14] kr rfl ⟨?_, trivial⟩
      first | (refine zho ?_) | (refine zqy ?_; intro cap hcap) | refine zqb (hcell) ?_
      refine w_u [15] kr rfl ⟨?_, trivial⟩
      first | (refine zho ?_) | (refine zqy ?_; intro cap hcap) | refine zqb (hcell) ?_
      refine w_v kr ?_
      rotate_left
      first | (refine zho ?_) | (refine zqy ?_; intro cap hcap) | refine zqb (hcell) ?_
      refine w_u [1] kr rfl ⟨?_, trivial⟩
      first | (refine zho ?_) | (refine zqy ?_; intro cap hcap) | refine zqb (hcell) ?_
      refine w_u [13] kr rfl ⟨?_, trivial⟩
      first | (refine zho ?_) | (refine zqy ?_; intro cap hcap) | refine zqb (hcell) ?_
      refine w_u [14] kr rfl ⟨?_, trivial⟩
      first | (refine zho ?_) | (refine zqy ?_; intro cap hcap) | refine zqb (hcell) ?_
      refine w_u [15] kr rfl ⟨?_, trivial⟩
      first | (refine zho ?_) | (refine zqy ?_; intro cap hcap) | refine zqb (hcell) ?_
      refine w_v kr ?_
      rotate_left
      first | (refine zho ?_) | (refine zqy ?_; intro cap hcap) | refine zqb (hcell) ?_
      refine w_u [0, 12] kr rfl ⟨?_, ?_, trivial⟩
      first | (refine zho ?_) | (refine zqy ?_; intro cap hcap) | refine zqb (hcell) ?_
      refine w_u [1, 12] kr rfl ⟨?_, ?_, trivial⟩
      first | (refine zho ?_) | (refine zqy ?_; intro cap hcap) | refine zqb (hcell) ?_
      refine w_u [12] kr rfl ⟨?_, trivial⟩
      first | (refine zho ?_) | (refine zqy ?_; intro cap hcap) | refine zqb (hcell) ?_
      refine w_u [13] kr rfl ⟨?_, trivial⟩
      first | (refine zho ?_) | (refine zqy ?_; intro cap hcap) | refine zqb (hcell) ?_
      refine w_u [14] kr rfl ⟨?_, trivial⟩
      first | (refine zho ?_) | (refine zqy ?_; intro cap hcap) | refine zqb (hcell) ?_
      refine w_u [15] kr rfl ⟨?_, trivial⟩
      first | (refine zho ?_) | (refine zqy ?_; intro cap hcap) | refine zqb (hcell) ?_
      refine w_v kr ?_
      rotate_left
      first | (refine zho ?_) | (refine zqy ?_; intro cap hcap) | refine zqb (hcell) ?_
      refine w_u [1] kr rfl ⟨?_, trivial⟩
      first | (refine zho ?_) | (refine zqy ?_; intro cap hcap) | refine zqb (hcell) ?_
      refine w_u [13] kr rfl ⟨?_, trivial⟩
      first | (refine zho ?_) | (refine zqy ?_; intro cap hcap) | refine zqb (hcell) ?_
      refine w_u [14] kr rfl ⟨?_, trivial⟩
      first | (refine zho ?_) | (refine zqy ?_; intro cap hcap) | refine zqb (hcell) ?_
      refine w_u [15] kr rfl ⟨?_, trivial⟩
      first | (refine zho ?_) | (refine zqy ?_; intro cap hcap) | refine zqb (hcell) ?_
      refine w_v kr ?_
      rotate_left
      first | (refine zho ?_) | (refine zqy ?_; intro cap hcap) | refine zqb (hcell) ?_
      refine w_u [0] kr rfl ⟨?_, trivial⟩
      first | (refine zho ?_) | (refine zqy ?_; intro cap hcap) | refine zqb (hcell) ?_
      refine w_u [1] kr rfl ⟨?_, trivial⟩
      first | (refine zho ?_) | (refine zqy ?_; intro cap hcap) | refine zqb (hcell) ?_
      refine w_u [13] kr rfl ⟨?_, trivial⟩
      first | (refine zho ?_) | (refine zqy ?_; intro cap hcap) | refine zqb (hcell) ?_
      refine w_u [14] kr rfl ⟨?_, trivial⟩
      first | (refine zho ?_) | (refine zqy ?_; intro cap hcap) | refine zqb (hcell) ?_
      refine w_u [15] kr rfl ⟨?_, trivial⟩
      first | (refine zho ?_) | (refine zqy ?_; intro cap hcap) | refine zqb (hcell) ?_
      refine w_v kr ?_
      rotate_left
      all_goals ((repeat' (first | refine stx ?_ | (refine stq ?_ ?_ <;> (intro hc; ((try simp at hc) <;> try contradiction))) | fail)) <;> try (exfalso; omega))
      all_goals
        have el : (prF xs c m2 i j).length + 1 = (prF xs c m2 i (j + 1)).length := by rw [hnx]; simp
        exact ⟨[(7, 9)], (j + 1, cap), ⟨by dsimp only; omega, by dsimp only at hcap ⊢; omega⟩, w_4, ⟨w_1, ⟨rfl, rfl, rfl, rfl, rfl, own_litP rfl el, own_ints hnx.symm, trivial⟩, rfl⟩⟩
    · obtain rfl : j = m2 := by omega
      ((repeat' (first | refine stx ?_ | (refine stq ?_ ?_ <;> (intro hc; ((try simp at hc) <;> try contradiction))) | fail)) <;> try (exfalso; omega))
      have er := prF_row (xs := xs) (c := c) (k := j) (i := i)
      exact ⟨[], (i + 1, cap2), ⟨hik, by dsimp only; rw [← er]; exact hcap2⟩, w_4, by dsimp only; rw [← er]; exact ⟨w_1, w_2, rfl⟩⟩
  · obtain rfl : i = m2 := by omega
    ((repeat' (first | refine stx ?_ | (refine stq ?_ ?_ <;> (intro hc; ((try simp at hc) <;> try contradiction))) | fail)) <;> try (exfalso; omega))
    exact fin rfl w_3 [(4, 7)] (.agg [.int i, .int i, .sl 4 1 0 (ldR xs c i i).length cap]) [(4, .own 3 cap (.ints (ldR xs c i i)))] 5 ⟨cap, hcap, rfl, rfl, rfl⟩ rfl ⟨trivial, ⟨rfl, trivial⟩, rfl⟩ rfl
end Go.Proofs.YtekpamojojfplaaGreat
namespace Go.Proofs.YtekpamojojfplaaGreat
open Go.RowKit
def GotS (t : TypeId) (o : Option (List Int)) (k : Nat) (v : AV) (Hout : List (Nat × Blk)) (n1 : Nat) : Prop := ∃ cap, (o.getD []).length ≤ cap ∧ v = .tup [.one (.sl k 1 0 (o.getD []).length cap), .one (.bool o.isSome)] ∧ Hout = [(k, .own t cap (.ints (o.getD [])))] ∧ n1 = k + 1
theorem GotS.out {t : TypeId} {o : Option (List Int)} {k : Nat} : ∀ v Hout n1, GotS t o k v Hout n1 → ∃ b, Hout = [(k, b)] ∧ n1 = k + 1 ∧ b.keys = [] := fun _ _ _ ⟨_, _, _, h2, h3⟩ => ⟨_, h2, h3, by simp [Blk.keys, Elts.keys, Elts.all, ints_keys]⟩
theorem d_rowAtC (r c i n ca : Nat) (xs : List Int) (hn : n = xs.length) (hx : xs.length = r * c) (hca : xs.length ≤ ca) (hr : r ≤ 24) (hc24 : c ≤ 24) (hi : i < r) : Does Tryz.prog 135 [vM r c 1 n ca, vI i] [(1, .ro (.ints xs))] 2 (fun v Hout n1 => ∃ cp, c ≤ cp ∧ RowS (i * c) c cp v Hout n1) := by
 have h1 : i * c + c ≤ r * c := by
  have := Nat.mul_le_mul_right c (show i + 1 ≤ r by omega)
  rw [Nat.add_mul, Nat.one_mul] at this; exact this
 have h2 : i * c ≤ 576 := by have := Nat.mul_le_mul (show i ≤ 24 by omega) hc24; omega
 have e1 : (i : Int) * c = ((i * c : Nat) : Int) := by simp
 have e2 : ((i : Int) + 1) * c = ((i * c + c : Nat) : Int) := by rw [Int.add_mul, e1]; simp
 refine Does.intro TT Tryz.func135 rfl (by kernel_rfl) Zz Zz fun E hE => ?_
 ((repeat' (first | refine stx ?_ | (refine stq ?_ ?_ <;> (intro hc; ((try simp at hc) <;> try contradiction))) | fail)) <;> try (exfalso; omega))
 have hoff : slOff 0 ((i : Int) * c).toNat ca = i * c := by
  rw [mul_nat]
  unfold slOff
  split
  ·rename_i h0
   have : i * c = 0 ∨ 0 < c := by
    rcases Nat.eq_zero_or_pos c with q | q
    ·left; rw [q]; rfl
    ·exact .inr q
   omega
  ·omega
 have hlen : (((i : Int) + 1) * c).toNat - ((i : Int) * c).toNat = c := by rw [e2, e1]; omega
 refine fin rfl w_3 [] (vS 1 1 (i * c) c (ca - ((i : Int) * c).toNat)) [] 2 ⟨_, by rw [e1]; omega, rfl, rfl, rfl⟩ ?_ ⟨trivial, trivial, rfl⟩ rfl
 show AV.one (.sl 1 1 (slOff 0 ((i : Int) * c).toNat ca) ((((i : Int) + 1) * c).toNat - ((i : Int) * c).toNat) (ca - ((i : Int) * c).toNat)) = _
 rw [hoff, hlen]; rfl
set_option maxRecDepth 100000 in
set_option maxHeartbeats 8000000 in
theorem d_leadI (r c : Int) (xs : List Int) (ca : Nat) (hl : xs.length ≤ 1099511627776) (hca : xs.length ≤ ca) : Does Tryz.prog 90 [vM r c 1 xs.length ca] [(1, .ro (.ints xs))] 2 (GotS 3 (leadO r c xs) 2) := by
 refine Does.intro TT Tryz.func90 rfl (by kernel_rfl) Zz Zz fun E hE => ?_
 cases hs : sqB r c xs with
 | false =>
  rw [show leadO r c xs = none by rw [leadO, hs]; rfl]
  ((repeat' (first | refine stx ?_ | (refine zqc (d_sqI _ _ _ _ hl) ?_ <;> simp only [hs]) | (refine stq ?_ ?_ <;> (intro hc; ((try simp at hc) <;> try contradiction))) | fail)) <;> try (exfalso; omega))
  exact fin rfl w_3 [(2, 3)] (.tup [.one (.sl 2 1 0 0 0), .one (.bool false)]) [(2, .own 3 0 (.ints []))] 3 ⟨0, Nat.le_refl _, rfl, rfl, rfl⟩ rfl ⟨trivial, ⟨rfl, trivial⟩, rfl⟩ rfl
 | true =>
  obtain ⟨n, rfl, rfl, hn6, hx, hnum⟩ := sqB_dims hs
  have hO : leadO n n xs = leadTo xs n n := by rw [leadO, hs]; rfl
  have hx36 : xs.length ≤ 36 := by rw [hx]; exact Nat.mul_le_mul hn6 hn6
  rw [hO]
  ((repeat' (first | refine stx ?_ | (refine zqc (d_sqI _ _ _ _ hl) ?_ <;> simp only [hs]) | (refine stq ?_ ?_ <;> (intro hc; ((try simp at hc) <;> try contradiction))) | fail)) <;> try (exfalso; omega))
  refine w_G hE (fun x : Nat × List Int × Nat => x.1 ≤ n ∧ leadTo xs n x.1 = some x.2.1 ∧ x.2.1.length ≤ x.2.2) (fun x => n - x.1)
   (fun x => [(1, .one (.ptr 2 3 0 0)), (4, vS 3 1 0 x.2.1.length x.2.2), (5, vI ((x.1 : Int) + 1))])
   (fun x => [(1, .ro (.ints xs)), (2, .own 26 1 (.lit [.int n, .int n, .sl 1 1 0 xs.length ca])), (3, .own 3 x.2.2 (.ints x.2.1))]) 4 [] (0, [], 0) ⟨Nat.zero_le _, rfl, Nat.le_refl _⟩ ⟨w_1, w_2, rfl⟩ ?_
  rintro ⟨j, l, cap⟩ ⟨hj, hlj, hlc⟩
  dsimp only at hj hlj hlc
  have hll := leadTo_len hlj
  by_cases hjn : j < n
  ·have hjn1 : ¬ (n : Int) < (j : Int) + 1 := by omega
   have hjn2 : (j : Int) + 1 ≤ n := by omega
   obtain ⟨k, hk⟩ : ∃ k, k = j + 1 := ⟨_, rfl⟩
   have hkI : (j : Int) + 1 = (k : Int) := by omega
   rw [hkI] at hjn1 hjn2 ⊢
   have hkk : k * k ≤ 36 := Nat.mul_le_mul (show k ≤ 6 by omega) (show k ≤ 6 by omega)
   ((repeat' (first | refine stx ?_ | ((refine w_E (d_newI k k (by omega) (by omega)) Zz Zz Zz Zz Zz Zz Zz ft rfl ?_); rintro v Hout n1 ⟨rfl, rfl, rfl⟩) | (refine stq ?_ ?_ <;> (intro hc; ((try simp at hc) <;> try contradiction))) | fail)) <;> try (exfalso; omega))
   refine w_G hE (fun i : Nat => i ≤ k) (fun i => k - i)
    (fun i => [(1, .one (.ptr 2 3 0 0)), (4, vS 3 1 0 l.length cap), (5, vI k), (6, .one (.ptr 5 3 0 0)), (7, vI i)])
    (fun i => [(1, .ro (.ints xs)), (2, .own 26 1 (.lit [.int n, .int n, .sl 1 1 0 xs.length ca])), (3, .own 3 cap (.ints l)), (4, .own 3 (k * k) (.ints (ldM xs n k i))), (5, .own 26 1 (.lit [.int k, .int k, .sl 4 1 0 (k * k) (k * k)]))]) 6 [] 0 (Nat.zero_le _) ⟨w_1, ⟨rfl, rfl, rfl, own_ints ldM_zero.symm, rfl, trivial⟩, rfl⟩ ?_
   intro i hi
   have hin0 : i * n ≤ xs.length := by rw [hx]; exact Nat.mul_le_mul_right _ (by omega)
   have hlen : (ldM xs n k i).length = k * k := ldM_len (by omega) hi hin0
   by_cases hik : i < k
   ·have hik2 : ¬ k ≤ i := by omega
    have h1 := row_in (c := k) hik
    have h2 := row_in (c := n) (show i < n by omega)
    ((repeat' (first | refine stp ?_ | (refine stq ?_ ?_ <;> (intro hc; ((try simp at hc) <;> try contradiction))) | fail)) <;> try (exfalso; omega))
    refine awp_held TM [(2, _), (5, _)] sb rfl (fun ρs => ?_)
    refine zt0 ?_
    refine zt1 ?_
    refine zt3 ?_
    refine zt4 ?_
    refine zt6 ?_
    refine w_u [2] kr rfl ⟨?_, trivial⟩
    first | (refine zho ?_) | (refine w_F _ (d_rowAt k k i (k * k) (k * k) (ldM xs n k i) hlen.symm hlen (by omega) (by omega) (by omega) hik) Zz Zz Zz Zz Zz Zz Zz Zz ft Zz Zz ?_; rintro v Hout n1 ⟨cp1, rfl, rfl, rfl⟩; refine ⟨sb, ?_⟩) | (refine w_F _ (d_rowAtC n n i xs.length ca xs rfl hx hca (by omega) (by omega) (by omega)) Zz Zz Zz Zz Zz Zz Zz Zz ft Zz Zz ?_; rintro v Hout n1 ⟨cp2, hcp2, rfl, rfl, rfl⟩; refine ⟨sb, ?_⟩) | (refine awpHop_copy TT _ Zz Zz Zz Zz Zz Zz sd sb rfl ?_)
    refine w_u [5] kr rfl ⟨?_, trivial⟩
    first | (refine zho ?_) | (refine w_F _ (d_rowAt k k i (k * k) (k * k) (ldM xs n k i) hlen.symm hlen (by omega) (by omega) (by omega) hik) Zz Zz Zz Zz Zz Zz Zz Zz ft Zz Zz ?_; rintro v Hout n1 ⟨cp1, rfl, rfl, rfl⟩; refine ⟨sb, ?_⟩) | (refine w_F _ (d_rowAtC n n i xs.length ca xs rfl hx hca (by omega) (by omega) (by omega)) Zz Zz Zz Zz Zz Zz Zz Zz ft Zz Zz ?_; rintro v Hout n1 ⟨cp2, hcp2, rfl, rfl, rfl⟩; refine ⟨sb, ?_⟩) | (refine awpHop_copy TT _ Zz Zz Zz Zz Zz Zz sd sb rfl ?_)
    refine zt7 ?_
    refine w_u [8] kr rfl ⟨?_, trivial⟩
    first | (refine zho ?_) | (refine w_F _ (d_rowAt k k i (k * k) (k * k) (ldM xs n k i) hlen.symm hlen (by omega) (by omega) (by omega) hik) Zz Zz Zz Zz Zz Zz Zz Zz ft Zz Zz ?_; rintro v Hout n1 ⟨cp1, rfl, rfl, rfl⟩; refine ⟨sb, ?_⟩) | (refine w_F _ (d_rowAtC n n i xs.length ca xs rfl hx hca (by omega) (by omega) (by omega)) Zz Zz Zz Zz Zz Zz Zz Zz ft Zz Zz ?_; rintro v Hout n1 ⟨cp2, hcp2, rfl, rfl, rfl⟩; refine ⟨sb, ?_⟩) | (refine awpHop_copy TT _ Zz Zz Zz Zz Zz Zz sd sb rfl ?_)
    refine w_v kr ?_
    rotate_left
    all_goals ((repeat' (first | refine stx ?_ | (refine stq ?_ ?_ <;> (intro hc; ((try simp at hc) <;> try contradiction))) | fail)) <;> try (exfalso; omega))
    all_goals exact ⟨[], i + 1, hik, w_4, ⟨w_1, ⟨rfl, rfl, rfl, own_ints (ldM_copy (by omega) hik (by rw [Nat.succ_mul]; omega)), rfl, trivial⟩, rfl⟩⟩
   ·obtain rfl : i = k := by omega
    have hdet := d_detI i (ldR xs n i i) (i * i) (i * i) (by omega) (by rw [ldR_len (by omega) hin0]) (by rw [ldR_len (by omega) hin0]) (ldR_num hnum)
    rw [ldM_full]
    have hnx : leadTo xs n (j + 1) = (detZ i (ldR xs n i i)).map fun d => l ++ [d] := by rw [leadTo, hlj, hk]; rfl
    cases hd : detZ i (ldR xs n i i) with
    | none =>
     rw [hd] at hdet hnx
     have hno : leadTo xs n n = none := by
      have := leadTo_none hnx (n - (j + 1))
      rwa [show j + 1 + (n - (j + 1)) = n by omega] at this
     rw [hno]
     ((repeat' (first | refine stx ?_ | ((refine zqe (hdet) ?_); rintro v Hout n1 ⟨rfl, rfl, ⟨d, rfl⟩⟩) | (refine stq ?_ ?_ <;> (intro hc; ((try simp at hc) <;> try contradiction))) | fail)) <;> try (exfalso; omega))
     exact fin rfl w_3 [(2, 6)] (.tup [.one (.sl 2 1 0 0 0), .one (.bool false)]) [(2, .own 3 0 (.ints []))] 3 ⟨0, Nat.le_refl _, rfl, rfl, rfl⟩ rfl ⟨trivial, ⟨rfl, trivial⟩, rfl⟩ rfl
    | some d =>
     rw [hd] at hdet hnx
     ((repeat' (first | refine stx ?_ | ((refine zqe (hdet) ?_); rintro v Hout n1 ⟨rfl, rfl, rfl⟩) | (refine zqx ?_; intro cap hcap) | (refine stq ?_ ?_ <;> (intro hc; ((try simp at hc) <;> try contradiction))) | fail)) <;> try (exfalso; omega))
     exact ⟨[(3, 7)], (j + 1, l ++ [d], cap), ⟨hjn, hnx, by dsimp only; rw [List.length_append]; exact hcap⟩, w_4, ⟨w_1, ⟨rfl, rfl, rfl, trivial⟩, rfl⟩⟩
  ·have e : j = n := by omega
   rw [e] at hlj
   have hjn1 : ¬ (j : Int) + 1 ≤ n := by omega
   rw [hlj]
   ((repeat' (first | refine stx ?_ | (refine stq ?_ ?_ <;> (intro hc; ((try simp at hc) <;> try contradiction))) | fail)) <;> try (exfalso; omega))
   exact fin rfl w_3 [(2, 3)] (.tup [.one (.sl 2 1 0 l.length cap), .one (.bool true)]) [(2, .own 3 cap (.ints l))] 3 ⟨cap, hlc, rfl, rfl, rfl⟩ rfl ⟨trivial, ⟨rfl, trivial⟩, rfl⟩ rfl
end Go.Proofs.YtekpamojojfplaaGreat
