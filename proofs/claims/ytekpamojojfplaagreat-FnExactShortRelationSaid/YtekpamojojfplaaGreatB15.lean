/-
  TEXTS OF THE PROOF, put together: bWork.
-/
import Derived.Test.YtekpamojojfplaaGreatB14
import Derived.Test.YtekpamojojfplaaGreatB06
set_option linter.unusedVariables false
set_option linter.unusedSimpArgs false
namespace Go.Proofs.YtekpamojojfplaaGreat
open Go.RowKit
def workL (kx ku kv : Nat) (a b nx cx cu cv : Nat) (bad : Bool) : List SV := [.int a, .int b, .sl kx 1 0 nx cx, .int a, .int a, .sl ku 1 0 (a * a) cu, .int b, .int b, .sl kv 1 0 (b * b) cv, .bool bad]
abbrev vW : AV := .one (.ptr 2 10 0 0)
abbrev vO (k i j q : Int) : AV := .agg [.int k, .int i, .int j, .int q]
set_option maxHeartbeats 1000000 in
theorem d_identI (m : Nat) (hm : m ≤ 24) : Does Tryz.prog 188 [vI m] [] 1 (fun v Hout n1 => v = .tup [.agg [.int m, .int m, .sl 1 1 0 (m * m) (m * m)], .one (.bool true)] ∧ Hout = [(1, .own 3 (m * m) (.ints (idTo m m)))] ∧ n1 = 2) := by
 refine Does.intro TT Tryz.func188 rfl (by kernel_rfl) Zz Zz fun E hE => ?_
 ((repeat' (first | refine stx ?_ | (refine w_C (d_newI _ _ hm hm) Zz Zz Zz Zz Zz Zz Zz ft Zz Zz (NewM.out) ?_; rintro v b ⟨rfl, he, -⟩; cases he) | (refine stq ?_ ?_ <;> (intro hc; ((try simp at hc) <;> try contradiction))) | fail)) <;> try (exfalso; omega))
 refine w_G hE (fun i : Nat => i ≤ m) (fun i => m - i)
  (fun i => [(0, vI m), (2, .one (.ptr 1 3 0 0)), (4, .one (.ptr 3 3 0 0)), (5, vI i)])
  (fun i => [(1, .own 26 1 (.lit zeroM)), (2, .own 3 (m * m) (.ints (idTo m i))), (3, .own 26 1 (.lit [.int m, .int m, .sl 2 1 0 (m * m) (m * m)]))]) 4 [] 0 (Nat.zero_le _) ⟨w_1, ⟨rfl, own_ints idTo_zero.symm, rfl, trivial⟩, rfl⟩ ?_
 intro i hi
 have hlen : (idTo m i).length = m * m := idTo_len
 by_cases c : i < m
 ·have hb := id_lt c hm
  have hmm : m * m ≤ 24 * 24 := Nat.mul_le_mul hm hm
  ((repeat' (first | refine stx ?_ | ((refine w_E (d_set m m i i 1 (idTo m i) (m * m) _ _ hlen.symm (by omega) (by omega) (by omega) (by omega)) Zz Zz Zz Zz Zz Zz Zz ft rfl ?_); rintro v Hout n1 ⟨rfl, rfl, rfl⟩) | (refine stq ?_ ?_ <;> (intro hc; ((try simp at hc) <;> try contradiction))) | fail)) <;> try (exfalso; omega))
  refine ⟨[], i + 1, c, w_4, ⟨w_1, ⟨rfl, own_ints ?_, rfl, trivial⟩, rfl⟩⟩
  rw [← idTo_set c]
  congr 1
  have : ((i : Int) * m + i).toNat = i * m + i := by
   have e : ((i : Int) * m + i) = ((i * m + i : Nat) : Int) := by simp
   rw [e]; exact Int.toNat_natCast _
  omega
 ·obtain rfl : i = m := by omega
  ((repeat' (first | refine stx ?_ | (refine stq ?_ ?_ <;> (intro hc; ((try simp at hc) <;> try contradiction))) | fail)) <;> try (exfalso; omega))
  exact fin rfl w_3 [(1, 2)] (.tup [.agg [.int i, .int i, .sl 1 1 0 (i * i) (i * i)], .one (.bool true)]) [(1, .own 3 (i * i) (.ints (idTo i i)))] 2 ⟨rfl, rfl, rfl⟩ rfl ⟨trivial, ⟨rfl, trivial⟩, rfl⟩ rfl
def NewW (t tw : TypeId) (a b : Nat) (xs : List Int) (v : AV) (Hout : List (Nat × Blk)) (n1 : Nat) : Prop := ∃ cx, xs.length ≤ cx ∧ v = .one (.ptr 5 10 0 0) ∧ Hout = [(2, .own t cx (.ints xs)), (3, .own t (a * a) (.ints (idTo a a))), (4, .own t (b * b) (.ints (idTo b b))), (5, .own tw 1 (.lit (workL 2 3 4 a b xs.length cx (a * a) (b * b) false)))] ∧ n1 = 6
set_option maxHeartbeats 2000000 in
theorem d_newWork (a b : Nat) (xs : List Int) (ca : Nat) (ha : a ≤ 24) (hb : b ≤ 24) (hl : xs.length ≤ 1099511627776) : Does Tryz.prog 155 [vM a b 1 xs.length ca] [(1, .ro (.ints xs))] 2 (NewW 3 137 a b xs) := by
 refine Does.intro TT Tryz.func155 rfl (by kernel_rfl) Zz Zz fun E hE => ?_
 ((repeat' (first | refine stp ?_ | ((refine zqe (d_identI a ha) ?_); rintro v Hout n1 ⟨rfl, rfl, rfl⟩) | ((refine zqe (d_identI b hb) ?_); rintro v Hout n1 ⟨rfl, rfl, rfl⟩) | (refine stq ?_ ?_ <;> (intro hc; ((try simp at hc) <;> try contradiction))) | fail)) <;> try (exfalso; omega))
 refine awp_held TM [(2, _), (4, _), (6, _)] sb rfl (fun ρs => ?_)
 refine zt0 ?_
 refine zt2 ?_
 refine zt3 ?_
 refine w_u [1] kr rfl ⟨?_, trivial⟩
 first | (refine zho ?_) | (refine w_D _ (d_copyI _ _ xs _ hl) Zz Zz Zz Zz Zz Zz Zz Zz ft Zz Zz (CopyM.out) sb Zz Zz ?_; rintro v b ⟨c1, hc1, rfl, he, -⟩; cases he)
 refine zt4 ?_
 refine w_u [5] kr rfl ⟨?_, trivial⟩
 first | (refine zho ?_) | (refine w_D _ (d_copyI _ _ xs _ hl) Zz Zz Zz Zz Zz Zz Zz Zz ft Zz Zz (CopyM.out) sb Zz Zz ?_; rintro v b ⟨c1, hc1, rfl, he, -⟩; cases he)
 refine zt6 ?_
 refine w_v kr ?_
 rotate_left
 all_goals ((repeat' (first | refine stp ?_ | (refine stq ?_ ?_ <;> (intro hc; ((try simp at hc) <;> try contradiction))) | fail)) <;> try (exfalso; omega))
 all_goals exact fin rfl w_3 [(2, 7), (3, 3), (4, 5), (5, 8)] (.one (.ptr 5 10 0 0)) [(2, .own 3 c1 (.ints xs)), (3, .own 3 (a * a) (.ints (idTo a a))), (4, .own 3 (b * b) (.ints (idTo b b))), (5, .own 137 1 (.lit (workL 2 3 4 a b xs.length c1 (a * a) (b * b) false)))] 6 (⟨c1, hc1, rfl, rfl, rfl⟩) rfl ⟨trivial, ⟨rfl, rfl, rfl, rfl, trivial⟩, rfl⟩ rfl
theorem d_isOpI (k i j q : Int) (n : Nat) (hn : n ≤ 24) (hi : 0 ≤ i ∧ i < n) (hj : 0 ≤ j ∧ j < n) (hq : numB q = true) (hk : (k = 0 ∧ i ≠ j ∧ q = 0) ∨ (k = 1 ∧ i = j ∧ q = 0) ∨ (k = 2 ∧ i ≠ j)) : Does Tryz.prog 190 [vO k i j q, vI n] [] 1 (Ret (vB true) 1) := by
 refine Does.intro TT Tryz.func190 rfl (by kernel_rfl) Zz Zz fun E hE => ?_
 have g := d_numI q
 rw [hq] at g
 rcases hk with ⟨rfl, h1, rfl⟩ | ⟨rfl, rfl, rfl⟩ | ⟨rfl, h1⟩
 all_goals ((repeat' (first | refine stx ?_ | refine zqc (g) ?_ | (refine stq ?_ ?_ <;> (intro hc; ((try simp at hc) <;> try contradiction))) | fail)) <;> try (exfalso; omega))
 all_goals first
  | refine fin_ret rfl w_3 (rfl) rfl
  | refine fin_ret rfl w_3 (congrArg vB (decide_eq_true h1)) rfl
def DidW (t tw : TypeId) (a b nx cx cu cv : Nat) (o : Option TwoL) (n : Nat) (v : AV) (Hout : List (Nat × Blk)) (n1 : Nat) : Prop := v = .tup [] ∧ n1 = n ∧ match o with
  | some s => Hout = [(2, .own tw 1 (.lit (workL 3 4 5 a b nx cx cu cv false))), (3, .own t cx (.ints s.1)), (4, .own t cu (.ints s.2))]
  | none => ∃ ys zs : List Int, Hout = [(2, .own tw 1 (.lit (workL 3 4 5 a b nx cx cu cv true))), (3, .own t cx (.ints ys)), (4, .own t cu (.ints zs))]
set_option maxHeartbeats 4000000 in
theorem d_rowsAdd (a b i j nx cx cu cv : Nat) (q : Int) (xs us : List Int) (hs : OKs a b (xs, us)) (hn : nx = xs.length) (ha : a ≤ 24) (hb : b ≤ 24) (hi : i < a) (hj : j < a) (hij : i ≠ j) (hq : numB q = true) (hcx : xs.length ≤ cx) (hcu : us.length ≤ cu) :
    Does Tryz.prog 160 [vW, vO 2 i j q] [(2, .own 137 1 (.lit (workL 3 4 5 a b nx cx cu cv false))), (3, .own 3 cx (.ints xs)), (4, .own 3 cu (.ints us))] 6 (DidW 3 137 a b nx cx cu cv (addS b a i j q (xs, us)) 6) := by
  subst hn
  obtain ⟨h1, h2, h3, h4⟩ := hs
  dsimp only at h1 h2 h3 h4
  refine Does.intro TT Tryz.func160 rfl (by kernel_rfl) Zz Zz fun E hE => ?_
  have g0 := d_isOpI 2 i j q a ha ⟨by omega, by omega⟩ ⟨by omega, by omega⟩ hq (.inr (.inr ⟨rfl, by omega⟩))
  have g1 := d_addI a b i j xs.length cx cx q xs rfl h1 hcx ha hb hi hj hij h3 hq
  have g2 := d_addI a a i j (a * a) cu cu q us h2.symm h2 hcu ha ha hi hj hij h4 hq
  unfold AddR at g1 g2
  unfold addS
  dsimp only
  cases k1 : addOK xs b i j q b
  · rw [k1] at g1
    rw [if_neg (fun h => by cases h.1)]
    ((repeat' (first | refine stp ?_ | (refine stq ?_ ?_ <;> (intro hc; ((try simp at hc) <;> try contradiction))) | fail)) <;> try (exfalso; omega))
    refine awp_held TM [(2, _), (6, _)] sb rfl (fun ρs => ?_)
    refine zt0 ?_
    refine zt1 ?_
    refine zt2 ?_
    refine zt3 ?_
    refine zt4 ?_
    first | (refine zt5 ?_) | (refine zp5 ?_) | ((refine awpH_split 5 Zz Zz Zz Zz (fun hc => ?_) (fun hc => ?_) <;> try simp at hc) <;> (first | (refine zt5 ?_) | (refine zp5 ?_)))
    first | (refine zt6 ?_) | (refine zp6 ?_) | ((refine awpH_split 6 Zz Zz Zz Zz (fun hc => ?_) (fun hc => ?_) <;> try simp at hc) <;> (first | (refine zt6 ?_) | (refine zp6 ?_)))
    first | (refine zt7 ?_) | (refine zp7 ?_) | ((refine awpH_split 7 Zz Zz Zz Zz (fun hc => ?_) (fun hc => ?_) <;> try simp at hc) <;> (first | (refine zt7 ?_) | (refine zp7 ?_)))
    first | (refine zt8 ?_) | (refine zp8 ?_) | ((refine awpH_split 8 Zz Zz Zz Zz (fun hc => ?_) (fun hc => ?_) <;> try simp at hc) <;> (first | (refine zt8 ?_) | (refine zp8 ?_)))
    first | (refine zt9 ?_) | (refine zp9 ?_) | ((refine awpH_split 9 Zz Zz Zz Zz (fun hc => ?_) (fun hc => ?_) <;> try simp at hc) <;> (first | (refine zt9 ?_) | (refine zp9 ?_)))
    first | (refine zt10 ?_) | (refine zp10 ?_) | ((refine awpH_split 10 Zz Zz Zz Zz (fun hc => ?_) (fun hc => ?_) <;> try simp at hc) <;> (first | (refine zt10 ?_) | (refine zp10 ?_)))
    first | (refine awpH_pass 11 rfl kr kr kr nh Zz Zz ?_) | (refine w_u [11] kr rfl ⟨?_, trivial⟩; first | (refine zho ?_) | refine zqb (g0) ?_ | (refine zqf (g1) ?_; rintro v Hout n1 ⟨ys, hy1, hy2, rfl, rfl, rfl⟩; refine ⟨sb, ?_⟩) | (refine zqf (g2) ?_; rintro v Hout n1 ⟨zs, hz1, hz2, rfl, rfl, rfl⟩; refine ⟨sb, ?_⟩))
    first | (refine zt12 ?_) | (refine zp12 ?_) | ((refine awpH_split 12 Zz Zz Zz Zz (fun hc => ?_) (fun hc => ?_) <;> try simp at hc) <;> (first | (refine zt12 ?_) | (refine zp12 ?_)))
    refine zt13 ?_
    refine zt14 ?_
    first | (refine zt15 ?_) | (refine zp15 ?_) | ((refine awpH_split 15 Zz Zz Zz Zz (fun hc => ?_) (fun hc => ?_) <;> try simp at hc) <;> (first | (refine zt15 ?_) | (refine zp15 ?_)))
    first | (refine zt16 ?_) | (refine zp16 ?_) | ((refine awpH_split 16 Zz Zz Zz Zz (fun hc => ?_) (fun hc => ?_) <;> try simp at hc) <;> (first | (refine zt16 ?_) | (refine zp16 ?_)))
    first | (refine zt17 ?_) | (refine zp17 ?_) | ((refine awpH_split 17 Zz Zz Zz Zz (fun hc => ?_) (fun hc => ?_) <;> try simp at hc) <;> (first | (refine zt17 ?_) | (refine zp17 ?_)))
    first | (refine zt18 ?_) | (refine zp18 ?_) | ((refine awpH_split 18 Zz Zz Zz Zz (fun hc => ?_) (fun hc => ?_) <;> try simp at hc) <;> (first | (refine zt18 ?_) | (refine zp18 ?_)))
    first | (refine zt19 ?_) | (refine zp19 ?_) | ((refine awpH_split 19 Zz Zz Zz Zz (fun hc => ?_) (fun hc => ?_) <;> try simp at hc) <;> (first | (refine zt19 ?_) | (refine zp19 ?_)))
    first | (refine awpH_pass 20 rfl kr kr kr nh Zz Zz ?_) | (refine w_u [20] kr rfl ⟨?_, trivial⟩; first | (refine zho ?_) | refine zqb (g0) ?_ | (refine zqf (g1) ?_; rintro v Hout n1 ⟨ys, hy1, hy2, rfl, rfl, rfl⟩; refine ⟨sb, ?_⟩) | (refine zqf (g2) ?_; rintro v Hout n1 ⟨zs, hz1, hz2, rfl, rfl, rfl⟩; refine ⟨sb, ?_⟩))
    first | (refine zt21 ?_) | (refine zp21 ?_) | ((refine awpH_split 21 Zz Zz Zz Zz (fun hc => ?_) (fun hc => ?_) <;> try simp at hc) <;> (first | (refine zt21 ?_) | (refine zp21 ?_)))
    refine zt22 ?_
    refine zt23 ?_
    first | (refine zt24 ?_) | (refine zp24 ?_) | ((refine awpH_split 24 Zz Zz Zz Zz (fun hc => ?_) (fun hc => ?_) <;> try simp at hc) <;> (first | (refine zt24 ?_) | (refine zp24 ?_)))
    first | (refine zt25 ?_) | (refine zp25 ?_) | ((refine awpH_split 25 Zz Zz Zz Zz (fun hc => ?_) (fun hc => ?_) <;> try simp at hc) <;> (first | (refine zt25 ?_) | (refine zp25 ?_)))
    first | (refine zt26 ?_) | (refine zp26 ?_) | ((refine awpH_split 26 Zz Zz Zz Zz (fun hc => ?_) (fun hc => ?_) <;> try simp at hc) <;> (first | (refine zt26 ?_) | (refine zp26 ?_)))
    first | (refine zt27 ?_) | (refine zp27 ?_) | ((refine awpH_split 27 Zz Zz Zz Zz (fun hc => ?_) (fun hc => ?_) <;> try simp at hc) <;> (first | (refine zt27 ?_) | (refine zp27 ?_)))
    first | (refine zt28 ?_) | (refine zp28 ?_) | ((refine awpH_split 28 Zz Zz Zz Zz (fun hc => ?_) (fun hc => ?_) <;> try simp at hc) <;> (first | (refine zt28 ?_) | (refine zp28 ?_)))
    first | (refine awpH_pass 29 rfl kr kr kr nh Zz Zz ?_) | (refine w_u [29] kr rfl ⟨?_, trivial⟩; first | (refine zho ?_) | refine zqb (g0) ?_ | (refine zqf (g1) ?_; rintro v Hout n1 ⟨ys, hy1, hy2, rfl, rfl, rfl⟩; refine ⟨sb, ?_⟩) | (refine zqf (g2) ?_; rintro v Hout n1 ⟨zs, hz1, hz2, rfl, rfl, rfl⟩; refine ⟨sb, ?_⟩))
    first | (refine zt30 ?_) | (refine zp30 ?_) | ((refine awpH_split 30 Zz Zz Zz Zz (fun hc => ?_) (fun hc => ?_) <;> try simp at hc) <;> (first | (refine zt30 ?_) | (refine zp30 ?_)))
    refine zt31 ?_
    refine w_v kr ?_
    rotate_left
    all_goals ((repeat' (first | refine stp ?_ | (refine stq ?_ ?_ <;> (intro hc; ((try simp at hc) <;> try contradiction))) | fail)) <;> try (exfalso; omega))
    all_goals exact fin_n rfl w_3 [] (.tup []) [(2, .own 137 1 (.lit (workL 3 4 5 a b xs.length cx cu cv true))), (3, .own 3 cx (.ints ys)), (4, .own 3 cu (.ints us))] 6 ⟨rfl, rfl, _, _, rfl⟩ rfl ⟨trivial, ⟨rfl, rfl, rfl, trivial⟩, rfl⟩ rfl
  · rw [k1] at g1
    cases k2 : addOK us a i j q a
    · rw [k2] at g2
      rw [if_neg (fun h => by cases h.2)]
      ((repeat' (first | refine stp ?_ | (refine stq ?_ ?_ <;> (intro hc; ((try simp at hc) <;> try contradiction))) | fail)) <;> try (exfalso; omega))
      refine awp_held TM [(2, _), (6, _)] sb rfl (fun ρs => ?_)
      refine zt0 ?_
      refine zt1 ?_
      refine zt2 ?_
      refine zt3 ?_
      refine zt4 ?_
      first | (refine zt5 ?_) | (refine zp5 ?_) | ((refine awpH_split 5 Zz Zz Zz Zz (fun hc => ?_) (fun hc => ?_) <;> try simp at hc) <;> (first | (refine zt5 ?_) | (refine zp5 ?_)))
      first | (refine zt6 ?_) | (refine zp6 ?_) | ((refine awpH_split 6 Zz Zz Zz Zz (fun hc => ?_) (fun hc => ?_) <;> try simp at hc) <;> (first | (refine zt6 ?_) | (refine zp6 ?_)))
      first | (refine zt7 ?_) | (refine zp7 ?_) | ((refine awpH_split 7 Zz Zz Zz Zz (fun hc => ?_) (fun hc => ?_) <;> try simp at hc) <;> (first | (refine zt7 ?_) | (refine zp7 ?_)))
      first | (refine zt8 ?_) | (refine zp8 ?_) | ((refine awpH_split 8 Zz Zz Zz Zz (fun hc => ?_) (fun hc => ?_) <;> try simp at hc) <;> (first | (refine zt8 ?_) | (refine zp8 ?_)))
      first | (refine zt9 ?_) | (refine zp9 ?_) | ((refine awpH_split 9 Zz Zz Zz Zz (fun hc => ?_) (fun hc => ?_) <;> try simp at hc) <;> (first | (refine zt9 ?_) | (refine zp9 ?_)))
      first | (refine zt10 ?_) | (refine zp10 ?_) | ((refine awpH_split 10 Zz Zz Zz Zz (fun hc => ?_) (fun hc => ?_) <;> try simp at hc) <;> (first | (refine zt10 ?_) | (refine zp10 ?_)))
      first | (refine awpH_pass 11 rfl kr kr kr nh Zz Zz ?_) | (refine w_u [11] kr rfl ⟨?_, trivial⟩; first | (refine zho ?_) | refine zqb (g0) ?_ | (refine zqf (g1) ?_; rintro v Hout n1 ⟨ys, hy1, hy2, rfl, rfl, rfl⟩; refine ⟨sb, ?_⟩) | (refine zqf (g2) ?_; rintro v Hout n1 ⟨zs, hz1, hz2, rfl, rfl, rfl⟩; refine ⟨sb, ?_⟩))
      first | (refine zt12 ?_) | (refine zp12 ?_) | ((refine awpH_split 12 Zz Zz Zz Zz (fun hc => ?_) (fun hc => ?_) <;> try simp at hc) <;> (first | (refine zt12 ?_) | (refine zp12 ?_)))
      refine zt13 ?_
      refine zt14 ?_
      first | (refine zt15 ?_) | (refine zp15 ?_) | ((refine awpH_split 15 Zz Zz Zz Zz (fun hc => ?_) (fun hc => ?_) <;> try simp at hc) <;> (first | (refine zt15 ?_) | (refine zp15 ?_)))
      first | (refine zt16 ?_) | (refine zp16 ?_) | ((refine awpH_split 16 Zz Zz Zz Zz (fun hc => ?_) (fun hc => ?_) <;> try simp at hc) <;> (first | (refine zt16 ?_) | (refine zp16 ?_)))
      first | (refine zt17 ?_) | (refine zp17 ?_) | ((refine awpH_split 17 Zz Zz Zz Zz (fun hc => ?_) (fun hc => ?_) <;> try simp at hc) <;> (first | (refine zt17 ?_) | (refine zp17 ?_)))
      first | (refine zt18 ?_) | (refine zp18 ?_) | ((refine awpH_split 18 Zz Zz Zz Zz (fun hc => ?_) (fun hc => ?_) <;> try simp at hc) <;> (first | (refine zt18 ?_) | (refine zp18 ?_)))
      first | (refine zt19 ?_) | (refine zp19 ?_) | ((refine awpH_split 19 Zz Zz Zz Zz (fun hc => ?_) (fun hc => ?_) <;> try simp at hc) <;> (first | (refine zt19 ?_) | (refine zp19 ?_)))
      first | (refine awpH_pass 20 rfl kr kr kr nh Zz Zz ?_) | (refine w_u [20] kr rfl ⟨?_, trivial⟩; first | (refine zho ?_) | refine zqb (g0) ?_ | (refine zqf (g1) ?_; rintro v Hout n1 ⟨ys, hy1, hy2, rfl, rfl, rfl⟩; refine ⟨sb, ?_⟩) | (refine zqf (g2) ?_; rintro v Hout n1 ⟨zs, hz1, hz2, rfl, rfl, rfl⟩; refine ⟨sb, ?_⟩))
      first | (refine zt21 ?_) | (refine zp21 ?_) | ((refine awpH_split 21 Zz Zz Zz Zz (fun hc => ?_) (fun hc => ?_) <;> try simp at hc) <;> (first | (refine zt21 ?_) | (refine zp21 ?_)))
      refine zt22 ?_
      refine zt23 ?_
      first | (refine zt24 ?_) | (refine zp24 ?_) | ((refine awpH_split 24 Zz Zz Zz Zz (fun hc => ?_) (fun hc => ?_) <;> try simp at hc) <;> (first | (refine zt24 ?_) | (refine zp24 ?_)))
      first | (refine zt25 ?_) | (refine zp25 ?_) | ((refine awpH_split 25 Zz Zz Zz Zz (fun hc => ?_) (fun hc => ?_) <;> try simp at hc) <;> (first | (refine zt25 ?_) | (refine zp25 ?_)))
      first | (refine zt26 ?_) | (refine zp26 ?_) | ((refine awpH_split 26 Zz Zz Zz Zz (fun hc => ?_) (fun hc => ?_) <;> try simp at hc) <;> (first | (refine zt26 ?_) | (refine zp26 ?_)))
      first | (refine zt27 ?_) | (refine zp27 ?_) | ((refine awpH_split 27 Zz Zz Zz Zz (fun hc => ?_) (fun hc => ?_) <;> try simp at hc) <;> (first | (refine zt27 ?_) | (refine zp27 ?_)))
      first | (refine zt28 ?_) | (refine zp28 ?_) | ((refine awpH_split 28 Zz Zz Zz Zz (fun hc => ?_) (fun hc => ?_) <;> try simp at hc) <;> (first | (refine zt28 ?_) | (refine zp28 ?_)))
      first | (refine awpH_pass 29 rfl kr kr kr nh Zz Zz ?_) | (refine w_u [29] kr rfl ⟨?_, trivial⟩; first | (refine zho ?_) | refine zqb (g0) ?_ | (refine zqf (g1) ?_; rintro v Hout n1 ⟨ys, hy1, hy2, rfl, rfl, rfl⟩; refine ⟨sb, ?_⟩) | (refine zqf (g2) ?_; rintro v Hout n1 ⟨zs, hz1, hz2, rfl, rfl, rfl⟩; refine ⟨sb, ?_⟩))
      first | (refine zt30 ?_) | (refine zp30 ?_) | ((refine awpH_split 30 Zz Zz Zz Zz (fun hc => ?_) (fun hc => ?_) <;> try simp at hc) <;> (first | (refine zt30 ?_) | (refine zp30 ?_)))
      refine zt31 ?_
      refine w_v kr ?_
      rotate_left
      all_goals ((repeat' (first | refine stp ?_ | (refine stq ?_ ?_ <;> (intro hc; ((try simp at hc) <;> try contradiction))) | fail)) <;> try (exfalso; omega))
      all_goals exact fin_n rfl w_3 [] (.tup []) [(2, .own 137 1 (.lit (workL 3 4 5 a b xs.length cx cu cv true))), (3, .own 3 cx (.ints ys)), (4, .own 3 cu (.ints zs))] 6 ⟨rfl, rfl, _, _, rfl⟩ rfl ⟨trivial, ⟨rfl, rfl, rfl, trivial⟩, rfl⟩ rfl
    · rw [k2] at g2
      rw [if_pos ⟨rfl, rfl⟩]
      ((repeat' (first | refine stp ?_ | (refine stq ?_ ?_ <;> (intro hc; ((try simp at hc) <;> try contradiction))) | fail)) <;> try (exfalso; omega))
      refine awp_held TM [(2, _), (6, _)] sb rfl (fun ρs => ?_)
      refine zt0 ?_
      refine zt1 ?_
      refine zt2 ?_
      refine zt3 ?_
      refine zt4 ?_
      first | (refine zt5 ?_) | (refine zp5 ?_) | ((refine awpH_split 5 Zz Zz Zz Zz (fun hc => ?_) (fun hc => ?_) <;> try simp at hc) <;> (first | (refine zt5 ?_) | (refine zp5 ?_)))
      first | (refine zt6 ?_) | (refine zp6 ?_) | ((refine awpH_split 6 Zz Zz Zz Zz (fun hc => ?_) (fun hc => ?_) <;> try simp at hc) <;> (first | (refine zt6 ?_) | (refine zp6 ?_)))
      first | (refine zt7 ?_) | (refine zp7 ?_) | ((refine awpH_split 7 Zz Zz Zz Zz (fun hc => ?_) (fun hc => ?_) <;> try simp at hc) <;> (first | (refine zt7 ?_) | (refine zp7 ?_)))
      first | (refine zt8 ?_) | (refine zp8 ?_) | ((refine awpH_split 8 Zz Zz Zz Zz (fun hc => ?_) (fun hc => ?_) <;> try simp at hc) <;> (first | (refine zt8 ?_) | (refine zp8 ?_)))
      first | (refine zt9 ?_) | (refine zp9 ?_) | ((refine awpH_split 9 Zz Zz Zz Zz (fun hc => ?_) (fun hc => ?_) <;> try simp at hc) <;> (first | (refine zt9 ?_) | (refine zp9 ?_)))
      first | (refine zt10 ?_) | (refine zp10 ?_) | ((refine awpH_split 10 Zz Zz Zz Zz (fun hc => ?_) (fun hc => ?_) <;> try simp at hc) <;> (first | (refine zt10 ?_) | (refine zp10 ?_)))
      first | (refine awpH_pass 11 rfl kr kr kr nh Zz Zz ?_) | (refine w_u [11] kr rfl ⟨?_, trivial⟩; first | (refine zho ?_) | refine zqb (g0) ?_ | (refine zqf (g1) ?_; rintro v Hout n1 ⟨ys, hy1, hy2, rfl, rfl, rfl⟩; refine ⟨sb, ?_⟩) | (refine zqf (g2) ?_; rintro v Hout n1 ⟨zs, hz1, hz2, rfl, rfl, rfl⟩; refine ⟨sb, ?_⟩))
      first | (refine zt12 ?_) | (refine zp12 ?_) | ((refine awpH_split 12 Zz Zz Zz Zz (fun hc => ?_) (fun hc => ?_) <;> try simp at hc) <;> (first | (refine zt12 ?_) | (refine zp12 ?_)))
      refine zt13 ?_
      refine zt14 ?_
      first | (refine zt15 ?_) | (refine zp15 ?_) | ((refine awpH_split 15 Zz Zz Zz Zz (fun hc => ?_) (fun hc => ?_) <;> try simp at hc) <;> (first | (refine zt15 ?_) | (refine zp15 ?_)))
      first | (refine zt16 ?_) | (refine zp16 ?_) | ((refine awpH_split 16 Zz Zz Zz Zz (fun hc => ?_) (fun hc => ?_) <;> try simp at hc) <;> (first | (refine zt16 ?_) | (refine zp16 ?_)))
      first | (refine zt17 ?_) | (refine zp17 ?_) | ((refine awpH_split 17 Zz Zz Zz Zz (fun hc => ?_) (fun hc => ?_) <;> try simp at hc) <;> (first | (refine zt17 ?_) | (refine zp17 ?_)))
      first | (refine zt18 ?_) | (refine zp18 ?_) | ((refine awpH_split 18 Zz Zz Zz Zz (fun hc => ?_) (fun hc => ?_) <;> try simp at hc) <;> (first | (refine zt18 ?_) | (refine zp18 ?_)))
      first | (refine zt19 ?_) | (refine zp19 ?_) | ((refine awpH_split 19 Zz Zz Zz Zz (fun hc => ?_) (fun hc => ?_) <;> try simp at hc) <;> (first | (refine zt19 ?_) | (refine zp19 ?_)))
      first | (refine awpH_pass 20 rfl kr kr kr nh Zz Zz ?_) | (refine w_u [20] kr rfl ⟨?_, trivial⟩; first | (refine zho ?_) | refine zqb (g0) ?_ | (refine zqf (g1) ?_; rintro v Hout n1 ⟨ys, hy1, hy2, rfl, rfl, rfl⟩; refine ⟨sb, ?_⟩) | (refine zqf (g2) ?_; rintro v Hout n1 ⟨zs, hz1, hz2, rfl, rfl, rfl⟩; refine ⟨sb, ?_⟩))
      first | (refine zt21 ?_) | (refine zp21 ?_) | ((refine awpH_split 21 Zz Zz Zz Zz (fun hc => ?_) (fun hc => ?_) <;> try simp at hc) <;> (first | (refine zt21 ?_) | (refine zp21 ?_)))
      refine zt22 ?_
      refine zt23 ?_
      first | (refine zt24 ?_) | (refine zp24 ?_) | ((refine awpH_split 24 Zz Zz Zz Zz (fun hc => ?_) (fun hc => ?_) <;> try simp at hc) <;> (first | (refine zt24 ?_) | (refine zp24 ?_)))
      first | (refine zt25 ?_) | (refine zp25 ?_) | ((refine awpH_split 25 Zz Zz Zz Zz (fun hc => ?_) (fun hc => ?_) <;> try simp at hc) <;> (first | (refine zt25 ?_) | (refine zp25 ?_)))
      first | (refine zt26 ?_) | (refine zp26 ?_) | ((refine awpH_split 26 Zz Zz Zz Zz (fun hc => ?_) (fun hc => ?_) <;> try simp at hc) <;> (first | (refine zt26 ?_) | (refine zp26 ?_)))
      first | (refine zt27 ?_) | (refine zp27 ?_) | ((refine awpH_split 27 Zz Zz Zz Zz (fun hc => ?_) (fun hc => ?_) <;> try simp at hc) <;> (first | (refine zt27 ?_) | (refine zp27 ?_)))
      first | (refine zt28 ?_) | (refine zp28 ?_) | ((refine awpH_split 28 Zz Zz Zz Zz (fun hc => ?_) (fun hc => ?_) <;> try simp at hc) <;> (first | (refine zt28 ?_) | (refine zp28 ?_)))
      first | (refine awpH_pass 29 rfl kr kr kr nh Zz Zz ?_) | (refine w_u [29] kr rfl ⟨?_, trivial⟩; first | (refine zho ?_) | refine zqb (g0) ?_ | (refine zqf (g1) ?_; rintro v Hout n1 ⟨ys, hy1, hy2, rfl, rfl, rfl⟩; refine ⟨sb, ?_⟩) | (refine zqf (g2) ?_; rintro v Hout n1 ⟨zs, hz1, hz2, rfl, rfl, rfl⟩; refine ⟨sb, ?_⟩))
      first | (refine zt30 ?_) | (refine zp30 ?_) | ((refine awpH_split 30 Zz Zz Zz Zz (fun hc => ?_) (fun hc => ?_) <;> try simp at hc) <;> (first | (refine zt30 ?_) | (refine zp30 ?_)))
      refine zt31 ?_
      refine w_v kr ?_
      rotate_left
      all_goals ((repeat' (first | refine stp ?_ | (refine stq ?_ ?_ <;> (intro hc; ((try simp at hc) <;> try contradiction))) | fail)) <;> try (exfalso; omega))
      all_goals
        obtain rfl := hy2 rfl
        obtain rfl := hz2 rfl
        exact fin_n rfl w_3 [] (.tup []) [(2, .own 137 1 (.lit (workL 3 4 5 a b xs.length cx cu cv false))), (3, .own 3 cx (.ints (addX xs b i j q))), (4, .own 3 cu (.ints (addX us a i j q)))] 6 ⟨rfl, rfl, rfl⟩ rfl ⟨trivial, ⟨rfl, rfl, rfl, trivial⟩, rfl⟩ rfl
set_option maxHeartbeats 4000000 in
theorem d_rowsSwap (a b i j nx cx cu cv : Nat) (xs us : List Int) (hs : OKs a b (xs, us)) (hn : nx = xs.length) (ha : a ≤ 24) (hb : b ≤ 24) (hi : i < a) (hj : j < a) (hij : i ≠ j) (hcx : xs.length ≤ cx) (hcu : us.length ≤ cu) :
    Does Tryz.prog 160 [vW, vO 0 i j 0] [(2, .own 137 1 (.lit (workL 3 4 5 a b nx cx cu cv false))), (3, .own 3 cx (.ints xs)), (4, .own 3 cu (.ints us))] 6 (DidW 3 137 a b nx cx cu cv (some (swapTo xs (i * b) (j * b) b, swapTo us (i * a) (j * a) a)) 6) := by
  subst hn
  obtain ⟨h1, h2, h3, h4⟩ := hs
  dsimp only at h1 h2 h3 h4
  refine Does.intro TT Tryz.func160 rfl (by kernel_rfl) Zz Zz fun E hE => ?_
  have g0 := d_isOpI 0 i j 0 a ha ⟨by omega, by omega⟩ ⟨by omega, by omega⟩ (by decide) (.inl ⟨rfl, by omega, rfl⟩)
  have g1 := d_swapI a b i j xs.length cx cx xs rfl h1 hcx ha hb hi hj hij
  have g2 := d_swapI a a i j (a * a) cu cu us h2.symm h2 hcu ha ha hi hj hij
  ((repeat' (first | refine stp ?_ | (refine stq ?_ ?_ <;> (intro hc; ((try simp at hc) <;> try contradiction))) | fail)) <;> try (exfalso; omega))
  refine awp_held TM [(2, _), (6, _)] sb rfl (fun ρs => ?_)
  refine zt0 ?_
  refine zt1 ?_
  refine zt2 ?_
  refine zt3 ?_
  refine zt4 ?_
  first | (refine zt5 ?_) | (refine zp5 ?_) | ((refine awpH_split 5 Zz Zz Zz Zz (fun hc => ?_) (fun hc => ?_) <;> try simp at hc) <;> (first | (refine zt5 ?_) | (refine zp5 ?_)))
  first | (refine zt6 ?_) | (refine zp6 ?_) | ((refine awpH_split 6 Zz Zz Zz Zz (fun hc => ?_) (fun hc => ?_) <;> try simp at hc) <;> (first | (refine zt6 ?_) | (refine zp6 ?_)))
  first | (refine zt7 ?_) | (refine zp7 ?_) | ((refine awpH_split 7 Zz Zz Zz Zz (fun hc => ?_) (fun hc => ?_) <;> try simp at hc) <;> (first | (refine zt7 ?_) | (refine zp7 ?_)))
  first | (refine zt8 ?_) | (refine zp8 ?_) | ((refine awpH_split 8 Zz Zz Zz Zz (fun hc => ?_) (fun hc => ?_) <;> try simp at hc) <;> (first | (refine zt8 ?_) | (refine zp8 ?_)))
  first | (refine zt9 ?_) | (refine zp9 ?_) | ((refine awpH_split 9 Zz Zz Zz Zz (fun hc => ?_) (fun hc => ?_) <;> try simp at hc) <;> (first | (refine zt9 ?_) | (refine zp9 ?_)))
  first | (refine zt10 ?_) | (refine zp10 ?_) | ((refine awpH_split 10 Zz Zz Zz Zz (fun hc => ?_) (fun hc => ?_) <;> try simp at hc) <;> (first | (refine zt10 ?_) | (refine zp10 ?_)))
  first | (refine awpH_pass 11 rfl kr kr kr nh Zz Zz ?_) | (refine w_u [11] kr rfl ⟨?_, trivial⟩; first | (refine zho ?_) | refine zqb (g0) ?_ | (refine zqf (g1) ?_; rintro v Hout n1 ⟨rfl, rfl, rfl⟩; refine ⟨sb, ?_⟩) | (refine zqf (g2) ?_; rintro v Hout n1 ⟨rfl, rfl, rfl⟩; refine ⟨sb, ?_⟩))
  first | (refine zt12 ?_) | (refine zp12 ?_) | ((refine awpH_split 12 Zz Zz Zz Zz (fun hc => ?_) (fun hc => ?_) <;> try simp at hc) <;> (first | (refine zt12 ?_) | (refine zp12 ?_)))
  refine zt13 ?_
  refine zt14 ?_
  first | (refine zt15 ?_) | (refine zp15 ?_) | ((refine awpH_split 15 Zz Zz Zz Zz (fun hc => ?_) (fun hc => ?_) <;> try simp at hc) <;> (first | (refine zt15 ?_) | (refine zp15 ?_)))
  first | (refine zt16 ?_) | (refine zp16 ?_) | ((refine awpH_split 16 Zz Zz Zz Zz (fun hc => ?_) (fun hc => ?_) <;> try simp at hc) <;> (first | (refine zt16 ?_) | (refine zp16 ?_)))
  first | (refine zt17 ?_) | (refine zp17 ?_) | ((refine awpH_split 17 Zz Zz Zz Zz (fun hc => ?_) (fun hc => ?_) <;> try simp at hc) <;> (first | (refine zt17 ?_) | (refine zp17 ?_)))
  first | (refine zt18 ?_) | (refine zp18 ?_) | ((refine awpH_split 18 Zz Zz Zz Zz (fun hc => ?_) (fun hc => ?_) <;> try simp at hc) <;> (first | (refine zt18 ?_) | (refine zp18 ?_)))
  first | (refine zt19 ?_) | (refine zp19 ?_) | ((refine awpH_split 19 Zz Zz Zz Zz (fun hc => ?_) (fun hc => ?_) <;> try simp at hc) <;> (first | (refine zt19 ?_) | (refine zp19 ?_)))
  first | (refine awpH_pass 20 rfl kr kr kr nh Zz Zz ?_) | (refine w_u [20] kr rfl ⟨?_, trivial⟩; first | (refine zho ?_) | refine zqb (g0) ?_ | (refine zqf (g1) ?_; rintro v Hout n1 ⟨rfl, rfl, rfl⟩; refine ⟨sb, ?_⟩) | (refine zqf (g2) ?_; rintro v Hout n1 ⟨rfl, rfl, rfl⟩; refine ⟨sb, ?_⟩))
  first | (refine zt21 ?_) | (refine zp21 ?_) | ((refine awpH_split 21 Zz Zz Zz Zz (fun hc => ?_) (fun hc => ?_) <;> try simp at hc) <;> (first | (refine zt21 ?_) | (refine zp21 ?_)))
  refine zt22 ?_
  refine zt23 ?_
  first | (refine zt24 ?_) | (refine zp24 ?_) | ((refine awpH_split 24 Zz Zz Zz Zz (fun hc => ?_) (fun hc => ?_) <;> try simp at hc) <;> (first | (refine zt24 ?_) | (refine zp24 ?_)))
  first | (refine zt25 ?_) | (refine zp25 ?_) | ((refine awpH_split 25 Zz Zz Zz Zz (fun hc => ?_) (fun hc => ?_) <;> try simp at hc) <;> (first | (refine zt25 ?_) | (refine zp25 ?_)))
  first | (refine zt26 ?_) | (refine zp26 ?_) | ((refine awpH_split 26 Zz Zz Zz Zz (fun hc => ?_) (fun hc => ?_) <;> try simp at hc) <;> (first | (refine zt26 ?_) | (refine zp26 ?_)))
  first | (refine zt27 ?_) | (refine zp27 ?_) | ((refine awpH_split 27 Zz Zz Zz Zz (fun hc => ?_) (fun hc => ?_) <;> try simp at hc) <;> (first | (refine zt27 ?_) | (refine zp27 ?_)))
  first | (refine zt28 ?_) | (refine zp28 ?_) | ((refine awpH_split 28 Zz Zz Zz Zz (fun hc => ?_) (fun hc => ?_) <;> try simp at hc) <;> (first | (refine zt28 ?_) | (refine zp28 ?_)))
  first | (refine awpH_pass 29 rfl kr kr kr nh Zz Zz ?_) | (refine w_u [29] kr rfl ⟨?_, trivial⟩; first | (refine zho ?_) | refine zqb (g0) ?_ | (refine zqf (g1) ?_; rintro v Hout n1 ⟨rfl, rfl, rfl⟩; refine ⟨sb, ?_⟩) | (refine zqf (g2) ?_; rintro v Hout n1 ⟨rfl, rfl, rfl⟩; refine ⟨sb, ?_⟩))
  first | (refine zt30 ?_) | (refine zp30 ?_) | ((refine awpH_split 30 Zz Zz Zz Zz (fun hc => ?_) (fun hc => ?_) <;> try simp at hc) <;> (first | (refine zt30 ?_) | (refine zp30 ?_)))
  refine zt31 ?_
  refine w_v kr ?_
  rotate_left
  all_goals ((repeat' (first | refine stp ?_ | (refine stq ?_ ?_ <;> (intro hc; ((try simp at hc) <;> try contradiction))) | fail)) <;> try (exfalso; omega))
  all_goals exact fin_n rfl w_3 [] (.tup []) [(2, .own 137 1 (.lit (workL 3 4 5 a b xs.length cx cu cv false))), (3, .own 3 cx (.ints (swapTo xs (i * b) (j * b) b))), (4, .own 3 cu (.ints (swapTo us (i * a) (j * a) a)))] 6 ⟨rfl, rfl, rfl⟩ rfl ⟨trivial, ⟨rfl, rfl, rfl, trivial⟩, rfl⟩ rfl
set_option maxHeartbeats 4000000 in
theorem d_rowsNeg (a b i nx cx cu cv : Nat) (xs us : List Int) (hs : OKs a b (xs, us)) (hn : nx = xs.length) (ha : a ≤ 24) (hb : b ≤ 24) (hi : i < a) (hcx : xs.length ≤ cx) (hcu : us.length ≤ cu) :
    Does Tryz.prog 160 [vW, vO 1 i i 0] [(2, .own 137 1 (.lit (workL 3 4 5 a b nx cx cu cv false))), (3, .own 3 cx (.ints xs)), (4, .own 3 cu (.ints us))] 6 (DidW 3 137 a b nx cx cu cv (some (negX xs b i, negX us a i)) 6) := by
  subst hn
  obtain ⟨h1, h2, h3, h4⟩ := hs
  dsimp only at h1 h2 h3 h4
  refine Does.intro TT Tryz.func160 rfl (by kernel_rfl) Zz Zz fun E hE => ?_
  have g0 := d_isOpI 1 i i 0 a ha ⟨by omega, by omega⟩ ⟨by omega, by omega⟩ (by decide) (.inr (.inl ⟨rfl, rfl, rfl⟩))
  have g1 := d_negI a b i xs.length cx cx xs rfl h1 hcx ha hb hi h3
  have g2 := d_negI a a i (a * a) cu cu us h2.symm h2 hcu ha ha hi h4
  ((repeat' (first | refine stp ?_ | (refine stq ?_ ?_ <;> (intro hc; ((try simp at hc) <;> try contradiction))) | fail)) <;> try (exfalso; omega))
  refine awp_held TM [(2, _), (6, _)] sb rfl (fun ρs => ?_)
  refine zt0 ?_
  refine zt1 ?_
  refine zt2 ?_
  refine zt3 ?_
  refine zt4 ?_
  first | (refine zt5 ?_) | (refine zp5 ?_) | ((refine awpH_split 5 Zz Zz Zz Zz (fun hc => ?_) (fun hc => ?_) <;> try simp at hc) <;> (first | (refine zt5 ?_) | (refine zp5 ?_)))
  first | (refine zt6 ?_) | (refine zp6 ?_) | ((refine awpH_split 6 Zz Zz Zz Zz (fun hc => ?_) (fun hc => ?_) <;> try simp at hc) <;> (first | (refine zt6 ?_) | (refine zp6 ?_)))
  first | (refine zt7 ?_) | (refine zp7 ?_) | ((refine awpH_split 7 Zz Zz Zz Zz (fun hc => ?_) (fun hc => ?_) <;> try simp at hc) <;> (first | (refine zt7 ?_) | (refine zp7 ?_)))
  first | (refine zt8 ?_) | (refine zp8 ?_) | ((refine awpH_split 8 Zz Zz Zz Zz (fun hc => ?_) (fun hc => ?_) <;> try simp at hc) <;> (first | (refine zt8 ?_) | (refine zp8 ?_)))
  first | (refine zt9 ?_) | (refine zp9 ?_) | ((refine awpH_split 9 Zz Zz Zz Zz (fun hc => ?_) (fun hc => ?_) <;> try simp at hc) <;> (first | (refine zt9 ?_) | (refine zp9 ?_)))
  first | (refine zt10 ?_) | (refine zp10 ?_) | ((refine awpH_split 10 Zz Zz Zz Zz (fun hc => ?_) (fun hc => ?_) <;> try simp at hc) <;> (first | (refine zt10 ?_) | (refine zp10 ?_)))
  first | (refine awpH_pass 11 rfl kr kr kr nh Zz Zz ?_) | (refine w_u [11] kr rfl ⟨?_, trivial⟩; first | (refine zho ?_) | refine zqb (g0) ?_ | (refine zqf (g1) ?_; rintro v Hout n1 ⟨rfl, rfl, rfl⟩; refine ⟨sb, ?_⟩) | (refine zqf (g2) ?_; rintro v Hout n1 ⟨rfl, rfl, rfl⟩; refine ⟨sb, ?_⟩))
  first | (refine zt12 ?_) | (refine zp12 ?_) | ((refine awpH_split 12 Zz Zz Zz Zz (fun hc => ?_) (fun hc => ?_) <;> try simp at hc) <;> (first | (refine zt12 ?_) | (refine zp12 ?_)))
  refine zt13 ?_
  refine zt14 ?_
  first | (refine zt15 ?_) | (refine zp15 ?_) | ((refine awpH_split 15 Zz Zz Zz Zz (fun hc => ?_) (fun hc => ?_) <;> try simp at hc) <;> (first | (refine zt15 ?_) | (refine zp15 ?_)))
  first | (refine zt16 ?_) | (refine zp16 ?_) | ((refine awpH_split 16 Zz Zz Zz Zz (fun hc => ?_) (fun hc => ?_) <;> try simp at hc) <;> (first | (refine zt16 ?_) | (refine zp16 ?_)))
  first | (refine zt17 ?_) | (refine zp17 ?_) | ((refine awpH_split 17 Zz Zz Zz Zz (fun hc => ?_) (fun hc => ?_) <;> try simp at hc) <;> (first | (refine zt17 ?_) | (refine zp17 ?_)))
  first | (refine zt18 ?_) | (refine zp18 ?_) | ((refine awpH_split 18 Zz Zz Zz Zz (fun hc => ?_) (fun hc => ?_) <;> try simp at hc) <;> (first | (refine zt18 ?_) | (refine zp18 ?_)))
  first | (refine zt19 ?_) | (refine zp19 ?_) | ((refine awpH_split 19 Zz Zz Zz Zz (fun hc => ?_) (fun hc => ?_) <;> try simp at hc) <;> (first | (refine zt19 ?_) | (refine zp19 ?_)))
  first | (refine awpH_pass 20 rfl kr kr kr nh Zz Zz ?_) | (refine w_u [20] kr rfl ⟨?_, trivial⟩; first | (refine zho ?_) | refine zqb (g0) ?_ | (refine zqf (g1) ?_; rintro v Hout n1 ⟨rfl, rfl, rfl⟩; refine ⟨sb, ?_⟩) | (refine zqf (g2) ?_; rintro v Hout n1 ⟨rfl, rfl, rfl⟩; refine ⟨sb, ?_⟩))
  first | (refine zt21 ?_) | (refine zp21 ?_) | ((refine awpH_split 21 Zz Zz Zz Zz (fun hc => ?_) (fun hc => ?_) <;> try simp at hc) <;> (first | (refine zt21 ?_) | (refine zp21 ?_)))
  refine zt22 ?_
  refine zt23 ?_
  first | (refine zt24 ?_) | (refine zp24 ?_) | ((refine awpH_split 24 Zz Zz Zz Zz (fun hc => ?_) (fun hc => ?_) <;> try simp at hc) <;> (first | (refine zt24 ?_) | (refine zp24 ?_)))
  first | (refine zt25 ?_) | (refine zp25 ?_) | ((refine awpH_split 25 Zz Zz Zz Zz (fun hc => ?_) (fun hc => ?_) <;> try simp at hc) <;> (first | (refine zt25 ?_) | (refine zp25 ?_)))
  first | (refine zt26 ?_) | (refine zp26 ?_) | ((refine awpH_split 26 Zz Zz Zz Zz (fun hc => ?_) (fun hc => ?_) <;> try simp at hc) <;> (first | (refine zt26 ?_) | (refine zp26 ?_)))
  first | (refine zt27 ?_) | (refine zp27 ?_) | ((refine awpH_split 27 Zz Zz Zz Zz (fun hc => ?_) (fun hc => ?_) <;> try simp at hc) <;> (first | (refine zt27 ?_) | (refine zp27 ?_)))
  first | (refine zt28 ?_) | (refine zp28 ?_) | ((refine awpH_split 28 Zz Zz Zz Zz (fun hc => ?_) (fun hc => ?_) <;> try simp at hc) <;> (first | (refine zt28 ?_) | (refine zp28 ?_)))
  first | (refine awpH_pass 29 rfl kr kr kr nh Zz Zz ?_) | (refine w_u [29] kr rfl ⟨?_, trivial⟩; first | (refine zho ?_) | refine zqb (g0) ?_ | (refine zqf (g1) ?_; rintro v Hout n1 ⟨rfl, rfl, rfl⟩; refine ⟨sb, ?_⟩) | (refine zqf (g2) ?_; rintro v Hout n1 ⟨rfl, rfl, rfl⟩; refine ⟨sb, ?_⟩))
  first | (refine zt30 ?_) | (refine zp30 ?_) | ((refine awpH_split 30 Zz Zz Zz Zz (fun hc => ?_) (fun hc => ?_) <;> try simp at hc) <;> (first | (refine zt30 ?_) | (refine zp30 ?_)))
  refine zt31 ?_
  refine w_v kr ?_
  rotate_left
  all_goals ((repeat' (first | refine stp ?_ | (refine stq ?_ ?_ <;> (intro hc; ((try simp at hc) <;> try contradiction))) | fail)) <;> try (exfalso; omega))
  all_goals exact fin_n rfl w_3 [] (.tup []) [(2, .own 137 1 (.lit (workL 3 4 5 a b xs.length cx cu cv false))), (3, .own 3 cx (.ints (negX xs b i))), (4, .own 3 cu (.ints (negX us a i)))] 6 ⟨rfl, rfl, rfl⟩ rfl ⟨trivial, ⟨rfl, rfl, rfl, trivial⟩, rfl⟩ rfl
set_option maxHeartbeats 2000000 in
theorem d_wadd (a b i j nx cx cu cv : Nat) (q : Int) (xs us : List Int) (hs : OKs a b (xs, us)) (hn : nx = xs.length) (ha : a ≤ 24) (hb : b ≤ 24) (hi : i < a) (hj : j < a) (hij : i ≠ j) (hq : numB q = true) (hcx : xs.length ≤ cx) (hcu : us.length ≤ cu) :
    Does Tryz.prog 159 [vW, vI i, vI j, vI q] [(2, .own 137 1 (.lit (workL 3 4 5 a b nx cx cu cv false))), (3, .own 3 cx (.ints xs)), (4, .own 3 cu (.ints us))] 6 (DidW 3 137 a b nx cx cu cv (addS b a i j q (xs, us)) 6) := by
  have g := d_rowsAdd a b i j nx cx cu cv q xs us hs hn ha hb hi hj hij hq hcx hcu
  refine Does.intro TT Tryz.func159 rfl (by kernel_rfl) Zz Zz fun E hE => ?_
  cases ho : addS b a i j q (xs, us) with
  | none =>
    rw [ho] at g
    ((repeat' (first | refine stx ?_ | ((refine zqe (g) ?_); rintro v Hout n1 ⟨rfl, rfl, ys, zs, rfl⟩) | (refine stq ?_ ?_ <;> (intro hc; ((try simp at hc) <;> try contradiction))) | fail)) <;> try (exfalso; omega))
    exact fin_n rfl w_3 [] (.tup []) [(2, .own 137 1 (.lit (workL 3 4 5 a b nx cx cu cv true))), (3, .own 3 cx (.ints ys)), (4, .own 3 cu (.ints zs))] 6 ⟨rfl, rfl, _, _, rfl⟩ rfl ⟨trivial, ⟨rfl, rfl, rfl, trivial⟩, rfl⟩ rfl
  | some s =>
    rw [ho] at g
    ((repeat' (first | refine stx ?_ | ((refine zqe (g) ?_); rintro v Hout n1 ⟨rfl, rfl, rfl⟩) | (refine stq ?_ ?_ <;> (intro hc; ((try simp at hc) <;> try contradiction))) | fail)) <;> try (exfalso; omega))
    exact fin_n rfl w_3 [] (.tup []) [(2, .own 137 1 (.lit (workL 3 4 5 a b nx cx cu cv false))), (3, .own 3 cx (.ints s.1)), (4, .own 3 cu (.ints s.2))] 6 ⟨rfl, rfl, rfl⟩ rfl ⟨trivial, ⟨rfl, rfl, rfl, trivial⟩, rfl⟩ rfl
def pI : Option Nat → Int
  | none => -1
  | some p => p
set_option maxHeartbeats 2000000 in
theorem d_leastI (a b t j nx cx cu cv : Nat) (bad : Bool) (xs : List Int) (hn : nx = xs.length) (hx : xs.length = a * b) (hnum : xs.all numB = true) (ha : a ≤ 24) (hb : b ≤ 24) (ht : t ≤ a) (hj : j < b) :
    Does Tryz.prog 156 [vW, vI t, vI j] [(2, .ro (.lit (workL 3 4 5 a b nx cx cu cv bad))), (3, .ro (.ints xs))] 6 (Ret (vI (pI (leastTo xs b t j (a - t)))) 6) := by
  subst hn
  refine Does.intro TT Tryz.func156 rfl (by kernel_rfl) Zz Zz fun E hE => ?_
  ((repeat' (first | refine stx ?_ | (refine stq ?_ ?_ <;> (intro hc; ((try simp at hc) <;> try contradiction))) | fail)) <;> try (exfalso; omega))
  refine w_G hE (fun n : Nat => t + n ≤ a) (fun n => a - (t + n))
    (fun n => [(0, vW), (2, vI j), (7, vI (pI (leastTo xs b t j n))), (8, vI ((t + n : Nat) : Int))]) (fun _ => [(2, .ro (.lit (workL 3 4 5 a b xs.length cx cu cv bad))), (3, .ro (.ints xs))]) 6 [] 0 (by omega) ⟨w_1, w_2, rfl⟩ ?_
  intro n hn
  by_cases hna : t + n < a
  · have hcell := cell_facts hna hj ha hb
    have hab : a * b ≤ 24 * 24 := Nat.mul_le_mul ha hb
    have ecell := cell_nat (p := t + n) (k := j) (c := b)
    have hd := d_at a b (t + n : Nat) j xs cx (by omega) (by omega) (by omega) (by omega)
    rw [ecell] at hd
    have b1 := num_getD hnum ((t + n) * b + j)
    have w1 : xs[(t + n) * b + j]?.getD 0 = xs.getD ((t + n) * b + j) 0 := by simp
    cases hl : leastTo xs b t j n with
    | none =>
      have hp0 : pI none = -1 := rfl
      by_cases h0 : xs.getD ((t + n) * b + j) 0 = 0
      · have hnx : pI (leastTo xs b t j (n + 1)) = pI none := by simp only [leastTo, hl]; rw [if_neg (fun h => h h0)]
        ((repeat' (first | refine stx ?_ | refine zqc (hd) ?_ | (first | refine w_z (d_absInt _ (by omega) (by omega)) Zz Zz Zz Zz Zz Zz Zz Zz ft Zz Zz ?_ | refine w_A (d_absInt _ (by omega) (by omega)) Zz Zz Zz Zz Zz Zz Zz Zz ft Zz Zz ?_) | (refine stq ?_ ?_ <;> (intro hc; ((try simp at hc) <;> try contradiction))) | fail)) <;> try (exfalso; omega))
        all_goals exact ⟨[], n + 1, by omega, w_4, ⟨⟨rfl, rfl, congrArg some (congrArg vI hnx.symm), congrArg some (congrArg vI (by omega)), trivial⟩, ⟨rfl, rfl, trivial⟩, rfl⟩⟩
      · have hnx : pI (leastTo xs b t j (n + 1)) = ((t + n : Nat) : Int) := by simp only [leastTo, hl]; rw [if_pos h0]; rfl
        ((repeat' (first | refine stx ?_ | refine zqc (hd) ?_ | (first | refine w_z (d_absInt _ (by omega) (by omega)) Zz Zz Zz Zz Zz Zz Zz Zz ft Zz Zz ?_ | refine w_A (d_absInt _ (by omega) (by omega)) Zz Zz Zz Zz Zz Zz Zz Zz ft Zz Zz ?_) | (refine stq ?_ ?_ <;> (intro hc; ((try simp at hc) <;> try contradiction))) | fail)) <;> try (exfalso; omega))
        all_goals exact ⟨[], n + 1, by omega, w_4, ⟨⟨rfl, rfl, congrArg some (congrArg vI hnx.symm), congrArg some (congrArg vI (by omega)), trivial⟩, ⟨rfl, rfl, trivial⟩, rfl⟩⟩
    | some p =>
      have hp0 : pI (some p) = (p : Int) := rfl
      obtain ⟨⟨p1, p2⟩, p3⟩ := leastTo_some hl
      have pcell := cell_facts (show p < a by omega) hj ha hb
      have epcell := cell_nat (p := p) (k := j) (c := b)
      have hd2 := d_at a b p j xs cx (by omega) (by omega) (by omega) (by omega)
      rw [epcell] at hd2
      have b2 := num_getD hnum (p * b + j)
      have w2 : xs[p * b + j]?.getD 0 = xs.getD (p * b + j) 0 := by simp
      by_cases h0 : xs.getD ((t + n) * b + j) 0 ≠ 0 ∧ (xs.getD ((t + n) * b + j) 0).natAbs < (xs.getD (p * b + j) 0).natAbs
      · have hnx : pI (leastTo xs b t j (n + 1)) = ((t + n : Nat) : Int) := by simp only [leastTo, hl]; rw [if_pos h0]; rfl
        ((repeat' (first | refine stx ?_ | refine zqc (hd) ?_ | refine zqc (hd2) ?_ | (first | refine w_z (d_absInt _ (by omega) (by omega)) Zz Zz Zz Zz Zz Zz Zz Zz ft Zz Zz ?_ | refine w_A (d_absInt _ (by omega) (by omega)) Zz Zz Zz Zz Zz Zz Zz Zz ft Zz Zz ?_) | (refine stq ?_ ?_ <;> (intro hc; ((try simp at hc) <;> try contradiction))) | fail)) <;> try (exfalso; omega))
        all_goals exact ⟨[], n + 1, by omega, w_4, ⟨⟨rfl, rfl, congrArg some (congrArg vI hnx.symm), congrArg some (congrArg vI (by omega)), trivial⟩, ⟨rfl, rfl, trivial⟩, rfl⟩⟩
      · have hnx : pI (leastTo xs b t j (n + 1)) = pI (some p) := by simp only [leastTo, hl]; rw [if_neg h0]
        ((repeat' (first | refine stx ?_ | refine zqc (hd) ?_ | refine zqc (hd2) ?_ | (first | refine w_z (d_absInt _ (by omega) (by omega)) Zz Zz Zz Zz Zz Zz Zz Zz ft Zz Zz ?_ | refine w_A (d_absInt _ (by omega) (by omega)) Zz Zz Zz Zz Zz Zz Zz Zz ft Zz Zz ?_) | (refine stq ?_ ?_ <;> (intro hc; ((try simp at hc) <;> try contradiction))) | fail)) <;> try (exfalso; omega))
        all_goals exact ⟨[], n + 1, by omega, w_4, ⟨⟨rfl, rfl, congrArg some (congrArg vI hnx.symm), congrArg some (congrArg vI (by omega)), trivial⟩, ⟨rfl, rfl, trivial⟩, rfl⟩⟩
  · obtain rfl : n = a - t := by omega
    ((repeat' (first | refine stx ?_ | (refine stq ?_ ?_ <;> (intro hc; ((try simp at hc) <;> try contradiction))) | fail)) <;> try (exfalso; omega))
    all_goals refine fin_ret rfl w_3 (rfl) rfl
end Go.Proofs.YtekpamojojfplaaGreat
