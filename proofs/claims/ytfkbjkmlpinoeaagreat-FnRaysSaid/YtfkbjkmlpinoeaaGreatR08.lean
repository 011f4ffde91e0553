/-
  TEXTS OF THE PROOF, put together: bSlice, bMat, pEch, bPrim.
-/
import Derived.Test.YtfkbjkmlpinoeaaGreatR07
set_option linter.unusedVariables false
set_option linter.unusedSimpArgs false
namespace Go.Proofs.YtfkbjkmlpinoeaaGreat
open Go.RowKit
def vS (k sz off len cap : Nat) : AV := .one (.sl k sz off len cap)
theorem getD_at {xs : List Int} {j : Nat} (h : j < xs.length) : xs.getD (0 + (j : Int).toNat) 0 = xs[j] := by simp [h]
theorem gD {xs : List Int} {j : Nat} (h : j < xs.length) : xs[j]?.getD 0 = xs[j] := by simp [h]
theorem own_ints {t : TypeId} {c : Nat} {l l' : List Int} {m : Nat → Nat} (h : l = l') : some (Blk.own t c (.ints l)) = some ((Blk.own t c (.ints l')).ren m) := by subst h; rfl
theorem all_take {f : Int → Bool} {xs : List Int} {j : Nat} (h : j < xs.length) (ha : (xs.take j).all f = true) (hj : f xs[j] = true) : (xs.take (j + 1)).all f = true := by
  rw [List.take_succ_eq_append_getElem h, List.all_append, ha]; simp [hj]
theorem all_bad {f : Int → Bool} {xs : List Int} {j : Nat} (h : j < xs.length) (hj : f xs[j] = false) : xs.all f = false := by
  rw [List.all_eq_false]; exact ⟨xs[j], List.getElem_mem h, by simp [hj]⟩
theorem d_areNumbers (xs : List Int) (c : Nat) (hl : xs.length ≤ 1099511627776) : Does Tryz.prog 66 [vS 1 1 0 xs.length c] [(1, .ro (.ints xs))] 2 (Ret (vB (xs.all numB)) 2) := by
 refine Does.intro TT Tryz.func66 rfl (by kernel_rfl) Zz Zz fun E hE => ?_
 (repeat' (first | refine stx ?_ | (refine stq ?_ ?_ <;> (intro hc; ((try simp at hc) <;> try contradiction))) | fail))
 refine w_G hE (fun k : Nat => k ≤ xs.length ∧ (xs.take k).all numB = true) (fun k => xs.length - k)
  (fun k => [(0, vS 1 1 0 xs.length c), (5, vS 1 1 0 xs.length c), (6, vI xs.length), (7, vI k)]) (fun _ => [(1, .ro (.ints xs))]) 2 [] 0 ⟨Nat.zero_le _, rfl⟩ ⟨w_1, w_2, rfl⟩ ?_
 rintro k ⟨h1, h2⟩
 (repeat' (first | refine stx ?_ | (first | refine w_z (d_numI _) Zz Zz Zz Zz Zz Zz Zz Zz ft Zz Zz ?_ | refine w_A (d_numI _) Zz Zz Zz Zz Zz Zz Zz Zz ft Zz Zz ?_) | (refine stq ?_ ?_ <;> (intro hc; ((try simp at hc) <;> try contradiction))) | fail))
 ·refine fin_ret rfl w_3 (congrArg vB ?_) rfl
  rw [gD (by assumption)] at hc
  exact (all_bad _ hc).symm
 ·refine ⟨[], k + 1, ⟨by omega, ?_⟩, w_4, ⟨w_1, w_2, rfl⟩⟩
  rw [gD (by assumption)] at hc
  exact all_take _ h2 hc
 ·refine fin_ret rfl w_3 (congrArg vB ?_) rfl
  rw [List.take_of_length_le (by omega)] at h2
  exact h2.symm
def MadeI (xs : List Int) (k : Nat) (v : AV) (Hout : List (Nat × Blk)) (n : Nat) : Prop := ∃ c, xs.length ≤ c ∧ v = vS k 1 0 xs.length c ∧ Hout = [(k, .own 3 c (.ints xs))] ∧ n = k + 1
theorem MadeI.out {xs : List Int} {k : Nat} : ∀ v Hout n1, MadeI xs k v Hout n1 → ∃ b, Hout = [(k, b)] ∧ n1 = k + 1 ∧ b.keys = [] := fun _ _ _ ⟨c, _, _, h2, h3⟩ => ⟨_, h2, h3, by simp [Blk.keys, Elts.keys, Elts.all, ints_keys]⟩
attribute [simp] marks_len
def Marks (k : Int) (t : TypeId) (c n : Nat) (v : AV) (Hout : List (Nat × Blk)) (n1 : Nat) : Prop := v = vI (k + n) ∧ Hout = [(1, .own t c (.ints (marks k n)))] ∧ n1 = 2
end Go.Proofs.YtfkbjkmlpinoeaaGreat
namespace Go.Proofs.YtfkbjkmlpinoeaaGreat
open Go.RowKit
def vM (r c : Int) (k n cap : Nat) : AV := .agg [.int r, .int c, .sl k 1 0 n cap]
def isM (r c : Int) (xs : List Int) : Bool := decide (0 ≤ r ∧ r ≤ 24 ∧ 0 ≤ c ∧ c ≤ 24 ∧ (xs.length : Int) = r * c) && xs.all numB
theorem isM_true {r c : Int} {xs : List Int} (h : isM r c xs = true) : (0 ≤ r ∧ r ≤ 24 ∧ 0 ≤ c ∧ c ≤ 24 ∧ (xs.length : Int) = r * c) ∧ xs.all numB = true := by simpa [isM] using h
theorem side_bd {r c : Int} (h1 : 0 ≤ r) (h2 : r ≤ 24) (h3 : 0 ≤ c) (h4 : c ≤ 24) : 0 ≤ r * c ∧ r * c ≤ 576 := by
  refine ⟨Int.mul_nonneg h1 h3, ?_⟩
  have := Int.mul_le_mul h2 h4 h3 (by omega : (0 : Int) ≤ 24)
  omega
theorem isM_no {r c : Int} {xs : List Int} (h : ¬(0 ≤ r ∧ r ≤ 24 ∧ 0 ≤ c ∧ c ≤ 24 ∧ (xs.length : Int) = r * c)) : isM r c xs = false := by simp [isM, h]
set_option maxHeartbeats 1000000 in
theorem d_isMatI (r c : Int) (xs : List Int) (cap : Nat) (hl : xs.length ≤ 1099511627776) : Does Tryz.prog 99 [vM r c 1 xs.length cap] [(1, .ro (.ints xs))] 2 (Ret (vB (isM r c xs)) 2) := by
 have hs := @side_bd r c
 refine Does.intro TT Tryz.func99 rfl (by kernel_rfl) Zz Zz fun E hE => ?_
 by_cases h : 0 ≤ r ∧ r ≤ 24 ∧ 0 ≤ c ∧ c ≤ 24
 ·obtain ⟨h1, h2, h3, h4⟩ := h
  have hs := hs h1 h2 h3 h4
  (repeat' (first | refine stx ?_ | (first | refine w_z (d_areNumbers _ _ hl) Zz Zz Zz Zz Zz Zz Zz Zz ft Zz Zz ?_ | refine w_A (d_areNumbers _ _ hl) Zz Zz Zz Zz Zz Zz Zz Zz ft Zz Zz ?_) | (refine stq ?_ ?_ <;> (intro hc; ((try simp at hc) <;> try contradiction))) | fail))
  ·refine fin_ret rfl w_3 (congrArg vB ?_) rfl
   simp [isM, h1, h2, h3, h4, hc]
  all_goals refine fin_ret rfl w_3 (congrArg vB (isM_no (by omega)).symm) rfl
 ·clear hs
  (repeat' (first | refine stx ?_ | (first | refine w_z (d_areNumbers _ _ hl) Zz Zz Zz Zz Zz Zz Zz Zz ft Zz Zz ?_ | refine w_A (d_areNumbers _ _ hl) Zz Zz Zz Zz Zz Zz Zz Zz ft Zz Zz ?_) | (refine stq ?_ ?_ <;> (intro hc; ((try simp at hc) <;> try contradiction))) | fail))
  all_goals first
   | omega
   | refine fin_ret rfl w_3 (congrArg vB (isM_no (by omega)).symm) rfl
set_option maxHeartbeats 1000000 in
theorem d_isMatS (r c : Int) (xs : List Int) (cap : Nat) (hl : xs.length ≤ 1099511627776) : Does Tryz.prog 101 [vM r c 1 xs.length cap] [(1, .ro (.ints xs))] 2 (Ret (vB (isM r c xs)) 2) := by
 have hs := @side_bd r c
 refine Does.intro TT Tryz.func101 rfl (by kernel_rfl) Zz Zz fun E hE => ?_
 cases hr : inB r 0 24 <;> cases hc : inB c 0 24
 ·have h := inB_false.1 hr
  clear hs
  (repeat' (first | refine stx ?_ | ((first | refine w_z (d_l1In _ _ _) Zz Zz Zz Zz Zz Zz Zz Zz ft Zz Zz ?_ | refine w_A (d_l1In _ _ _) Zz Zz Zz Zz Zz Zz Zz Zz ft Zz Zz ?_) <;> simp only [hr, hc]) | (refine stq ?_ ?_ <;> (intro hc; ((try simp at hc) <;> try contradiction))) | fail))
  refine fin_ret rfl w_3 (congrArg vB (isM_no (by omega)).symm) rfl
 ·have h := inB_false.1 hr
  clear hs
  (repeat' (first | refine stx ?_ | ((first | refine w_z (d_l1In _ _ _) Zz Zz Zz Zz Zz Zz Zz Zz ft Zz Zz ?_ | refine w_A (d_l1In _ _ _) Zz Zz Zz Zz Zz Zz Zz Zz ft Zz Zz ?_) <;> simp only [hr, hc]) | (refine stq ?_ ?_ <;> (intro hc; ((try simp at hc) <;> try contradiction))) | fail))
  refine fin_ret rfl w_3 (congrArg vB (isM_no (by omega)).symm) rfl
 ·have h := inB_false.1 hc
  clear hs
  (repeat' (first | refine stx ?_ | ((first | refine w_z (d_l1In _ _ _) Zz Zz Zz Zz Zz Zz Zz Zz ft Zz Zz ?_ | refine w_A (d_l1In _ _ _) Zz Zz Zz Zz Zz Zz Zz Zz ft Zz Zz ?_) <;> simp only [hr, hc]) | (refine stq ?_ ?_ <;> (intro hc; ((try simp at hc) <;> try contradiction))) | fail))
  refine fin_ret rfl w_3 (congrArg vB (isM_no (by omega)).symm) rfl
 ·have h1 := inB_true.1 hr
  have h3 := inB_true.1 hc
  have hs := hs h1.1 h1.2 h3.1 h3.2
  (repeat' (first | refine stx ?_ | ((first | refine w_z (d_l1In _ _ _) Zz Zz Zz Zz Zz Zz Zz Zz ft Zz Zz ?_ | refine w_A (d_l1In _ _ _) Zz Zz Zz Zz Zz Zz Zz Zz ft Zz Zz ?_) <;> simp only [hr, hc]) | (refine stq ?_ ?_ <;> (intro hc; ((try simp at hc) <;> try contradiction))) | fail))
  ·refine fin_ret rfl w_3 (congrArg vB (isM_no (by omega)).symm) rfl
  ·have hlen : (xs.length : Int) = r * c := by assumption
   refine w_G hE (fun k : Nat => k ≤ xs.length ∧ (xs.take k).all numB = true) (fun k => xs.length - k)
    (fun k => [(1, .one (.ptr 2 3 0 0)), (3, vI k)]) (fun _ => [(1, .ro (.ints xs)), (2, .own 26 1 (.lit [.int r, .int c, .sl 1 1 0 xs.length cap]))]) 3 [] 0 ⟨Nat.zero_le _, rfl⟩ ⟨w_1, w_2, rfl⟩ ?_
   rintro k ⟨g1, g2⟩
   (repeat' (first | refine stx ?_ | (first | refine w_z (d_numS _) Zz Zz Zz Zz Zz Zz Zz Zz ft Zz Zz ?_ | refine w_A (d_numS _) Zz Zz Zz Zz Zz Zz Zz Zz ft Zz Zz ?_) | (refine stq ?_ ?_ <;> (intro hc; ((try simp at hc) <;> try contradiction))) | fail))
   ·refine fin_ret rfl w_3 (congrArg vB ?_) rfl
    rw [gD (by assumption)] at hc
    simp [isM, all_bad _ hc]
   ·refine ⟨[], k + 1, ⟨by omega, ?_⟩, w_4, ⟨w_1, w_2, rfl⟩⟩
    rw [gD (by assumption)] at hc
    exact all_take _ g2 hc
   ·refine fin_ret rfl w_3 (congrArg vB ?_) rfl
    rw [List.take_of_length_le (by omega)] at g2
    simp only [isM, g2, Bool.and_true]
    exact (decide_eq_true ⟨h1.1, h1.2, h3.1, h3.2, hlen⟩).symm
theorem own_rep {t : TypeId} {c : Nat} {e e' : Elts} {m : Nat → Nat} (h : e = e'.ren m) : some (Blk.own t c e) = some ((Blk.own t c e').ren m) := by subst h; rfl
theorem nat_side {r c : Nat} (h1 : r ≤ 24) (h2 : c ≤ 24) : 0 ≤ (r : Int) * (c : Int) ∧ (r : Int) * (c : Int) ≤ 576 := side_bd (by omega) (by omega) (by omega) (by omega)
def NewM (r c : Nat) (t : TypeId) (v : AV) (Hout : List (Nat × Blk)) (n : Nat) : Prop := v = .agg [.int r, .int c, .sl 1 1 0 (r * c) (r * c)] ∧ Hout = [(1, .own t (r * c) (.ints (List.replicate (r * c) 0)))] ∧ n = 2
theorem NewM.out {r c : Nat} {t : TypeId} : ∀ v Hout n1, NewM r c t v Hout n1 → ∃ b, Hout = [(1, b)] ∧ n1 = 1 + 1 ∧ b.keys = [] := fun _ _ _ ⟨_, h2, h3⟩ => ⟨_, h2, h3, by simp [Blk.keys, Elts.keys, Elts.all, keysOf, SV.keys]⟩
theorem d_newI (r c : Nat) (hr : r ≤ 24) (hc : c ≤ 24) : Does Tryz.prog 125 [vI r, vI c] [] 1 (NewM r c 3) := by
 have hs := nat_side hr hc
 refine Does.intro TT Tryz.func125 rfl (by kernel_rfl) Zz Zz fun E hE => ?_
 (repeat' (first | refine stx ?_ | (refine stq ?_ ?_ <;> (intro hc; ((try simp at hc) <;> try contradiction))) | fail))
 exact fin rfl Nat.zero_lt_one [(1, 2)] (.agg [.int r, .int c, .sl 1 1 0 (r * c) (r * c)]) [(1, .own 3 (r * c) (.ints (List.replicate (r * c) 0)))] 2 ⟨rfl, rfl, rfl⟩ rfl ⟨trivial, ⟨own_rep rfl, trivial⟩, rfl⟩ rfl
theorem d_newS (r c : Nat) (hr : r ≤ 24) (hc : c ≤ 24) : Does Tryz.prog 122 [vI r, vI c] [] 1 (NewM r c 3) := by
 have hs := nat_side hr hc
 refine Does.intro TT Tryz.func122 rfl (by kernel_rfl) Zz Zz fun E hE => ?_
 (repeat' (first | refine stx ?_ | (refine stq ?_ ?_ <;> (intro hc; ((try simp at hc) <;> try contradiction))) | fail))
 exact fin rfl Nat.zero_lt_one [(1, 2)] (.agg [.int r, .int c, .sl 1 1 0 (r * c) (r * c)]) [(1, .own 3 (r * c) (.ints (List.replicate (r * c) 0)))] 2 ⟨rfl, rfl, rfl⟩ rfl ⟨trivial, ⟨own_rep rfl, trivial⟩, rfl⟩ rfl
theorem d_at (r c i j : Int) (xs : List Int) (cap : Nat) (h1 : 0 ≤ i * c ∧ i * c ≤ 1000000) (h2 : 0 ≤ j) (h3 : i * c + j < xs.length) (hl : xs.length ≤ 1099511627776) : Does Tryz.prog 110 [vM r c 1 xs.length cap, vI i, vI j] [(1, .ro (.ints xs))] 2 (Ret (vI (xs.getD (0 + (i * c + j).toNat) 0)) 2) := by
 refine Does.intro TT Tryz.func110 rfl (by kernel_rfl) Zz Zz fun E hE => ?_
 (repeat' (first | refine stx ?_ | (refine stq ?_ ?_ <;> (intro hc; ((try simp at hc) <;> try contradiction))) | fail))
 refine fin_ret rfl w_3 (rfl) rfl
def SetM (t : TypeId) (cap : Nat) (xs : List Int) (v : AV) (Hout : List (Nat × Blk)) (n : Nat) : Prop := v = .tup [] ∧ Hout = [(1, .own t cap (.ints xs))] ∧ n = 2
theorem d_set (r c i j x : Int) (xs : List Int) (n cap cap' : Nat) (hn : n = xs.length) (h1 : 0 ≤ i * c ∧ i * c ≤ 1000000) (h2 : 0 ≤ j) (h3 : i * c + j < xs.length) (hl : xs.length ≤ 1099511627776) : Does Tryz.prog 113 [vM r c 1 n cap, vI i, vI j, vI x] [(1, .own 3 cap' (.ints xs))] 2 (SetM 3 cap' (xs.set (0 + (i * c + j).toNat) x)) := by
 subst hn
 refine Does.intro TT Tryz.func113 rfl (by kernel_rfl) Zz Zz fun E hE => ?_
 (repeat' (first | refine stx ?_ | (refine stq ?_ ?_ <;> (intro hc; ((try simp at hc) <;> try contradiction))) | fail))
 exact fin_n rfl trivial [] (.tup []) [(1, .own 3 cap' (.ints (xs.set (0 + (i * c + j).toNat) x)))] 2 ⟨rfl, rfl, rfl⟩ rfl ⟨trivial, ⟨own_rep rfl, trivial⟩, rfl⟩ rfl
def zeroM : List SV := [.int 0, .int 0, .sl 0 1 0 0 0]
def dotTo (xs ys : List Int) (n c i j : Nat) : Nat → Int
  | 0 => 0
  | k + 1 => dotTo xs ys n c i j k + xs.getD (i * n + k) 0 * ys.getD (k * c + j) 0
def mulM (r n c : Nat) (xs ys : List Int) : List Int := (List.range (r * c)).map fun p => dotTo xs ys n c (p / c) (p % c) n
theorem cell_lt {i j r c : Nat} (hi : i < r) (hj : j < c) : i * c + j < r * c := by
  have := Nat.mul_le_mul_right c (show i + 1 ≤ r by omega)
  rw [Nat.add_mul] at this
  omega
theorem num_getD {xs : List Int} (h : xs.all numB = true) (k : Nat) : -400000000 ≤ xs.getD k 0 ∧ xs.getD k 0 ≤ 400000000 := by
  by_cases hk : k < xs.length
  · simp only [List.getD_eq_getElem?_getD, List.getElem?_eq_getElem hk, Option.getD_some]
    exact numB_true.1 (List.all_eq_true.1 h _ (List.getElem_mem hk))
  · simp [List.getElem?_eq_none (by omega : xs.length ≤ k)]
theorem prod_num {a b : Int} (h1 : -400000000 ≤ a ∧ a ≤ 400000000) (h2 : -400000000 ≤ b ∧ b ≤ 400000000) : -160000000000000000 ≤ a * b ∧ a * b ≤ 160000000000000000 := by
  have h := Nat.mul_le_mul (show a.natAbs ≤ 400000000 by omega) (show b.natAbs ≤ 400000000 by omega)
  rw [← Int.natAbs_mul] at h
  omega
theorem prod_getD {xs ys : List Int} (hx : xs.all numB = true) (hy : ys.all numB = true) (k l : Nat) : -160000000000000000 ≤ xs.getD k 0 * ys.getD l 0 ∧ xs.getD k 0 * ys.getD l 0 ≤ 160000000000000000 :=
  prod_num (num_getD hx k) (num_getD hy l)
def partM (r n c : Nat) (xs ys : List Int) (p : Nat) : List Int := (mulM r n c xs ys).take p ++ List.replicate (r * c - p) 0
theorem cell_facts {r c i j : Nat} (hi : i < r) (hj : j < c) (hr : r ≤ 24) (hc : c ≤ 24) : (0 ≤ (i : Int) * c ∧ (i : Int) * c ≤ 576) ∧ (i : Int) * c + j < ((r * c : Nat) : Int) := by
  have h := cell_lt hi hj
  exact ⟨nat_side (by omega) hc, by exact_mod_cast h⟩
def doneV (r c : Int) (k n cap : Nat) : Bool → AV
  | true => .tup [.agg [.int r, .int c, .sl k 1 0 n cap], .one (.bool true)]
  | false => .tup [.agg zeroM, .one (.bool false)]
theorem d_checked (r c : Int) (xs : List Int) (n cap : Nat) (hn : n = xs.length) (b : Bool) (hb : isM r c xs = b) (hl : xs.length ≤ 1099511627776) : Does Tryz.prog 56 [vM r c 1 n cap] [(1, .ro (.ints xs))] 2 (Ret (doneV r c 1 n cap b) 2) := by
 subst hn
 refine Does.intro TT Tryz.func56 rfl (by kernel_rfl) Zz Zz fun E hE => ?_
 cases b
 all_goals (repeat' (first | refine stx ?_ | ((first | refine w_z (d_isMatI _ _ _ _ hl) Zz Zz Zz Zz Zz Zz Zz Zz ft Zz Zz ?_ | refine w_A (d_isMatI _ _ _ _ hl) Zz Zz Zz Zz Zz Zz Zz Zz ft Zz Zz ?_) <;> simp only [hb]) | (refine stq ?_ ?_ <;> (intro hc; ((try simp at hc) <;> try contradiction))) | fail))
 all_goals refine fin_ret rfl w_3 (rfl) rfl
def mulZ (r n n' c : Int) (xs ys : List Int) : Option (List Int) :=
  if isM r n xs && isM n' c ys && (n == n') && (mulM r.toNat n.toNat c.toNat xs ys).all numB then some (mulM r.toNat n.toNat c.toNat xs ys) else none
def GotZ (r c : Int) (t : TypeId) (o : Option (List Int)) (k : Nat) (v : AV) (Hout : List (Nat × Blk)) (n1 : Nat) : Prop := match o with
  | some zs => ∃ cap, zs.length ≤ cap ∧ v = doneV r c k zs.length cap true ∧ Hout = [(k, .own t cap (.ints zs))] ∧ n1 = k + 1
  | none => v = .tup [.agg zeroM, .one (.bool false)] ∧ Hout = [] ∧ n1 = k
theorem GotZ.no {r c : Int} {t : TypeId} {o : Option (List Int)} {k : Nat} (h : o = none) : GotZ r c t o k (.tup [.agg zeroM, .one (.bool false)]) [] k := by subst h; exact ⟨rfl, rfl, rfl⟩
theorem GotZ.yes {r c : Int} {t : TypeId} {o : Option (List Int)} {zs : List Int} {k m cap : Nat} (h : o = some zs) (hm : m = zs.length) (hc : m ≤ cap) : GotZ r c t o k (doneV r c k m cap true) [(k, .own t cap (.ints zs))] (k + 1) := by subst h hm; exact ⟨cap, hc, rfl, rfl, rfl⟩
theorem isM_nat {r c : Nat} {xs : List Int} (h : isM r c xs = true) : r ≤ 24 ∧ c ≤ 24 ∧ xs.length = r * c ∧ xs.all numB = true := by
  obtain ⟨⟨h1, h2, h3, h4, h5⟩, h6⟩ := isM_true h
  exact ⟨by omega, by omega, by exact_mod_cast h5, h6⟩
theorem isM_pos {r c : Int} {xs : List Int} (h : isM r c xs = true) : ∃ r' c' : Nat, r = r' ∧ c = c' := by
  obtain ⟨⟨h1, h2, h3, h4, h5⟩, h6⟩ := isM_true h
  exact ⟨r.toNat, c.toNat, by omega, by omega⟩
end Go.Proofs.YtfkbjkmlpinoeaaGreat
namespace Go.Proofs.YtfkbjkmlpinoeaaGreat
def rowGcd (xs : List Int) (off : Nat) : Nat → Int
  | 0 => 0
  | k + 1 => (Int.gcd (rowGcd xs off k) (xs.getD (off + k) 0) : Int)
def sgnTo (xs : List Int) (off : Nat) : Nat → Int
  | 0 => 0
  | k + 1 => if sgnTo xs off k = 0 then (xs.getD (off + k) 0).sign else sgnTo xs off k
def updTo (xs : List Int) (off : Nat) (f : Nat → Int → Int) : Nat → List Int
  | 0 => xs
  | k + 1 => (updTo xs off f k).set (off + k) (f k (xs.getD (off + k) 0))
def primAt (xs : List Int) (off n : Nat) : List Int := if rowGcd xs off n = 0 then xs else updTo xs off (fun _ v => v.tdiv (sgnTo xs off n * rowGcd xs off n)) n
theorem updTo_len {xs : List Int} {off : Nat} {f : Nat → Int → Int} : ∀ {k : Nat}, (updTo xs off f k).length = xs.length
  | 0 => rfl
  | k + 1 => by simp [updTo, updTo_len]
theorem updTo_at {xs : List Int} {off : Nat} {f : Nat → Int → Int} {p : Nat} : ∀ {k : Nat}, (p < off ∨ off + k ≤ p) → (updTo xs off f k).getD p 0 = xs.getD p 0
  | 0, _ => rfl
  | k + 1, h => by
    have := updTo_at (xs := xs) (off := off) (f := f) (p := p) (k := k) (by omega)
    rw [updTo, List.getD_eq_getElem?_getD, List.getElem?_set_ne (by omega), ← List.getD_eq_getElem?_getD, this]
theorem rowGcd_bd {xs : List Int} {off : Nat} (h : xs.all numB = true) : ∀ k, 0 ≤ rowGcd xs off k ∧ rowGcd xs off k ≤ 400000000
  | 0 => by simp [rowGcd]
  | k + 1 => by
    have ih := rowGcd_bd (off := off) h k
    have hv := num_getD h (off + k)
    have := gcd_le_left (a := rowGcd xs off k) (b := xs.getD (off + k) 0) (M := 400000000) (by omega) ih.2 hv.1 hv.2
    simp only [rowGcd]
    omega
theorem rowGcd_none {xs : List Int} {off : Nat} : ∀ {n : Nat}, (∀ k, k < n → xs.getD (off + k) 0 = 0) → rowGcd xs off n = 0
  | 0, _ => rfl
  | n + 1, h => by
    rw [rowGcd, rowGcd_none (fun k hk => h k (by omega)), h n (by omega)]; rfl
theorem sgn_none {xs : List Int} {off : Nat} : ∀ {n : Nat}, (∀ k, k < n → xs.getD (off + k) 0 = 0) → sgnTo xs off n = 0
  | 0, _ => rfl
  | n + 1, h => by
    rw [sgnTo, sgn_none (fun k hk => h k (by omega)), h n (by omega)]; rfl
theorem sgn_first {xs : List Int} {off k : Nat} (h0 : xs.getD (off + k) 0 ≠ 0) (h : ∀ i, i < k → xs.getD (off + i) 0 = 0) : ∀ {n : Nat}, k < n → sgnTo xs off n = (xs.getD (off + k) 0).sign
  | n + 1, hn => by
    rcases Nat.lt_or_ge k n with c | c
    · have := sgn_first h0 h (n := n) c
      rw [sgnTo, this, if_neg (by intro e; exact h0 (Int.sign_eq_zero_iff_zero.1 e))]
    · obtain rfl : k = n := by omega
      rw [sgnTo, sgn_none h, if_pos rfl]
theorem tdiv_sgn {s g v : Int} (hs : s = 1 ∨ s = -1) : (s * v).tdiv g = v.tdiv (s * g) := by
  rcases hs with rfl | rfl
  · simp
  · simp [Int.neg_mul, Int.neg_tdiv, Int.tdiv_neg]
end Go.Proofs.YtfkbjkmlpinoeaaGreat
namespace Go.Proofs.YtfkbjkmlpinoeaaGreat
open Go.RowKit
theorem off_nat {off k : Nat} : off + ((k : Int)).toNat = off + k := by omega
theorem d_nonZeroF (n : Int) : Does Tryz.prog 166 [vI n] [] 1 (Ret (vB (decide (n ≠ 0))) 1) := by
 refine Does.intro TT Tryz.func166 rfl (by kernel_rfl) Zz Zz fun E hE => ?_
 (repeat' (first | refine stx ?_ | (refine stq ?_ ?_ <;> (intro hc; ((try simp at hc) <;> try contradiction))) | fail))
 refine fin_ret rfl w_3 (rfl) rfl
def FirstN (xs : List Int) (off n : Nat) (j : Int) : Prop := ((∀ k, k < n → xs.getD (off + k) 0 = 0) ∧ j = -1) ∨ ∃ k, k < n ∧ j = (k : Int) ∧ xs.getD (off + k) 0 ≠ 0 ∧ ∀ i, i < k → xs.getD (off + i) 0 = 0
def FoundF (xs : List Int) (off n : Nat) (v : AV) (Hout : List (Nat × Blk)) (n1 : Nat) : Prop := ∃ j : Int, v = vI j ∧ Hout = [] ∧ n1 = 2 ∧ FirstN xs off n j
theorem d_indexF (xs : List Int) (off n c : Nat) (hl : off + n ≤ xs.length) (hx : xs.length ≤ 1099511627776) : Does Tryz.prog 150 [vS 1 1 off n c, .one (.fn 166 [])] [(1, .ro (.ints xs))] 2 (FoundF xs off n) := by
 refine Does.intro TT Tryz.func150 rfl (by kernel_rfl) Zz Zz fun E hE => ?_
 (repeat' (first | refine stx ?_ | (refine stq ?_ ?_ <;> (intro hc; ((try simp at hc) <;> try contradiction))) | fail))
 refine w_G hE (fun k : Nat => k ≤ n ∧ ∀ i, i < k → xs.getD (off + i) 0 = 0) (fun k => n - k)
  (fun k => [(0, vS 1 1 off n c), (1, .one (.fn 166 [])), (7, vI n), (8, vI k)]) (fun _ => [(1, .ro (.ints xs))]) 2 [] 0 ⟨Nat.zero_le _, fun i hi => by omega⟩ ⟨w_1, w_2, rfl⟩ ?_
 rintro k ⟨h1, h2⟩
 have e := off_nat (off := off) (k := k)
 ((repeat' (first | refine stx ?_ | (first | refine w_z (d_nonZeroF _) Zz Zz Zz Zz Zz Zz Zz Zz ft Zz Zz ?_ | refine w_A (d_nonZeroF _) Zz Zz Zz Zz Zz Zz Zz Zz ft Zz Zz ?_) | (refine stq ?_ ?_ <;> (intro hc; ((try simp at hc) <;> try contradiction))) | fail)) <;> try (exfalso; omega))
 ·have hz : xs.getD (off + k) 0 ≠ 0 := by rw [List.getD_eq_getElem?_getD]; simpa using hc
  exact fin rfl w_3 [] (vI k) [] 2 ⟨_, rfl, rfl, rfl, .inr ⟨k, by omega, rfl, hz, h2⟩⟩ rfl ⟨trivial, trivial, rfl⟩ rfl
 ·have hz : xs.getD (off + k) 0 = 0 := by rw [List.getD_eq_getElem?_getD]; simpa using hc
  refine ⟨[], k + 1, ⟨by omega, fun i hi => ?_⟩, w_4, ⟨w_1, w_2, rfl⟩⟩
  rcases Nat.lt_or_ge i k with q | q
  ·exact h2 i q
  ·obtain rfl : i = k := by omega
   exact hz
 ·obtain rfl : k = n := by omega
  exact fin rfl w_3 [] (vI (-1)) [] 2 ⟨_, rfl, rfl, rfl, .inl ⟨h2, rfl⟩⟩ rfl ⟨trivial, trivial, rfl⟩ rfl
theorem d_firstCell (xs : List Int) (off n c : Nat) (hl : off + n ≤ xs.length) (hx : xs.length ≤ 1099511627776) : Does Tryz.prog 149 [vS 1 1 off n c] [(1, .ro (.ints xs))] 2 (FoundF xs off n) := by
 refine Does.intro TT Tryz.func149 rfl (by kernel_rfl) Zz Zz fun E hE => ?_
 (repeat' (first | refine stx ?_ | ((refine w_E (d_indexF xs off n _ hl hx) Zz Zz Zz Zz Zz Zz Zz ft rfl ?_); rintro v Hout n1 ⟨j, rfl, rfl, rfl, hj⟩) | (refine stq ?_ ?_ <;> (intro hc; ((try simp at hc) <;> try contradiction))) | fail))
 exact fin rfl w_3 [] (vI j) [] 2 ⟨_, rfl, rfl, rfl, hj⟩ rfl ⟨trivial, trivial, rfl⟩ rfl
set_option maxHeartbeats 1000000 in
theorem d_primI (xs : List Int) (off n c cap : Nat) (hl : off + n ≤ xs.length) (hx : xs.length ≤ 1099511627776) (hn : xs.all numB = true) : Does Tryz.prog 109 [vS 1 1 off n c] [(1, .own 3 cap (.ints xs))] 2 (SetM 3 cap (primAt xs off n)) := by
 refine Does.intro TT Tryz.func109 rfl (by kernel_rfl) Zz Zz fun E hE => ?_
 (repeat' (first | refine stx ?_ | (refine stq ?_ ?_ <;> (intro hc; ((try simp at hc) <;> try contradiction))) | fail))
 refine w_G hE (fun k : Nat => k ≤ n) (fun k => n - k)
  (fun k => [(0, vS 1 1 off n c), (2, vI (rowGcd xs off k)), (6, vS 1 1 off n c), (7, vI n), (8, vI k)]) (fun _ => [(1, .own 3 cap (.ints xs))]) 2 [] 0 (Nat.zero_le _) ⟨w_1, w_2, rfl⟩ ?_
 intro k h1
 have e := off_nat (off := off) (k := k)
 have hv := num_getD hn (off + (k : Int).toNat)
 have hg := rowGcd_bd (off := off) hn k
 by_cases hk : k < n
 ·have hstep : rowGcd xs off (k + 1) = (Int.gcd (rowGcd xs off k) (xs.getD (off + (k : Int).toNat) 0) : Int) := by rw [e]; rfl
  ((repeat' (first | refine stx ?_ | (first | refine w_z (d_gcd _ _ (by omega) (by omega)) Zz Zz Zz Zz Zz Zz Zz Zz ft Zz Zz ?_ | refine w_A (d_gcd _ _ (by omega) (by omega)) Zz Zz Zz Zz Zz Zz Zz Zz ft Zz Zz ?_) | (refine stq ?_ ?_ <;> (intro hc; ((try simp at hc) <;> try contradiction))) | fail)) <;> try (exfalso; omega))
  exact ⟨[], k + 1, hk, w_4, ⟨⟨rfl, congrArg some (congrArg vI hstep.symm), rfl, rfl, rfl, trivial⟩, ⟨rfl, trivial⟩, rfl⟩⟩
 ·obtain rfl : k = n := by omega
  ((repeat' (first | refine stx ?_ | ((refine w_E (d_firstCell xs off k _ hl hx) Zz Zz Zz Zz Zz Zz Zz ft rfl ?_); rintro v Hout n1 ⟨j, rfl, rfl, rfl, hj⟩) | (refine stq ?_ ?_ <;> (intro hc; ((try simp at hc) <;> try contradiction))) | fail)) <;> try (exfalso; omega))
  ·exact fin rfl w_3 [] (.tup []) [(1, .own 3 cap (.ints (primAt xs off k)))] 2 ⟨rfl, rfl, rfl⟩ rfl ⟨trivial, ⟨own_ints (by rw [primAt, if_pos hc]), trivial⟩, rfl⟩ rfl
  ·rcases hj with ⟨hj, rfl⟩ | ⟨q, hq, rfl, hz, hf⟩
   ·exact absurd (rowGcd_none hj) hc
   ·have hs := sgn_first hz hf hq
    have eq := off_nat (off := off) (k := q)
    have hp : primAt xs off k = updTo xs off (fun _ v => v.tdiv (sgnTo xs off k * rowGcd xs off k)) k := by rw [primAt, if_neg hc]
    have hG : (xs.getD (off + q) 0 < 0 → -rowGcd xs off k = sgnTo xs off k * rowGcd xs off k) ∧ (¬xs.getD (off + q) 0 < 0 → rowGcd xs off k = sgnTo xs off k * rowGcd xs off k) := by
     rw [hs]
     refine ⟨fun h => ?_, fun h => ?_⟩
     ·rw [Int.sign_eq_neg_one_of_neg h]; omega
     ·rw [Int.sign_eq_one_of_pos (by omega)]; omega
    rw [List.getD_eq_getElem?_getD] at hG
    rw [hp]
    generalize hGG : sgnTo xs off k * rowGcd xs off k = G at *
    have hG0 : G ≠ 0 := by
     intro e0
     rcases Int.lt_or_le ((xs[off + q]?).getD 0) 0 with c1 | c1
     ·have := hG.1 c1; omega
     ·have := hG.2 (by omega); omega
    ((repeat' (first | refine stx ?_ | (refine stq ?_ ?_ <;> (intro hc; ((try simp at hc) <;> try contradiction))) | fail)) <;> try (exfalso; omega))
    all_goals
     refine w_G hE (fun i : Nat => i ≤ k) (fun i => k - i)
      (fun i => [(0, vS 1 1 off k c), (2, vI G), (27, vI k), (28, vI i)]) (fun i => [(1, .own 3 cap (.ints (updTo xs off (fun _ v => v.tdiv G) i)))]) 2 [] 0 (Nat.zero_le _) ⟨⟨rfl, congrArg some (congrArg vI (by first | exact hG.1 hc | exact hG.2 (by omega))), rfl, rfl, trivial⟩, ⟨rfl, trivial⟩, rfl⟩ ?_
     intro i hi
     have ei := off_nat (off := off) (k := i)
     have hlen : (updTo xs off (fun _ v => v.tdiv G) i).length = xs.length := updTo_len
     have hat := updTo_at (xs := xs) (off := off) (f := fun _ v => v.tdiv G) (p := off + i) (k := i) (by omega)
     have hvi := num_getD hn (off + i)
     have hd := tdiv_bd (xs.getD (off + i) 0) G
     rw [← hat, ← ei] at hvi hd
     by_cases hik : i < k
     ·((repeat' (first | refine stx ?_ | (refine stq ?_ ?_ <;> (intro hc; ((try simp at hc) <;> try contradiction))) | fail)) <;> try (exfalso; omega))
      refine ⟨[], i + 1, hik, w_4, ⟨w_1, ⟨own_ints ?_, trivial⟩, rfl⟩⟩
      rw [ei, hat]; rfl
     ·obtain rfl : i = k := by omega
      ((repeat' (first | refine stx ?_ | (refine stq ?_ ?_ <;> (intro hc; ((try simp at hc) <;> try contradiction))) | fail)) <;> try (exfalso; omega))
      exact fin rfl w_3 [] (.tup []) [(1, .own 3 cap (.ints (updTo xs off (fun _ v => v.tdiv G) i)))] 2 ⟨rfl, rfl, rfl⟩ rfl ⟨trivial, ⟨rfl, trivial⟩, rfl⟩ rfl
theorem tdiv_abs {x : Int} (h : x ≠ 0) : x.tdiv (x.natAbs : Int) = x.sign := by
  rcases Int.lt_or_le x 0 with c | c
  · rw [show ((x.natAbs : Nat) : Int) = -x by omega, Int.tdiv_neg, Int.tdiv_self h, Int.sign_eq_neg_one_of_neg c]
  · rw [show ((x.natAbs : Nat) : Int) = x by omega, Int.tdiv_self h, Int.sign_eq_one_of_pos (by omega)]
theorem sgn_cases {xs : List Int} {off : Nat} : ∀ n, sgnTo xs off n = 0 ∨ sgnTo xs off n = 1 ∨ sgnTo xs off n = -1
  | 0 => .inl rfl
  | n + 1 => by
    rw [sgnTo]
    split
    · rcases Int.lt_trichotomy (xs.getD (off + n) 0) 0 with c | c | c
      · rw [Int.sign_eq_neg_one_of_neg c]; simp
      · rw [c]; simp
      · rw [Int.sign_eq_one_of_pos c]; simp
    · exact sgn_cases n
theorem sgn_mul {s v : Int} (hs : s = 0 ∨ s = 1 ∨ s = -1) (hv : -400000000 ≤ v ∧ v ≤ 400000000) : -400000000 ≤ s * v ∧ s * v ≤ 400000000 := by
  rcases hs with rfl | rfl | rfl <;> omega
theorem sgn_gcd {xs : List Int} {off : Nat} : ∀ {n : Nat}, sgnTo xs off n = 0 → rowGcd xs off n = 0
  | 0, _ => rfl
  | n + 1, h => by
    rw [sgnTo] at h
    split at h
    · rename_i h0
      have := Int.sign_eq_zero_iff_zero.1 h
      rw [rowGcd, sgn_gcd h0, this]; rfl
    · rename_i h0; exact absurd h h0
set_option maxHeartbeats 2000000 in
theorem d_primS (r c i : Nat) (xs : List Int) (n ca cap : Nat) (hn : n = xs.length) (hx : xs.length = r * c) (hr : r ≤ 24) (hc24 : c ≤ 24) (hi : i < r) (hnum : xs.all numB = true) : Does Tryz.prog 146 [vM r c 1 n ca, vI i] [(1, .own 3 cap (.ints xs))] 2 (SetM 3 cap (primAt xs (i * c) c)) := by
 refine Does.intro TT Tryz.func146 rfl (by kernel_rfl) Zz Zz fun E hE => ?_
 (repeat' (first | refine stx ?_ | (refine stq ?_ ?_ <;> (intro hc; ((try simp at hc) <;> try contradiction))) | fail))
 refine w_G hE (fun k : Nat => k ≤ c) (fun k => c - k)
  (fun k => [(1, vI i), (2, .one (.ptr 2 3 0 0)), (4, vI (rowGcd xs (i * c) k)), (5, vI (sgnTo xs (i * c) k)), (6, vI k)]) (fun _ => [(1, .own 3 cap (.ints xs)), (2, .own 26 1 (.lit [.int r, .int c, .sl 1 1 0 n ca]))]) 3 [] 0 (Nat.zero_le _) ⟨w_1, w_2, rfl⟩ ?_
 intro k hk
 have hg := rowGcd_bd (off := i * c) hnum k
 have hg1 := rowGcd_bd (off := i * c) hnum (k + 1)
 have hsg := sgn_cases (xs := xs) (off := i * c) k
 by_cases hkc : k < c
 ·have hb := cell_facts hi hkc hr hc24
  have eo : 0 + ((i : Int) * c + k).toNat = i * c + k := by
   have e : ((i : Int) * c + k) = ((i * c + k : Nat) : Int) := by simp
   rw [e]; omega
  have hv := num_getD hnum (0 + ((i : Int) * c + k).toNat)
  have hgs : rowGcd xs (i * c) (k + 1) = gcdOf (rowGcd xs (i * c) k) (xs.getD (0 + ((i : Int) * c + k).toNat) 0) := by
   rw [eo] at hv ⊢
   rw [gcdOf_eq (numB_true.2 (by omega)) (numB_true.2 hv)]; rfl
  have hraw : xs[((i : Int) * c + k).toNat]?.getD 0 = xs.getD (0 + ((i : Int) * c + k).toNat) 0 := by rw [Nat.zero_add, List.getD_eq_getElem?_getD]
  have hq := tdiv_bd (xs.getD (0 + ((i : Int) * c + k).toNat) 0) ((xs.getD (0 + ((i : Int) * c + k).toNat) 0).natAbs : Int)
  have hs1 : sgnTo xs (i * c) (k + 1) = if sgnTo xs (i * c) k = 0 then (xs.getD (0 + ((i : Int) * c + k).toNat) 0).sign else sgnTo xs (i * c) k := by rw [eo]; rfl
  ((repeat' (first | refine stx ?_ | (first | refine w_z (d_l1Abs _ (by omega) (by omega)) Zz Zz Zz Zz Zz Zz Zz Zz ft Zz Zz ?_ | refine w_A (d_l1Abs _ (by omega) (by omega)) Zz Zz Zz Zz Zz Zz Zz Zz ft Zz Zz ?_) | (first | refine w_z (d_gcdOf _ _) Zz Zz Zz Zz Zz Zz Zz Zz ft Zz Zz ?_ | refine w_A (d_gcdOf _ _) Zz Zz Zz Zz Zz Zz Zz Zz ft Zz Zz ?_) | (refine stq ?_ ?_ <;> (intro hc; ((try simp at hc) <;> try contradiction))) | fail)) <;> try (exfalso; omega))
  ·refine ⟨[], k + 1, hkc, w_4, ⟨⟨rfl, rfl, congrArg some (congrArg vI hgs.symm), congrArg some (congrArg vI ?_), rfl, trivial⟩, ⟨rfl, rfl, trivial⟩, rfl⟩⟩
   rw [hs1, if_pos (by assumption), tdiv_abs (by omega)]
  ·refine ⟨[], k + 1, hkc, w_4, ⟨⟨rfl, rfl, congrArg some (congrArg vI hgs.symm), congrArg some (congrArg vI ?_), rfl, trivial⟩, ⟨rfl, rfl, trivial⟩, rfl⟩⟩
   rw [hs1, if_pos (by assumption), ← hraw, hc]
   simpa using (show sgnTo xs (i * c) k = 0 by assumption)
  ·refine ⟨[], k + 1, hkc, w_4, ⟨⟨rfl, rfl, congrArg some (congrArg vI hgs.symm), congrArg some (congrArg vI ?_), rfl, trivial⟩, ⟨rfl, rfl, trivial⟩, rfl⟩⟩
   rw [hs1, if_neg hc]
 ·obtain rfl : k = c := by omega
  ((repeat' (first | refine stx ?_ | (refine stq ?_ ?_ <;> (intro hc; ((try simp at hc) <;> try contradiction))) | fail)) <;> try (exfalso; omega))
  have hend : ∀ m, m ≤ k → (rowGcd xs (i * k) k = 0 → m = 0) → (m < k → rowGcd xs (i * k) k ≤ 0) → updTo xs (i * k) (fun _ v => v.tdiv (sgnTo xs (i * k) k * rowGcd xs (i * k) k)) m = primAt xs (i * k) k := fun m h1 h2 h3 => by
   rw [primAt]
   split
   ·rename_i h0
    rw [h2 h0]; rfl
   ·rename_i h0
    obtain rfl : m = k := by
     rcases Nat.lt_or_ge m k with c1 | c1
     ·have := h3 c1; omega
     ·omega
    rfl
  refine w_G hE (fun m : Nat => m ≤ k ∧ (rowGcd xs (i * k) k = 0 → m = 0)) (fun m => k - m)
   (fun m => [(1, vI i), (2, .one (.ptr 2 3 0 0)), (4, vI (rowGcd xs (i * k) k)), (5, vI (sgnTo xs (i * k) k)), (8, vI m)]) (fun m => [(1, .own 3 cap (.ints (updTo xs (i * k) (fun _ v => v.tdiv (sgnTo xs (i * k) k * rowGcd xs (i * k) k)) m))), (2, .own 26 1 (.lit [.int r, .int k, .sl 1 1 0 n ca]))]) 3 [] 0 ⟨Nat.zero_le _, fun _ => rfl⟩ ⟨w_1, w_2, rfl⟩ ?_
  rintro m ⟨hm, hm0⟩
  have hlen : (updTo xs (i * k) (fun _ v => v.tdiv (sgnTo xs (i * k) k * rowGcd xs (i * k) k)) m).length = xs.length := updTo_len
  by_cases hmk : m < k
  ·have hb := cell_facts hi hmk hr hc24
   have eo : 0 + ((i : Int) * k + m).toNat = i * k + m := by
    have e : ((i : Int) * k + m) = ((i * k + m : Nat) : Int) := by simp
    rw [e]; omega
   have hat := updTo_at (xs := xs) (off := i * k) (f := fun _ v => v.tdiv (sgnTo xs (i * k) k * rowGcd xs (i * k) k)) (p := i * k + m) (k := m) (by omega)
   have hv := num_getD hnum (i * k + m)
   rw [← hat, ← eo] at hv
   have hmul := sgn_mul (s := sgnTo xs (i * k) k) hsg hv
   have hd := tdiv_bd (sgnTo xs (i * k) k * (updTo xs (i * k) (fun _ v => v.tdiv (sgnTo xs (i * k) k * rowGcd xs (i * k) k)) m).getD (0 + ((i : Int) * k + m).toNat) 0) (rowGcd xs (i * k) k)
   ((repeat' (first | refine stp ?_ | (refine stq ?_ ?_ <;> (intro hc; ((try simp at hc) <;> try contradiction))) | fail)) <;> try (exfalso; omega))
   ·refine awp_held TM [(2, _)] sb rfl (fun ρs => ?_)
    refine zt0 ?_
    refine zt1 ?_
    refine zt2 ?_
    refine zt3 ?_
    refine zt4 ?_
    refine zt5 ?_
    refine zt6 ?_
    refine zt7 ?_
    refine zt8 ?_
    refine zt9 ?_
    refine zt10 ?_
    refine zt11 ?_
    refine zt12 ?_
    refine zt13 ?_
    refine zt14 ?_
    refine zt15 ?_
    refine zt16 ?_
    refine zt17 ?_
    refine zt20 ?_
    refine w_u [18] kr rfl ⟨?_, trivial⟩
    first | (refine zho ?_)
    refine zt19 ?_
    refine zt21 ?_
    refine zt22 ?_
    refine w_u [23] kr rfl ⟨?_, trivial⟩
    first | (refine zho ?_)
    refine w_v kr ?_
    rotate_left
    all_goals ((repeat' (first | refine stx ?_ | (refine stq ?_ ?_ <;> (intro hc; ((try simp at hc) <;> try contradiction))) | fail)) <;> try (exfalso; omega))
    all_goals
     refine ⟨[], m + 1, ⟨by omega, fun h => by omega⟩, w_4, ⟨w_1, ⟨own_ints ?_, rfl, trivial⟩, rfl⟩⟩
     have hs : sgnTo xs (i * k) k = 1 ∨ sgnTo xs (i * k) k = -1 := by
      rcases hsg with h | h
      ·have := sgn_gcd h; omega
      ·exact h
     rw [eo, hat, tdiv_sgn hs]; rfl
   ·exact fin_n rfl w_3 [] (.tup []) [(1, .own 3 cap (.ints (primAt xs (i * k) k)))] 2 ⟨rfl, rfl, rfl⟩ rfl ⟨trivial, ⟨own_ints (hend m hm hm0 fun _ => hc), trivial⟩, rfl⟩ rfl
  ·obtain rfl : m = k := by omega
   ((repeat' (first | refine stx ?_ | (refine stq ?_ ?_ <;> (intro hc; ((try simp at hc) <;> try contradiction))) | fail)) <;> try (exfalso; omega))
   exact fin_n rfl w_3 [] (.tup []) [(1, .own 3 cap (.ints (primAt xs (i * m) m)))] 2 ⟨rfl, rfl, rfl⟩ rfl ⟨trivial, ⟨own_ints (hend m hm hm0 fun h => absurd h (by omega)), trivial⟩, rfl⟩ rfl
end Go.Proofs.YtfkbjkmlpinoeaaGreat
