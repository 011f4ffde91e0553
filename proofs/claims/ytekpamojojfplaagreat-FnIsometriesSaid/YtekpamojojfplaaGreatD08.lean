/-
  TEXTS OF THE PROOF, put together: bSlice, bMat, pEch, bPrim.
-/
import Derived.Test.YtekpamojojfplaaGreatD07
set_option linter.unusedVariables false
set_option linter.unusedSimpArgs false
namespace Go.Proofs.YtekpamojojfplaaGreat
open Go.RowKit
def vS (k sz off len cap : Nat) : AV := .one (.sl k sz off len cap)
theorem getD_at {xs : List Int} {j : Nat} (h : j < xs.length) : xs.getD (0 + (j : Int).toNat) 0 = xs[j] := by simp [h]
theorem gD {xs : List Int} {j : Nat} (h : j < xs.length) : xs[j]?.getD 0 = xs[j] := by simp [h]
theorem own_ints {t : TypeId} {c : Nat} {l l' : List Int} {m : Nat → Nat} (h : l = l') : some (Blk.own t c (.ints l)) = some ((Blk.own t c (.ints l')).ren m) := by subst h; rfl
theorem all_take {f : Int → Bool} {xs : List Int} {j : Nat} (h : j < xs.length) (ha : (xs.take j).all f = true) (hj : f xs[j] = true) : (xs.take (j + 1)).all f = true := by
  rw [List.take_succ_eq_append_getElem h, List.all_append, ha]; simp [hj]
theorem all_bad {f : Int → Bool} {xs : List Int} {j : Nat} (h : j < xs.length) (hj : f xs[j] = false) : xs.all f = false := by
  rw [List.all_eq_false]; exact ⟨xs[j], List.getElem_mem h, by simp [hj]⟩
theorem d_areNumbers (xs : List Int) (c : Nat) (hl : xs.length ≤ 1099511627776) : Does Tryz.prog 68 [vS 1 1 0 xs.length c] [(1, .ro (.ints xs))] 2 (Ret (vB (xs.all numB)) 2) := by
 refine Does.intro TT Tryz.func68 rfl (by kernel_rfl) Zz Zz fun E hE => ?_
 (repeat' (first | refine stx ?_ | (refine stq ?_ ?_ <;> (intro hc; ((try simp at hc) <;> try contradiction))) | fail))
 refine w_G hE (fun k : Nat => k ≤ xs.length ∧ (xs.take k).all numB = true) (fun k => xs.length - k)
  (fun k => [(0, vS 1 1 0 xs.length c), (5, vS 1 1 0 xs.length c), (6, vI xs.length), (7, vI k)]) (fun _ => [(1, .ro (.ints xs))]) 2 [] 0 ⟨Nat.zero_le _, rfl⟩ ⟨w_1, w_2, rfl⟩ ?_
 rintro k ⟨h1, h2⟩
 (repeat' (first | refine stx ?_ | refine zqc (d_numI _) ?_ | (refine stq ?_ ?_ <;> (intro hc; ((try simp at hc) <;> try contradiction))) | fail))
 ·refine fin_ret rfl w_3 (congrArg vB ?_) rfl
  rw [gD (by assumption)] at hc
  exact (all_bad _ hc).symm
 ·refine ⟨[], k + 1, ⟨by omega, ?_⟩, w_4, ⟨w_1, w_2, rfl⟩⟩
  rw [gD (by assumption)] at hc
  exact all_take _ h2 hc
 ·refine fin_ret rfl w_3 (congrArg vB ?_) rfl
  rw [List.take_of_length_le (by omega)] at h2
  exact h2.symm
def MadeI (xs : List Int) (k : Nat) (v : AV) (Hout : List (Nat × Blk)) (n : Nat) : Prop := ∃ c, xs.length ≤ c ∧ v = vS k 1 0 xs.length c ∧ Hout = [(k, .own 3 c (.ints xs))] ∧ n = k + 1
theorem MadeI.out {xs : List Int} {k : Nat} : ∀ v Hout n1, MadeI xs k v Hout n1 → ∃ b, Hout = [(k, b)] ∧ n1 = k + 1 ∧ b.keys = [] := fun _ _ _ ⟨c, _, _, h2, h3⟩ => ⟨_, h2, h3, by simp [Blk.keys, Elts.keys, Elts.all, ints_keys]⟩
theorem d_toIntS (xs : List Int) (c : Nat) (hl : xs.length ≤ 1099511627776) : Does Tryz.prog 22 [vS 1 1 0 xs.length c] [(1, .ro (.ints xs))] 2 (MadeI xs 2) := by
 refine Does.intro TT Tryz.func22 rfl (by kernel_rfl) Zz Zz fun E hE => ?_
 (repeat' (first | refine stx ?_ | (refine stq ?_ ?_ <;> (intro hc; ((try simp at hc) <;> try contradiction))) | fail))
 refine w_G hE (fun k : Nat => k ≤ xs.length) (fun k => xs.length - k)
  (fun k => [(0, vS 1 1 0 xs.length c), (3, vS 2 1 0 xs.length xs.length), (4, vI k)]) (fun k => [(1, .ro (.ints xs)), (2, .own 3 xs.length (.ints (xs.take k ++ List.replicate (xs.length - k) 0)))]) 3 [] 0 (Nat.zero_le _) ⟨w_1, w_2, rfl⟩ ?_
 intro k h1
 (repeat' (first | refine stx ?_ | (refine stq ?_ ?_ <;> (intro hc; ((try simp at hc) <;> try contradiction))) | fail))
 ·refine ⟨[], k + 1, hc, w_4, ⟨w_1, ⟨rfl, own_ints ?_, trivial⟩, rfl⟩⟩
  rw [getD_at hc]
  simpa using set_take_rep hc
 ·have : k = xs.length := by omega
  subst this
  exact fin rfl trivial [] (vS 2 1 0 xs.length xs.length) [(2, .own 3 xs.length (.ints xs))] 3 ⟨_, Nat.le_refl _, rfl, rfl, rfl⟩ rfl ⟨trivial, ⟨own_ints (by simp), trivial⟩, rfl⟩ rfl
theorem d_eqIntS (xs ys : List Int) (c d : Nat) (hl : xs.length ≤ 1099511627776) (hl' : ys.length ≤ 1099511627776) : Does Tryz.prog 25 [vS 1 1 0 xs.length c, vS 2 1 0 ys.length d] [(1, .ro (.ints xs)), (2, .ro (.ints ys))] 3 (Ret (vB (decide (xs = ys))) 3) := by
 refine Does.intro TT Tryz.func25 rfl (by kernel_rfl) Zz Zz fun E hE => ?_
 (repeat' (first | refine stx ?_ | (refine stq ?_ ?_ <;> (intro hc; ((try simp at hc) <;> try contradiction))) | fail))
 ·refine fin_ret rfl w_3 (congrArg vB ?_) rfl
  symm; apply decide_eq_false; intro e; subst e; exact hc rfl
 ·refine w_G hE (fun k : Nat => k ≤ xs.length ∧ xs.take k = ys.take k) (fun k => xs.length - k)
   (fun k => [(0, vS 1 1 0 xs.length c), (1, vS 2 1 0 ys.length d), (5, vI k)]) (fun _ => [(1, .ro (.ints xs)), (2, .ro (.ints ys))]) 3 [] 0 ⟨Nat.zero_le _, rfl⟩ ⟨w_1, w_2, rfl⟩ ?_
  rintro k ⟨h1, h2⟩
  (repeat' (first | refine stx ?_ | (refine stq ?_ ?_ <;> (intro hc; ((try simp at hc) <;> try contradiction))) | fail))
  ·refine fin_ret rfl w_3 (congrArg vB ?_) rfl
   symm; apply decide_eq_false; intro e; subst e; exact hc rfl
  ·have hk : k < ys.length := by omega
   refine ⟨[], k + 1, ⟨by omega, ?_⟩, w_4, ⟨w_1, w_2, rfl⟩⟩
   rw [gD (by assumption), gD hk] at hc
   rw [List.take_succ_eq_append_getElem (by assumption), List.take_succ_eq_append_getElem hk, h2, hc]
  ·refine fin_ret rfl w_3 (congrArg vB ?_) rfl
   rw [List.take_of_length_le (by omega), List.take_of_length_le (by omega)] at h2
   simp [h2]
attribute [simp] marks_len
theorem marks_at {k : Int} {n j : Nat} (h : j < n) : (marks k n)[j]?.getD 0 = k + (j : Int) := by simp [marks, h]
def Marks (k : Int) (t : TypeId) (c n : Nat) (v : AV) (Hout : List (Nat × Blk)) (n1 : Nat) : Prop := v = vI (k + n) ∧ Hout = [(1, .own t c (.ints (marks k n)))] ∧ n1 = 2
theorem d_markIntS (xs : List Int) (c cap : Nat) (k : Int) (hl : xs.length ≤ 1099511627776) (hk : 0 ≤ k) (hk' : k ≤ 4611686018427387904) : Does Tryz.prog 26 [vS 1 1 0 xs.length c, vI k] [(1, .own 3 cap (.ints xs))] 2 (Marks k 3 cap xs.length) := by
 refine Does.intro TT Tryz.func26 rfl (by kernel_rfl) Zz Zz fun E hE => ?_
 (repeat' (first | refine stx ?_ | (refine stq ?_ ?_ <;> (intro hc; ((try simp at hc) <;> try contradiction))) | fail))
 refine w_G hE (fun i : Nat => i ≤ xs.length) (fun i => xs.length - i)
  (fun i => [(0, vS 1 1 0 xs.length c), (1, vI (k + i)), (5, vI i)]) (fun i => [(1, .own 3 cap (.ints (marks k i ++ xs.drop i)))]) 2 [] 0 (Nat.zero_le _) ⟨w_1, w_2, rfl⟩ ?_
 intro i h1
 (repeat' (first | refine stx ?_ | (refine stq ?_ ?_ <;> (intro hc; ((try simp at hc) <;> try contradiction))) | fail))
 ·refine ⟨[], i + 1, hc, w_4, ⟨⟨rfl, congrArg some (congrArg vI (show k + (i : Int) + 1 = k + ((i + 1 : Nat) : Int) by omega)), rfl, trivial⟩, ⟨own_ints ?_, trivial⟩, rfl⟩⟩
  rw [← marks_step hc]; simp
 ·have : i = xs.length := by omega
  subst this
  exact fin rfl trivial [] (vI (k + xs.length)) [(1, .own 3 cap (.ints (marks k xs.length)))] 2 ⟨rfl, rfl, rfl⟩ rfl ⟨trivial, ⟨own_ints (by simp), trivial⟩, rfl⟩ rfl
theorem d_heldIntS (n : Nat) (c : Nat) (k : Int) (hl : n ≤ 1099511627776) (hk : 0 ≤ k) (hk' : k ≤ 4611686018427387904) : Does Tryz.prog 40 [vS 1 1 0 n c, vI k] [(1, .ro (.ints (marks k n)))] 2 (Ret (vI (k + n)) 2) := by
 refine Does.intro TT Tryz.func40 rfl (by kernel_rfl) Zz Zz fun E hE => ?_
 (repeat' (first | refine stx ?_ | (refine stq ?_ ?_ <;> (intro hc; ((try simp at hc) <;> try contradiction))) | fail))
 refine w_G hE (fun i : Nat => i ≤ n) (fun i => n - i)
  (fun i => [(0, vS 1 1 0 n c), (1, vI (k + i)), (5, vI i)]) (fun i => [(1, .ro (.ints (marks k n)))]) 2 [] 0 (Nat.zero_le _) ⟨w_1, w_2, rfl⟩ ?_
 intro i h1
 (repeat' (first | refine stx ?_ | (refine stq ?_ ?_ <;> (intro hc; ((try simp at hc) <;> try contradiction))) | fail))
 ·exact absurd (marks_at (by assumption)) hc
 ·exact ⟨[], i + 1, by assumption, w_4, ⟨⟨rfl, congrArg some (congrArg vI (show k + (i : Int) + 1 = k + ((i + 1 : Nat) : Int) by omega)), rfl, trivial⟩, ⟨rfl, trivial⟩, rfl⟩⟩
 ·have : i = n := by omega
  subst this
  refine fin_ret rfl w_3 (rfl) rfl
end Go.Proofs.YtekpamojojfplaaGreat
namespace Go.Proofs.YtekpamojojfplaaGreat
open Go.RowKit
def vM (r c : Int) (k n cap : Nat) : AV := .agg [.int r, .int c, .sl k 1 0 n cap]
def isM (r c : Int) (xs : List Int) : Bool := decide (0 ≤ r ∧ r ≤ 24 ∧ 0 ≤ c ∧ c ≤ 24 ∧ (xs.length : Int) = r * c) && xs.all numB
theorem isM_true {r c : Int} {xs : List Int} (h : isM r c xs = true) : (0 ≤ r ∧ r ≤ 24 ∧ 0 ≤ c ∧ c ≤ 24 ∧ (xs.length : Int) = r * c) ∧ xs.all numB = true := by simpa [isM] using h
theorem side_bd {r c : Int} (h1 : 0 ≤ r) (h2 : r ≤ 24) (h3 : 0 ≤ c) (h4 : c ≤ 24) : 0 ≤ r * c ∧ r * c ≤ 576 := by
  refine ⟨Int.mul_nonneg h1 h3, ?_⟩
  have := Int.mul_le_mul h2 h4 h3 (by omega : (0 : Int) ≤ 24)
  omega
theorem isM_no {r c : Int} {xs : List Int} (h : ¬(0 ≤ r ∧ r ≤ 24 ∧ 0 ≤ c ∧ c ≤ 24 ∧ (xs.length : Int) = r * c)) : isM r c xs = false := by simp [isM, h]
set_option maxHeartbeats 1000000 in
theorem d_isMatI (r c : Int) (xs : List Int) (cap : Nat) (hl : xs.length ≤ 1099511627776) : Does Tryz.prog 53 [vM r c 1 xs.length cap] [(1, .ro (.ints xs))] 2 (Ret (vB (isM r c xs)) 2) := by
 have hs := @side_bd r c
 refine Does.intro TT Tryz.func53 rfl (by kernel_rfl) Zz Zz fun E hE => ?_
 by_cases h : 0 ≤ r ∧ r ≤ 24 ∧ 0 ≤ c ∧ c ≤ 24
 ·obtain ⟨h1, h2, h3, h4⟩ := h
  have hs := hs h1 h2 h3 h4
  (repeat' (first | refine stx ?_ | refine zqc (d_areNumbers _ _ hl) ?_ | (refine stq ?_ ?_ <;> (intro hc; ((try simp at hc) <;> try contradiction))) | fail))
  ·refine fin_ret rfl w_3 (congrArg vB ?_) rfl
   simp [isM, h1, h2, h3, h4, hc]
  all_goals refine fin_ret rfl w_3 (congrArg vB (isM_no (by omega)).symm) rfl
 ·clear hs
  (repeat' (first | refine stx ?_ | refine zqc (d_areNumbers _ _ hl) ?_ | (refine stq ?_ ?_ <;> (intro hc; ((try simp at hc) <;> try contradiction))) | fail))
  all_goals first
   | omega
   | refine fin_ret rfl w_3 (congrArg vB (isM_no (by omega)).symm) rfl
set_option maxHeartbeats 1000000 in
theorem d_isMatS (r c : Int) (xs : List Int) (cap : Nat) (hl : xs.length ≤ 1099511627776) : Does Tryz.prog 65 [vM r c 1 xs.length cap] [(1, .ro (.ints xs))] 2 (Ret (vB (isM r c xs)) 2) := by
 have hs := @side_bd r c
 refine Does.intro TT Tryz.func65 rfl (by kernel_rfl) Zz Zz fun E hE => ?_
 cases hr : inB r 0 24 <;> cases hc : inB c 0 24
 ·have h := inB_false.1 hr
  clear hs
  (repeat' (first | refine stx ?_ | (refine zqc (d_l1In _ _ _) ?_ <;> simp only [hr, hc]) | (refine stq ?_ ?_ <;> (intro hc; ((try simp at hc) <;> try contradiction))) | fail))
  refine fin_ret rfl w_3 (congrArg vB (isM_no (by omega)).symm) rfl
 ·have h := inB_false.1 hr
  clear hs
  (repeat' (first | refine stx ?_ | (refine zqc (d_l1In _ _ _) ?_ <;> simp only [hr, hc]) | (refine stq ?_ ?_ <;> (intro hc; ((try simp at hc) <;> try contradiction))) | fail))
  refine fin_ret rfl w_3 (congrArg vB (isM_no (by omega)).symm) rfl
 ·have h := inB_false.1 hc
  clear hs
  (repeat' (first | refine stx ?_ | (refine zqc (d_l1In _ _ _) ?_ <;> simp only [hr, hc]) | (refine stq ?_ ?_ <;> (intro hc; ((try simp at hc) <;> try contradiction))) | fail))
  refine fin_ret rfl w_3 (congrArg vB (isM_no (by omega)).symm) rfl
 ·have h1 := inB_true.1 hr
  have h3 := inB_true.1 hc
  have hs := hs h1.1 h1.2 h3.1 h3.2
  (repeat' (first | refine stx ?_ | (refine zqc (d_l1In _ _ _) ?_ <;> simp only [hr, hc]) | (refine stq ?_ ?_ <;> (intro hc; ((try simp at hc) <;> try contradiction))) | fail))
  ·refine fin_ret rfl w_3 (congrArg vB (isM_no (by omega)).symm) rfl
  ·have hlen : (xs.length : Int) = r * c := by assumption
   refine w_G hE (fun k : Nat => k ≤ xs.length ∧ (xs.take k).all numB = true) (fun k => xs.length - k)
    (fun k => [(1, .one (.ptr 2 3 0 0)), (3, vI k)]) (fun _ => [(1, .ro (.ints xs)), (2, .own 26 1 (.lit [.int r, .int c, .sl 1 1 0 xs.length cap]))]) 3 [] 0 ⟨Nat.zero_le _, rfl⟩ ⟨w_1, w_2, rfl⟩ ?_
   rintro k ⟨g1, g2⟩
   (repeat' (first | refine stx ?_ | refine zqc (d_numS _) ?_ | (refine stq ?_ ?_ <;> (intro hc; ((try simp at hc) <;> try contradiction))) | fail))
   ·refine fin_ret rfl w_3 (congrArg vB ?_) rfl
    rw [gD (by assumption)] at hc
    simp [isM, all_bad _ hc]
   ·refine ⟨[], k + 1, ⟨by omega, ?_⟩, w_4, ⟨w_1, w_2, rfl⟩⟩
    rw [gD (by assumption)] at hc
    exact all_take _ g2 hc
   ·refine fin_ret rfl w_3 (congrArg vB ?_) rfl
    rw [List.take_of_length_le (by omega)] at g2
    simp only [isM, g2, Bool.and_true]
    exact (decide_eq_true ⟨h1.1, h1.2, h3.1, h3.2, hlen⟩).symm
theorem own_rep {t : TypeId} {c : Nat} {e e' : Elts} {m : Nat → Nat} (h : e = e'.ren m) : some (Blk.own t c e) = some ((Blk.own t c e').ren m) := by subst h; rfl
theorem nat_side {r c : Nat} (h1 : r ≤ 24) (h2 : c ≤ 24) : 0 ≤ (r : Int) * (c : Int) ∧ (r : Int) * (c : Int) ≤ 576 := side_bd (by omega) (by omega) (by omega) (by omega)
def NewM (r c : Nat) (t : TypeId) (v : AV) (Hout : List (Nat × Blk)) (n : Nat) : Prop := v = .agg [.int r, .int c, .sl 1 1 0 (r * c) (r * c)] ∧ Hout = [(1, .own t (r * c) (.ints (List.replicate (r * c) 0)))] ∧ n = 2
theorem NewM.out {r c : Nat} {t : TypeId} : ∀ v Hout n1, NewM r c t v Hout n1 → ∃ b, Hout = [(1, b)] ∧ n1 = 1 + 1 ∧ b.keys = [] := fun _ _ _ ⟨_, h2, h3⟩ => ⟨_, h2, h3, by simp [Blk.keys, Elts.keys, Elts.all, keysOf, SV.keys]⟩
theorem d_newI (r c : Nat) (hr : r ≤ 24) (hc : c ≤ 24) : Does Tryz.prog 54 [vI r, vI c] [] 1 (NewM r c 3) := by
 have hs := nat_side hr hc
 refine Does.intro TT Tryz.func54 rfl (by kernel_rfl) Zz Zz fun E hE => ?_
 (repeat' (first | refine stx ?_ | (refine stq ?_ ?_ <;> (intro hc; ((try simp at hc) <;> try contradiction))) | fail))
 exact fin rfl Nat.zero_lt_one [(1, 2)] (.agg [.int r, .int c, .sl 1 1 0 (r * c) (r * c)]) [(1, .own 3 (r * c) (.ints (List.replicate (r * c) 0)))] 2 ⟨rfl, rfl, rfl⟩ rfl ⟨trivial, ⟨own_rep rfl, trivial⟩, rfl⟩ rfl
theorem d_newS (r c : Nat) (hr : r ≤ 24) (hc : c ≤ 24) : Does Tryz.prog 133 [vI r, vI c] [] 1 (NewM r c 3) := by
 have hs := nat_side hr hc
 refine Does.intro TT Tryz.func133 rfl (by kernel_rfl) Zz Zz fun E hE => ?_
 (repeat' (first | refine stx ?_ | (refine stq ?_ ?_ <;> (intro hc; ((try simp at hc) <;> try contradiction))) | fail))
 exact fin rfl Nat.zero_lt_one [(1, 2)] (.agg [.int r, .int c, .sl 1 1 0 (r * c) (r * c)]) [(1, .own 3 (r * c) (.ints (List.replicate (r * c) 0)))] 2 ⟨rfl, rfl, rfl⟩ rfl ⟨trivial, ⟨own_rep rfl, trivial⟩, rfl⟩ rfl
theorem d_at (r c i j : Int) (xs : List Int) (cap : Nat) (h1 : 0 ≤ i * c ∧ i * c ≤ 1000000) (h2 : 0 ≤ j) (h3 : i * c + j < xs.length) (hl : xs.length ≤ 1099511627776) : Does Tryz.prog 55 [vM r c 1 xs.length cap, vI i, vI j] [(1, .ro (.ints xs))] 2 (Ret (vI (xs.getD (0 + (i * c + j).toNat) 0)) 2) := by
 refine Does.intro TT Tryz.func55 rfl (by kernel_rfl) Zz Zz fun E hE => ?_
 (repeat' (first | refine stx ?_ | (refine stq ?_ ?_ <;> (intro hc; ((try simp at hc) <;> try contradiction))) | fail))
 refine fin_ret rfl w_3 (rfl) rfl
def SetM (t : TypeId) (cap : Nat) (xs : List Int) (v : AV) (Hout : List (Nat × Blk)) (n : Nat) : Prop := v = .tup [] ∧ Hout = [(1, .own t cap (.ints xs))] ∧ n = 2
theorem d_set (r c i j x : Int) (xs : List Int) (n cap cap' : Nat) (hn : n = xs.length) (h1 : 0 ≤ i * c ∧ i * c ≤ 1000000) (h2 : 0 ≤ j) (h3 : i * c + j < xs.length) (hl : xs.length ≤ 1099511627776) : Does Tryz.prog 56 [vM r c 1 n cap, vI i, vI j, vI x] [(1, .own 3 cap' (.ints xs))] 2 (SetM 3 cap' (xs.set (0 + (i * c + j).toNat) x)) := by
 subst hn
 refine Does.intro TT Tryz.func56 rfl (by kernel_rfl) Zz Zz fun E hE => ?_
 (repeat' (first | refine stx ?_ | (refine stq ?_ ?_ <;> (intro hc; ((try simp at hc) <;> try contradiction))) | fail))
 exact fin_n rfl trivial [] (.tup []) [(1, .own 3 cap' (.ints (xs.set (0 + (i * c + j).toNat) x)))] 2 ⟨rfl, rfl, rfl⟩ rfl ⟨trivial, ⟨own_rep rfl, trivial⟩, rfl⟩ rfl
def zeroM : List SV := [.int 0, .int 0, .sl 0 1 0 0 0]
def dotTo (xs ys : List Int) (n c i j : Nat) : Nat → Int
  | 0 => 0
  | k + 1 => dotTo xs ys n c i j k + xs.getD (i * n + k) 0 * ys.getD (k * c + j) 0
theorem dot_step (xs ys : List Int) (n c i j k : Nat) : dotTo xs ys n c i j k + xs.getD (0 + ((i : Int) * n + k).toNat) 0 * ys.getD (0 + ((k : Int) * c + j).toNat) 0 = dotTo xs ys n c i j (k + 1) := by
  rw [Nat.zero_add, Nat.zero_add]; rfl
def mulM (r n c : Nat) (xs ys : List Int) : List Int := (List.range (r * c)).map fun p => dotTo xs ys n c (p / c) (p % c) n
theorem mulM_len {r n c : Nat} {xs ys : List Int} : (mulM r n c xs ys).length = r * c := by simp [mulM]
theorem cell_lt {i j r c : Nat} (hi : i < r) (hj : j < c) : i * c + j < r * c := by
  have := Nat.mul_le_mul_right c (show i + 1 ≤ r by omega)
  rw [Nat.add_mul] at this
  omega
theorem mulM_at {r n c i j : Nat} {xs ys : List Int} (hi : i < r) (hj : j < c) : (mulM r n c xs ys)[i * c + j]'(by rw [mulM_len]; exact cell_lt hi hj) = dotTo xs ys n c i j n := by
  have h1 : (i * c + j) / c = i := by rw [Nat.mul_comm, Nat.mul_add_div (by omega), Nat.div_eq_of_lt hj]; rfl
  have h2 : (i * c + j) % c = j := by rw [Nat.mul_comm, Nat.mul_add_mod, Nat.mod_eq_of_lt hj]
  simp [mulM, h1, h2]
theorem num_getD {xs : List Int} (h : xs.all numB = true) (k : Nat) : -400000000 ≤ xs.getD k 0 ∧ xs.getD k 0 ≤ 400000000 := by
  by_cases hk : k < xs.length
  · simp only [List.getD_eq_getElem?_getD, List.getElem?_eq_getElem hk, Option.getD_some]
    exact numB_true.1 (List.all_eq_true.1 h _ (List.getElem_mem hk))
  · simp [List.getElem?_eq_none (by omega : xs.length ≤ k)]
theorem prod_num {a b : Int} (h1 : -400000000 ≤ a ∧ a ≤ 400000000) (h2 : -400000000 ≤ b ∧ b ≤ 400000000) : -160000000000000000 ≤ a * b ∧ a * b ≤ 160000000000000000 := by
  have h := Nat.mul_le_mul (show a.natAbs ≤ 400000000 by omega) (show b.natAbs ≤ 400000000 by omega)
  rw [← Int.natAbs_mul] at h
  omega
theorem prod_getD {xs ys : List Int} (hx : xs.all numB = true) (hy : ys.all numB = true) (k l : Nat) : -160000000000000000 ≤ xs.getD k 0 * ys.getD l 0 ∧ xs.getD k 0 * ys.getD l 0 ≤ 160000000000000000 :=
  prod_num (num_getD hx k) (num_getD hy l)
theorem dotTo_bd {xs ys : List Int} {n c i j : Nat} (hx : xs.all numB = true) (hy : ys.all numB = true) : ∀ k : Nat, -(160000000000000000 * (k : Int)) ≤ dotTo xs ys n c i j k ∧ dotTo xs ys n c i j k ≤ 160000000000000000 * (k : Int)
  | 0 => by simp [dotTo]
  | k + 1 => by
    have h1 := dotTo_bd (n := n) (c := c) (i := i) (j := j) hx hy k
    have h2 := prod_getD hx hy (i * n + k) (k * c + j)
    rw [dotTo]
    omega
def partM (r n c : Nat) (xs ys : List Int) (p : Nat) : List Int := (mulM r n c xs ys).take p ++ List.replicate (r * c - p) 0
theorem partM_len {r n c p : Nat} {xs ys : List Int} (h : p ≤ r * c) : (partM r n c xs ys p).length = r * c := by
  simp [partM, mulM_len]; omega
theorem partM_zero {r n c : Nat} {xs ys : List Int} : List.replicate (r * c) 0 = partM r n c xs ys 0 := by simp [partM]
theorem partM_full {r n c : Nat} {xs ys : List Int} : partM r n c xs ys (r * c) = mulM r n c xs ys := by
  rw [partM, List.take_of_length_le (by rw [mulM_len]; omega)]; simp
theorem partM_set {r n c i j : Nat} {xs ys : List Int} (hi : i < r) (hj : j < c) : (partM r n c xs ys (i * c + j)).set (0 + ((i : Int) * c + j).toNat) (dotTo xs ys n c i j n) = partM r n c xs ys (i * c + j + 1) := by
  have h := cell_lt hi hj
  have := set_take_rep (xs := mulM r n c xs ys) (k := i * c + j) (by rw [mulM_len]; exact h)
  rw [mulM_at hi hj, mulM_len] at this
  rw [Nat.zero_add]
  exact this
theorem cell_facts {r c i j : Nat} (hi : i < r) (hj : j < c) (hr : r ≤ 24) (hc : c ≤ 24) : (0 ≤ (i : Int) * c ∧ (i : Int) * c ≤ 576) ∧ (i : Int) * c + j < ((r * c : Nat) : Int) := by
  have h := cell_lt hi hj
  exact ⟨nat_side (by omega) hc, by exact_mod_cast h⟩
def MulOut (r n c : Nat) (xs ys : List Int) (t : TypeId) (v : AV) (Hout : List (Nat × Blk)) (n1 : Nat) : Prop := v = .agg [.int r, .int c, .sl 3 1 0 (r * c) (r * c)] ∧ Hout = [(3, .own t (r * c) (.ints (mulM r n c xs ys)))] ∧ n1 = 4
theorem MulOut.out {r n c : Nat} {xs ys : List Int} {t : TypeId} : ∀ v Hout n1, MulOut r n c xs ys t v Hout n1 → ∃ b, Hout = [(3, b)] ∧ n1 = 3 + 1 ∧ b.keys = [] := fun _ _ _ ⟨_, h2, h3⟩ => ⟨_, h2, h3, by simp [Blk.keys, Elts.keys, Elts.all, ints_keys]⟩
set_option maxHeartbeats 4000000 in
theorem d_l3Mul (r n c : Nat) (xs ys : List Int) (ca cb : Nat) (hr : r ≤ 24) (hn : n ≤ 24) (hcc : c ≤ 24) (hx : xs.length = r * n) (hy : ys.length = n * c) (hxn : xs.all numB = true) (hyn : ys.all numB = true) :
    Does Tryz.prog 86 [vM r n 1 xs.length ca, vM n c 2 ys.length cb] [(1, .ro (.ints xs)), (2, .ro (.ints ys))] 3 (MulOut r n c xs ys 3) := by
  refine Does.intro TT Tryz.func86 rfl (by kernel_rfl) Zz Zz fun E hE => ?_
  (repeat' (first | refine stx ?_ | (refine w_C (d_newS _ _ hr hcc) Zz Zz Zz Zz Zz Zz Zz ft Zz Zz (NewM.out) ?_; rintro v b ⟨rfl, he, -⟩; cases he) | (refine stq ?_ ?_ <;> (intro hc; ((try simp at hc) <;> try contradiction))) | fail))
  refine w_G hE (fun i : Nat => i ≤ r) (fun i => r - i)
    (fun i => [(2, .one (.ptr 3 3 0 0)), (3, .one (.ptr 4 3 0 0)), (4, .one (.ptr 5 3 0 0)), (5, .one (.ptr 7 3 0 0)), (6, vI i)])
    (fun i => [(1, .ro (.ints xs)), (2, .ro (.ints ys)), (3, .own 26 1 (.lit [.int r, .int n, .sl 1 1 0 xs.length ca])), (4, .own 26 1 (.lit [.int n, .int c, .sl 2 1 0 ys.length cb])), (5, .own 26 1 (.lit zeroM)), (6, .own 3 (r * c) (.ints (partM r n c xs ys (i * c)))), (7, .own 26 1 (.lit [.int r, .int c, .sl 6 1 0 (r * c) (r * c)]))]) 8 [] 0 (Nat.zero_le _) ⟨w_1, ⟨rfl, rfl, rfl, rfl, rfl, own_ints (by rw [Nat.zero_mul, partM_zero]), rfl, trivial⟩, rfl⟩ ?_
  intro i h1
  (repeat' (first | refine stx ?_ | (refine stq ?_ ?_ <;> (intro hc; ((try simp at hc) <;> try contradiction))) | fail))
  · refine w_G hE (fun j : Nat => j ≤ c) (fun j => c - j)
      (fun j => [(2, .one (.ptr 3 3 0 0)), (3, .one (.ptr 4 3 0 0)), (4, .one (.ptr 5 3 0 0)), (5, .one (.ptr 7 3 0 0)), (6, vI i), (7, vI j)])
      (fun j => [(1, .ro (.ints xs)), (2, .ro (.ints ys)), (3, .own 26 1 (.lit [.int r, .int n, .sl 1 1 0 xs.length ca])), (4, .own 26 1 (.lit [.int n, .int c, .sl 2 1 0 ys.length cb])), (5, .own 26 1 (.lit zeroM)), (6, .own 3 (r * c) (.ints (partM r n c xs ys (i * c + j)))), (7, .own 26 1 (.lit [.int r, .int c, .sl 6 1 0 (r * c) (r * c)]))]) 8 [] 0 (Nat.zero_le _) ⟨w_1, w_2, rfl⟩ ?_
    intro j h2
    (repeat' (first | refine stx ?_ | (refine stq ?_ ?_ <;> (intro hc; ((try simp at hc) <;> try contradiction))) | fail))
    · refine w_G hE (fun k : Nat => k ≤ n) (fun k => n - k)
        (fun k => [(2, .one (.ptr 3 3 0 0)), (3, .one (.ptr 4 3 0 0)), (4, .one (.ptr 5 3 0 0)), (5, .one (.ptr 7 3 0 0)), (6, vI i), (7, vI j), (8, vI (dotTo xs ys n c i j k)), (9, vI k)])
        (fun _ => [(1, .ro (.ints xs)), (2, .ro (.ints ys)), (3, .own 26 1 (.lit [.int r, .int n, .sl 1 1 0 xs.length ca])), (4, .own 26 1 (.lit [.int n, .int c, .sl 2 1 0 ys.length cb])), (5, .own 26 1 (.lit zeroM)), (6, .own 3 (r * c) (.ints (partM r n c xs ys (i * c + j)))), (7, .own 26 1 (.lit [.int r, .int c, .sl 6 1 0 (r * c) (r * c)]))]) 8 [] 0 (Nat.zero_le _) ⟨w_1, w_2, rfl⟩ ?_
      intro k h3
      have hi : i < r := by omega
      have hj : j < c := by omega
      by_cases hk : k < n
      · have f1 := cell_facts hi hk hr hn
        have f2 := cell_facts hk hj hn hcc
        rw [← hx] at f1
        rw [← hy] at f2
        have f3 := prod_getD hxn hyn (0 + ((i : Int) * n + k).toNat) (0 + ((k : Int) * c + j).toNat)
        have f4 := dotTo_bd (n := n) (c := c) (i := i) (j := j) hxn hyn k
        (repeat' (first | refine stx ?_ | (refine stq ?_ ?_ <;> (intro hc; ((try simp at hc) <;> try contradiction))) | fail))
        · exact ⟨[], k + 1, hk, w_4, ⟨⟨rfl, rfl, rfl, rfl, rfl, rfl, congrArg some (congrArg vI (dot_step xs ys n c i j k)), rfl, trivial⟩, ⟨rfl, rfl, rfl, rfl, rfl, rfl, rfl, trivial⟩, rfl⟩⟩
        · omega
      · have hp := partM_len (xs := xs) (ys := ys) (n := n) (Nat.le_of_lt (cell_lt hi hj))
        have f1 := cell_facts hi hj hr hcc
        obtain rfl : k = n := by omega
        (repeat' (first | refine stx ?_ | (refine stq ?_ ?_ <;> (intro hc; ((try simp at hc) <;> try contradiction))) | fail))
        · exact ⟨[], j + 1, hj, w_4, ⟨w_1, ⟨rfl, rfl, rfl, rfl, rfl, own_ints (partM_set hi hj), rfl, trivial⟩, rfl⟩⟩
    · obtain rfl : j = c := by omega
      exact ⟨[], i + 1, by omega, w_4, ⟨w_1, ⟨rfl, rfl, rfl, rfl, rfl, own_ints (by rw [Nat.add_mul, Nat.one_mul]), rfl, trivial⟩, rfl⟩⟩
  · obtain rfl : i = r := by omega
    exact fin rfl Nat.zero_lt_one [(3, 6)] (.agg [.int i, .int c, .sl 3 1 0 (i * c) (i * c)]) [(3, .own 3 (i * c) (.ints (mulM i n c xs ys)))] 4 ⟨rfl, rfl, rfl⟩ rfl ⟨trivial, ⟨own_ints partM_full, trivial⟩, rfl⟩ rfl
def doneV (r c : Int) (k n cap : Nat) : Bool → AV
  | true => .tup [.agg [.int r, .int c, .sl k 1 0 n cap], .one (.bool true)]
  | false => .tup [.agg zeroM, .one (.bool false)]
theorem d_doneS (r c : Int) (xs : List Int) (n cap : Nat) (hn : n = xs.length) (b : Bool) (hb : isM r c xs = b) (hl : xs.length ≤ 1099511627776) : Does Tryz.prog 110 [vM r c 1 n cap] [(1, .ro (.ints xs))] 2 (Ret (doneV r c 1 n cap b) 2) := by
 subst hn
 refine Does.intro TT Tryz.func110 rfl (by kernel_rfl) Zz Zz fun E hE => ?_
 cases b
 all_goals (repeat' (first | refine stx ?_ | (refine zqc (d_isMatS _ _ _ _ hl) ?_ <;> simp only [hb]) | (refine stq ?_ ?_ <;> (intro hc; ((try simp at hc) <;> try contradiction))) | fail))
 all_goals refine fin_ret rfl w_3 (rfl) rfl
theorem d_checked (r c : Int) (xs : List Int) (n cap : Nat) (hn : n = xs.length) (b : Bool) (hb : isM r c xs = b) (hl : xs.length ≤ 1099511627776) : Does Tryz.prog 57 [vM r c 1 n cap] [(1, .ro (.ints xs))] 2 (Ret (doneV r c 1 n cap b) 2) := by
 subst hn
 refine Does.intro TT Tryz.func57 rfl (by kernel_rfl) Zz Zz fun E hE => ?_
 cases b
 all_goals (repeat' (first | refine stx ?_ | (refine zqc (d_isMatI _ _ _ _ hl) ?_ <;> simp only [hb]) | (refine stq ?_ ?_ <;> (intro hc; ((try simp at hc) <;> try contradiction))) | fail))
 all_goals refine fin_ret rfl w_3 (rfl) rfl
def mulZ (r n n' c : Int) (xs ys : List Int) : Option (List Int) :=
  if isM r n xs && isM n' c ys && (n == n') && (mulM r.toNat n.toNat c.toNat xs ys).all numB then some (mulM r.toNat n.toNat c.toNat xs ys) else none
def GotZ (r c : Int) (t : TypeId) (o : Option (List Int)) (k : Nat) (v : AV) (Hout : List (Nat × Blk)) (n1 : Nat) : Prop := match o with
  | some zs => ∃ cap, zs.length ≤ cap ∧ v = doneV r c k zs.length cap true ∧ Hout = [(k, .own t cap (.ints zs))] ∧ n1 = k + 1
  | none => v = .tup [.agg zeroM, .one (.bool false)] ∧ Hout = [] ∧ n1 = k
theorem GotZ.no {r c : Int} {t : TypeId} {o : Option (List Int)} {k : Nat} (h : o = none) : GotZ r c t o k (.tup [.agg zeroM, .one (.bool false)]) [] k := by subst h; exact ⟨rfl, rfl, rfl⟩
theorem mulZ_no {r n n' c : Int} {xs ys : List Int} (h : (isM r n xs && isM n' c ys && (n == n')) = false) : mulZ r n n' c xs ys = none := by simp only [mulZ, h, Bool.false_and]; rfl
theorem mulZ_bad {r n c : Nat} {xs ys : List Int} (h : (mulM r n c xs ys).all numB = false) : mulZ r n n c xs ys = none := by simp only [mulZ, Int.toNat_natCast, h, Bool.and_false]; rfl
theorem mulZ_yes {r n c : Nat} {xs ys : List Int} (h1 : isM r n xs = true) (h2 : isM n c ys = true) (h : (mulM r n c xs ys).all numB = true) : mulZ r n n c xs ys = some (mulM r n c xs ys) := by
  simp [mulZ, h1, h2, h]
theorem GotZ.yes {r c : Int} {t : TypeId} {o : Option (List Int)} {zs : List Int} {k m cap : Nat} (h : o = some zs) (hm : m = zs.length) (hc : m ≤ cap) : GotZ r c t o k (doneV r c k m cap true) [(k, .own t cap (.ints zs))] (k + 1) := by subst h hm; exact ⟨cap, hc, rfl, rfl, rfl⟩
theorem isM_nat {r c : Nat} {xs : List Int} (h : isM r c xs = true) : r ≤ 24 ∧ c ≤ 24 ∧ xs.length = r * c ∧ xs.all numB = true := by
  obtain ⟨⟨h1, h2, h3, h4, h5⟩, h6⟩ := isM_true h
  exact ⟨by omega, by omega, by exact_mod_cast h5, h6⟩
theorem isM_mul {r n c : Nat} {xs ys : List Int} (hr : r ≤ 24) (hc : c ≤ 24) : isM r c (mulM r n c xs ys) = (mulM r n c xs ys).all numB := by
  have : (0 : Int) ≤ r ∧ (r : Int) ≤ 24 ∧ (0 : Int) ≤ c ∧ (c : Int) ≤ 24 ∧ ((mulM r n c xs ys).length : Int) = r * c := ⟨by omega, by omega, by omega, by omega, by rw [mulM_len]; simp⟩
  simp only [isM, decide_eq_true this, Bool.true_and]
theorem isM_pos {r c : Int} {xs : List Int} (h : isM r c xs = true) : ∃ r' c' : Nat, r = r' ∧ c = c' := by
  obtain ⟨⟨h1, h2, h3, h4, h5⟩, h6⟩ := isM_true h
  exact ⟨r.toNat, c.toNat, by omega, by omega⟩
set_option maxHeartbeats 4000000 in
theorem d_mulS (r n n' c : Int) (xs ys : List Int) (ca cb : Nat) (hl : xs.length ≤ 1099511627776) (hl' : ys.length ≤ 1099511627776) :
    Does Tryz.prog 82 [vM r n 1 xs.length ca, vM n' c 2 ys.length cb] [(1, .ro (.ints xs)), (2, .ro (.ints ys))] 3 (GotZ r c 3 (mulZ r n n' c xs ys) 3) := by
  refine Does.intro TT Tryz.func82 rfl (by kernel_rfl) Zz Zz fun E hE => ?_
  cases h1 : isM r n xs <;> cases h2 : isM n' c ys
  case true.true =>
    by_cases h3 : n = n'
    · subst h3
      obtain ⟨r, n, rfl, rfl⟩ := isM_pos h1
      obtain ⟨n', c, e, rfl⟩ := isM_pos h2
      obtain rfl : n = n' := by omega
      clear e
      obtain ⟨g1, g2, g3, g4⟩ := isM_nat h1
      obtain ⟨g5, g6, g7, g8⟩ := isM_nat h2
      have g9 : (mulM r n c xs ys).length ≤ 1099511627776 := by
        have h := (nat_side g1 g6).2
        have e := Int.natCast_mul r c
        rw [mulM_len]; omega
      have gl := @mulM_len r n c xs ys
      cases h4 : (mulM r n c xs ys).all numB
      all_goals
        have hd := (isM_mul (n := n) (xs := xs) (ys := ys) g1 g6).trans h4
        (repeat' (first | refine stx ?_ | (refine zqc (d_isMatS _ _ _ _ hl) ?_ <;> simp only [h1]) | (refine zqc (d_isMatS _ _ _ _ hl') ?_ <;> simp only [h2]) | (refine w_C (d_l3Mul _ _ _ _ _ _ _ g1 g2 g6 g3 g7 g4 g8) Zz Zz Zz Zz Zz Zz Zz ft Zz Zz (MulOut.out) ?_; rintro v b ⟨rfl, he, -⟩; cases he) | ((refine zqe (d_doneS _ _ _ _ _ gl.symm _ hd g9) ?_); rintro v Hout n1 ⟨rfl, rfl, rfl⟩) | (refine stq ?_ ?_ <;> (intro hc; ((try simp at hc) <;> try contradiction))) | fail))
      · exact fin rfl w_3 [] (.tup [.agg zeroM, .one (.bool false)]) [] 3 (GotZ.no (mulZ_bad h4)) rfl ⟨trivial, trivial, rfl⟩ rfl
      · exact fin rfl w_3 [(3, 6)] (doneV r c 3 (r * c) (r * c) true) [(3, .own 3 (r * c) (.ints (mulM r n c xs ys)))] 4 (GotZ.yes (mulZ_yes h1 h2 h4) gl.symm (Nat.le_refl _)) rfl ⟨trivial, ⟨own_ints rfl, trivial⟩, rfl⟩ rfl
    · (repeat' (first | refine stx ?_ | (refine zqc (d_isMatS _ _ _ _ hl) ?_ <;> simp only [h1]) | (refine zqc (d_isMatS _ _ _ _ hl') ?_ <;> simp only [h2]) | (refine stq ?_ ?_ <;> (intro hc; ((try simp at hc) <;> try contradiction))) | fail))
      · exact fin rfl w_3 [] (.tup [.agg zeroM, .one (.bool false)]) [] 3 (GotZ.no (mulZ_no (by simp [h3]))) rfl ⟨trivial, trivial, rfl⟩ rfl
  all_goals (repeat' (first | refine stx ?_ | (refine zqc (d_isMatS _ _ _ _ hl) ?_ <;> simp only [h1]) | (refine zqc (d_isMatS _ _ _ _ hl') ?_ <;> simp only [h2]) | (refine stq ?_ ?_ <;> (intro hc; ((try simp at hc) <;> try contradiction))) | fail))
  all_goals exact fin rfl w_3 [] (.tup [.agg zeroM, .one (.bool false)]) [] 3 (GotZ.no (mulZ_no (by simp [h1, h2]))) rfl ⟨trivial, trivial, rfl⟩ rfl
set_option maxHeartbeats 4000000 in
theorem d_mulI (r n n' c : Int) (xs ys : List Int) (ca cb : Nat) (hl : xs.length ≤ 1099511627776) (hl' : ys.length ≤ 1099511627776) :
    Does Tryz.prog 16 [vM r n 1 xs.length ca, vM n' c 2 ys.length cb] [(1, .ro (.ints xs)), (2, .ro (.ints ys))] 3 (GotZ r c 3 (mulZ r n n' c xs ys) 3) := by
  refine Does.intro TT Tryz.func16 rfl (by kernel_rfl) Zz Zz fun E hE => ?_
  cases h1 : isM r n xs <;> cases h2 : isM n' c ys
  case true.true =>
    by_cases h3 : n = n'
    · subst h3
      obtain ⟨r, n, rfl, rfl⟩ := isM_pos h1
      obtain ⟨n', c, e, rfl⟩ := isM_pos h2
      obtain rfl : n = n' := by omega
      clear e
      obtain ⟨g1, g2, g3, g4⟩ := isM_nat h1
      obtain ⟨g5, g6, g7, g8⟩ := isM_nat h2
      have gl := @mulM_len r n c xs ys
      have g9 : r * c ≤ 1099511627776 := by
        have h := (nat_side g1 g6).2
        have e := Int.natCast_mul r c
        omega
      (repeat' (first | refine stx ?_ | (refine zqc (d_isMatI _ _ _ _ hl) ?_ <;> simp only [h1]) | (refine zqc (d_isMatI _ _ _ _ hl') ?_ <;> simp only [h2]) | (refine w_C (d_newI _ _ g1 g6) Zz Zz Zz Zz Zz Zz Zz ft Zz Zz (NewM.out) ?_; rintro v b ⟨rfl, he, -⟩; cases he) | (refine stq ?_ ?_ <;> (intro hc; ((try simp at hc) <;> try contradiction))) | fail))
      refine w_G hE (fun i : Nat => i ≤ r) (fun i => r - i)
        (fun i => [(2, .one (.ptr 3 3 0 0)), (3, .one (.ptr 4 3 0 0)), (4, .one (.ptr 5 3 0 0)), (6, .one (.ptr 7 3 0 0)), (7, vI i)])
        (fun i => [(1, .ro (.ints xs)), (2, .ro (.ints ys)), (3, .own 26 1 (.lit [.int r, .int n, .sl 1 1 0 xs.length ca])), (4, .own 26 1 (.lit [.int n, .int c, .sl 2 1 0 ys.length cb])), (5, .own 26 1 (.lit zeroM)), (6, .own 3 (r * c) (.ints (partM r n c xs ys (i * c)))), (7, .own 26 1 (.lit [.int r, .int c, .sl 6 1 0 (r * c) (r * c)]))]) 8 [] 0 (Nat.zero_le _) ⟨w_1, ⟨rfl, rfl, rfl, rfl, rfl, own_ints (by rw [Nat.zero_mul, partM_zero]), rfl, trivial⟩, rfl⟩ ?_
      intro i q1
      (repeat' (first | refine stx ?_ | (refine stq ?_ ?_ <;> (intro hc; ((try simp at hc) <;> try contradiction))) | fail))
      · refine w_G hE (fun j : Nat => j ≤ c) (fun j => c - j)
          (fun j => [(2, .one (.ptr 3 3 0 0)), (3, .one (.ptr 4 3 0 0)), (4, .one (.ptr 5 3 0 0)), (6, .one (.ptr 7 3 0 0)), (7, vI i), (8, vI j)])
          (fun j => [(1, .ro (.ints xs)), (2, .ro (.ints ys)), (3, .own 26 1 (.lit [.int r, .int n, .sl 1 1 0 xs.length ca])), (4, .own 26 1 (.lit [.int n, .int c, .sl 2 1 0 ys.length cb])), (5, .own 26 1 (.lit zeroM)), (6, .own 3 (r * c) (.ints (partM r n c xs ys (i * c + j)))), (7, .own 26 1 (.lit [.int r, .int c, .sl 6 1 0 (r * c) (r * c)]))]) 8 [] 0 (Nat.zero_le _) ⟨w_1, w_2, rfl⟩ ?_
        intro j q2
        (repeat' (first | refine stx ?_ | (refine stq ?_ ?_ <;> (intro hc; ((try simp at hc) <;> try contradiction))) | fail))
        · refine w_G hE (fun k : Nat => k ≤ n) (fun k => n - k)
            (fun k => [(2, .one (.ptr 3 3 0 0)), (3, .one (.ptr 4 3 0 0)), (4, .one (.ptr 5 3 0 0)), (6, .one (.ptr 7 3 0 0)), (7, vI i), (8, vI j), (9, vI (dotTo xs ys n c i j k)), (10, vI k)])
            (fun _ => [(1, .ro (.ints xs)), (2, .ro (.ints ys)), (3, .own 26 1 (.lit [.int r, .int n, .sl 1 1 0 xs.length ca])), (4, .own 26 1 (.lit [.int n, .int c, .sl 2 1 0 ys.length cb])), (5, .own 26 1 (.lit zeroM)), (6, .own 3 (r * c) (.ints (partM r n c xs ys (i * c + j)))), (7, .own 26 1 (.lit [.int r, .int c, .sl 6 1 0 (r * c) (r * c)]))]) 8 [] 0 (Nat.zero_le _) ⟨w_1, w_2, rfl⟩ ?_
          intro k q3
          have hi : i < r := by omega
          have hj : j < c := by omega
          by_cases hk : k < n
          · have f1 := cell_facts hi hk g1 g2
            have f2 := cell_facts hk hj g2 g6
            rw [← g3] at f1
            rw [← g7] at f2
            have f3 := prod_getD g4 g8 (0 + ((i : Int) * n + k).toNat) (0 + ((k : Int) * c + j).toNat)
            have f4 := dotTo_bd (n := n) (c := c) (i := i) (j := j) g4 g8 k
            (repeat' (first | refine stx ?_ | (first | refine w_z (d_at _ _ _ _ xs _ (by omega) (by omega) (by omega) hl) Zz Zz Zz Zz Zz Zz Zz Zz ft Zz Zz ?_ | refine w_A (d_at _ _ _ _ xs _ (by omega) (by omega) (by omega) hl) Zz Zz Zz Zz Zz Zz Zz Zz ft Zz Zz ?_) | (first | refine w_z (d_at _ _ _ _ ys _ (by omega) (by omega) (by omega) hl') Zz Zz Zz Zz Zz Zz Zz Zz ft Zz Zz ?_ | refine w_A (d_at _ _ _ _ ys _ (by omega) (by omega) (by omega) hl') Zz Zz Zz Zz Zz Zz Zz Zz ft Zz Zz ?_) | (refine stq ?_ ?_ <;> (intro hc; ((try simp at hc) <;> try contradiction))) | fail))
            · exact ⟨[], k + 1, hk, w_4, ⟨⟨rfl, rfl, rfl, rfl, rfl, rfl, congrArg some (congrArg vI (dot_step xs ys n c i j k)), rfl, trivial⟩, ⟨rfl, rfl, rfl, rfl, rfl, rfl, rfl, trivial⟩, rfl⟩⟩
            · omega
          · have hp := partM_len (xs := xs) (ys := ys) (n := n) (Nat.le_of_lt (cell_lt hi hj))
            have f1 := cell_facts hi hj g1 g6
            obtain rfl : k = n := by omega
            (repeat' (first | refine stx ?_ | ((refine w_E (d_set _ _ _ _ _ (partM r k c xs ys (i * c + j)) _ _ _ hp.symm (by omega) (by omega) (by omega) (by omega)) Zz Zz Zz Zz Zz Zz Zz ft rfl ?_); rintro v Hout n1 ⟨rfl, rfl, rfl⟩) | (refine stq ?_ ?_ <;> (intro hc; ((try simp at hc) <;> try contradiction))) | fail))
            · exact ⟨[], j + 1, hj, w_4, ⟨w_1, ⟨rfl, rfl, rfl, rfl, rfl, own_ints (partM_set hi hj), rfl, trivial⟩, rfl⟩⟩
        · obtain rfl : j = c := by omega
          exact ⟨[], i + 1, by omega, w_4, ⟨w_1, ⟨rfl, rfl, rfl, rfl, rfl, own_ints (by rw [Nat.add_mul, Nat.one_mul]), rfl, trivial⟩, rfl⟩⟩
      · obtain rfl : i = r := by omega
        rw [partM_full]
        cases h4 : (mulM i n c xs ys).all numB
        all_goals
          have hd := (isM_mul (n := n) (xs := xs) (ys := ys) g1 g6).trans h4
          (repeat' (first | refine stx ?_ | ((refine w_E (d_checked _ _ _ _ _ gl.symm _ hd (by omega)) Zz Zz Zz Zz Zz Zz Zz ft rfl ?_); rintro v Hout n1 ⟨rfl, rfl, rfl⟩) | (refine stq ?_ ?_ <;> (intro hc; ((try simp at hc) <;> try contradiction))) | fail))
        · exact fin rfl w_3 [] (.tup [.agg zeroM, .one (.bool false)]) [] 3 (GotZ.no (mulZ_bad h4)) rfl ⟨trivial, trivial, rfl⟩ rfl
        · exact fin rfl w_3 [(3, 6)] (doneV i c 3 (i * c) (i * c) true) [(3, .own 3 (i * c) (.ints (mulM i n c xs ys)))] 4 (GotZ.yes (mulZ_yes h1 h2 h4) gl.symm (Nat.le_refl _)) rfl ⟨trivial, ⟨own_ints rfl, trivial⟩, rfl⟩ rfl
    · (repeat' (first | refine stx ?_ | (refine zqc (d_isMatI _ _ _ _ hl) ?_ <;> simp only [h1]) | (refine zqc (d_isMatI _ _ _ _ hl') ?_ <;> simp only [h2]) | (refine stq ?_ ?_ <;> (intro hc; ((try simp at hc) <;> try contradiction))) | fail))
      · exact fin rfl w_3 [] (.tup [.agg zeroM, .one (.bool false)]) [] 3 (GotZ.no (mulZ_no (by simp [h3]))) rfl ⟨trivial, trivial, rfl⟩ rfl
  all_goals (repeat' (first | refine stx ?_ | (refine zqc (d_isMatI _ _ _ _ hl) ?_ <;> simp only [h1]) | (refine zqc (d_isMatI _ _ _ _ hl') ?_ <;> simp only [h2]) | (refine stq ?_ ?_ <;> (intro hc; ((try simp at hc) <;> try contradiction))) | fail))
  all_goals exact fin rfl w_3 [] (.tup [.agg zeroM, .one (.bool false)]) [] 3 (GotZ.no (mulZ_no (by simp [h1, h2]))) rfl ⟨trivial, trivial, rfl⟩ rfl
end Go.Proofs.YtekpamojojfplaaGreat
namespace Go.Proofs.YtekpamojojfplaaGreat
def rowGcd (xs : List Int) (off : Nat) : Nat → Int
  | 0 => 0
  | k + 1 => (Int.gcd (rowGcd xs off k) (xs.getD (off + k) 0) : Int)
def sgnTo (xs : List Int) (off : Nat) : Nat → Int
  | 0 => 0
  | k + 1 => if sgnTo xs off k = 0 then (xs.getD (off + k) 0).sign else sgnTo xs off k
def updTo (xs : List Int) (off : Nat) (f : Nat → Int → Int) : Nat → List Int
  | 0 => xs
  | k + 1 => (updTo xs off f k).set (off + k) (f k (xs.getD (off + k) 0))
def primAt (xs : List Int) (off n : Nat) : List Int := if rowGcd xs off n = 0 then xs else updTo xs off (fun _ v => v.tdiv (sgnTo xs off n * rowGcd xs off n)) n
theorem updTo_len {xs : List Int} {off : Nat} {f : Nat → Int → Int} : ∀ {k : Nat}, (updTo xs off f k).length = xs.length
  | 0 => rfl
  | k + 1 => by simp [updTo, updTo_len]
theorem updTo_at {xs : List Int} {off : Nat} {f : Nat → Int → Int} {p : Nat} : ∀ {k : Nat}, (p < off ∨ off + k ≤ p) → (updTo xs off f k).getD p 0 = xs.getD p 0
  | 0, _ => rfl
  | k + 1, h => by
    have := updTo_at (xs := xs) (off := off) (f := f) (p := p) (k := k) (by omega)
    rw [updTo, List.getD_eq_getElem?_getD, List.getElem?_set_ne (by omega), ← List.getD_eq_getElem?_getD, this]
end Go.Proofs.YtekpamojojfplaaGreat
namespace Go.Proofs.YtekpamojojfplaaGreat
open Go.RowKit
theorem off_nat {off k : Nat} : off + ((k : Int)).toNat = off + k := by omega
theorem d_nonZeroF (n : Int) : Does Tryz.prog 172 [vI n] [] 1 (Ret (vB (decide (n ≠ 0))) 1) := by
 refine Does.intro TT Tryz.func172 rfl (by kernel_rfl) Zz Zz fun E hE => ?_
 (repeat' (first | refine stx ?_ | (refine stq ?_ ?_ <;> (intro hc; ((try simp at hc) <;> try contradiction))) | fail))
 refine fin_ret rfl w_3 (rfl) rfl
def FirstN (xs : List Int) (off n : Nat) (j : Int) : Prop := ((∀ k, k < n → xs.getD (off + k) 0 = 0) ∧ j = -1) ∨ ∃ k, k < n ∧ j = (k : Int) ∧ xs.getD (off + k) 0 ≠ 0 ∧ ∀ i, i < k → xs.getD (off + i) 0 = 0
def FoundF (xs : List Int) (off n : Nat) (v : AV) (Hout : List (Nat × Blk)) (n1 : Nat) : Prop := ∃ j : Int, v = vI j ∧ Hout = [] ∧ n1 = 2 ∧ FirstN xs off n j
theorem d_indexF (xs : List Int) (off n c : Nat) (hl : off + n ≤ xs.length) (hx : xs.length ≤ 1099511627776) : Does Tryz.prog 165 [vS 1 1 off n c, .one (.fn 172 [])] [(1, .ro (.ints xs))] 2 (FoundF xs off n) := by
 refine Does.intro TT Tryz.func165 rfl (by kernel_rfl) Zz Zz fun E hE => ?_
 (repeat' (first | refine stx ?_ | (refine stq ?_ ?_ <;> (intro hc; ((try simp at hc) <;> try contradiction))) | fail))
 refine w_G hE (fun k : Nat => k ≤ n ∧ ∀ i, i < k → xs.getD (off + i) 0 = 0) (fun k => n - k)
  (fun k => [(0, vS 1 1 off n c), (1, .one (.fn 172 [])), (7, vI n), (8, vI k)]) (fun _ => [(1, .ro (.ints xs))]) 2 [] 0 ⟨Nat.zero_le _, fun i hi => by omega⟩ ⟨w_1, w_2, rfl⟩ ?_
 rintro k ⟨h1, h2⟩
 have e := off_nat (off := off) (k := k)
 ((repeat' (first | refine stx ?_ | refine zqc (d_nonZeroF _) ?_ | (refine stq ?_ ?_ <;> (intro hc; ((try simp at hc) <;> try contradiction))) | fail)) <;> try (exfalso; omega))
 ·have hz : xs.getD (off + k) 0 ≠ 0 := by rw [List.getD_eq_getElem?_getD]; simpa using hc
  exact fin rfl w_3 [] (vI k) [] 2 ⟨_, rfl, rfl, rfl, .inr ⟨k, by omega, rfl, hz, h2⟩⟩ rfl ⟨trivial, trivial, rfl⟩ rfl
 ·have hz : xs.getD (off + k) 0 = 0 := by rw [List.getD_eq_getElem?_getD]; simpa using hc
  refine ⟨[], k + 1, ⟨by omega, fun i hi => ?_⟩, w_4, ⟨w_1, w_2, rfl⟩⟩
  rcases Nat.lt_or_ge i k with q | q
  ·exact h2 i q
  ·obtain rfl : i = k := by omega
   exact hz
 ·obtain rfl : k = n := by omega
  exact fin rfl w_3 [] (vI (-1)) [] 2 ⟨_, rfl, rfl, rfl, .inl ⟨h2, rfl⟩⟩ rfl ⟨trivial, trivial, rfl⟩ rfl
theorem d_firstCell (xs : List Int) (off n c : Nat) (hl : off + n ≤ xs.length) (hx : xs.length ≤ 1099511627776) : Does Tryz.prog 138 [vS 1 1 off n c] [(1, .ro (.ints xs))] 2 (FoundF xs off n) := by
 refine Does.intro TT Tryz.func138 rfl (by kernel_rfl) Zz Zz fun E hE => ?_
 (repeat' (first | refine stx ?_ | ((refine zqe (d_indexF xs off n _ hl hx) ?_); rintro v Hout n1 ⟨j, rfl, rfl, rfl, hj⟩) | (refine stq ?_ ?_ <;> (intro hc; ((try simp at hc) <;> try contradiction))) | fail))
 exact fin rfl w_3 [] (vI j) [] 2 ⟨_, rfl, rfl, rfl, hj⟩ rfl ⟨trivial, trivial, rfl⟩ rfl
end Go.Proofs.YtekpamojojfplaaGreat
