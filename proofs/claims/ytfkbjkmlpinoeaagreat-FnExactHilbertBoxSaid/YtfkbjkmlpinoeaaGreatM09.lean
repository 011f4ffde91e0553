/-
  TEXTS OF THE PROOF, put together: bMat, pEch.
-/
import Derived.Test.YtfkbjkmlpinoeaaGreatM08
set_option linter.unusedVariables false
set_option linter.unusedSimpArgs false
/-
  CONTRACTS: matrices of whole numbers, cell by cell.
-/
namespace Go.Proofs.YtfkbjkmlpinoeaaGreat
open Go.RowKit

def vM (r c : Int) (k n cap : Nat) : AV := .agg [.int r, .int c, .sl k 1 0 n cap]
def isM (r c : Int) (xs : List Int) : Bool := decide (0 ≤ r ∧ r ≤ 24 ∧ 0 ≤ c ∧ c ≤ 24 ∧ (xs.length : Int) = r * c) && xs.all numB
theorem isM_true {r c : Int} {xs : List Int} (h : isM r c xs = true) : (0 ≤ r ∧ r ≤ 24 ∧ 0 ≤ c ∧ c ≤ 24 ∧ (xs.length : Int) = r * c) ∧ xs.all numB = true := by simpa [isM] using h
theorem side_bd {r c : Int} (h1 : 0 ≤ r) (h2 : r ≤ 24) (h3 : 0 ≤ c) (h4 : c ≤ 24) : 0 ≤ r * c ∧ r * c ≤ 576 := by
  refine ⟨Int.mul_nonneg h1 h3, ?_⟩
  have := Int.mul_le_mul h2 h4 h3 (by omega : (0 : Int) ≤ 24)
  omega
theorem isM_no {r c : Int} {xs : List Int} (h : ¬(0 ≤ r ∧ r ≤ 24 ∧ 0 ≤ c ∧ c ≤ 24 ∧ (xs.length : Int) = r * c)) : isM r c xs = false := by simp [isM, h]
set_option maxHeartbeats 1000000 in
theorem d_isMatI (r c : Int) (xs : List Int) (cap : Nat) (hl : xs.length ≤ 1099511627776) : Does Tryz.prog 99 [vM r c 1 xs.length cap] [(1, .ro (.ints xs))] 2 (Ret (vB (isM r c xs)) 2) := by
  have hs := @side_bd r c
  refine Does.intro TT Tryz.func99 rfl (by kernel_rfl) rfl rfl fun E hE => ?_
  by_cases h : 0 ≤ r ∧ r ≤ 24 ∧ 0 ≤ c ∧ c ≤ 24
  · obtain ⟨h1, h2, h3, h4⟩ := h
    have hs := hs h1 h2 h3 h4
    (repeat' (first | refine w_a TT rfl rfl rfl sd ?_ | refine w_b ?_ | refine w_c rfl rfl ?_ | refine w_d TT rfl rfl rfl rfl sd ?_ | refine w_e ?_ | refine w_f rfl rfl ?_ | refine w_g ?_ | refine w_h ?_ | (first | refine w_z (d_areNumbers _ _ hl) rfl rfl rfl rfl rfl rfl rfl rfl ft rfl rfl ?_ | refine w_A (d_areNumbers _ _ hl) rfl rfl rfl rfl rfl rfl rfl rfl ft rfl rfl ?_) | refine w_i ?_ | refine w_j ?_ | refine w_k ?_ | refine w_l ?_ | refine w_m rfl ?_ | refine w_n rfl ?_ | refine w_o TM rfl kr ?_ | ((first | refine w_p rfl rfl rfl (fun hc => ?_) (fun hc => ?_) | refine w_q rfl rfl rfl (fun hc => ?_) (fun hc => ?_) | refine w_r rfl (fun hc => ?_) (fun hc => ?_)) <;> ((try simp at hc) <;> try contradiction))))
    · refine fin_ret rfl w_3 (congrArg vB ?_) rfl
      simp [isM, h1, h2, h3, h4, hc]
    all_goals refine fin_ret rfl w_3 (congrArg vB (isM_no (by omega)).symm) rfl
  · clear hs
    (repeat' (first | refine w_a TT rfl rfl rfl sd ?_ | refine w_b ?_ | refine w_c rfl rfl ?_ | refine w_d TT rfl rfl rfl rfl sd ?_ | refine w_e ?_ | refine w_f rfl rfl ?_ | refine w_g ?_ | refine w_h ?_ | (first | refine w_z (d_areNumbers _ _ hl) rfl rfl rfl rfl rfl rfl rfl rfl ft rfl rfl ?_ | refine w_A (d_areNumbers _ _ hl) rfl rfl rfl rfl rfl rfl rfl rfl ft rfl rfl ?_) | refine w_i ?_ | refine w_j ?_ | refine w_k ?_ | refine w_l ?_ | refine w_m rfl ?_ | refine w_n rfl ?_ | refine w_o TM rfl kr ?_ | ((first | refine w_p rfl rfl rfl (fun hc => ?_) (fun hc => ?_) | refine w_q rfl rfl rfl (fun hc => ?_) (fun hc => ?_) | refine w_r rfl (fun hc => ?_) (fun hc => ?_)) <;> ((try simp at hc) <;> try contradiction))))
    all_goals first
      | omega
      | refine fin_ret rfl w_3 (congrArg vB (isM_no (by omega)).symm) rfl
set_option maxHeartbeats 1000000 in
theorem d_isMatS (r c : Int) (xs : List Int) (cap : Nat) (hl : xs.length ≤ 1099511627776) : Does Tryz.prog 101 [vM r c 1 xs.length cap] [(1, .ro (.ints xs))] 2 (Ret (vB (isM r c xs)) 2) := by
  have hs := @side_bd r c
  refine Does.intro TT Tryz.func101 rfl (by kernel_rfl) rfl rfl fun E hE => ?_
  cases hr : inB r 0 24 <;> cases hc : inB c 0 24
  · have h := inB_false.1 hr
    clear hs
    (repeat' (first | refine w_a TT rfl rfl rfl sd ?_ | refine w_b ?_ | refine w_c rfl rfl ?_ | refine w_d TT rfl rfl rfl rfl sd ?_ | refine w_e ?_ | refine w_f rfl rfl ?_ | refine w_g ?_ | refine w_h ?_ | ((first | refine w_z (d_l1In _ _ _) rfl rfl rfl rfl rfl rfl rfl rfl ft rfl rfl ?_ | refine w_A (d_l1In _ _ _) rfl rfl rfl rfl rfl rfl rfl rfl ft rfl rfl ?_) <;> simp only [hr, hc]) | refine w_i ?_ | refine w_j ?_ | refine w_k ?_ | refine w_l ?_ | refine w_m rfl ?_ | refine w_n rfl ?_ | refine w_o TM rfl kr ?_ | ((first | refine w_p rfl rfl rfl (fun hc => ?_) (fun hc => ?_) | refine w_q rfl rfl rfl (fun hc => ?_) (fun hc => ?_) | refine w_r rfl (fun hc => ?_) (fun hc => ?_)) <;> ((try simp at hc) <;> try contradiction))))
    refine fin_ret rfl w_3 (congrArg vB (isM_no (by omega)).symm) rfl
  · have h := inB_false.1 hr
    clear hs
    (repeat' (first | refine w_a TT rfl rfl rfl sd ?_ | refine w_b ?_ | refine w_c rfl rfl ?_ | refine w_d TT rfl rfl rfl rfl sd ?_ | refine w_e ?_ | refine w_f rfl rfl ?_ | refine w_g ?_ | refine w_h ?_ | ((first | refine w_z (d_l1In _ _ _) rfl rfl rfl rfl rfl rfl rfl rfl ft rfl rfl ?_ | refine w_A (d_l1In _ _ _) rfl rfl rfl rfl rfl rfl rfl rfl ft rfl rfl ?_) <;> simp only [hr, hc]) | refine w_i ?_ | refine w_j ?_ | refine w_k ?_ | refine w_l ?_ | refine w_m rfl ?_ | refine w_n rfl ?_ | refine w_o TM rfl kr ?_ | ((first | refine w_p rfl rfl rfl (fun hc => ?_) (fun hc => ?_) | refine w_q rfl rfl rfl (fun hc => ?_) (fun hc => ?_) | refine w_r rfl (fun hc => ?_) (fun hc => ?_)) <;> ((try simp at hc) <;> try contradiction))))
    refine fin_ret rfl w_3 (congrArg vB (isM_no (by omega)).symm) rfl
  · have h := inB_false.1 hc
    clear hs
    (repeat' (first | refine w_a TT rfl rfl rfl sd ?_ | refine w_b ?_ | refine w_c rfl rfl ?_ | refine w_d TT rfl rfl rfl rfl sd ?_ | refine w_e ?_ | refine w_f rfl rfl ?_ | refine w_g ?_ | refine w_h ?_ | ((first | refine w_z (d_l1In _ _ _) rfl rfl rfl rfl rfl rfl rfl rfl ft rfl rfl ?_ | refine w_A (d_l1In _ _ _) rfl rfl rfl rfl rfl rfl rfl rfl ft rfl rfl ?_) <;> simp only [hr, hc]) | refine w_i ?_ | refine w_j ?_ | refine w_k ?_ | refine w_l ?_ | refine w_m rfl ?_ | refine w_n rfl ?_ | refine w_o TM rfl kr ?_ | ((first | refine w_p rfl rfl rfl (fun hc => ?_) (fun hc => ?_) | refine w_q rfl rfl rfl (fun hc => ?_) (fun hc => ?_) | refine w_r rfl (fun hc => ?_) (fun hc => ?_)) <;> ((try simp at hc) <;> try contradiction))))
    refine fin_ret rfl w_3 (congrArg vB (isM_no (by omega)).symm) rfl
  · have h1 := inB_true.1 hr
    have h3 := inB_true.1 hc
    have hs := hs h1.1 h1.2 h3.1 h3.2
    (repeat' (first | refine w_a TT rfl rfl rfl sd ?_ | refine w_b ?_ | refine w_c rfl rfl ?_ | refine w_d TT rfl rfl rfl rfl sd ?_ | refine w_e ?_ | refine w_f rfl rfl ?_ | refine w_g ?_ | refine w_h ?_ | ((first | refine w_z (d_l1In _ _ _) rfl rfl rfl rfl rfl rfl rfl rfl ft rfl rfl ?_ | refine w_A (d_l1In _ _ _) rfl rfl rfl rfl rfl rfl rfl rfl ft rfl rfl ?_) <;> simp only [hr, hc]) | refine w_i ?_ | refine w_j ?_ | refine w_k ?_ | refine w_l ?_ | refine w_m rfl ?_ | refine w_n rfl ?_ | refine w_o TM rfl kr ?_ | ((first | refine w_p rfl rfl rfl (fun hc => ?_) (fun hc => ?_) | refine w_q rfl rfl rfl (fun hc => ?_) (fun hc => ?_) | refine w_r rfl (fun hc => ?_) (fun hc => ?_)) <;> ((try simp at hc) <;> try contradiction))))
    · refine fin_ret rfl w_3 (congrArg vB (isM_no (by omega)).symm) rfl
    · have hlen : (xs.length : Int) = r * c := by assumption
      refine w_G hE (fun k : Nat => k ≤ xs.length ∧ (xs.take k).all numB = true) (fun k => xs.length - k)
        (fun k => [(1, .one (.ptr 2 3 0 0)), (3, vI k)]) (fun _ => [(1, .ro (.ints xs)), (2, .own 26 1 (.lit [.int r, .int c, .sl 1 1 0 xs.length cap]))]) 3 [] 0 ⟨Nat.zero_le _, rfl⟩ ⟨w_1, w_2, rfl⟩ ?_
      rintro k ⟨g1, g2⟩
      (repeat' (first | refine w_a TT rfl rfl rfl sd ?_ | refine w_b ?_ | refine w_c rfl rfl ?_ | refine w_d TT rfl rfl rfl rfl sd ?_ | refine w_e ?_ | refine w_f rfl rfl ?_ | refine w_g ?_ | refine w_h ?_ | (first | refine w_z (d_numS _) rfl rfl rfl rfl rfl rfl rfl rfl ft rfl rfl ?_ | refine w_A (d_numS _) rfl rfl rfl rfl rfl rfl rfl rfl ft rfl rfl ?_) | refine w_i ?_ | refine w_j ?_ | refine w_k ?_ | refine w_l ?_ | refine w_m rfl ?_ | refine w_n rfl ?_ | refine w_o TM rfl kr ?_ | ((first | refine w_p rfl rfl rfl (fun hc => ?_) (fun hc => ?_) | refine w_q rfl rfl rfl (fun hc => ?_) (fun hc => ?_) | refine w_r rfl (fun hc => ?_) (fun hc => ?_)) <;> ((try simp at hc) <;> try contradiction))))
      · refine fin_ret rfl w_3 (congrArg vB ?_) rfl
        rw [gD (by assumption)] at hc
        simp [isM, all_bad _ hc]
      · refine ⟨[], k + 1, ⟨by omega, ?_⟩, w_4, ⟨w_1, w_2, rfl⟩⟩
        rw [gD (by assumption)] at hc
        exact all_take _ g2 hc
      · refine fin_ret rfl w_3 (congrArg vB ?_) rfl
        rw [List.take_of_length_le (by omega)] at g2
        simp only [isM, g2, Bool.and_true]
        exact (decide_eq_true ⟨h1.1, h1.2, h3.1, h3.2, hlen⟩).symm
theorem own_rep {t : TypeId} {c : Nat} {e e' : Elts} {m : Nat → Nat} (h : e = e'.ren m) : some (Blk.own t c e) = some ((Blk.own t c e').ren m) := by subst h; rfl
theorem nat_side {r c : Nat} (h1 : r ≤ 24) (h2 : c ≤ 24) : 0 ≤ (r : Int) * (c : Int) ∧ (r : Int) * (c : Int) ≤ 576 := side_bd (by omega) (by omega) (by omega) (by omega)
def NewM (r c : Nat) (t : TypeId) (v : AV) (Hout : List (Nat × Blk)) (n : Nat) : Prop := v = .agg [.int r, .int c, .sl 1 1 0 (r * c) (r * c)] ∧ Hout = [(1, .own t (r * c) (.ints (List.replicate (r * c) 0)))] ∧ n = 2
theorem NewM.out {r c : Nat} {t : TypeId} : ∀ v Hout n1, NewM r c t v Hout n1 → ∃ b, Hout = [(1, b)] ∧ n1 = 1 + 1 ∧ b.keys = [] := fun _ _ _ ⟨_, h2, h3⟩ => ⟨_, h2, h3, by simp [Blk.keys, Elts.keys, Elts.all, keysOf, SV.keys]⟩
theorem d_newI (r c : Nat) (hr : r ≤ 24) (hc : c ≤ 24) : Does Tryz.prog 125 [vI r, vI c] [] 1 (NewM r c 3) := by
  have hs := nat_side hr hc
  refine Does.intro TT Tryz.func125 rfl (by kernel_rfl) rfl rfl fun E hE => ?_
  (repeat' (first | refine w_a TT rfl rfl rfl sd ?_ | refine w_b ?_ | refine w_c rfl rfl ?_ | refine w_d TT rfl rfl rfl rfl sd ?_ | refine w_e ?_ | refine w_f rfl rfl ?_ | refine w_g ?_ | refine w_h ?_ | refine w_i ?_ | refine w_j ?_ | refine w_k ?_ | refine w_l ?_ | refine w_m rfl ?_ | refine w_n rfl ?_ | refine w_o TM rfl kr ?_ | ((first | refine w_p rfl rfl rfl (fun hc => ?_) (fun hc => ?_) | refine w_q rfl rfl rfl (fun hc => ?_) (fun hc => ?_) | refine w_r rfl (fun hc => ?_) (fun hc => ?_)) <;> ((try simp at hc) <;> try contradiction))))
  exact fin rfl Nat.zero_lt_one [(1, 2)] (.agg [.int r, .int c, .sl 1 1 0 (r * c) (r * c)]) [(1, .own 3 (r * c) (.ints (List.replicate (r * c) 0)))] 2 ⟨rfl, rfl, rfl⟩ rfl ⟨trivial, ⟨own_rep rfl, trivial⟩, rfl⟩ rfl
theorem d_newS (r c : Nat) (hr : r ≤ 24) (hc : c ≤ 24) : Does Tryz.prog 122 [vI r, vI c] [] 1 (NewM r c 3) := by
  have hs := nat_side hr hc
  refine Does.intro TT Tryz.func122 rfl (by kernel_rfl) rfl rfl fun E hE => ?_
  (repeat' (first | refine w_a TT rfl rfl rfl sd ?_ | refine w_b ?_ | refine w_c rfl rfl ?_ | refine w_d TT rfl rfl rfl rfl sd ?_ | refine w_e ?_ | refine w_f rfl rfl ?_ | refine w_g ?_ | refine w_h ?_ | refine w_i ?_ | refine w_j ?_ | refine w_k ?_ | refine w_l ?_ | refine w_m rfl ?_ | refine w_n rfl ?_ | refine w_o TM rfl kr ?_ | ((first | refine w_p rfl rfl rfl (fun hc => ?_) (fun hc => ?_) | refine w_q rfl rfl rfl (fun hc => ?_) (fun hc => ?_) | refine w_r rfl (fun hc => ?_) (fun hc => ?_)) <;> ((try simp at hc) <;> try contradiction))))
  exact fin rfl Nat.zero_lt_one [(1, 2)] (.agg [.int r, .int c, .sl 1 1 0 (r * c) (r * c)]) [(1, .own 3 (r * c) (.ints (List.replicate (r * c) 0)))] 2 ⟨rfl, rfl, rfl⟩ rfl ⟨trivial, ⟨own_rep rfl, trivial⟩, rfl⟩ rfl
theorem d_at (r c i j : Int) (xs : List Int) (cap : Nat) (h1 : 0 ≤ i * c ∧ i * c ≤ 1000000) (h2 : 0 ≤ j) (h3 : i * c + j < xs.length) (hl : xs.length ≤ 1099511627776) : Does Tryz.prog 110 [vM r c 1 xs.length cap, vI i, vI j] [(1, .ro (.ints xs))] 2 (Ret (vI (xs.getD (0 + (i * c + j).toNat) 0)) 2) := by
  refine Does.intro TT Tryz.func110 rfl (by kernel_rfl) rfl rfl fun E hE => ?_
  (repeat' (first | refine w_a TT rfl rfl rfl sd ?_ | refine w_b ?_ | refine w_c rfl rfl ?_ | refine w_d TT rfl rfl rfl rfl sd ?_ | refine w_e ?_ | refine w_f rfl rfl ?_ | refine w_g ?_ | refine w_h ?_ | refine w_i ?_ | refine w_j ?_ | refine w_k ?_ | refine w_l ?_ | refine w_m rfl ?_ | refine w_n rfl ?_ | refine w_o TM rfl kr ?_ | ((first | refine w_p rfl rfl rfl (fun hc => ?_) (fun hc => ?_) | refine w_q rfl rfl rfl (fun hc => ?_) (fun hc => ?_) | refine w_r rfl (fun hc => ?_) (fun hc => ?_)) <;> ((try simp at hc) <;> try contradiction))))
  refine fin_ret rfl w_3 (rfl) rfl
def SetM (t : TypeId) (cap : Nat) (xs : List Int) (v : AV) (Hout : List (Nat × Blk)) (n : Nat) : Prop := v = .tup [] ∧ Hout = [(1, .own t cap (.ints xs))] ∧ n = 2
theorem d_set (r c i j x : Int) (xs : List Int) (n cap cap' : Nat) (hn : n = xs.length) (h1 : 0 ≤ i * c ∧ i * c ≤ 1000000) (h2 : 0 ≤ j) (h3 : i * c + j < xs.length) (hl : xs.length ≤ 1099511627776) : Does Tryz.prog 113 [vM r c 1 n cap, vI i, vI j, vI x] [(1, .own 3 cap' (.ints xs))] 2 (SetM 3 cap' (xs.set (0 + (i * c + j).toNat) x)) := by
  subst hn
  refine Does.intro TT Tryz.func113 rfl (by kernel_rfl) rfl rfl fun E hE => ?_
  (repeat' (first | refine w_a TT rfl rfl rfl sd ?_ | refine w_b ?_ | refine w_c rfl rfl ?_ | refine w_d TT rfl rfl rfl rfl sd ?_ | refine w_e ?_ | refine w_f rfl rfl ?_ | refine w_g ?_ | refine w_h ?_ | refine w_i ?_ | refine w_j ?_ | refine w_k ?_ | refine w_l ?_ | refine w_m rfl ?_ | refine w_n rfl ?_ | refine w_o TM rfl kr ?_ | ((first | refine w_p rfl rfl rfl (fun hc => ?_) (fun hc => ?_) | refine w_q rfl rfl rfl (fun hc => ?_) (fun hc => ?_) | refine w_r rfl (fun hc => ?_) (fun hc => ?_)) <;> ((try simp at hc) <;> try contradiction))))
  exact fin_n rfl trivial [] (.tup []) [(1, .own 3 cap' (.ints (xs.set (0 + (i * c + j).toNat) x)))] 2 ⟨rfl, rfl, rfl⟩ rfl ⟨trivial, ⟨own_rep rfl, trivial⟩, rfl⟩ rfl
def zeroM : List SV := [.int 0, .int 0, .sl 0 1 0 0 0]
def dotTo (xs ys : List Int) (n c i j : Nat) : Nat → Int
  | 0 => 0
  | k + 1 => dotTo xs ys n c i j k + xs.getD (i * n + k) 0 * ys.getD (k * c + j) 0
theorem dot_step (xs ys : List Int) (n c i j k : Nat) : dotTo xs ys n c i j k + xs.getD (0 + ((i : Int) * n + k).toNat) 0 * ys.getD (0 + ((k : Int) * c + j).toNat) 0 = dotTo xs ys n c i j (k + 1) := by
  rw [Nat.zero_add, Nat.zero_add]; rfl
def mulM (r n c : Nat) (xs ys : List Int) : List Int := (List.range (r * c)).map fun p => dotTo xs ys n c (p / c) (p % c) n
theorem mulM_len {r n c : Nat} {xs ys : List Int} : (mulM r n c xs ys).length = r * c := by simp [mulM]
theorem cell_lt {i j r c : Nat} (hi : i < r) (hj : j < c) : i * c + j < r * c := by
  have := Nat.mul_le_mul_right c (show i + 1 ≤ r by omega)
  rw [Nat.add_mul] at this
  omega
theorem mulM_at {r n c i j : Nat} {xs ys : List Int} (hi : i < r) (hj : j < c) : (mulM r n c xs ys)[i * c + j]'(by rw [mulM_len]; exact cell_lt hi hj) = dotTo xs ys n c i j n := by
  have h1 : (i * c + j) / c = i := by rw [Nat.mul_comm, Nat.mul_add_div (by omega), Nat.div_eq_of_lt hj]; rfl
  have h2 : (i * c + j) % c = j := by rw [Nat.mul_comm, Nat.mul_add_mod, Nat.mod_eq_of_lt hj]
  simp [mulM, h1, h2]
theorem num_getD {xs : List Int} (h : xs.all numB = true) (k : Nat) : -400000000 ≤ xs.getD k 0 ∧ xs.getD k 0 ≤ 400000000 := by
  by_cases hk : k < xs.length
  · simp only [List.getD_eq_getElem?_getD, List.getElem?_eq_getElem hk, Option.getD_some]
    exact numB_true.1 (List.all_eq_true.1 h _ (List.getElem_mem hk))
  · simp [List.getElem?_eq_none (by omega : xs.length ≤ k)]
theorem prod_num {a b : Int} (h1 : -400000000 ≤ a ∧ a ≤ 400000000) (h2 : -400000000 ≤ b ∧ b ≤ 400000000) : -160000000000000000 ≤ a * b ∧ a * b ≤ 160000000000000000 := by
  have h := Nat.mul_le_mul (show a.natAbs ≤ 400000000 by omega) (show b.natAbs ≤ 400000000 by omega)
  rw [← Int.natAbs_mul] at h
  omega
theorem prod_getD {xs ys : List Int} (hx : xs.all numB = true) (hy : ys.all numB = true) (k l : Nat) : -160000000000000000 ≤ xs.getD k 0 * ys.getD l 0 ∧ xs.getD k 0 * ys.getD l 0 ≤ 160000000000000000 :=
  prod_num (num_getD hx k) (num_getD hy l)
theorem dotTo_bd {xs ys : List Int} {n c i j : Nat} (hx : xs.all numB = true) (hy : ys.all numB = true) : ∀ k : Nat, -(160000000000000000 * (k : Int)) ≤ dotTo xs ys n c i j k ∧ dotTo xs ys n c i j k ≤ 160000000000000000 * (k : Int)
  | 0 => by simp [dotTo]
  | k + 1 => by
    have h1 := dotTo_bd (n := n) (c := c) (i := i) (j := j) hx hy k
    have h2 := prod_getD hx hy (i * n + k) (k * c + j)
    rw [dotTo]
    omega
def partM (r n c : Nat) (xs ys : List Int) (p : Nat) : List Int := (mulM r n c xs ys).take p ++ List.replicate (r * c - p) 0
theorem partM_len {r n c p : Nat} {xs ys : List Int} (h : p ≤ r * c) : (partM r n c xs ys p).length = r * c := by
  simp [partM, mulM_len]; omega
theorem partM_zero {r n c : Nat} {xs ys : List Int} : List.replicate (r * c) 0 = partM r n c xs ys 0 := by simp [partM]
theorem partM_full {r n c : Nat} {xs ys : List Int} : partM r n c xs ys (r * c) = mulM r n c xs ys := by
  rw [partM, List.take_of_length_le (by rw [mulM_len]; omega)]; simp
theorem partM_set {r n c i j : Nat} {xs ys : List Int} (hi : i < r) (hj : j < c) : (partM r n c xs ys (i * c + j)).set (0 + ((i : Int) * c + j).toNat) (dotTo xs ys n c i j n) = partM r n c xs ys (i * c + j + 1) := by
  have h := cell_lt hi hj
  have := set_take_rep (xs := mulM r n c xs ys) (k := i * c + j) (by rw [mulM_len]; exact h)
  rw [mulM_at hi hj, mulM_len] at this
  rw [Nat.zero_add]
  exact this
theorem cell_facts {r c i j : Nat} (hi : i < r) (hj : j < c) (hr : r ≤ 24) (hc : c ≤ 24) : (0 ≤ (i : Int) * c ∧ (i : Int) * c ≤ 576) ∧ (i : Int) * c + j < ((r * c : Nat) : Int) := by
  have h := cell_lt hi hj
  exact ⟨nat_side (by omega) hc, by exact_mod_cast h⟩
def doneV (r c : Int) (k n cap : Nat) : Bool → AV
  | true => .tup [.agg [.int r, .int c, .sl k 1 0 n cap], .one (.bool true)]
  | false => .tup [.agg zeroM, .one (.bool false)]
theorem d_checked (r c : Int) (xs : List Int) (n cap : Nat) (hn : n = xs.length) (b : Bool) (hb : isM r c xs = b) (hl : xs.length ≤ 1099511627776) : Does Tryz.prog 56 [vM r c 1 n cap] [(1, .ro (.ints xs))] 2 (Ret (doneV r c 1 n cap b) 2) := by
  subst hn
  refine Does.intro TT Tryz.func56 rfl (by kernel_rfl) rfl rfl fun E hE => ?_
  cases b
  all_goals (repeat' (first | refine w_a TT rfl rfl rfl sd ?_ | refine w_b ?_ | refine w_c rfl rfl ?_ | refine w_d TT rfl rfl rfl rfl sd ?_ | refine w_e ?_ | refine w_f rfl rfl ?_ | refine w_g ?_ | refine w_h ?_ | ((first | refine w_z (d_isMatI _ _ _ _ hl) rfl rfl rfl rfl rfl rfl rfl rfl ft rfl rfl ?_ | refine w_A (d_isMatI _ _ _ _ hl) rfl rfl rfl rfl rfl rfl rfl rfl ft rfl rfl ?_) <;> simp only [hb]) | refine w_i ?_ | refine w_j ?_ | refine w_k ?_ | refine w_l ?_ | refine w_m rfl ?_ | refine w_n rfl ?_ | refine w_o TM rfl kr ?_ | ((first | refine w_p rfl rfl rfl (fun hc => ?_) (fun hc => ?_) | refine w_q rfl rfl rfl (fun hc => ?_) (fun hc => ?_) | refine w_r rfl (fun hc => ?_) (fun hc => ?_)) <;> ((try simp at hc) <;> try contradiction))))
  all_goals refine fin_ret rfl w_3 (rfl) rfl
def mulZ (r n n' c : Int) (xs ys : List Int) : Option (List Int) :=
  if isM r n xs && isM n' c ys && (n == n') && (mulM r.toNat n.toNat c.toNat xs ys).all numB then some (mulM r.toNat n.toNat c.toNat xs ys) else none
def GotZ (r c : Int) (t : TypeId) (o : Option (List Int)) (k : Nat) (v : AV) (Hout : List (Nat × Blk)) (n1 : Nat) : Prop := match o with
  | some zs => ∃ cap, zs.length ≤ cap ∧ v = doneV r c k zs.length cap true ∧ Hout = [(k, .own t cap (.ints zs))] ∧ n1 = k + 1
  | none => v = .tup [.agg zeroM, .one (.bool false)] ∧ Hout = [] ∧ n1 = k
theorem GotZ.no {r c : Int} {t : TypeId} {o : Option (List Int)} {k : Nat} (h : o = none) : GotZ r c t o k (.tup [.agg zeroM, .one (.bool false)]) [] k := by subst h; exact ⟨rfl, rfl, rfl⟩
theorem mulZ_no {r n n' c : Int} {xs ys : List Int} (h : (isM r n xs && isM n' c ys && (n == n')) = false) : mulZ r n n' c xs ys = none := by simp only [mulZ, h, Bool.false_and]; rfl
theorem mulZ_bad {r n c : Nat} {xs ys : List Int} (h : (mulM r n c xs ys).all numB = false) : mulZ r n n c xs ys = none := by simp only [mulZ, Int.toNat_natCast, h, Bool.and_false]; rfl
theorem mulZ_yes {r n c : Nat} {xs ys : List Int} (h1 : isM r n xs = true) (h2 : isM n c ys = true) (h : (mulM r n c xs ys).all numB = true) : mulZ r n n c xs ys = some (mulM r n c xs ys) := by
  simp [mulZ, h1, h2, h]
theorem GotZ.yes {r c : Int} {t : TypeId} {o : Option (List Int)} {zs : List Int} {k m cap : Nat} (h : o = some zs) (hm : m = zs.length) (hc : m ≤ cap) : GotZ r c t o k (doneV r c k m cap true) [(k, .own t cap (.ints zs))] (k + 1) := by subst h hm; exact ⟨cap, hc, rfl, rfl, rfl⟩
theorem isM_nat {r c : Nat} {xs : List Int} (h : isM r c xs = true) : r ≤ 24 ∧ c ≤ 24 ∧ xs.length = r * c ∧ xs.all numB = true := by
  obtain ⟨⟨h1, h2, h3, h4, h5⟩, h6⟩ := isM_true h
  exact ⟨by omega, by omega, by exact_mod_cast h5, h6⟩
theorem isM_mul {r n c : Nat} {xs ys : List Int} (hr : r ≤ 24) (hc : c ≤ 24) : isM r c (mulM r n c xs ys) = (mulM r n c xs ys).all numB := by
  have : (0 : Int) ≤ r ∧ (r : Int) ≤ 24 ∧ (0 : Int) ≤ c ∧ (c : Int) ≤ 24 ∧ ((mulM r n c xs ys).length : Int) = r * c := ⟨by omega, by omega, by omega, by omega, by rw [mulM_len]; simp⟩
  simp only [isM, decide_eq_true this, Bool.true_and]
theorem isM_pos {r c : Int} {xs : List Int} (h : isM r c xs = true) : ∃ r' c' : Nat, r = r' ∧ c = c' := by
  obtain ⟨⟨h1, h2, h3, h4, h5⟩, h6⟩ := isM_true h
  exact ⟨r.toNat, c.toNat, by omega, by omega⟩
end Go.Proofs.YtfkbjkmlpinoeaaGreat

/-
  PLAIN LAW: rows of a matrix made primitive, in place.
-/
namespace Go.Proofs.YtfkbjkmlpinoeaaGreat

def rowGcd (xs : List Int) (off : Nat) : Nat → Int
  | 0 => 0
  | k + 1 => (Int.gcd (rowGcd xs off k) (xs.getD (off + k) 0) : Int)
def sgnTo (xs : List Int) (off : Nat) : Nat → Int
  | 0 => 0
  | k + 1 => if sgnTo xs off k = 0 then (xs.getD (off + k) 0).sign else sgnTo xs off k
/-- the first k cells from off on, each by f -/
def updTo (xs : List Int) (off : Nat) (f : Nat → Int → Int) : Nat → List Int
  | 0 => xs
  | k + 1 => (updTo xs off f k).set (off + k) (f k (xs.getD (off + k) 0))
def primAt (xs : List Int) (off n : Nat) : List Int := if rowGcd xs off n = 0 then xs else updTo xs off (fun _ v => v.tdiv (sgnTo xs off n * rowGcd xs off n)) n
theorem updTo_len {xs : List Int} {off : Nat} {f : Nat → Int → Int} : ∀ {k : Nat}, (updTo xs off f k).length = xs.length
  | 0 => rfl
  | k + 1 => by simp [updTo, updTo_len]
theorem updTo_at {xs : List Int} {off : Nat} {f : Nat → Int → Int} {p : Nat} : ∀ {k : Nat}, (p < off ∨ off + k ≤ p) → (updTo xs off f k).getD p 0 = xs.getD p 0
  | 0, _ => rfl
  | k + 1, h => by
    have := updTo_at (xs := xs) (off := off) (f := f) (p := p) (k := k) (by omega)
    rw [updTo, List.getD_eq_getElem?_getD, List.getElem?_set_ne (by omega), ← List.getD_eq_getElem?_getD, this]
theorem rowGcd_bd {xs : List Int} {off : Nat} (h : xs.all numB = true) : ∀ k, 0 ≤ rowGcd xs off k ∧ rowGcd xs off k ≤ 400000000
  | 0 => by simp [rowGcd]
  | k + 1 => by
    have ih := rowGcd_bd (off := off) h k
    have hv := num_getD h (off + k)
    have := gcd_le_left (a := rowGcd xs off k) (b := xs.getD (off + k) 0) (M := 400000000) (by omega) ih.2 hv.1 hv.2
    simp only [rowGcd]
    omega
theorem rowGcd_none {xs : List Int} {off : Nat} : ∀ {n : Nat}, (∀ k, k < n → xs.getD (off + k) 0 = 0) → rowGcd xs off n = 0
  | 0, _ => rfl
  | n + 1, h => by
    rw [rowGcd, rowGcd_none (fun k hk => h k (by omega)), h n (by omega)]; rfl
theorem sgn_none {xs : List Int} {off : Nat} : ∀ {n : Nat}, (∀ k, k < n → xs.getD (off + k) 0 = 0) → sgnTo xs off n = 0
  | 0, _ => rfl
  | n + 1, h => by
    rw [sgnTo, sgn_none (fun k hk => h k (by omega)), h n (by omega)]; rfl
theorem sgn_first {xs : List Int} {off k : Nat} (h0 : xs.getD (off + k) 0 ≠ 0) (h : ∀ i, i < k → xs.getD (off + i) 0 = 0) : ∀ {n : Nat}, k < n → sgnTo xs off n = (xs.getD (off + k) 0).sign
  | n + 1, hn => by
    rcases Nat.lt_or_ge k n with c | c
    · have := sgn_first h0 h (n := n) c
      rw [sgnTo, this, if_neg (by intro e; exact h0 (Int.sign_eq_zero_iff_zero.1 e))]
    · obtain rfl : k = n := by omega
      rw [sgnTo, sgn_none h, if_pos rfl]
theorem tdiv_sgn {s g v : Int} (hs : s = 1 ∨ s = -1) : (s * v).tdiv g = v.tdiv (s * g) := by
  rcases hs with rfl | rfl
  · simp
  · simp [Int.neg_mul, Int.neg_tdiv, Int.tdiv_neg]
end Go.Proofs.YtfkbjkmlpinoeaaGreat
