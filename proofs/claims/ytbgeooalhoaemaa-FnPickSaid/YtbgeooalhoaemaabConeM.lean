/-
  CONTRACTS: matrices of cones, bodies, of both packages.
-/
import Derived.Test.YtbgeooalhoaemaabMat
set_option linter.unusedVariables false
set_option linter.unusedSimpArgs false
namespace Go.Proofs.Ytbgeooalhoaemaa
open Go.RowKit

def coneM (r c : Int) (xs : List Int) : Bool := isM r c xs && decide (r ≤ 8 ∧ 1 ≤ c ∧ c ≤ 3)
theorem d_coneI (r c : Int) (xs : List Int) (ca : Nat) (hl : xs.length ≤ 1099511627776) : Does Try.prog 18 [vM r c 1 xs.length ca] [(1, .ro (.ints xs))] 2 (Ret (vB (coneM r c xs)) 2) := by
  refine Does.intro TT Try.func18 rfl (by kernel_rfl) rfl rfl fun E hE => ?_
  cases hm : isM r c xs
  all_goals ((repeat' (first | (refine awpL_step TT rfl rfl rfl sd ?_) | (refine awpL_nil ?_) | (refine awpL_skip rfl rfl ?_) | (refine awpQ_step TT rfl rfl rfl rfl sd ?_) | (refine awpQ_nil ?_) | (refine awpQ_skip rfl rfl ?_) | (refine awp_seq ?_) | (refine awp_region ?_) | ((first | refine awpL_ret (d_isMatI _ _ _ _ hl) rfl rfl rfl rfl rfl rfl rfl rfl ft rfl rfl ?_ | refine awpQ_ret (d_isMatI _ _ _ _ hl) rfl rfl rfl rfl rfl rfl rfl rfl ft rfl rfl ?_ | refine awpHop_ret _ (d_isMatI _ _ _ _ hl) rfl rfl rfl rfl rfl rfl rfl rfl rfl ft rfl rfl sb rfl ?_) <;> simp only [hm]) | (refine awp_block ?_) | (refine awp_exit ?_) | (refine awp_skip ?_) | (refine awp_ret ?_) | (refine awp_cond_t rfl ?_) | (refine awp_cond_f rfl ?_) | (refine awp_quiet TM rfl (by kernel_rfl) ?_) | ((first | refine awpL_split rfl rfl rfl (fun hc => ?_) (fun hc => ?_) | refine awpQ_split rfl rfl rfl (fun hc => ?_) (fun hc => ?_) | refine awp_cond rfl (fun hc => ?_) (fun hc => ?_)) <;> ((try simp at hc) <;> try contradiction)))) <;> try (exfalso; omega))
  all_goals refine fin_ret rfl (by repeat' (first | exact trivial | exact Nat.zero_lt_one | omega | refine ⟨?_, ?_⟩)) (congrArg vB (by rw [Bool.eq_iff_iff]; simp [coneM, hm]; try omega)) rfl
theorem d_coneS (r c : Int) (xs : List Int) (ca : Nat) (hl : xs.length ≤ 1099511627776) : Does Try.prog 16 [vM r c 1 xs.length ca] [(1, .ro (.ints xs))] 2 (Ret (vB (coneM r c xs)) 2) := by
  refine Does.intro TT Try.func16 rfl (by kernel_rfl) rfl rfl fun E hE => ?_
  cases hm : isM r c xs <;> cases hi : inB c 1 3
  all_goals ((repeat' (first | (refine awpL_step TT rfl rfl rfl sd ?_) | (refine awpL_nil ?_) | (refine awpL_skip rfl rfl ?_) | (refine awpQ_step TT rfl rfl rfl rfl sd ?_) | (refine awpQ_nil ?_) | (refine awpQ_skip rfl rfl ?_) | (refine awp_seq ?_) | (refine awp_region ?_) | ((first | refine awpL_ret (d_isMatS _ _ _ _ hl) rfl rfl rfl rfl rfl rfl rfl rfl ft rfl rfl ?_ | refine awpQ_ret (d_isMatS _ _ _ _ hl) rfl rfl rfl rfl rfl rfl rfl rfl ft rfl rfl ?_ | refine awpHop_ret _ (d_isMatS _ _ _ _ hl) rfl rfl rfl rfl rfl rfl rfl rfl rfl ft rfl rfl sb rfl ?_) <;> simp only [hm]) | ((first | refine awpL_ret (d_l1In _ _ _) rfl rfl rfl rfl rfl rfl rfl rfl ft rfl rfl ?_ | refine awpQ_ret (d_l1In _ _ _) rfl rfl rfl rfl rfl rfl rfl rfl ft rfl rfl ?_ | refine awpHop_ret _ (d_l1In _ _ _) rfl rfl rfl rfl rfl rfl rfl rfl rfl ft rfl rfl sb rfl ?_) <;> simp only [hi]) | (refine awp_block ?_) | (refine awp_exit ?_) | (refine awp_skip ?_) | (refine awp_ret ?_) | (refine awp_cond_t rfl ?_) | (refine awp_cond_f rfl ?_) | (refine awp_quiet TM rfl (by kernel_rfl) ?_) | ((first | refine awpL_split rfl rfl rfl (fun hc => ?_) (fun hc => ?_) | refine awpQ_split rfl rfl rfl (fun hc => ?_) (fun hc => ?_) | refine awp_cond rfl (fun hc => ?_) (fun hc => ?_)) <;> ((try simp at hc) <;> try contradiction)))) <;> try (exfalso; omega))
  all_goals first
    | (have h := inB_true.1 hi; refine fin_ret rfl (by repeat' (first | exact trivial | exact Nat.zero_lt_one | omega | refine ⟨?_, ?_⟩)) (congrArg vB (by rw [Bool.eq_iff_iff]; simp [coneM, hm]; try omega)) rfl)
    | (have h := inB_false.1 hi; refine fin_ret rfl (by repeat' (first | exact trivial | exact Nat.zero_lt_one | omega | refine ⟨?_, ?_⟩)) (congrArg vB (by rw [Bool.eq_iff_iff]; simp [coneM, hm]; try omega)) rfl)
theorem coneM_dims {r c : Int} {xs : List Int} (h : coneM r c xs = true) : ∃ a b : Nat, r = a ∧ c = b ∧ a ≤ 8 ∧ 1 ≤ b ∧ b ≤ 3 ∧ xs.length = a * b ∧ xs.all numB = true := by
  simp only [coneM, Bool.and_eq_true, decide_eq_true_eq] at h
  obtain ⟨h1, h2⟩ := h
  obtain ⟨a, b, rfl, rfl⟩ := isM_pos h1
  obtain ⟨_, _, h3, h4⟩ := isM_nat h1
  exact ⟨a, b, rfl, rfl, by omega, by omega, by omega, h3, h4⟩
def bodyM (r c : Int) (xs bs : List Int) : Bool := coneM r c xs && decide ((bs.length : Int) = r) && bs.all numB
set_option maxRecDepth 100000 in
theorem d_bodyI (r c : Int) (xs bs : List Int) (ca cb : Nat) (hl : xs.length ≤ 1099511627776) (hl' : bs.length ≤ 1099511627776) : Does Try.prog 27 [vM r c 1 xs.length ca, vS 2 1 0 bs.length cb] [(1, .ro (.ints xs)), (2, .ro (.ints bs))] 3 (Ret (vB (bodyM r c xs bs)) 3) := by
  refine Does.intro TT Try.func27 rfl (by kernel_rfl) rfl rfl fun E hE => ?_
  have hd := d_areNumbers bs cb hl'
  cases h1 : coneM r c xs <;> cases h3 : bs.all numB <;> by_cases h2 : (bs.length : Int) = r
  all_goals
    rw [h3] at hd
    have hs : bodyM r c xs bs = (coneM r c xs && decide ((bs.length : Int) = r) && bs.all numB) := rfl
    simp only [h1, h2, h3, decide_true, decide_false, Bool.and_true, Bool.and_false, Bool.false_and] at hs
    ((repeat' (first | (refine awpL_step TT rfl rfl rfl sd ?_) | (refine awpL_nil ?_) | (refine awpL_skip rfl rfl ?_) | (refine awpQ_step TT rfl rfl rfl rfl sd ?_) | (refine awpQ_nil ?_) | (refine awpQ_skip rfl rfl ?_) | (refine awp_seq ?_) | (refine awp_region ?_) | ((first | refine awpL_ret (d_coneI _ _ _ _ hl) rfl rfl rfl rfl rfl rfl rfl rfl ft rfl rfl ?_ | refine awpQ_ret (d_coneI _ _ _ _ hl) rfl rfl rfl rfl rfl rfl rfl rfl ft rfl rfl ?_ | refine awpHop_ret _ (d_coneI _ _ _ _ hl) rfl rfl rfl rfl rfl rfl rfl rfl rfl ft rfl rfl sb rfl ?_) <;> simp only [h1]) | (first | refine awpL_ret (hd) rfl rfl rfl rfl rfl rfl rfl rfl ft rfl rfl ?_ | refine awpQ_ret (hd) rfl rfl rfl rfl rfl rfl rfl rfl ft rfl rfl ?_ | refine awpHop_ret _ (hd) rfl rfl rfl rfl rfl rfl rfl rfl rfl ft rfl rfl sb rfl ?_) | (refine awp_block ?_) | (refine awp_exit ?_) | (refine awp_skip ?_) | (refine awp_ret ?_) | (refine awp_cond_t rfl ?_) | (refine awp_cond_f rfl ?_) | (refine awp_quiet TM rfl (by kernel_rfl) ?_) | ((first | refine awpL_split rfl rfl rfl (fun hc => ?_) (fun hc => ?_) | refine awpQ_split rfl rfl rfl (fun hc => ?_) (fun hc => ?_) | refine awp_cond rfl (fun hc => ?_) (fun hc => ?_)) <;> ((try simp at hc) <;> try contradiction)))) <;> try (exfalso; omega))
  all_goals refine fin_ret rfl (by repeat' (first | exact trivial | exact Nat.zero_lt_one | omega | refine ⟨?_, ?_⟩)) (congrArg vB hs.symm) rfl
set_option maxRecDepth 100000 in
theorem d_bodyS (r c : Int) (xs bs : List Int) (ca cb : Nat) (hl : xs.length ≤ 1099511627776) (hl' : bs.length ≤ 1099511627776) : Does Try.prog 25 [vM r c 1 xs.length ca, vS 2 1 0 bs.length cb] [(1, .ro (.ints xs)), (2, .ro (.ints bs))] 3 (Ret (vB (bodyM r c xs bs)) 3) := by
  refine Does.intro TT Try.func25 rfl (by kernel_rfl) rfl rfl fun E hE => ?_
  have hd := d_isMatS 1 bs.length bs cb hl'
  cases h1 : coneM r c xs
  · have hs : bodyM r c xs bs = false := by simp [bodyM, h1]
    ((repeat' (first | (refine awpL_step TT rfl rfl rfl sd ?_) | (refine awpL_nil ?_) | (refine awpL_skip rfl rfl ?_) | (refine awpQ_step TT rfl rfl rfl rfl sd ?_) | (refine awpQ_nil ?_) | (refine awpQ_skip rfl rfl ?_) | (refine awp_seq ?_) | (refine awp_region ?_) | ((first | refine awpL_ret (d_coneS _ _ _ _ hl) rfl rfl rfl rfl rfl rfl rfl rfl ft rfl rfl ?_ | refine awpQ_ret (d_coneS _ _ _ _ hl) rfl rfl rfl rfl rfl rfl rfl rfl ft rfl rfl ?_ | refine awpHop_ret _ (d_coneS _ _ _ _ hl) rfl rfl rfl rfl rfl rfl rfl rfl rfl ft rfl rfl sb rfl ?_) <;> simp only [h1]) | (refine awp_block ?_) | (refine awp_exit ?_) | (refine awp_skip ?_) | (refine awp_ret ?_) | (refine awp_cond_t rfl ?_) | (refine awp_cond_f rfl ?_) | (refine awp_quiet TM rfl (by kernel_rfl) ?_) | ((first | refine awpL_split rfl rfl rfl (fun hc => ?_) (fun hc => ?_) | refine awpQ_split rfl rfl rfl (fun hc => ?_) (fun hc => ?_) | refine awp_cond rfl (fun hc => ?_) (fun hc => ?_)) <;> ((try simp at hc) <;> try contradiction)))) <;> try (exfalso; omega))
    all_goals refine fin_ret rfl (by repeat' (first | exact trivial | exact Nat.zero_lt_one | omega | refine ⟨?_, ?_⟩)) (congrArg vB hs.symm) rfl
  · obtain ⟨a, b, rfl, rfl, ha, hb1, hb, hx, hnum⟩ := coneM_dims h1
    by_cases h2 : (bs.length : Int) = a
    · have hs : bodyM a b xs bs = isM 1 bs.length bs := by
        rw [Bool.eq_iff_iff]
        simp only [bodyM, h1, h2, isM, decide_true, Bool.true_and, Bool.and_eq_true, decide_eq_true_eq]
        constructor
        · intro h; exact ⟨by omega, h⟩
        · rintro ⟨_, h⟩; exact h
      ((repeat' (first | (refine awpL_step TT rfl rfl rfl sd ?_) | (refine awpL_nil ?_) | (refine awpL_skip rfl rfl ?_) | (refine awpQ_step TT rfl rfl rfl rfl sd ?_) | (refine awpQ_nil ?_) | (refine awpQ_skip rfl rfl ?_) | (refine awp_seq ?_) | (refine awp_region ?_) | ((first | refine awpL_ret (d_coneS _ _ _ _ hl) rfl rfl rfl rfl rfl rfl rfl rfl ft rfl rfl ?_ | refine awpQ_ret (d_coneS _ _ _ _ hl) rfl rfl rfl rfl rfl rfl rfl rfl ft rfl rfl ?_ | refine awpHop_ret _ (d_coneS _ _ _ _ hl) rfl rfl rfl rfl rfl rfl rfl rfl rfl ft rfl rfl sb rfl ?_) <;> simp only [h1]) | (first | refine awpL_ret (hd) rfl rfl rfl rfl rfl rfl rfl rfl ft rfl rfl ?_ | refine awpQ_ret (hd) rfl rfl rfl rfl rfl rfl rfl rfl ft rfl rfl ?_ | refine awpHop_ret _ (hd) rfl rfl rfl rfl rfl rfl rfl rfl rfl ft rfl rfl sb rfl ?_) | (refine awp_block ?_) | (refine awp_exit ?_) | (refine awp_skip ?_) | (refine awp_ret ?_) | (refine awp_cond_t rfl ?_) | (refine awp_cond_f rfl ?_) | (refine awp_quiet TM rfl (by kernel_rfl) ?_) | ((first | refine awpL_split rfl rfl rfl (fun hc => ?_) (fun hc => ?_) | refine awpQ_split rfl rfl rfl (fun hc => ?_) (fun hc => ?_) | refine awp_cond rfl (fun hc => ?_) (fun hc => ?_)) <;> ((try simp at hc) <;> try contradiction)))) <;> try (exfalso; omega))
      all_goals refine fin_ret rfl (by repeat' (first | exact trivial | exact Nat.zero_lt_one | omega | refine ⟨?_, ?_⟩)) (congrArg vB hs.symm) rfl
    · have hs : bodyM a b xs bs = false := by unfold bodyM; rw [decide_eq_false h2]; simp
      ((repeat' (first | (refine awpL_step TT rfl rfl rfl sd ?_) | (refine awpL_nil ?_) | (refine awpL_skip rfl rfl ?_) | (refine awpQ_step TT rfl rfl rfl rfl sd ?_) | (refine awpQ_nil ?_) | (refine awpQ_skip rfl rfl ?_) | (refine awp_seq ?_) | (refine awp_region ?_) | ((first | refine awpL_ret (d_coneS _ _ _ _ hl) rfl rfl rfl rfl rfl rfl rfl rfl ft rfl rfl ?_ | refine awpQ_ret (d_coneS _ _ _ _ hl) rfl rfl rfl rfl rfl rfl rfl rfl ft rfl rfl ?_ | refine awpHop_ret _ (d_coneS _ _ _ _ hl) rfl rfl rfl rfl rfl rfl rfl rfl rfl ft rfl rfl sb rfl ?_) <;> simp only [h1]) | (refine awp_block ?_) | (refine awp_exit ?_) | (refine awp_skip ?_) | (refine awp_ret ?_) | (refine awp_cond_t rfl ?_) | (refine awp_cond_f rfl ?_) | (refine awp_quiet TM rfl (by kernel_rfl) ?_) | ((first | refine awpL_split rfl rfl rfl (fun hc => ?_) (fun hc => ?_) | refine awpQ_split rfl rfl rfl (fun hc => ?_) (fun hc => ?_) | refine awp_cond rfl (fun hc => ?_) (fun hc => ?_)) <;> ((try simp at hc) <;> try contradiction)))) <;> try (exfalso; omega))
      all_goals refine fin_ret rfl (by repeat' (first | exact trivial | exact Nat.zero_lt_one | omega | refine ⟨?_, ?_⟩)) (congrArg vB hs.symm) rfl
end Go.Proofs.Ytbgeooalhoaemaa
