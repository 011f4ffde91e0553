/-
  CONTRACT: whether another row has something in a column, of the program.
-/
import Derived.Test.YtmkoifmokdmebaabWork
set_option linter.unusedVariables false
set_option linter.unusedSimpArgs false
namespace Go.Proofs.Ytmkoifmokdmebaa
open Go.RowKit

theorem alone_no {xs : List Int} {c t j p n k : Nat} (h : k < n) (hp : t + k ≠ p) (h0 : xs.getD ((t + k) * c + j) 0 ≠ 0) : (!decide (alone xs c t j p n)) = true := by rw [decide_eq_false fun ha => h0 (ha k h hp)]; rfl
theorem alone_next {xs : List Int} {c t j p n : Nat} (h : alone xs c t j p n) (h1 : t + n = p ∨ xs.getD ((t + n) * c + j) 0 = 0) : alone xs c t j p (n + 1) := fun i hi hip => by
  rcases Nat.lt_or_ge i n with e | e
  · exact h i e hip
  · obtain rfl : i = n := by omega
    exact h1.resolve_left hip
set_option maxHeartbeats 2000000 in
theorem d_othersI (a b t p j nx cx cu cv : Nat) (bad : Bool) (xs : List Int) (hn : nx = xs.length) (hx : xs.length = a * b) (hnum : xs.all numB = true) (ha : a ≤ 24) (hb : b ≤ 24) (ht : t ≤ a) (hj : j < b) :
    Does Try.prog 144 [vW, vI t, vI p, vI j] [(2, .ro (.lit (workL 3 4 5 a b nx cx cu cv bad))), (3, .ro (.ints xs))] 6 (Ret (vB (!decide (alone xs b t j p (a - t)))) 6) := by
  subst hn
  refine Does.intro TT Try.func144 rfl (by kernel_rfl) rfl rfl fun E hE => ?_
  ((repeat' (first | (refine awpL_step TT rfl rfl rfl sd ?_) | (refine awpL_nil ?_) | (refine awpL_skip rfl rfl ?_) | (refine awpQ_step TT rfl rfl rfl rfl sd ?_) | (refine awpQ_nil ?_) | (refine awpQ_skip rfl rfl ?_) | (refine awp_seq ?_) | (refine awp_region ?_) | (refine awp_block ?_) | (refine awp_exit ?_) | (refine awp_skip ?_) | (refine awp_ret ?_) | (refine awp_cond_t rfl ?_) | (refine awp_cond_f rfl ?_) | (refine awp_quiet TM rfl (by kernel_rfl) ?_) | ((first | refine awpL_split rfl rfl rfl (fun hc => ?_) (fun hc => ?_) | refine awpQ_split rfl rfl rfl (fun hc => ?_) (fun hc => ?_) | refine awp_cond rfl (fun hc => ?_) (fun hc => ?_)) <;> ((try simp at hc) <;> try contradiction)))) <;> try (exfalso; omega))
  refine awp_loop hE (fun n : Nat => t + n ≤ a ∧ alone xs b t j p n) (fun n => a - (t + n))
    (fun n => [(0, vW), (2, vI p), (3, vI j), (9, vI ((t + n : Nat) : Int))]) (fun _ => [(2, .ro (.lit (workL 3 4 5 a b xs.length cx cu cv bad))), (3, .ro (.ints xs))]) 6 [] 0 ⟨by omega, fun i hi => by omega⟩ ⟨(by repeat' (first | exact trivial | refine ⟨rfl, ?_⟩ | refine ⟨congrArg some (congrArg vI (by first | omega | (simp; done) | (simp; omega))), ?_⟩ | refine ⟨sl_eqA (by first | omega | (simp; done) | (simp; omega)), ?_⟩)), (by repeat' (first | exact trivial | refine ⟨rfl, ?_⟩)), rfl⟩ ?_
  rintro n ⟨hn, hal⟩
  by_cases hna : t + n < a
  · have hcell := cell_facts hna hj ha hb
    have hab : a * b ≤ 24 * 24 := Nat.mul_le_mul ha hb
    have ecell := cell_nat (p := t + n) (k := j) (c := b)
    have hd := d_at a b (t + n : Nat) j xs cx (by omega) (by omega) (by omega) (by omega)
    rw [ecell] at hd
    have b1 := num_getD hnum ((t + n) * b + j)
    have w1 : xs[(t + n) * b + j]?.getD 0 = xs.getD ((t + n) * b + j) 0 := by simp
    by_cases h0 : t + n = p ∨ xs.getD ((t + n) * b + j) 0 = 0
    · have hal' := alone_next hal h0
      ((repeat' (first | (refine awpL_step TT rfl rfl rfl sd ?_) | (refine awpL_nil ?_) | (refine awpL_skip rfl rfl ?_) | (refine awpQ_step TT rfl rfl rfl rfl sd ?_) | (refine awpQ_nil ?_) | (refine awpQ_skip rfl rfl ?_) | (refine awp_seq ?_) | (refine awp_region ?_) | (first | refine awpL_ret (hd) rfl rfl rfl rfl rfl rfl rfl rfl ft rfl rfl ?_ | refine awpQ_ret (hd) rfl rfl rfl rfl rfl rfl rfl rfl ft rfl rfl ?_ | refine awpHop_ret _ (hd) rfl rfl rfl rfl rfl rfl rfl rfl rfl ft rfl rfl sb rfl ?_) | (refine awp_block ?_) | (refine awp_exit ?_) | (refine awp_skip ?_) | (refine awp_ret ?_) | (refine awp_cond_t rfl ?_) | (refine awp_cond_f rfl ?_) | (refine awp_quiet TM rfl (by kernel_rfl) ?_) | ((first | refine awpL_split rfl rfl rfl (fun hc => ?_) (fun hc => ?_) | refine awpQ_split rfl rfl rfl (fun hc => ?_) (fun hc => ?_) | refine awp_cond rfl (fun hc => ?_) (fun hc => ?_)) <;> ((try simp at hc) <;> try contradiction)))) <;> try (exfalso; omega))
      all_goals exact ⟨[], n + 1, ⟨by omega, hal'⟩, (by first | omega | (dsimp only; omega)), ⟨⟨rfl, rfl, rfl, congrArg some (congrArg vI (by omega)), trivial⟩, ⟨rfl, rfl, trivial⟩, rfl⟩⟩
    · have hF := alone_no (n := a - t) (show n < a - t by omega) (fun h => h0 (.inl h)) (fun h => h0 (.inr h))
      rw [hF]
      ((repeat' (first | (refine awpL_step TT rfl rfl rfl sd ?_) | (refine awpL_nil ?_) | (refine awpL_skip rfl rfl ?_) | (refine awpQ_step TT rfl rfl rfl rfl sd ?_) | (refine awpQ_nil ?_) | (refine awpQ_skip rfl rfl ?_) | (refine awp_seq ?_) | (refine awp_region ?_) | (first | refine awpL_ret (hd) rfl rfl rfl rfl rfl rfl rfl rfl ft rfl rfl ?_ | refine awpQ_ret (hd) rfl rfl rfl rfl rfl rfl rfl rfl ft rfl rfl ?_ | refine awpHop_ret _ (hd) rfl rfl rfl rfl rfl rfl rfl rfl rfl ft rfl rfl sb rfl ?_) | (refine awp_block ?_) | (refine awp_exit ?_) | (refine awp_skip ?_) | (refine awp_ret ?_) | (refine awp_cond_t rfl ?_) | (refine awp_cond_f rfl ?_) | (refine awp_quiet TM rfl (by kernel_rfl) ?_) | ((first | refine awpL_split rfl rfl rfl (fun hc => ?_) (fun hc => ?_) | refine awpQ_split rfl rfl rfl (fun hc => ?_) (fun hc => ?_) | refine awp_cond rfl (fun hc => ?_) (fun hc => ?_)) <;> ((try simp at hc) <;> try contradiction)))) <;> try (exfalso; omega))
      all_goals refine fin_ret rfl (by repeat' (first | exact trivial | exact Nat.zero_lt_one | omega | refine ⟨?_, ?_⟩)) (rfl) rfl
  · obtain rfl : n = a - t := by omega
    have hT : (!decide (alone xs b t j p (a - t))) = false := by rw [decide_eq_true hal]; rfl
    have e : t + (a - t) = a := by omega
    have e' : ((t + (a - t) : Nat) : Int) = a := by omega
    rw [e']
    rw [hT]
    ((repeat' (first | (refine awpL_step TT rfl rfl rfl sd ?_) | (refine awpL_nil ?_) | (refine awpL_skip rfl rfl ?_) | (refine awpQ_step TT rfl rfl rfl rfl sd ?_) | (refine awpQ_nil ?_) | (refine awpQ_skip rfl rfl ?_) | (refine awp_seq ?_) | (refine awp_region ?_) | (refine awp_block ?_) | (refine awp_exit ?_) | (refine awp_skip ?_) | (refine awp_ret ?_) | (refine awp_cond_t rfl ?_) | (refine awp_cond_f rfl ?_) | (refine awp_quiet TM rfl (by kernel_rfl) ?_) | ((first | refine awpL_split rfl rfl rfl (fun hc => ?_) (fun hc => ?_) | refine awpQ_split rfl rfl rfl (fun hc => ?_) (fun hc => ?_) | refine awp_cond rfl (fun hc => ?_) (fun hc => ?_)) <;> ((try simp at hc) <;> try contradiction)))) <;> try (exfalso; omega))
    all_goals refine fin_ret rfl (by repeat' (first | exact trivial | exact Nat.zero_lt_one | omega | refine ⟨?_, ?_⟩)) (rfl) rfl
end Go.Proofs.Ytmkoifmokdmebaa
