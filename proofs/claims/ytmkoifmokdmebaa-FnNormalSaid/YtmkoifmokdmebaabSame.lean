/-
  CONTRACTS: the laws' own comparison of lists of numbers.
-/
import Derived.Test.YtmkoifmokdmebaabSlice
set_option linter.unusedVariables false
set_option linter.unusedSimpArgs false
namespace Go.Proofs.Ytmkoifmokdmebaa
open Go.RowKit

theorem d_sameI (xs ys : List Int) (c d : Nat) (hl : xs.length ≤ 1099511627776) (hl' : ys.length ≤ 1099511627776) : Does Try.prog 38 [vS 1 1 0 xs.length c, vS 2 1 0 ys.length d] [(1, .ro (.ints xs)), (2, .ro (.ints ys))] 3 (Ret (vB (decide (xs = ys))) 3) := by
  refine Does.intro TT Try.func38 rfl (by kernel_rfl) rfl rfl fun E hE => ?_
  (repeat' (first | (refine awpL_step TT rfl rfl rfl sd ?_) | (refine awpL_nil ?_) | (refine awpL_skip rfl rfl ?_) | (refine awpQ_step TT rfl rfl rfl rfl sd ?_) | (refine awpQ_nil ?_) | (refine awpQ_skip rfl rfl ?_) | (refine awp_seq ?_) | (refine awp_region ?_) | (refine awp_block ?_) | (refine awp_exit ?_) | (refine awp_skip ?_) | (refine awp_ret ?_) | (refine awp_cond_t rfl ?_) | (refine awp_cond_f rfl ?_) | (refine awp_quiet TM rfl (by kernel_rfl) ?_) | ((first | refine awpL_split rfl rfl rfl (fun hc => ?_) (fun hc => ?_) | refine awpQ_split rfl rfl rfl (fun hc => ?_) (fun hc => ?_) | refine awp_cond rfl (fun hc => ?_) (fun hc => ?_)) <;> ((try simp at hc) <;> try contradiction))))
  · refine fin_ret rfl (by repeat' (first | exact trivial | exact Nat.zero_lt_one | omega | refine ⟨?_, ?_⟩)) (congrArg vB ?_) rfl
    symm; apply decide_eq_false; intro e; subst e; exact hc rfl
  · refine awp_loop hE (fun k : Nat => k ≤ xs.length ∧ xs.take k = ys.take k) (fun k => xs.length - k)
      (fun k => [(0, vS 1 1 0 xs.length c), (1, vS 2 1 0 ys.length d), (5, vI k)]) (fun _ => [(1, .ro (.ints xs)), (2, .ro (.ints ys))]) 3 [] 0 ⟨Nat.zero_le _, rfl⟩ ⟨(by repeat' (first | exact trivial | refine ⟨rfl, ?_⟩ | refine ⟨congrArg some (congrArg vI (by first | omega | (simp; done) | (simp; omega))), ?_⟩ | refine ⟨sl_eqA (by first | omega | (simp; done) | (simp; omega)), ?_⟩)), (by repeat' (first | exact trivial | refine ⟨rfl, ?_⟩)), rfl⟩ ?_
    rintro k ⟨h1, h2⟩
    (repeat' (first | (refine awpL_step TT rfl rfl rfl sd ?_) | (refine awpL_nil ?_) | (refine awpL_skip rfl rfl ?_) | (refine awpQ_step TT rfl rfl rfl rfl sd ?_) | (refine awpQ_nil ?_) | (refine awpQ_skip rfl rfl ?_) | (refine awp_seq ?_) | (refine awp_region ?_) | (refine awp_block ?_) | (refine awp_exit ?_) | (refine awp_skip ?_) | (refine awp_ret ?_) | (refine awp_cond_t rfl ?_) | (refine awp_cond_f rfl ?_) | (refine awp_quiet TM rfl (by kernel_rfl) ?_) | ((first | refine awpL_split rfl rfl rfl (fun hc => ?_) (fun hc => ?_) | refine awpQ_split rfl rfl rfl (fun hc => ?_) (fun hc => ?_) | refine awp_cond rfl (fun hc => ?_) (fun hc => ?_)) <;> ((try simp at hc) <;> try contradiction))))
    · refine fin_ret rfl (by repeat' (first | exact trivial | exact Nat.zero_lt_one | omega | refine ⟨?_, ?_⟩)) (congrArg vB ?_) rfl
      symm; apply decide_eq_false; intro e; subst e; exact hc rfl
    · have hk : k < ys.length := by omega
      refine ⟨[], k + 1, ⟨by omega, ?_⟩, (by first | omega | (dsimp only; omega)), ⟨(by repeat' (first | exact trivial | refine ⟨rfl, ?_⟩ | refine ⟨congrArg some (congrArg vI (by first | omega | (simp; done) | (simp; omega))), ?_⟩ | refine ⟨sl_eqA (by first | omega | (simp; done) | (simp; omega)), ?_⟩)), (by repeat' (first | exact trivial | refine ⟨rfl, ?_⟩)), rfl⟩⟩
      rw [gD (by assumption), gD hk] at hc
      rw [List.take_succ_eq_append_getElem (by assumption), List.take_succ_eq_append_getElem hk, h2, hc]
    · refine fin_ret rfl (by repeat' (first | exact trivial | exact Nat.zero_lt_one | omega | refine ⟨?_, ?_⟩)) (congrArg vB ?_) rfl
      rw [List.take_of_length_le (by omega), List.take_of_length_le (by omega)] at h2
      simp [h2]
end Go.Proofs.Ytmkoifmokdmebaa
