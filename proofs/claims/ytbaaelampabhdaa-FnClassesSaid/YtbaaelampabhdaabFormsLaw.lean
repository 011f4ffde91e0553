/-
  THE LAW FnExactFormsOf, walked on described states.
-/
import Derived.Test.YtbaaelampabhdaabForms
set_option linter.unusedVariables false
set_option linter.unusedSimpArgs false
namespace Go.Proofs.Ytbaaelampabhdaa
open Go.RowKit

theorem allF_small {d : Int} {N : Nat} (hN : N ≤ 18) : (if discB d then allF d N else []).length ≤ 1000 := by
  have := allF_len (d := d) (i := N) (by omega)
  split
  · omega
  · simp
set_option maxHeartbeats 400000 in
theorem d_lawForms (d : Int) : Does Try.prog 6 [vI d] [] 1 (Ret (vB true) 1) := by
  obtain ⟨N, hN, hu⟩ : ∃ N, N ≤ 18 ∧ (discB d = true → Upto d N) := by
    cases hd : discB d
    · exact ⟨0, by omega, fun h => by cases h⟩
    · obtain ⟨N, h1, h2⟩ := upto_ex (discB_true.1 hd).1
      exact ⟨N, h1, fun _ => h2⟩
  refine Does.intro TT Try.func6 rfl (by kernel_rfl) rfl rfl fun E hE => ?_
  have hl := allF_small (d := d) hN
  generalize hys : (if discB d then allF d N else []) = ys at hl
  have hS : Does Try.prog 24 [vI d] [] 1 (GotF 26 ys 1) := by rw [← hys]; exact d_formsS d N hN hu
  have hI : Does Try.prog 25 [vI d] [] 1 (GotF 26 ys 1) := by rw [← hys]; exact d_formsI d N hN hu
  (repeat' (first | (refine awpL_step TT rfl rfl rfl (by first | exact trivial | exact Nat.zero_lt_one | omega | (unfold InR; omega) | (show _ < List.length _; omega) | ((repeat' refine ⟨?_, ?_⟩) <;> first | omega | exact Nat.zero_lt_one | (unfold InR; omega) | (show _ < List.length _; omega) | (show _ = List.length _; omega) | (simp [Elts.len]; done) | (simp [Elts.len]; omega)) | (simp [Elts.len]; done) | (simp [Elts.len]; omega)) ?_) | (refine awpL_nil ?_) | (refine awpL_skip rfl rfl ?_) | (refine awpQ_step TT rfl rfl rfl rfl (by first | exact trivial | exact Nat.zero_lt_one | omega | (unfold InR; omega) | (show _ < List.length _; omega) | ((repeat' refine ⟨?_, ?_⟩) <;> first | omega | exact Nat.zero_lt_one | (unfold InR; omega) | (show _ < List.length _; omega) | (show _ = List.length _; omega) | (simp [Elts.len]; done) | (simp [Elts.len]; omega)) | (simp [Elts.len]; done) | (simp [Elts.len]; omega)) ?_) | (refine awpQ_nil ?_) | (refine awpQ_skip rfl rfl ?_) | (refine awp_seq ?_) | (refine awp_region ?_) | ((first | refine awpL_one (hS) rfl rfl rfl rfl rfl rfl rfl (by repeat' (first | exact trivial | refine ⟨.inl rfl, ?_⟩ | refine ⟨.inr ⟨rfl, rfl⟩, ?_⟩)) rfl rfl (GotF.out) ?_ | refine awpHop_one _ (hS) rfl rfl rfl rfl rfl rfl rfl rfl (by repeat' (first | exact trivial | refine ⟨.inl rfl, ?_⟩ | refine ⟨.inr ⟨rfl, rfl⟩, ?_⟩)) rfl rfl (GotF.out) (by repeat' (first | exact trivial | refine ⟨rfl, ?_⟩)) rfl rfl ?_); rintro v b h; obtain ⟨cap1, hcap1, rfl, he, -⟩ := h; cases he) | ((first | refine awpL_one (hI) rfl rfl rfl rfl rfl rfl rfl (by repeat' (first | exact trivial | refine ⟨.inl rfl, ?_⟩ | refine ⟨.inr ⟨rfl, rfl⟩, ?_⟩)) rfl rfl (GotF.out) ?_ | refine awpHop_one _ (hI) rfl rfl rfl rfl rfl rfl rfl rfl (by repeat' (first | exact trivial | refine ⟨.inl rfl, ?_⟩ | refine ⟨.inr ⟨rfl, rfl⟩, ?_⟩)) rfl rfl (GotF.out) (by repeat' (first | exact trivial | refine ⟨rfl, ?_⟩)) rfl rfl ?_); rintro v b h; obtain ⟨cap2, hcap2, rfl, he, -⟩ := h; cases he) | (first | refine awpL_ret (d_eqFormS ys ys _ _ (by omega) (by omega)) rfl rfl rfl rfl rfl rfl rfl rfl (by repeat' (first | exact trivial | refine ⟨.inl rfl, ?_⟩ | refine ⟨.inr ⟨rfl, rfl⟩, ?_⟩)) rfl rfl ?_ | refine awpQ_ret (d_eqFormS ys ys _ _ (by omega) (by omega)) rfl rfl rfl rfl rfl rfl rfl rfl (by repeat' (first | exact trivial | refine ⟨.inl rfl, ?_⟩ | refine ⟨.inr ⟨rfl, rfl⟩, ?_⟩)) rfl rfl ?_ | refine awpHop_ret _ (d_eqFormS ys ys _ _ (by omega) (by omega)) rfl rfl rfl rfl rfl rfl rfl rfl rfl (by repeat' (first | exact trivial | refine ⟨.inl rfl, ?_⟩ | refine ⟨.inr ⟨rfl, rfl⟩, ?_⟩)) rfl rfl (by repeat' (first | exact trivial | refine ⟨rfl, ?_⟩)) rfl ?_) | ((refine awpL_call (d_markFormS ys _ _ _ (by omega) (by omega) (by omega)) rfl rfl rfl rfl rfl rfl rfl (by repeat' (first | exact trivial | refine ⟨.inl rfl, ?_⟩ | refine ⟨.inr ⟨rfl, rfl⟩, ?_⟩)) rfl ?_); rintro v Hout n1 ⟨rfl, rfl, rfl⟩) | (first | refine awpL_ret (d_heldFormS ys.length _ _ (by omega) (by omega) (by omega)) rfl rfl rfl rfl rfl rfl rfl rfl (by repeat' (first | exact trivial | refine ⟨.inl rfl, ?_⟩ | refine ⟨.inr ⟨rfl, rfl⟩, ?_⟩)) rfl rfl ?_ | refine awpQ_ret (d_heldFormS ys.length _ _ (by omega) (by omega) (by omega)) rfl rfl rfl rfl rfl rfl rfl rfl (by repeat' (first | exact trivial | refine ⟨.inl rfl, ?_⟩ | refine ⟨.inr ⟨rfl, rfl⟩, ?_⟩)) rfl rfl ?_ | refine awpHop_ret _ (d_heldFormS ys.length _ _ (by omega) (by omega) (by omega)) rfl rfl rfl rfl rfl rfl rfl rfl rfl (by repeat' (first | exact trivial | refine ⟨.inl rfl, ?_⟩ | refine ⟨.inr ⟨rfl, rfl⟩, ?_⟩)) rfl rfl (by repeat' (first | exact trivial | refine ⟨rfl, ?_⟩)) rfl ?_) | (refine awp_block ?_) | (refine awp_exit ?_) | (refine awp_skip ?_) | (refine awp_ret ?_) | (refine awp_cond_t rfl ?_) | (refine awp_cond_f rfl ?_) | (refine awp_quiet TM rfl (by kernel_rfl) ?_) | ((first | refine awpL_split rfl rfl rfl (fun hc => ?_) (fun hc => ?_) | refine awpQ_split rfl rfl rfl (fun hc => ?_) (fun hc => ?_) | refine awp_cond rfl (fun hc => ?_) (fun hc => ?_)) <;> ((try simp at hc) <;> try contradiction))))
  all_goals refine fin_ret rfl (by repeat' (first | exact trivial | exact Nat.zero_lt_one | omega | refine ⟨?_, ?_⟩)) (rfl) rfl
end Go.Proofs.Ytbaaelampabhdaa
