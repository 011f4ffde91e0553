/-
  CONTRACTS: ReduceForm and EquivalentForms, the program's.
-/
import Derived.Test.YtbaaelampabhdaabRed
set_option linter.unusedVariables false
set_option linter.unusedSimpArgs false
namespace Go.Proofs.Ytbaaelampabhdaa
open Go.RowKit

def GotM (t : TypeId) (f : F3) (N : Nat) (ok : Bool) (k : Nat) (v : AV) (Hout : List (Nat × Blk)) (n1 : Nat) : Prop :=
  match ok with
  | true => v = .tup [.agg (litF (rst f N).1), .agg [.int 2, .int 2, .sl k 1 0 4 4], .one (.bool true)] ∧ Hout = [(k, .own t 4 (.ints [(rst f N).2.1, (rst f N).2.2.1, (rst f N).2.2.2.1, (rst f N).2.2.2.2]))] ∧ n1 = k + 1
  | false => v = .tup [.agg [.int 0, .int 0, .int 0], .agg [.int 0, .int 0, .sl 0 1 0 0 0], .one (.bool false)] ∧ Hout = [] ∧ n1 = k
set_option maxHeartbeats 2000000 in
theorem d_redI (a b c : Int) (N : Nat) (hN : isFormB a b c = true → RedTo (a, b, c) N) : Does Try.prog 37 [.agg [.int a, .int b, .int c]] [] 1 (GotM 3 (a, b, c) N (isFormB a b c) 1) := by
  refine Does.intro TT Try.func37 rfl (by kernel_rfl) rfl rfl fun E hE => ?_
  cases hf : isFormB a b c
  · (repeat' (first | (refine awpL_step TT rfl rfl rfl sd ?_) | (refine awpL_nil ?_) | (refine awpL_skip rfl rfl ?_) | (refine awpQ_step TT rfl rfl rfl rfl sd ?_) | (refine awpQ_nil ?_) | (refine awpQ_skip rfl rfl ?_) | (refine awp_seq ?_) | (refine awp_region ?_) | ((first | refine awpL_ret (d_isFormI _ _ _) rfl rfl rfl rfl rfl rfl rfl rfl ft rfl rfl ?_ | refine awpQ_ret (d_isFormI _ _ _) rfl rfl rfl rfl rfl rfl rfl rfl ft rfl rfl ?_ | refine awpHop_ret _ (d_isFormI _ _ _) rfl rfl rfl rfl rfl rfl rfl rfl rfl ft rfl rfl sb rfl ?_) <;> simp only [hf]) | (refine awp_block ?_) | (refine awp_exit ?_) | (refine awp_skip ?_) | (refine awp_ret ?_) | (refine awp_cond_t rfl ?_) | (refine awp_cond_f rfl ?_) | (refine awp_quiet TM rfl (by kernel_rfl) ?_) | ((first | refine awpL_split rfl rfl rfl (fun hc => ?_) (fun hc => ?_) | refine awpQ_split rfl rfl rfl (fun hc => ?_) (fun hc => ?_) | refine awp_cond rfl (fun hc => ?_) (fun hc => ?_)) <;> ((try simp at hc) <;> try contradiction))))
    exact fin rfl (by repeat' (first | exact trivial | exact Nat.zero_lt_one | omega | refine ⟨?_, ?_⟩)) [] (.tup [.agg [.int 0, .int 0, .int 0], .agg [.int 0, .int 0, .sl 0 1 0 0 0], .one (.bool false)]) [] 1 ⟨rfl, rfl, rfl⟩ rfl ⟨trivial, trivial, rfl⟩ rfl
  · (repeat' (first | (refine awpL_step TT rfl rfl rfl sd ?_) | (refine awpL_nil ?_) | (refine awpL_skip rfl rfl ?_) | (refine awpQ_step TT rfl rfl rfl rfl sd ?_) | (refine awpQ_nil ?_) | (refine awpQ_skip rfl rfl ?_) | (refine awp_seq ?_) | (refine awp_region ?_) | ((first | refine awpL_ret (d_isFormI _ _ _) rfl rfl rfl rfl rfl rfl rfl rfl ft rfl rfl ?_ | refine awpQ_ret (d_isFormI _ _ _) rfl rfl rfl rfl rfl rfl rfl rfl ft rfl rfl ?_ | refine awpHop_ret _ (d_isFormI _ _ _) rfl rfl rfl rfl rfl rfl rfl rfl rfl ft rfl rfl sb rfl ?_) <;> simp only [hf]) | (first | refine awpL_ret (d_reduced (a, b, c) (Small.of hf) N (hN hf)) rfl rfl rfl rfl rfl rfl rfl rfl ft rfl rfl ?_ | refine awpQ_ret (d_reduced (a, b, c) (Small.of hf) N (hN hf)) rfl rfl rfl rfl rfl rfl rfl rfl ft rfl rfl ?_ | refine awpHop_ret _ (d_reduced (a, b, c) (Small.of hf) N (hN hf)) rfl rfl rfl rfl rfl rfl rfl rfl rfl ft rfl rfl sb rfl ?_) | (refine awp_block ?_) | (refine awp_exit ?_) | (refine awp_skip ?_) | (refine awp_ret ?_) | (refine awp_cond_t rfl ?_) | (refine awp_cond_f rfl ?_) | (refine awp_quiet TM rfl (by kernel_rfl) ?_) | ((first | refine awpL_split rfl rfl rfl (fun hc => ?_) (fun hc => ?_) | refine awpQ_split rfl rfl rfl (fun hc => ?_) (fun hc => ?_) | refine awp_cond rfl (fun hc => ?_) (fun hc => ?_)) <;> ((try simp at hc) <;> try contradiction))))
    refine awp_held TM [(4, _), (5, _)] sb rfl (fun ρs => ?_)
    refine awpH_take TT 0 rfl kr kr kr nh rfl rfl rfl rfl sd ?_
    first | (refine awpH_take TT 1 rfl kr kr kr nh rfl rfl rfl rfl sd ?_) | (refine awpH_idx TT 1 rfl kr kr kr nh rfl rfl rfl rfl rfl sd ?_)
    refine awpH_take TT 2 rfl kr kr kr nh rfl rfl rfl rfl sd ?_
    first | (refine awpH_take TT 3 rfl kr kr kr nh rfl rfl rfl rfl sd ?_) | (refine awpH_idx TT 3 rfl kr kr kr nh rfl rfl rfl rfl rfl sd ?_)
    refine awpH_take TT 4 rfl kr kr kr nh rfl rfl rfl rfl sd ?_
    first | (refine awpH_take TT 5 rfl kr kr kr nh rfl rfl rfl rfl sd ?_) | (refine awpH_idx TT 5 rfl kr kr kr nh rfl rfl rfl rfl rfl sd ?_)
    refine awpH_take TT 6 rfl kr kr kr nh rfl rfl rfl rfl sd ?_
    first | (refine awpH_take TT 7 rfl kr kr kr nh rfl rfl rfl rfl sd ?_) | (refine awpH_idx TT 7 rfl kr kr kr nh rfl rfl rfl rfl rfl sd ?_)
    refine awpH_take TT 8 rfl kr kr kr nh rfl rfl rfl rfl sd ?_
    refine awpH_all [9, 11] kr rfl ⟨?_, ?_, trivial⟩
    first | (refine awpHop_step TT 9 rfl rfl rfl rfl sd sb rfl ?_)
    refine awpH_take TT 10 rfl kr kr kr nh rfl rfl rfl rfl sd ?_
    refine awpH_all [11] kr rfl ⟨?_, trivial⟩
    first | (refine awpHop_step TT 11 rfl rfl rfl rfl sd sb rfl ?_)
    refine awpH_all [12] kr rfl ⟨?_, trivial⟩
    first | (refine awpHop_step TT 12 rfl rfl rfl rfl sd sb rfl ?_)
    refine awpH_take TT 13 rfl kr kr kr nh rfl rfl rfl rfl sd ?_
    refine awpH_done kr ?_
    rotate_left
    first | (refine awpHop_step TT 11 rfl rfl rfl rfl sd sb rfl ?_)
    refine awpH_all [9] kr rfl ⟨?_, trivial⟩
    first | (refine awpHop_step TT 9 rfl rfl rfl rfl sd sb rfl ?_)
    refine awpH_take TT 10 rfl kr kr kr nh rfl rfl rfl rfl sd ?_
    refine awpH_all [12] kr rfl ⟨?_, trivial⟩
    first | (refine awpHop_step TT 12 rfl rfl rfl rfl sd sb rfl ?_)
    refine awpH_take TT 13 rfl kr kr kr nh rfl rfl rfl rfl sd ?_
    refine awpH_done kr ?_
    rotate_left
    all_goals (repeat' (first | (refine awpL_step TT rfl rfl rfl sd ?_) | (refine awpL_nil ?_) | (refine awpL_skip rfl rfl ?_) | (refine awpQ_step TT rfl rfl rfl rfl sd ?_) | (refine awpQ_nil ?_) | (refine awpQ_skip rfl rfl ?_) | (refine awp_seq ?_) | (refine awp_region ?_) | (refine awp_block ?_) | (refine awp_exit ?_) | (refine awp_skip ?_) | (refine awp_ret ?_) | (refine awp_cond_t rfl ?_) | (refine awp_cond_f rfl ?_) | (refine awp_quiet TM rfl (by kernel_rfl) ?_) | ((first | refine awpL_split rfl rfl rfl (fun hc => ?_) (fun hc => ?_) | refine awpQ_split rfl rfl rfl (fun hc => ?_) (fun hc => ?_) | refine awp_cond rfl (fun hc => ?_) (fun hc => ?_)) <;> ((try simp at hc) <;> try contradiction))))
    all_goals exact fin rfl (by repeat' (first | exact trivial | exact Nat.zero_lt_one | omega | refine ⟨?_, ?_⟩)) [(1, 6)] (.tup [.agg (litF (rst (a, b, c) N).1), .agg [.int 2, .int 2, .sl 1 1 0 4 4], .one (.bool true)]) [(1, .own 3 4 (.ints [(rst (a, b, c) N).2.1, (rst (a, b, c) N).2.2.1, (rst (a, b, c) N).2.2.2.1, (rst (a, b, c) N).2.2.2.2]))] 2 ⟨rfl, rfl, rfl⟩ rfl ⟨trivial, ⟨rfl, trivial⟩, rfl⟩ rfl
set_option maxHeartbeats 2000000 in
theorem d_equI (a b c x y z : Int) (N M : Nat) (hN : isFormB a b c = true → RedTo (a, b, c) N) (hM : isFormB x y z = true → RedTo (x, y, z) M) : Does Try.prog 35 [.agg [.int a, .int b, .int c], .agg [.int x, .int y, .int z]] [] 1 (Ret (vB (isFormB a b c && isFormB x y z && decide ((rst (a, b, c) N).1 = (rst (x, y, z) M).1))) 1) := by
  refine Does.intro TT Try.func35 rfl (by kernel_rfl) rfl rfl fun E hE => ?_
  cases hf : isFormB a b c <;> cases hg : isFormB x y z
  all_goals (repeat' (first | (refine awpL_step TT rfl rfl rfl sd ?_) | (refine awpL_nil ?_) | (refine awpL_skip rfl rfl ?_) | (refine awpQ_step TT rfl rfl rfl rfl sd ?_) | (refine awpQ_nil ?_) | (refine awpQ_skip rfl rfl ?_) | (refine awp_seq ?_) | (refine awp_region ?_) | ((first | refine awpL_ret (d_isFormI _ _ _) rfl rfl rfl rfl rfl rfl rfl rfl ft rfl rfl ?_ | refine awpQ_ret (d_isFormI _ _ _) rfl rfl rfl rfl rfl rfl rfl rfl ft rfl rfl ?_ | refine awpHop_ret _ (d_isFormI _ _ _) rfl rfl rfl rfl rfl rfl rfl rfl rfl ft rfl rfl sb rfl ?_) <;> simp only [hf, hg]) | (first | refine awpL_ret (d_reduced (a, b, c) (Small.of hf) N (hN hf)) rfl rfl rfl rfl rfl rfl rfl rfl ft rfl rfl ?_ | refine awpQ_ret (d_reduced (a, b, c) (Small.of hf) N (hN hf)) rfl rfl rfl rfl rfl rfl rfl rfl ft rfl rfl ?_ | refine awpHop_ret _ (d_reduced (a, b, c) (Small.of hf) N (hN hf)) rfl rfl rfl rfl rfl rfl rfl rfl rfl ft rfl rfl sb rfl ?_) | (first | refine awpL_ret (d_reduced (x, y, z) (Small.of hg) M (hM hg)) rfl rfl rfl rfl rfl rfl rfl rfl ft rfl rfl ?_ | refine awpQ_ret (d_reduced (x, y, z) (Small.of hg) M (hM hg)) rfl rfl rfl rfl rfl rfl rfl rfl ft rfl rfl ?_ | refine awpHop_ret _ (d_reduced (x, y, z) (Small.of hg) M (hM hg)) rfl rfl rfl rfl rfl rfl rfl rfl rfl ft rfl rfl sb rfl ?_) | (refine awp_block ?_) | (refine awp_exit ?_) | (refine awp_skip ?_) | (refine awp_ret ?_) | (refine awp_cond_t rfl ?_) | (refine awp_cond_f rfl ?_) | (refine awp_quiet TM rfl (by kernel_rfl) ?_) | ((first | refine awpL_split rfl rfl rfl (fun hc => ?_) (fun hc => ?_) | refine awpQ_split rfl rfl rfl (fun hc => ?_) (fun hc => ?_) | refine awp_cond rfl (fun hc => ?_) (fun hc => ?_)) <;> ((try simp at hc) <;> try contradiction))))
  · refine fin_ret rfl (by repeat' (first | exact trivial | exact Nat.zero_lt_one | omega | refine ⟨?_, ?_⟩)) (congrArg vB (by simp)) rfl
  · refine fin_ret rfl (by repeat' (first | exact trivial | exact Nat.zero_lt_one | omega | refine ⟨?_, ?_⟩)) (congrArg vB (by simp)) rfl
  · refine fin_ret rfl (by repeat' (first | exact trivial | exact Nat.zero_lt_one | omega | refine ⟨?_, ?_⟩)) (congrArg vB (by simp)) rfl
  · refine fin_ret rfl (by repeat' (first | exact trivial | exact Nat.zero_lt_one | omega | refine ⟨?_, ?_⟩)) (congrArg vB ?_) rfl
    rw [Bool.eq_iff_iff]
    simp only [decide_eq_true_eq, Bool.true_and]
    generalize (rst (a, b, c) N).1 = p
    generalize (rst (x, y, z) M).1 = q
    obtain ⟨p1, p2, p3⟩ := p
    obtain ⟨q1, q2, q3⟩ := q
    simp
end Go.Proofs.Ytbaaelampabhdaa
