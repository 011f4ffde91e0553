/-
  CONTRACTS: what the laws do with matrices that come in.
-/
import Derived.Test.YtmkoifmokdmebaabMat
set_option linter.unusedVariables false
set_option linter.unusedSimpArgs false
namespace Go.Proofs.Ytmkoifmokdmebaa
open Go.RowKit

theorem d_szIntS (xs : List Int) (c : Nat) (l : Int) (h0 : 0 ≤ l ∧ l ≤ 4611686018427387904) (hl : xs.length ≤ 9223372036854775807) : Does Try.prog 45 [vS 1 1 0 xs.length c, vI l] [(1, .ro (.ints xs))] 2 (Ret (vI (if l < xs.length then -1 else l - xs.length)) 2) := by
  refine Does.intro TT Try.func45 rfl (by kernel_rfl) rfl rfl fun E hE => ?_
  ((repeat' (first | (refine awpL_step TT rfl rfl rfl sd ?_) | (refine awpL_nil ?_) | (refine awpL_skip rfl rfl ?_) | (refine awpQ_step TT rfl rfl rfl rfl sd ?_) | (refine awpQ_nil ?_) | (refine awpQ_skip rfl rfl ?_) | (refine awp_seq ?_) | (refine awp_region ?_) | (refine awp_block ?_) | (refine awp_exit ?_) | (refine awp_skip ?_) | (refine awp_ret ?_) | (refine awp_cond_t rfl ?_) | (refine awp_cond_f rfl ?_) | (refine awp_quiet TM rfl (by kernel_rfl) ?_) | ((first | refine awpL_split rfl rfl rfl (fun hc => ?_) (fun hc => ?_) | refine awpQ_split rfl rfl rfl (fun hc => ?_) (fun hc => ?_) | refine awp_cond rfl (fun hc => ?_) (fun hc => ?_)) <;> ((try simp at hc) <;> try contradiction)))) <;> try (exfalso; omega))
  · refine fin_ret rfl (by repeat' (first | exact trivial | exact Nat.zero_lt_one | omega | refine ⟨?_, ?_⟩)) (congrArg vI (by rw [if_pos (by omega)])) rfl
  · refine fin_ret rfl (by repeat' (first | exact trivial | exact Nat.zero_lt_one | omega | refine ⟨?_, ?_⟩)) (congrArg vI (by rw [if_neg (by omega)])) rfl
def szL (l : Int) (n : Nat) : Int := if l < n then -1 else l - n
theorem d_szMatrix (r k : Int) (xs : List Int) (c : Nat) (l : Int) (h0 : 0 ≤ l ∧ l ≤ 4611686018427387904) (hl : xs.length ≤ 9223372036854775807) : Does Try.prog 13 [vM r k 1 xs.length c, vI l] [(1, .ro (.ints xs))] 2 (Ret (vI (szL l xs.length)) 2) := by
  refine Does.intro TT Try.func13 rfl (by kernel_rfl) rfl rfl fun E hE => ?_
  ((repeat' (first | (refine awpL_step TT rfl rfl rfl sd ?_) | (refine awpL_nil ?_) | (refine awpL_skip rfl rfl ?_) | (refine awpQ_step TT rfl rfl rfl rfl sd ?_) | (refine awpQ_nil ?_) | (refine awpQ_skip rfl rfl ?_) | (refine awp_seq ?_) | (refine awp_region ?_) | (first | refine awpL_ret (d_szIntS xs _ _ h0 hl) rfl rfl rfl rfl rfl rfl rfl rfl ft rfl rfl ?_ | refine awpQ_ret (d_szIntS xs _ _ h0 hl) rfl rfl rfl rfl rfl rfl rfl rfl ft rfl rfl ?_ | refine awpHop_ret _ (d_szIntS xs _ _ h0 hl) rfl rfl rfl rfl rfl rfl rfl rfl rfl ft rfl rfl sb rfl ?_) | (refine awp_block ?_) | (refine awp_exit ?_) | (refine awp_skip ?_) | (refine awp_ret ?_) | (refine awp_cond_t rfl ?_) | (refine awp_cond_f rfl ?_) | (refine awp_quiet TM rfl (by kernel_rfl) ?_) | ((first | refine awpL_split rfl rfl rfl (fun hc => ?_) (fun hc => ?_) | refine awpQ_split rfl rfl rfl (fun hc => ?_) (fun hc => ?_) | refine awp_cond rfl (fun hc => ?_) (fun hc => ?_)) <;> ((try simp at hc) <;> try contradiction)))) <;> try (exfalso; omega))
  · refine fin_ret rfl (by repeat' (first | exact trivial | exact Nat.zero_lt_one | omega | refine ⟨?_, ?_⟩)) (congrArg vI ?_) rfl
    unfold szL; split at hc <;> simp_all <;> omega
  · refine fin_ret rfl (by repeat' (first | exact trivial | exact Nat.zero_lt_one | omega | refine ⟨?_, ?_⟩)) (congrArg vI ?_) rfl
    rfl
def MadeMx (r k : Int) (xs : List Int) (q : Nat) (v : AV) (Hout : List (Nat × Blk)) (n : Nat) : Prop := ∃ c, xs.length ≤ c ∧ v = .agg [.int r, .int k, .sl q 1 0 xs.length c] ∧ Hout = [(q, .own 3 c (.ints xs))] ∧ n = q + 1
theorem MadeMx.out {r k : Int} {xs : List Int} {q : Nat} : ∀ v Hout n1, MadeMx r k xs q v Hout n1 → ∃ b, Hout = [(q, b)] ∧ n1 = q + 1 ∧ b.keys = [] := fun _ _ _ ⟨c, _, _, h2, h3⟩ => ⟨_, h2, h3, by simp [Blk.keys, Elts.keys, Elts.all, ints_keys]⟩
theorem d_toMatrix (r k : Int) (xs : List Int) (c : Nat) (hl : xs.length ≤ 1099511627776) : Does Try.prog 15 [vM r k 1 xs.length c] [(1, .ro (.ints xs))] 2 (MadeMx r k xs 2) := by
  refine Does.intro TT Try.func15 rfl (by kernel_rfl) rfl rfl fun E hE => ?_
  (repeat' (first | (refine awpL_step TT rfl rfl rfl sd ?_) | (refine awpL_nil ?_) | (refine awpL_skip rfl rfl ?_) | (refine awpQ_step TT rfl rfl rfl rfl sd ?_) | (refine awpQ_nil ?_) | (refine awpQ_skip rfl rfl ?_) | (refine awp_seq ?_) | (refine awp_region ?_) | ((first | refine awpL_one (d_toIntS xs _ hl) rfl rfl rfl rfl rfl rfl rfl ft rfl rfl (MadeI.out) ?_ | refine awpHop_one _ (d_toIntS xs _ hl) rfl rfl rfl rfl rfl rfl rfl rfl ft rfl rfl (MadeI.out) sb rfl rfl ?_); rintro v b ⟨c1, hc1, rfl, he, -⟩; cases he) | (refine awp_block ?_) | (refine awp_exit ?_) | (refine awp_skip ?_) | (refine awp_ret ?_) | (refine awp_cond_t rfl ?_) | (refine awp_cond_f rfl ?_) | (refine awp_quiet TM rfl (by kernel_rfl) ?_) | ((first | refine awpL_split rfl rfl rfl (fun hc => ?_) (fun hc => ?_) | refine awpQ_split rfl rfl rfl (fun hc => ?_) (fun hc => ?_) | refine awp_cond rfl (fun hc => ?_) (fun hc => ?_)) <;> ((try simp at hc) <;> try contradiction))))
  exact fin rfl (by repeat' (first | exact trivial | exact Nat.zero_lt_one | omega | refine ⟨?_, ?_⟩)) [(2, 5)] (.agg [.int r, .int k, .sl 2 1 0 xs.length c1]) [(2, .own 3 c1 (.ints xs))] 3 ⟨c1, hc1, rfl, rfl, rfl⟩ rfl ⟨trivial, ⟨rfl, trivial⟩, rfl⟩ rfl
end Go.Proofs.Ytmkoifmokdmebaa
