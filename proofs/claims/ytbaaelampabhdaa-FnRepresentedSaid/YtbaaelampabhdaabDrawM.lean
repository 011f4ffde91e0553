/-
  CONTRACTS: drawn numbers, matrices and vectors.
-/
import Derived.Test.YtbaaelampabhdaabDraw
import Derived.Test.YtbaaelampabhdaabMat
import Derived.Test.YtbaaelampabhdaaAm8
set_option linter.unusedVariables false
set_option linter.unusedSimpArgs false
namespace Go.Proofs.Ytbaaelampabhdaa
open Go.RowKit

theorem d_l1Num (bs : List Int) (c i : Nat) (h : Int) (m : Int) (hm : 0 ≤ m ∧ m ≤ 1000) (hl : bs.length ≤ 1048576) : Does Try.prog 79 [vC, vI m] [(1, .ro (.bytes bs)), (2, .own 94 1 (.lit (curL c bs.length i h)))] 3 (Drew 94 bs.length c fun r => -9223372036854775808 ≤ r ∧ r ≤ 9223372036854775807) := by
  refine Does.intro TT Try.func79 rfl (by kernel_rfl) rfl rfl fun E hE => ?_
  ((repeat' (first | (refine awpL_step TT rfl rfl rfl sd ?_) | (refine awpL_nil ?_) | (refine awpL_skip rfl rfl ?_) | (refine awpQ_step TT rfl rfl rfl rfl sd ?_) | (refine awpQ_nil ?_) | (refine awpQ_skip rfl rfl ?_) | (refine awp_seq ?_) | (refine awp_region ?_) | ((refine awpL_call (d_l1Once bs c _ _ 40 hl) rfl rfl rfl rfl rfl rfl rfl ft rfl ?_); rintro v Hout n1 ⟨b0, i0, h0, rfl, rfl, rfl⟩; cases b0) | ((refine awpL_call (d_l1Odd bs c _ _ hl) rfl rfl rfl rfl rfl rfl rfl ft rfl ?_); rintro v Hout n1 ⟨r1, i1, h1, hr1, rfl, rfl, rfl⟩) | ((refine awpL_call (d_l1Below bs c _ _ _ hl) rfl rfl rfl rfl rfl rfl rfl ft rfl ?_); rintro v Hout n1 ⟨r2, i2, h2, ⟨hr2, hr3⟩, rfl, rfl, rfl⟩; replace hr3 := hr3 (by omega)) | (refine awp_block ?_) | (refine awp_exit ?_) | (refine awp_skip ?_) | (refine awp_ret ?_) | (refine awp_cond_t rfl ?_) | (refine awp_cond_f rfl ?_) | ((first | refine awpL_split rfl rfl rfl (fun hc => ?_) (fun hc => ?_) | refine awpQ_split rfl rfl rfl (fun hc => ?_) (fun hc => ?_) | refine awp_cond rfl (fun hc => ?_) (fun hc => ?_)) <;> ((try simp at hc) <;> try contradiction)))) <;> try (exfalso; omega))
  all_goals exact fin rfl (by repeat' (first | exact trivial | exact Nat.zero_lt_one | omega | refine ⟨?_, ?_⟩)) [] (vI _) [(2, .own 94 1 (.lit (curL c bs.length _ _)))] 3 ⟨_, _, _, (by first | assumption | omega), rfl, rfl, rfl⟩ rfl ⟨trivial, ⟨rfl, trivial⟩, rfl⟩ rfl
/-- a drawn matrix: numbers of the machine, not many -/
def DrewM (t tc : TypeId) (nb c : Nat) (k : Int) (v : AV) (Hout : List (Nat × Blk)) (n1 : Nat) : Prop :=
  ∃ (r : Int) (zs : List Int) (cap i : Nat) (h : Int), zs.length ≤ 1000 ∧ zs.length ≤ cap ∧ v = .agg [.int r, .int k, .sl 3 1 0 zs.length cap] ∧ Hout = [(2, .own tc 1 (.lit (curL c nb i h))), (3, .own t cap (.ints zs))] ∧ n1 = 4
/-- what is drawn for AddIn -/
def DrewAdd (t : TypeId) (v : AV) (Hout : List (Nat × Blk)) (n1 : Nat) : Prop :=
  ∃ (k : Nat) (r : Int) (zs bs cs : List Int) (cap cb cc : Nat), k ≤ 3 ∧ zs.length ≤ 1000 ∧ bs.length = k ∧ cs.length = k ∧ zs.length ≤ cap ∧ bs.length ≤ cb ∧ cs.length ≤ cc ∧ (∀ p, -9223372036854775808 ≤ bs.getD p 0 ∧ bs.getD p 0 ≤ 9223372036854775807) ∧ (∀ p, -9223372036854775808 ≤ cs.getD p 0 ∧ cs.getD p 0 ≤ 9223372036854775807) ∧ v = .tup [.agg [.int r, .int k, .sl 2 1 0 zs.length cap], .one (.sl 3 1 0 bs.length cb), .one (.sl 4 1 0 cs.length cc)] ∧ Hout = [(2, .own t cap (.ints zs)), (3, .own t cb (.ints bs)), (4, .own t cc (.ints cs))] ∧ n1 = 5
end Go.Proofs.Ytbaaelampabhdaa
