/-
  CONTRACTS: rows and columns as matrices, a matrix times a vector.
-/
import Derived.Test.YtmkoifmokdmebaabMat
set_option linter.unusedVariables false
set_option linter.unusedSimpArgs false
namespace Go.Proofs.Ytmkoifmokdmebaa
open Go.RowKit

def RowM (r c : Int) (t : TypeId) (xs : List Int) (v : AV) (Hout : List (Nat × Blk)) (n1 : Nat) : Prop := ∃ cap, xs.length ≤ cap ∧ v = vM r c 2 xs.length cap ∧ Hout = [(2, .own t cap (.ints xs))] ∧ n1 = 3
theorem RowM.out {r c : Int} {t : TypeId} {xs : List Int} : ∀ v Hout n1, RowM r c t xs v Hout n1 → ∃ b, Hout = [(2, b)] ∧ n1 = 2 + 1 ∧ b.keys = [] := fun _ _ _ ⟨_, _, _, h2, h3⟩ => ⟨_, h2, h3, by simp [Blk.keys, Elts.keys, Elts.all, ints_keys]⟩
theorem d_row (xs : List Int) (c : Nat) (hl : xs.length ≤ 1099511627776) : Does Try.prog 84 [vS 1 1 0 xs.length c] [(1, .ro (.ints xs))] 2 (RowM 1 xs.length 3 xs) := by
  refine Does.intro TT Try.func84 rfl (by kernel_rfl) rfl rfl fun E hE => ?_
  (repeat' (first | (refine awpL_step TT rfl rfl rfl sd ?_) | (refine awpL_nil ?_) | (refine awpL_skip rfl rfl ?_) | (refine awpQ_step TT rfl rfl rfl rfl sd ?_) | (refine awpQ_nil ?_) | (refine awpQ_skip rfl rfl ?_) | (refine awp_seq ?_) | (refine awp_region ?_) | (first | (refine awpL_append TT rfl rfl rfl rfl rfl sd ?_; intro cap hcap) | (refine awpHop_append TT _ rfl rfl rfl rfl rfl rfl sd sb rfl rfl ?_; intro cap hcap)) | (refine awp_block ?_) | (refine awp_exit ?_) | (refine awp_skip ?_) | (refine awp_ret ?_) | (refine awp_cond_t rfl ?_) | (refine awp_cond_f rfl ?_) | (refine awp_quiet TM rfl (by kernel_rfl) ?_) | ((first | refine awpL_split rfl rfl rfl (fun hc => ?_) (fun hc => ?_) | refine awpQ_split rfl rfl rfl (fun hc => ?_) (fun hc => ?_) | refine awp_cond rfl (fun hc => ?_) (fun hc => ?_)) <;> ((try simp at hc) <;> try contradiction))))
  rw [Nat.zero_add] at hcap
  rw [show 0 + xs.length = xs.length from Nat.zero_add _]
  exact fin rfl (by repeat' (first | exact trivial | exact Nat.zero_lt_one | omega | refine ⟨?_, ?_⟩)) [(2, 4)] (vM 1 xs.length 2 xs.length cap) [(2, .own 3 cap (.ints xs))] 3 (⟨cap, hcap, rfl, rfl, rfl⟩) rfl ⟨trivial, ⟨own_ints (by simp), trivial⟩, rfl⟩ rfl
theorem mulZ_len {r n n' c : Int} {xs ys zs : List Int} (h : mulZ r n n' c xs ys = some zs) : zs.length = r.toNat * c.toNat := by
  unfold mulZ at h
  split at h
  · cases h; exact mulM_len
  · cases h
def GotSl (t : TypeId) (o : Option (List Int)) (k : Nat) (v : AV) (Hout : List (Nat × Blk)) (n1 : Nat) : Prop :=
  ∃ cap, (o.getD []).length ≤ cap ∧ v = .tup [.one (.sl k 1 0 (o.getD []).length cap), .one (.bool o.isSome)] ∧ Hout = [(k, .own t cap (.ints (o.getD [])))] ∧ n1 = k + 1
theorem GotSl.out {t : TypeId} {o : Option (List Int)} {k : Nat} : ∀ v Hout n1, GotSl t o k v Hout n1 → ∃ b, Hout = [(k, b)] ∧ n1 = k + 1 ∧ b.keys = [] := fun _ _ _ ⟨_, _, _, h2, h3⟩ => ⟨_, h2, h3, by simp [Blk.keys, Elts.keys, Elts.all, ints_keys]⟩
end Go.Proofs.Ytmkoifmokdmebaa
