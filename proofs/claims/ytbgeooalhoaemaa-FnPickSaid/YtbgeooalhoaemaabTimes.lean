/-
  CONTRACTS: rows and columns as matrices, a matrix times a vector.
-/
import Derived.Test.YtbgeooalhoaemaabMat
set_option linter.unusedVariables false
set_option linter.unusedSimpArgs false
namespace Go.Proofs.Ytbgeooalhoaemaa
open Go.RowKit

def RowM (r c : Int) (t : TypeId) (xs : List Int) (v : AV) (Hout : List (Nat × Blk)) (n1 : Nat) : Prop := ∃ cap, xs.length ≤ cap ∧ v = vM r c 2 xs.length cap ∧ Hout = [(2, .own t cap (.ints xs))] ∧ n1 = 3
theorem RowM.out {r c : Int} {t : TypeId} {xs : List Int} : ∀ v Hout n1, RowM r c t xs v Hout n1 → ∃ b, Hout = [(2, b)] ∧ n1 = 2 + 1 ∧ b.keys = [] := fun _ _ _ ⟨_, _, _, h2, h3⟩ => ⟨_, h2, h3, by simp [Blk.keys, Elts.keys, Elts.all, ints_keys]⟩
theorem d_row (xs : List Int) (c : Nat) (hl : xs.length ≤ 1099511627776) : Does Try.prog 78 [vS 1 1 0 xs.length c] [(1, .ro (.ints xs))] 2 (RowM 1 xs.length 3 xs) := by
  refine Does.intro TT Try.func78 rfl (by kernel_rfl) rfl rfl fun E hE => ?_
  (repeat' (first | (refine awpL_step TT rfl rfl rfl sd ?_) | (refine awpL_nil ?_) | (refine awpL_skip rfl rfl ?_) | (refine awpQ_step TT rfl rfl rfl rfl sd ?_) | (refine awpQ_nil ?_) | (refine awpQ_skip rfl rfl ?_) | (refine awp_seq ?_) | (refine awp_region ?_) | (first | (refine awpL_append TT rfl rfl rfl rfl rfl sd ?_; intro cap hcap) | (refine awpHop_append TT _ rfl rfl rfl rfl rfl rfl sd sb rfl rfl ?_; intro cap hcap)) | (refine awp_block ?_) | (refine awp_exit ?_) | (refine awp_skip ?_) | (refine awp_ret ?_) | (refine awp_cond_t rfl ?_) | (refine awp_cond_f rfl ?_) | (refine awp_quiet TM rfl (by kernel_rfl) ?_) | ((first | refine awpL_split rfl rfl rfl (fun hc => ?_) (fun hc => ?_) | refine awpQ_split rfl rfl rfl (fun hc => ?_) (fun hc => ?_) | refine awp_cond rfl (fun hc => ?_) (fun hc => ?_)) <;> ((try simp at hc) <;> try contradiction))))
  rw [Nat.zero_add] at hcap
  rw [show 0 + xs.length = xs.length from Nat.zero_add _]
  exact fin rfl (by repeat' (first | exact trivial | exact Nat.zero_lt_one | omega | refine ⟨?_, ?_⟩)) [(2, 4)] (vM 1 xs.length 2 xs.length cap) [(2, .own 3 cap (.ints xs))] 3 (⟨cap, hcap, rfl, rfl, rfl⟩) rfl ⟨trivial, ⟨own_ints (by simp), trivial⟩, rfl⟩ rfl
theorem d_col (xs : List Int) (c : Nat) (hl : xs.length ≤ 1099511627776) : Does Try.prog 76 [vS 1 1 0 xs.length c] [(1, .ro (.ints xs))] 2 (RowM xs.length 1 3 xs) := by
  refine Does.intro TT Try.func76 rfl (by kernel_rfl) rfl rfl fun E hE => ?_
  (repeat' (first | (refine awpL_step TT rfl rfl rfl sd ?_) | (refine awpL_nil ?_) | (refine awpL_skip rfl rfl ?_) | (refine awpQ_step TT rfl rfl rfl rfl sd ?_) | (refine awpQ_nil ?_) | (refine awpQ_skip rfl rfl ?_) | (refine awp_seq ?_) | (refine awp_region ?_) | (first | (refine awpL_append TT rfl rfl rfl rfl rfl sd ?_; intro cap hcap) | (refine awpHop_append TT _ rfl rfl rfl rfl rfl rfl sd sb rfl rfl ?_; intro cap hcap)) | (refine awp_block ?_) | (refine awp_exit ?_) | (refine awp_skip ?_) | (refine awp_ret ?_) | (refine awp_cond_t rfl ?_) | (refine awp_cond_f rfl ?_) | (refine awp_quiet TM rfl (by kernel_rfl) ?_) | ((first | refine awpL_split rfl rfl rfl (fun hc => ?_) (fun hc => ?_) | refine awpQ_split rfl rfl rfl (fun hc => ?_) (fun hc => ?_) | refine awp_cond rfl (fun hc => ?_) (fun hc => ?_)) <;> ((try simp at hc) <;> try contradiction))))
  rw [Nat.zero_add] at hcap
  rw [show 0 + xs.length = xs.length from Nat.zero_add _]
  exact fin rfl (by repeat' (first | exact trivial | exact Nat.zero_lt_one | omega | refine ⟨?_, ?_⟩)) [(2, 4)] (vM xs.length 1 2 xs.length cap) [(2, .own 3 cap (.ints xs))] 3 (⟨cap, hcap, rfl, rfl, rfl⟩) rfl ⟨trivial, ⟨own_ints (by simp), trivial⟩, rfl⟩ rfl
theorem mulZ_len {r n n' c : Int} {xs ys zs : List Int} (h : mulZ r n n' c xs ys = some zs) : zs.length = r.toNat * c.toNat := by
  unfold mulZ at h
  split at h
  · cases h; exact mulM_len
  · cases h
def GotSl (t : TypeId) (o : Option (List Int)) (k : Nat) (v : AV) (Hout : List (Nat × Blk)) (n1 : Nat) : Prop :=
  ∃ cap, (o.getD []).length ≤ cap ∧ v = .tup [.one (.sl k 1 0 (o.getD []).length cap), .one (.bool o.isSome)] ∧ Hout = [(k, .own t cap (.ints (o.getD [])))] ∧ n1 = k + 1
theorem GotSl.out {t : TypeId} {o : Option (List Int)} {k : Nat} : ∀ v Hout n1, GotSl t o k v Hout n1 → ∃ b, Hout = [(k, b)] ∧ n1 = k + 1 ∧ b.keys = [] := fun _ _ _ ⟨_, _, _, h2, h3⟩ => ⟨_, h2, h3, by simp [Blk.keys, Elts.keys, Elts.all, ints_keys]⟩
set_option maxHeartbeats 1000000 in
theorem d_times (r n : Int) (xs ys : List Int) (ca cb : Nat) (hl : xs.length ≤ 1099511627776) (hl' : ys.length ≤ 1099511627776) :
    Does Try.prog 77 [vM r n 1 xs.length ca, vS 2 1 0 ys.length cb] [(1, .ro (.ints xs)), (2, .ro (.ints ys))] 3 (GotSl 3 (mulZ r n ys.length 1 xs ys) 3) := by
  refine Does.intro TT Try.func77 rfl (by kernel_rfl) rfl rfl fun E hE => ?_
  cases hm : mulZ r n ys.length 1 xs ys with
  | none =>
    (repeat' (first | (refine awpL_step TT rfl rfl rfl sd ?_) | (refine awpL_nil ?_) | (refine awpL_skip rfl rfl ?_) | (refine awpQ_step TT rfl rfl rfl rfl sd ?_) | (refine awpQ_nil ?_) | (refine awpQ_skip rfl rfl ?_) | (refine awp_seq ?_) | (refine awp_region ?_) | ((refine awpL_call (d_mulS r n ys.length 1 xs ys _ _ hl hl') rfl rfl rfl rfl rfl rfl rfl ft rfl ?_); rintro v Hout n1 h; rw [hm] at h; obtain ⟨rfl, rfl, rfl⟩ := h) | (refine awp_block ?_) | (refine awp_exit ?_) | (refine awp_skip ?_) | (refine awp_ret ?_) | (refine awp_cond_t rfl ?_) | (refine awp_cond_f rfl ?_) | (refine awp_quiet TM rfl (by kernel_rfl) ?_) | ((first | refine awpL_split rfl rfl rfl (fun hc => ?_) (fun hc => ?_) | refine awpQ_split rfl rfl rfl (fun hc => ?_) (fun hc => ?_) | refine awp_cond rfl (fun hc => ?_) (fun hc => ?_)) <;> ((try simp at hc) <;> try contradiction))))
    exact fin rfl (by repeat' (first | exact trivial | exact Nat.zero_lt_one | omega | refine ⟨?_, ?_⟩)) [(3, 5)] (.tup [.one (.sl 3 1 0 0 0), .one (.bool false)]) [(3, .own 3 0 (.ints []))] 4 (⟨0, Nat.le_refl _, rfl, rfl, rfl⟩) rfl ⟨trivial, ⟨own_ints rfl, trivial⟩, rfl⟩ rfl
  | some zs =>
    (repeat' (first | (refine awpL_step TT rfl rfl rfl sd ?_) | (refine awpL_nil ?_) | (refine awpL_skip rfl rfl ?_) | (refine awpQ_step TT rfl rfl rfl rfl sd ?_) | (refine awpQ_nil ?_) | (refine awpQ_skip rfl rfl ?_) | (refine awp_seq ?_) | (refine awp_region ?_) | ((refine awpL_call (d_mulS r n ys.length 1 xs ys _ _ hl hl') rfl rfl rfl rfl rfl rfl rfl ft rfl ?_); rintro v Hout n1 h; rw [hm] at h; obtain ⟨cap, hcap, rfl, rfl, rfl⟩ := h) | (refine awp_block ?_) | (refine awp_exit ?_) | (refine awp_skip ?_) | (refine awp_ret ?_) | (refine awp_cond_t rfl ?_) | (refine awp_cond_f rfl ?_) | (refine awp_quiet TM rfl (by kernel_rfl) ?_) | ((first | refine awpL_split rfl rfl rfl (fun hc => ?_) (fun hc => ?_) | refine awpQ_split rfl rfl rfl (fun hc => ?_) (fun hc => ?_) | refine awp_cond rfl (fun hc => ?_) (fun hc => ?_)) <;> ((try simp at hc) <;> try contradiction))))
    exact fin rfl (by repeat' (first | exact trivial | exact Nat.zero_lt_one | omega | refine ⟨?_, ?_⟩)) [(3, 4)] (.tup [.one (.sl 3 1 0 zs.length cap), .one (.bool true)]) [(3, .own 3 cap (.ints zs))] 4 (⟨cap, hcap, rfl, rfl, rfl⟩) rfl ⟨trivial, ⟨own_ints rfl, trivial⟩, rfl⟩ rfl
end Go.Proofs.Ytbgeooalhoaemaa
