/-
  CONTRACTS: slices of triples (forms) compared, marked and held.
-/
import Derived.Test.YtbaaelampabhdaabForm
set_option linter.unusedVariables false
set_option linter.unusedSimpArgs false
namespace Go.Proofs.Ytbaaelampabhdaa
open Go.RowKit

def vS3 (k len cap : Nat) : AV := .one (.sl k 3 0 len cap)
theorem gD3 {xs : List F3} {j : Nat} (h : j < xs.length) : xs[j]?.getD (0, 0, 0) = xs[j] := by simp [h]
theorem sl_eq' {k sz off a b cap : Nat} {m : Nat → Nat} (h : a = b) : some (AV.one (.sl (m k) sz off a cap)) = some ((AV.one (.sl k sz off b cap)).ren m) := by subst h; rfl
theorem own_i3 {t : TypeId} {c : Nat} {l l' : List F3} {m : Nat → Nat} (h : l = l') : some (Blk.own t c (.i3 l)) = some ((Blk.own t c (.i3 l')).ren m) := by subst h; rfl
def GotF (t : TypeId) (ys : List F3) (k : Nat) (v : AV) (Hout : List (Nat × Blk)) (n1 : Nat) : Prop :=
  ∃ cap, ys.length ≤ cap ∧ v = vS3 k ys.length cap ∧ Hout = [(k, .own t cap (.i3 ys))] ∧ n1 = k + 1
theorem GotF.out {t : TypeId} {ys : List F3} {k : Nat} : ∀ v Hout n1, GotF t ys k v Hout n1 → ∃ b, Hout = [(k, b)] ∧ n1 = k + 1 ∧ b.keys = [] := fun _ _ _ ⟨_, _, _, h2, h3⟩ => ⟨_, h2, h3, by simp [Blk.keys, Elts.keys, Elts.all, i3_keys]⟩
theorem d_eqForm (a b c x y z : Int) : Does Try.prog 21 [.agg [.int a, .int b, .int c], .agg [.int x, .int y, .int z]] [] 1 (Ret (vB (decide (a = x ∧ b = y ∧ c = z))) 1) := by
  refine Does.intro TT Try.func21 rfl (by kernel_rfl) rfl rfl fun E hE => ?_
  (repeat' (first | (refine awpL_step TT rfl rfl rfl sd ?_) | (refine awpL_nil ?_) | (refine awpL_skip rfl rfl ?_) | (refine awpQ_step TT rfl rfl rfl rfl sd ?_) | (refine awpQ_nil ?_) | (refine awpQ_skip rfl rfl ?_) | (refine awp_seq ?_) | (refine awp_region ?_) | (refine awp_block ?_) | (refine awp_exit ?_) | (refine awp_skip ?_) | (refine awp_ret ?_) | (refine awp_cond_t rfl ?_) | (refine awp_cond_f rfl ?_) | (refine awp_quiet TM rfl (by kernel_rfl) ?_) | ((first | refine awpL_split rfl rfl rfl (fun hc => ?_) (fun hc => ?_) | refine awpQ_split rfl rfl rfl (fun hc => ?_) (fun hc => ?_) | refine awp_cond rfl (fun hc => ?_) (fun hc => ?_)) <;> ((try simp at hc) <;> try contradiction))))
  all_goals refine fin_ret rfl (by repeat' (first | exact trivial | exact Nat.zero_lt_one | omega | refine ⟨?_, ?_⟩)) (congrArg vB ?_) rfl
  all_goals simp_all
theorem d_eqFormS (xs ys : List F3) (c d : Nat) (hl : xs.length ≤ 1099511627776) (hl' : ys.length ≤ 1099511627776) : Does Try.prog 26 [vS3 1 xs.length c, vS3 2 ys.length d] [(1, .ro (.i3 xs)), (2, .ro (.i3 ys))] 3 (Ret (vB (decide (xs = ys))) 3) := by
  refine Does.intro TT Try.func26 rfl (by kernel_rfl) rfl rfl fun E hE => ?_
  (repeat' (first | (refine awpL_step TT rfl rfl rfl sd ?_) | (refine awpL_nil ?_) | (refine awpL_skip rfl rfl ?_) | (refine awpQ_step TT rfl rfl rfl rfl sd ?_) | (refine awpQ_nil ?_) | (refine awpQ_skip rfl rfl ?_) | (refine awp_seq ?_) | (refine awp_region ?_) | (refine awp_block ?_) | (refine awp_exit ?_) | (refine awp_skip ?_) | (refine awp_ret ?_) | (refine awp_cond_t rfl ?_) | (refine awp_cond_f rfl ?_) | (refine awp_quiet TM rfl (by kernel_rfl) ?_) | ((first | refine awpL_split rfl rfl rfl (fun hc => ?_) (fun hc => ?_) | refine awpQ_split rfl rfl rfl (fun hc => ?_) (fun hc => ?_) | refine awp_cond rfl (fun hc => ?_) (fun hc => ?_)) <;> ((try simp at hc) <;> try contradiction))))
  · refine fin_ret rfl (by repeat' (first | exact trivial | exact Nat.zero_lt_one | omega | refine ⟨?_, ?_⟩)) (congrArg vB ?_) rfl
    symm; apply decide_eq_false; intro e; subst e; exact hc rfl
  · refine awp_loop hE (fun k : Nat => k ≤ xs.length ∧ xs.take k = ys.take k) (fun k => xs.length - k)
      (fun k => [(0, vS3 1 xs.length c), (1, vS3 2 ys.length d), (5, vI k)]) (fun _ => [(1, .ro (.i3 xs)), (2, .ro (.i3 ys))]) 3 [] 0 ⟨Nat.zero_le _, rfl⟩ ⟨(by repeat' (first | exact trivial | refine ⟨rfl, ?_⟩ | refine ⟨congrArg some (congrArg vI (by first | omega | (simp; done) | (simp; omega))), ?_⟩ | refine ⟨sl_eqA (by first | omega | (simp; done) | (simp; omega)), ?_⟩)), (by repeat' (first | exact trivial | refine ⟨rfl, ?_⟩)), rfl⟩ ?_
    rintro k ⟨h1, h2⟩
    (repeat' (first | (refine awpL_step TT rfl rfl rfl sd ?_) | (refine awpL_nil ?_) | (refine awpL_skip rfl rfl ?_) | (refine awpQ_step TT rfl rfl rfl rfl sd ?_) | (refine awpQ_nil ?_) | (refine awpQ_skip rfl rfl ?_) | (refine awp_seq ?_) | (refine awp_region ?_) | (first | refine awpL_ret (d_eqForm _ _ _ _ _ _) rfl rfl rfl rfl rfl rfl rfl rfl ft rfl rfl ?_ | refine awpQ_ret (d_eqForm _ _ _ _ _ _) rfl rfl rfl rfl rfl rfl rfl rfl ft rfl rfl ?_ | refine awpHop_ret _ (d_eqForm _ _ _ _ _ _) rfl rfl rfl rfl rfl rfl rfl rfl rfl ft rfl rfl sb rfl ?_) | (refine awp_block ?_) | (refine awp_exit ?_) | (refine awp_skip ?_) | (refine awp_ret ?_) | (refine awp_cond_t rfl ?_) | (refine awp_cond_f rfl ?_) | (refine awp_quiet TM rfl (by kernel_rfl) ?_) | ((first | refine awpL_split rfl rfl rfl (fun hc => ?_) (fun hc => ?_) | refine awpQ_split rfl rfl rfl (fun hc => ?_) (fun hc => ?_) | refine awp_cond rfl (fun hc => ?_) (fun hc => ?_)) <;> ((try simp at hc) <;> try contradiction))))
    · refine fin_ret rfl (by repeat' (first | exact trivial | exact Nat.zero_lt_one | omega | refine ⟨?_, ?_⟩)) (congrArg vB ?_) rfl
      symm; apply decide_eq_false; intro e; subst e; simp at hc
    · refine ⟨[], k + 1, ⟨by omega, ?_⟩, (by first | omega | (dsimp only; omega)), ⟨(by repeat' (first | exact trivial | refine ⟨rfl, ?_⟩ | refine ⟨congrArg some (congrArg vI (by first | omega | (simp; done) | (simp; omega))), ?_⟩ | refine ⟨sl_eqA (by first | omega | (simp; done) | (simp; omega)), ?_⟩)), (by repeat' (first | exact trivial | refine ⟨rfl, ?_⟩)), rfl⟩⟩
      have hk : k < ys.length := by omega
      rw [List.take_succ_eq_append_getElem (by assumption), List.take_succ_eq_append_getElem hk, h2]
      congr 2
      rw [gD3 (by assumption), gD3 hk] at hc
      exact Prod.ext hc.1 (Prod.ext hc.2.1 hc.2.2)
    · refine fin_ret rfl (by repeat' (first | exact trivial | exact Nat.zero_lt_one | omega | refine ⟨?_, ?_⟩)) (congrArg vB ?_) rfl
      rw [List.take_of_length_le (by omega), List.take_of_length_le (by omega)] at h2
      simp [h2]
def marks3 (k : Int) (n : Nat) : List F3 := (List.range n).map fun (i : Nat) => (k + 3 * (i : Int), k + 3 * (i : Int) + 1, k + 3 * (i : Int) + 1 + 1)
@[simp] theorem marks3_len {k : Int} {n : Nat} : (marks3 k n).length = n := by simp [marks3]
theorem marks3_at {k : Int} {n j : Nat} (h : j < n) : (marks3 k n)[j]?.getD (0, 0, 0) = (k + 3 * (j : Int), k + 3 * (j : Int) + 1, k + 3 * (j : Int) + 1 + 1) := by simp [marks3, h]
theorem marks3_step {k : Int} {i : Nat} {ys : List F3} (h : i < ys.length) : (marks3 k i ++ ys.drop i).set i (k + 3 * (i : Int), k + 3 * (i : Int) + 1, k + 3 * (i : Int) + 1 + 1) = marks3 k (i + 1) ++ ys.drop (i + 1) := by
  rw [List.drop_eq_getElem_cons h, List.set_append_right _ _ (by simp), marks3_len, Nat.sub_self, List.set_cons_zero]
  simp [marks3, List.range_succ]
def Marks3 (k : Int) (t : TypeId) (c n : Nat) (v : AV) (Hout : List (Nat × Blk)) (n1 : Nat) : Prop := v = vI (k + 3 * (n : Int)) ∧ Hout = [(1, .own t c (.i3 (marks3 k n)))] ∧ n1 = 2
theorem d_markFormS (xs : List F3) (c cap : Nat) (k : Int) (hl : xs.length ≤ 1099511627776) (hk : 0 ≤ k) (hk' : k ≤ 4611686018427387904) : Does Try.prog 27 [vS3 1 xs.length c, vI k] [(1, .own 26 cap (.i3 xs))] 2 (Marks3 k 26 cap xs.length) := by
  refine Does.intro TT Try.func27 rfl (by kernel_rfl) rfl rfl fun E hE => ?_
  (repeat' (first | (refine awpL_step TT rfl rfl rfl sd ?_) | (refine awpL_nil ?_) | (refine awpL_skip rfl rfl ?_) | (refine awpQ_step TT rfl rfl rfl rfl sd ?_) | (refine awpQ_nil ?_) | (refine awpQ_skip rfl rfl ?_) | (refine awp_seq ?_) | (refine awp_region ?_) | (refine awp_block ?_) | (refine awp_exit ?_) | (refine awp_skip ?_) | (refine awp_ret ?_) | (refine awp_cond_t rfl ?_) | (refine awp_cond_f rfl ?_) | (refine awp_quiet TM rfl (by kernel_rfl) ?_) | ((first | refine awpL_split rfl rfl rfl (fun hc => ?_) (fun hc => ?_) | refine awpQ_split rfl rfl rfl (fun hc => ?_) (fun hc => ?_) | refine awp_cond rfl (fun hc => ?_) (fun hc => ?_)) <;> ((try simp at hc) <;> try contradiction))))
  refine awp_loop hE (fun i : Nat => i ≤ xs.length) (fun i => xs.length - i)
    (fun i => [(0, vS3 1 xs.length c), (1, vI (k + 3 * (i : Int))), (5, vI i)]) (fun i => [(1, .own 26 cap (.i3 (marks3 k i ++ xs.drop i)))]) 2 [] 0 (Nat.zero_le _) ⟨(by repeat' (first | exact trivial | refine ⟨rfl, ?_⟩ | refine ⟨congrArg some (congrArg vI (by first | omega | (simp; done) | (simp; omega))), ?_⟩ | refine ⟨sl_eqA (by first | omega | (simp; done) | (simp; omega)), ?_⟩)), (by repeat' (first | exact trivial | refine ⟨rfl, ?_⟩)), rfl⟩ ?_
  intro i h1
  (repeat' (first | (refine awpL_step TT rfl rfl rfl sd ?_) | (refine awpL_nil ?_) | (refine awpL_skip rfl rfl ?_) | (refine awpQ_step TT rfl rfl rfl rfl sd ?_) | (refine awpQ_nil ?_) | (refine awpQ_skip rfl rfl ?_) | (refine awp_seq ?_) | (refine awp_region ?_) | (refine awp_block ?_) | (refine awp_exit ?_) | (refine awp_skip ?_) | (refine awp_ret ?_) | (refine awp_cond_t rfl ?_) | (refine awp_cond_f rfl ?_) | (refine awp_quiet TM rfl (by kernel_rfl) ?_) | ((first | refine awpL_split rfl rfl rfl (fun hc => ?_) (fun hc => ?_) | refine awpQ_split rfl rfl rfl (fun hc => ?_) (fun hc => ?_) | refine awp_cond rfl (fun hc => ?_) (fun hc => ?_)) <;> ((try simp at hc) <;> try contradiction))))
  · refine ⟨[], i + 1, hc, (by first | omega | (dsimp only; omega)), ⟨⟨rfl, congrArg some (congrArg vI (show k + 3 * (i : Int) + 1 + 1 + 1 = k + 3 * ((i + 1 : Nat) : Int) by omega)), rfl, trivial⟩, ⟨own_i3 ?_, trivial⟩, rfl⟩⟩
    rw [← marks3_step hc]
    have : (0 + (i : Int).toNat) = i := by omega
    rw [this]
    have hlt : i < (marks3 k i ++ List.drop i xs).length := by simp; omega
    generalize marks3 k i ++ List.drop i xs = l at *
    simp [hlt]
  · have : i = xs.length := by omega
    subst this
    exact fin rfl trivial [] (vI (k + 3 * (xs.length : Int))) [(1, .own 26 cap (.i3 (marks3 k xs.length)))] 2 ⟨rfl, rfl, rfl⟩ rfl ⟨trivial, ⟨own_i3 (by simp), trivial⟩, rfl⟩ rfl
theorem d_heldFormS (n : Nat) (c : Nat) (k : Int) (hl : n ≤ 1099511627776) (hk : 0 ≤ k) (hk' : k ≤ 4611686018427387904) : Does Try.prog 28 [vS3 1 n c, vI k] [(1, .ro (.i3 (marks3 k n)))] 2 (Ret (vI (k + 3 * (n : Int))) 2) := by
  refine Does.intro TT Try.func28 rfl (by kernel_rfl) rfl rfl fun E hE => ?_
  (repeat' (first | (refine awpL_step TT rfl rfl rfl sd ?_) | (refine awpL_nil ?_) | (refine awpL_skip rfl rfl ?_) | (refine awpQ_step TT rfl rfl rfl rfl sd ?_) | (refine awpQ_nil ?_) | (refine awpQ_skip rfl rfl ?_) | (refine awp_seq ?_) | (refine awp_region ?_) | (refine awp_block ?_) | (refine awp_exit ?_) | (refine awp_skip ?_) | (refine awp_ret ?_) | (refine awp_cond_t rfl ?_) | (refine awp_cond_f rfl ?_) | (refine awp_quiet TM rfl (by kernel_rfl) ?_) | ((first | refine awpL_split rfl rfl rfl (fun hc => ?_) (fun hc => ?_) | refine awpQ_split rfl rfl rfl (fun hc => ?_) (fun hc => ?_) | refine awp_cond rfl (fun hc => ?_) (fun hc => ?_)) <;> ((try simp at hc) <;> try contradiction))))
  refine awp_loop hE (fun i : Nat => i ≤ n) (fun i => n - i)
    (fun i => [(0, vS3 1 n c), (1, vI (k + 3 * (i : Int))), (5, vI i)]) (fun i => [(1, .ro (.i3 (marks3 k n)))]) 2 [] 0 (Nat.zero_le _) ⟨(by repeat' (first | exact trivial | refine ⟨rfl, ?_⟩ | refine ⟨congrArg some (congrArg vI (by first | omega | (simp; done) | (simp; omega))), ?_⟩ | refine ⟨sl_eqA (by first | omega | (simp; done) | (simp; omega)), ?_⟩)), (by repeat' (first | exact trivial | refine ⟨rfl, ?_⟩)), rfl⟩ ?_
  intro i h1
  (repeat' (first | (refine awpL_step TT rfl rfl rfl sd ?_) | (refine awpL_nil ?_) | (refine awpL_skip rfl rfl ?_) | (refine awpQ_step TT rfl rfl rfl rfl sd ?_) | (refine awpQ_nil ?_) | (refine awpQ_skip rfl rfl ?_) | (refine awp_seq ?_) | (refine awp_region ?_) | (refine awp_block ?_) | (refine awp_exit ?_) | (refine awp_skip ?_) | (refine awp_ret ?_) | (refine awp_cond_t rfl ?_) | (refine awp_cond_f rfl ?_) | (refine awp_quiet TM rfl (by kernel_rfl) ?_) | ((first | refine awpL_split rfl rfl rfl (fun hc => ?_) (fun hc => ?_) | refine awpQ_split rfl rfl rfl (fun hc => ?_) (fun hc => ?_) | refine awp_cond rfl (fun hc => ?_) (fun hc => ?_)) <;> ((try simp at hc) <;> try contradiction))))
  · rw [marks3_at (by assumption)] at hc; exact absurd rfl hc
  · rw [marks3_at (by assumption)] at hc; exact absurd rfl hc
  · rw [marks3_at (by assumption)] at hc; exact absurd rfl hc
  · exact ⟨[], i + 1, by assumption, (by first | omega | (dsimp only; omega)), ⟨⟨rfl, congrArg some (congrArg vI (show k + 3 * (i : Int) + 1 + 1 + 1 = k + 3 * ((i + 1 : Nat) : Int) by omega)), rfl, trivial⟩, ⟨rfl, trivial⟩, rfl⟩⟩
  · have : i = n := by omega
    subst this
    refine fin_ret rfl (by repeat' (first | exact trivial | exact Nat.zero_lt_one | omega | refine ⟨?_, ?_⟩)) (rfl) rfl
end Go.Proofs.Ytbaaelampabhdaa
