/-
  CONTRACTS: the drawing of inputs out of a code: what is drawn is some number within its bounds, and only the cursor turns.
-/
import Derived.Test.YtbgeooalhoaemaabSlice
set_option linter.unusedVariables false
set_option linter.unusedSimpArgs false
namespace Go.Proofs.Ytbgeooalhoaemaa
open Go.RowKit

theorem and255 (x : Int) : 0 ≤ bitV .and x 255 ∧ bitV .and x 255 ≤ 255 := by
  unfold bitV
  have h : (BitVec.ofInt 64 x &&& BitVec.ofInt 64 255).toNat ≤ 255 := by
    rw [BitVec.toNat_and]
    exact Nat.le_trans Nat.and_le_right (by decide)
  have e : bits .and .i64 x 255 = IntKind.i64.wrap ((BitVec.ofInt 64 x &&& BitVec.ofInt 64 255).toNat : Nat) := rfl
  rw [e, IntKind.wrap_i64]
  omega
def curL (c n i : Nat) (h : Int) : List SV := [.sl 1 1 0 n c, .int i, .int h]
def vC : AV := .one (.ptr 2 3 0 0)
def Drew (t : TypeId) (n c : Nat) (φ : Int → Prop) (v : AV) (Hout : List (Nat × Blk)) (n1 : Nat) : Prop :=
  ∃ (r : Int) (i : Nat) (h : Int), φ r ∧ v = vI r ∧ Hout = [(2, .own t 1 (.lit (curL c n i h)))] ∧ n1 = 3
theorem d_big (bs : List Int) (c : Nat) : Does Try.prog 51 [vS 1 1 0 bs.length c] [(1, .ro (.bytes bs))] 2 (Ret (vB (decide (1048576 < (bs.length : Int)))) 2) := by
  refine Does.intro TT Try.func51 rfl (by kernel_rfl) rfl rfl fun E hE => ?_
  (repeat' (first | (refine awpL_step TT rfl rfl rfl sd ?_) | (refine awpL_nil ?_) | (refine awpL_skip rfl rfl ?_) | (refine awpQ_step TT rfl rfl rfl rfl sd ?_) | (refine awpQ_nil ?_) | (refine awpQ_skip rfl rfl ?_) | (refine awp_seq ?_) | (refine awp_region ?_) | (refine awp_block ?_) | (refine awp_exit ?_) | (refine awp_skip ?_) | (refine awp_ret ?_) | (refine awp_cond_t rfl ?_) | (refine awp_cond_f rfl ?_) | (refine awp_quiet TM rfl (by kernel_rfl) ?_) | ((first | refine awpL_split rfl rfl rfl (fun hc => ?_) (fun hc => ?_) | refine awpQ_split rfl rfl rfl (fun hc => ?_) (fun hc => ?_) | refine awp_cond rfl (fun hc => ?_) (fun hc => ?_)) <;> ((try simp at hc) <;> try contradiction))))
  refine fin_ret rfl (by repeat' (first | exact trivial | exact Nat.zero_lt_one | omega | refine ⟨?_, ?_⟩)) (rfl) rfl
def NewC (t : TypeId) (n c : Nat) (v : AV) (Hout : List (Nat × Blk)) (n1 : Nat) : Prop :=
  ∃ (i : Nat) (h : Int), v = vC ∧ Hout = [(2, .own t 1 (.lit (curL c n i h)))] ∧ n1 = 3
set_option maxHeartbeats 1000000 in
theorem d_l1New (bs : List Int) (c : Nat) (hl : bs.length ≤ 1048576) : Does Try.prog 79 [vS 1 1 0 bs.length c] [(1, .ro (.bytes bs))] 2 (NewC 98 bs.length c) := by
  refine Does.intro TT Try.func79 rfl (by kernel_rfl) rfl rfl fun E hE => ?_
  (repeat' (first | (refine awpL_step TT rfl rfl rfl sd ?_) | (refine awpL_nil ?_) | (refine awpL_skip rfl rfl ?_) | (refine awpQ_step TT rfl rfl rfl rfl sd ?_) | (refine awpQ_nil ?_) | (refine awpQ_skip rfl rfl ?_) | (refine awp_seq ?_) | (refine awp_region ?_) | (refine awp_block ?_) | (refine awp_exit ?_) | (refine awp_skip ?_) | (refine awp_ret ?_) | (refine awp_cond_t rfl ?_) | (refine awp_cond_f rfl ?_) | (refine awp_quiet TM rfl (by kernel_rfl) ?_) | ((first | refine awpL_split rfl rfl rfl (fun hc => ?_) (fun hc => ?_) | refine awpQ_split rfl rfl rfl (fun hc => ?_) (fun hc => ?_) | refine awp_cond rfl (fun hc => ?_) (fun hc => ?_)) <;> ((try simp at hc) <;> try contradiction))))
  refine awp_loop hE (fun p : Int × Int => 0 ≤ p.1 ∧ p.1 ≤ bs.length) (fun p => bs.length - p.1.toNat)
    (fun p => [(0, vS 1 1 0 bs.length c), (3, vI p.2), (4, vI p.1)]) (fun _ => [(1, .ro (.bytes bs))]) 2 [] (0, 10101 + bs.length) ⟨Int.le_refl _, by dsimp only; omega⟩ ⟨(by repeat' (first | exact trivial | refine ⟨rfl, ?_⟩ | refine ⟨congrArg some (congrArg vI (by first | omega | (simp; done) | (simp; omega))), ?_⟩ | refine ⟨sl_eqA (by first | omega | (simp; done) | (simp; omega)), ?_⟩)), (by repeat' (first | exact trivial | refine ⟨rfl, ?_⟩)), rfl⟩ ?_
  rintro ⟨i, h⟩ ⟨h0, h1⟩
  dsimp only at h0 h1 ⊢
  ((repeat' (first | (refine awpL_step TT rfl rfl rfl sd ?_) | (refine awpL_nil ?_) | (refine awpL_skip rfl rfl ?_) | (refine awpQ_step TT rfl rfl rfl rfl sd ?_) | (refine awpQ_nil ?_) | (refine awpQ_skip rfl rfl ?_) | (refine awp_seq ?_) | (refine awp_region ?_) | (first | refine awpL_wrap rfl rfl rfl rfl ?_ | refine awpQ_wrap rfl rfl rfl rfl ?_) | (refine awp_block ?_) | (refine awp_exit ?_) | (refine awp_skip ?_) | (refine awp_ret ?_) | (refine awp_cond_t rfl ?_) | (refine awp_cond_f rfl ?_) | (refine awp_quiet TM rfl (by kernel_rfl) ?_) | ((first | refine awpL_split rfl rfl rfl (fun hc => ?_) (fun hc => ?_) | refine awpQ_split rfl rfl rfl (fun hc => ?_) (fun hc => ?_) | refine awp_cond rfl (fun hc => ?_) (fun hc => ?_)) <;> ((try simp at hc) <;> try contradiction)))) <;> try (exfalso; omega))
  · exact ⟨[], (i + 1, _), ⟨by dsimp only; omega, by dsimp only; omega⟩, (by first | omega | (dsimp only; omega)), ⟨⟨rfl, rfl, rfl, trivial⟩, ⟨rfl, trivial⟩, rfl⟩⟩
  all_goals exact fin rfl (by repeat' (first | exact trivial | exact Nat.zero_lt_one | omega | refine ⟨?_, ?_⟩)) [(2, 2)] vC [(2, .own 98 1 (.lit (curL c bs.length 0 h)))] 3 ⟨0, h, rfl, rfl, rfl⟩ rfl ⟨trivial, ⟨rfl, trivial⟩, rfl⟩ rfl
set_option maxHeartbeats 1000000 in
theorem d_l1Byte (bs : List Int) (c i : Nat) (h : Int) (hl : bs.length ≤ 1048576) : Does Try.prog 94 [vC] [(1, .ro (.bytes bs)), (2, .own 98 1 (.lit (curL c bs.length i h)))] 3 (Drew 98 bs.length c fun r => 0 ≤ r ∧ r ≤ 255) := by
  refine Does.intro TT Try.func94 rfl (by kernel_rfl) rfl rfl fun E hE => ?_
  ((repeat' (first | (refine awpL_step TT rfl rfl rfl sd ?_) | (refine awpL_nil ?_) | (refine awpL_skip rfl rfl ?_) | (refine awpQ_step TT rfl rfl rfl rfl sd ?_) | (refine awpQ_nil ?_) | (refine awpQ_skip rfl rfl ?_) | (refine awp_seq ?_) | (refine awp_region ?_) | (first | refine awpL_wrap rfl rfl rfl rfl ?_ | refine awpQ_wrap rfl rfl rfl rfl ?_) | (refine awp_block ?_) | (refine awp_exit ?_) | (refine awp_skip ?_) | (refine awp_ret ?_) | (refine awp_cond_t rfl ?_) | (refine awp_cond_f rfl ?_) | (refine awp_quiet TM rfl (by kernel_rfl) ?_) | ((first | refine awpL_split rfl rfl rfl (fun hc => ?_) (fun hc => ?_) | refine awpQ_split rfl rfl rfl (fun hc => ?_) (fun hc => ?_) | refine awp_cond rfl (fun hc => ?_) (fun hc => ?_)) <;> ((try simp at hc) <;> try contradiction)))) <;> try (exfalso; omega))
  · exact fin rfl (by repeat' (first | exact trivial | exact Nat.zero_lt_one | omega | refine ⟨?_, ?_⟩)) [] (vI _) [(2, .own 98 1 (.lit (curL c bs.length (i + 1) _)))] 3 ⟨_, _, _, and255 _, rfl, rfl, rfl⟩ rfl ⟨trivial, ⟨rfl, trivial⟩, rfl⟩ rfl
  · exact fin rfl (by repeat' (first | exact trivial | exact Nat.zero_lt_one | omega | refine ⟨?_, ?_⟩)) [] (vI _) [(2, .own 98 1 (.lit (curL c bs.length i _)))] 3 ⟨_, _, _, and255 _, rfl, rfl, rfl⟩ rfl ⟨trivial, ⟨rfl, trivial⟩, rfl⟩ rfl
theorem tmod_in' {x n : Int} (h : 0 ≤ x) : 0 ≤ x.tmod n ∧ (0 < n → x.tmod n < n) := by
  refine ⟨Int.tmod_nonneg n h, fun hn => ?_⟩
  rw [Int.tmod_eq_emod_of_nonneg h]
  exact Int.emod_lt_of_pos x hn
set_option maxHeartbeats 1000000 in
theorem d_l1Below (bs : List Int) (c i : Nat) (h : Int) (n : Int) (hl : bs.length ≤ 1048576) : Does Try.prog 82 [vC, vI n] [(1, .ro (.bytes bs)), (2, .own 98 1 (.lit (curL c bs.length i h)))] 3 (Drew 98 bs.length c fun r => 0 ≤ r ∧ (0 < n → r < n)) := by
  refine Does.intro TT Try.func82 rfl (by kernel_rfl) rfl rfl fun E hE => ?_
  ((repeat' (first | (refine awpL_step TT rfl rfl rfl sd ?_) | (refine awpL_nil ?_) | (refine awpL_skip rfl rfl ?_) | (refine awpQ_step TT rfl rfl rfl rfl sd ?_) | (refine awpQ_nil ?_) | (refine awpQ_skip rfl rfl ?_) | (refine awp_seq ?_) | (refine awp_region ?_) | ((refine awpL_call (d_l1Byte bs c _ _ hl) rfl rfl rfl rfl rfl rfl rfl ft rfl ?_); rintro v Hout n1 ⟨r, i', h', hr, rfl, rfl, rfl⟩) | (refine awp_block ?_) | (refine awp_exit ?_) | (refine awp_skip ?_) | (refine awp_ret ?_) | (refine awp_cond_t rfl ?_) | (refine awp_cond_f rfl ?_) | (refine awp_quiet TM rfl (by kernel_rfl) ?_) | ((first | refine awpL_split rfl rfl rfl (fun hc => ?_) (fun hc => ?_) | refine awpQ_split rfl rfl rfl (fun hc => ?_) (fun hc => ?_) | refine awp_cond rfl (fun hc => ?_) (fun hc => ?_)) <;> ((try simp at hc) <;> try contradiction)))) <;> try (exfalso; omega))
  · exact fin rfl (by repeat' (first | exact trivial | exact Nat.zero_lt_one | omega | refine ⟨?_, ?_⟩)) [] (vI 0) [(2, .own 98 1 (.lit (curL c bs.length i h)))] 3 ⟨_, _, _, ⟨by omega, by omega⟩, rfl, rfl, rfl⟩ rfl ⟨trivial, ⟨rfl, trivial⟩, rfl⟩ rfl
  all_goals exact fin rfl (by repeat' (first | exact trivial | exact Nat.zero_lt_one | omega | refine ⟨?_, ?_⟩)) [] (vI _) [(2, .own 98 1 (.lit (curL c bs.length _ _)))] 3 ⟨_, _, _, tmod_in' (by omega), rfl, rfl, rfl⟩ rfl ⟨trivial, ⟨rfl, trivial⟩, rfl⟩ rfl
def DrewB (t : TypeId) (n c : Nat) (v : AV) (Hout : List (Nat × Blk)) (n1 : Nat) : Prop :=
  ∃ (b : Bool) (i : Nat) (h : Int), v = vB b ∧ Hout = [(2, .own t 1 (.lit (curL c n i h)))] ∧ n1 = 3
theorem d_l1Once (bs : List Int) (c i : Nat) (h : Int) (n : Int) (hl : bs.length ≤ 1048576) : Does Try.prog 96 [vC, vI n] [(1, .ro (.bytes bs)), (2, .own 98 1 (.lit (curL c bs.length i h)))] 3 (DrewB 98 bs.length c) := by
  refine Does.intro TT Try.func96 rfl (by kernel_rfl) rfl rfl fun E hE => ?_
  ((repeat' (first | (refine awpL_step TT rfl rfl rfl sd ?_) | (refine awpL_nil ?_) | (refine awpL_skip rfl rfl ?_) | (refine awpQ_step TT rfl rfl rfl rfl sd ?_) | (refine awpQ_nil ?_) | (refine awpQ_skip rfl rfl ?_) | (refine awp_seq ?_) | (refine awp_region ?_) | ((refine awpL_call (d_l1Below bs c _ _ n hl) rfl rfl rfl rfl rfl rfl rfl ft rfl ?_); rintro v Hout n1 ⟨r, i', h', hr, rfl, rfl, rfl⟩) | (refine awp_block ?_) | (refine awp_exit ?_) | (refine awp_skip ?_) | (refine awp_ret ?_) | (refine awp_cond_t rfl ?_) | (refine awp_cond_f rfl ?_) | (refine awp_quiet TM rfl (by kernel_rfl) ?_) | ((first | refine awpL_split rfl rfl rfl (fun hc => ?_) (fun hc => ?_) | refine awpQ_split rfl rfl rfl (fun hc => ?_) (fun hc => ?_) | refine awp_cond rfl (fun hc => ?_) (fun hc => ?_)) <;> ((try simp at hc) <;> try contradiction)))) <;> try (exfalso; omega))
  exact fin rfl (by repeat' (first | exact trivial | exact Nat.zero_lt_one | omega | refine ⟨?_, ?_⟩)) [] (vB _) [(2, .own 98 1 (.lit (curL c bs.length _ _)))] 3 ⟨_, _, _, rfl, rfl, rfl⟩ rfl ⟨trivial, ⟨rfl, trivial⟩, rfl⟩ rfl
theorem d_l1PickInt (bs : List Int) (c i : Nat) (h : Int) (xs : List Int) (n cx : Nat) (hn : n = xs.length) (h0 : 0 < n) (hl : bs.length ≤ 1048576) : Does Try.prog 105 [vC, vS 3 1 0 n cx] [(1, .ro (.bytes bs)), (2, .own 98 1 (.lit (curL c bs.length i h))), (3, .ro (.ints xs))] 4 (fun v Hout n1 => ∃ (r : Int) (i : Nat) (h : Int), r ∈ xs ∧ v = vI r ∧ Hout = [(2, .own 98 1 (.lit (curL c bs.length i h)))] ∧ n1 = 4) := by
  refine Does.intro TT Try.func105 rfl (by kernel_rfl) rfl rfl fun E hE => ?_
  ((repeat' (first | (refine awpL_step TT rfl rfl rfl sd ?_) | (refine awpL_nil ?_) | (refine awpL_skip rfl rfl ?_) | (refine awpQ_step TT rfl rfl rfl rfl sd ?_) | (refine awpQ_nil ?_) | (refine awpQ_skip rfl rfl ?_) | (refine awp_seq ?_) | (refine awp_region ?_) | ((refine awpL_call (d_l1Below bs c _ _ n hl) rfl rfl rfl rfl rfl rfl rfl ft rfl ?_); rintro v Hout n1 ⟨r, i', h', ⟨hr1, hr2⟩, rfl, rfl, rfl⟩; replace hr2 := hr2 (by omega)) | (refine awp_block ?_) | (refine awp_exit ?_) | (refine awp_skip ?_) | (refine awp_ret ?_) | (refine awp_cond_t rfl ?_) | (refine awp_cond_f rfl ?_) | (refine awp_quiet TM rfl (by kernel_rfl) ?_) | ((first | refine awpL_split rfl rfl rfl (fun hc => ?_) (fun hc => ?_) | refine awpQ_split rfl rfl rfl (fun hc => ?_) (fun hc => ?_) | refine awp_cond rfl (fun hc => ?_) (fun hc => ?_)) <;> ((try simp at hc) <;> try contradiction)))) <;> try (exfalso; omega))
  have hlt : 0 + r.toNat < xs.length := by omega
  exact fin rfl (by repeat' (first | exact trivial | exact Nat.zero_lt_one | omega | refine ⟨?_, ?_⟩)) [] (vI _) [(2, .own 98 1 (.lit (curL c bs.length _ _)))] 4 ⟨_, _, _, (by rw [List.getD_eq_getElem?_getD, List.getElem?_eq_getElem hlt]; exact List.getElem_mem hlt), rfl, rfl, rfl⟩ rfl ⟨trivial, ⟨rfl, trivial⟩, rfl⟩ rfl
theorem d_l1Odd (bs : List Int) (c i : Nat) (h : Int) (hl : bs.length ≤ 1048576) : Does Try.prog 101 [vC] [(1, .ro (.bytes bs)), (2, .own 98 1 (.lit (curL c bs.length i h)))] 3 (Drew 98 bs.length c fun r => -9223372036854775808 ≤ r ∧ r ≤ 9223372036854775807) := by
  refine Does.intro TT Try.func101 rfl (by kernel_rfl) rfl rfl fun E hE => ?_
  ((repeat' (first | (refine awpL_step TT rfl rfl rfl sd ?_) | (refine awpL_nil ?_) | (refine awpL_skip rfl rfl ?_) | (refine awpQ_step TT rfl rfl rfl rfl sd ?_) | (refine awpQ_nil ?_) | (refine awpQ_skip rfl rfl ?_) | (refine awp_seq ?_) | (refine awp_region ?_) | ((refine awpL_call (d_l1PickInt bs c _ _ [0, 1, -1, 2, 400000000, -400000000, 400000001, -400000001, 399999999, 9223372036854775807, -9223372036854775808] 11 _ rfl (by omega) hl) rfl rfl rfl rfl rfl rfl rfl ft rfl ?_); rintro v Hout n1 ⟨r, i', h', hr, rfl, rfl, rfl⟩) | (refine awp_block ?_) | (refine awp_exit ?_) | (refine awp_skip ?_) | (refine awp_ret ?_) | (refine awp_cond_t rfl ?_) | (refine awp_cond_f rfl ?_) | (refine awp_quiet TM rfl (by kernel_rfl) ?_) | ((first | refine awpL_split rfl rfl rfl (fun hc => ?_) (fun hc => ?_) | refine awpQ_split rfl rfl rfl (fun hc => ?_) (fun hc => ?_) | refine awp_cond rfl (fun hc => ?_) (fun hc => ?_)) <;> ((try simp at hc) <;> try contradiction)))) <;> try (exfalso; omega))
  exact fin rfl (by repeat' (first | exact trivial | exact Nat.zero_lt_one | omega | refine ⟨?_, ?_⟩)) [] (vI _) [(2, .own 98 1 (.lit (curL c bs.length _ _)))] 3 ⟨_, _, _, (by simp at hr; omega), rfl, rfl, rfl⟩ rfl ⟨trivial, ⟨rfl, trivial⟩, rfl⟩ rfl
end Go.Proofs.Ytbgeooalhoaemaa
