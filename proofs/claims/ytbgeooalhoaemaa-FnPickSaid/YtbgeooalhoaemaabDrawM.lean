/-
  CONTRACTS: drawn numbers, matrices and vectors.
-/
import Derived.Test.YtbgeooalhoaemaabDraw
import Derived.Test.YtbgeooalhoaemaabMat
import Derived.Test.YtbgeooalhoaemaaAm8
set_option linter.unusedVariables false
set_option linter.unusedSimpArgs false
namespace Go.Proofs.Ytbgeooalhoaemaa
open Go.RowKit

theorem d_l1Num (bs : List Int) (c i : Nat) (h : Int) (m : Int) (hm : 0 ≤ m ∧ m ≤ 1000) (hl : bs.length ≤ 1048576) : Does Try.prog 93 [vC, vI m] [(1, .ro (.bytes bs)), (2, .own 98 1 (.lit (curL c bs.length i h)))] 3 (Drew 98 bs.length c fun r => -9223372036854775808 ≤ r ∧ r ≤ 9223372036854775807) := by
  refine Does.intro TT Try.func93 rfl (by kernel_rfl) rfl rfl fun E hE => ?_
  ((repeat' (first | (refine awpL_step TT rfl rfl rfl sd ?_) | (refine awpL_nil ?_) | (refine awpL_skip rfl rfl ?_) | (refine awpQ_step TT rfl rfl rfl rfl sd ?_) | (refine awpQ_nil ?_) | (refine awpQ_skip rfl rfl ?_) | (refine awp_seq ?_) | (refine awp_region ?_) | ((refine awpL_call (d_l1Once bs c _ _ 40 hl) rfl rfl rfl rfl rfl rfl rfl ft rfl ?_); rintro v Hout n1 ⟨b0, i0, h0, rfl, rfl, rfl⟩; cases b0) | ((refine awpL_call (d_l1Odd bs c _ _ hl) rfl rfl rfl rfl rfl rfl rfl ft rfl ?_); rintro v Hout n1 ⟨r1, i1, h1, hr1, rfl, rfl, rfl⟩) | ((refine awpL_call (d_l1Below bs c _ _ _ hl) rfl rfl rfl rfl rfl rfl rfl ft rfl ?_); rintro v Hout n1 ⟨r2, i2, h2, ⟨hr2, hr3⟩, rfl, rfl, rfl⟩; replace hr3 := hr3 (by omega)) | (refine awp_block ?_) | (refine awp_exit ?_) | (refine awp_skip ?_) | (refine awp_ret ?_) | (refine awp_cond_t rfl ?_) | (refine awp_cond_f rfl ?_) | ((first | refine awpL_split rfl rfl rfl (fun hc => ?_) (fun hc => ?_) | refine awpQ_split rfl rfl rfl (fun hc => ?_) (fun hc => ?_) | refine awp_cond rfl (fun hc => ?_) (fun hc => ?_)) <;> ((try simp at hc) <;> try contradiction)))) <;> try (exfalso; omega))
  all_goals exact fin rfl (by repeat' (first | exact trivial | exact Nat.zero_lt_one | omega | refine ⟨?_, ?_⟩)) [] (vI _) [(2, .own 98 1 (.lit (curL c bs.length _ _)))] 3 ⟨_, _, _, (by first | assumption | omega), rfl, rfl, rfl⟩ rfl ⟨trivial, ⟨rfl, trivial⟩, rfl⟩ rfl
/-- a drawn matrix: numbers of the machine, not many -/
def DrewM (t tc : TypeId) (nb c : Nat) (k : Int) (v : AV) (Hout : List (Nat × Blk)) (n1 : Nat) : Prop :=
  ∃ (r : Int) (zs : List Int) (cap i : Nat) (h : Int), zs.length ≤ 1000 ∧ zs.length ≤ cap ∧ v = .agg [.int r, .int k, .sl 3 1 0 zs.length cap] ∧ Hout = [(2, .own tc 1 (.lit (curL c nb i h))), (3, .own t cap (.ints zs))] ∧ n1 = 4
def DrewD (t tc : TypeId) (nb c a b : Nat) (m : Int) (v : AV) (Hout : List (Nat × Blk)) (n1 : Nat) : Prop :=
  ∃ (zs : List Int) (i : Nat) (h : Int), zs.length = a * b ∧ (∀ p, -m ≤ zs.getD p 0 ∧ zs.getD p 0 ≤ m) ∧ v = .agg [.int a, .int b, .sl 3 1 0 (a * b) (a * b)] ∧ Hout = [(2, .own tc 1 (.lit (curL c nb i h))), (3, .own t (a * b) (.ints zs))] ∧ n1 = 4
set_option maxHeartbeats 2000000 in
theorem d_l3Draw (bs : List Int) (c i a b : Nat) (h m : Int) (ha : a ≤ 24) (hb : b ≤ 24) (hm : 0 ≤ m ∧ m ≤ 1000) (hl : bs.length ≤ 1048576) : Does Try.prog 99 [vC, vI a, vI b, vI m] [(1, .ro (.bytes bs)), (2, .own 98 1 (.lit (curL c bs.length i h)))] 3 (DrewD 3 98 bs.length c a b m) := by
  refine Does.intro TT Try.func99 rfl (by kernel_rfl) rfl rfl fun E hE => ?_
  have hab : a * b ≤ 24 * 24 := Nat.mul_le_mul ha hb
  ((repeat' (first | (refine awpL_step TT rfl rfl rfl sd ?_) | (refine awpL_nil ?_) | (refine awpL_skip rfl rfl ?_) | (refine awpQ_step TT rfl rfl rfl rfl sd ?_) | (refine awpQ_nil ?_) | (refine awpQ_skip rfl rfl ?_) | (refine awp_seq ?_) | (refine awp_region ?_) | ((first | refine awpL_one (d_newS _ _ ha hb) rfl rfl rfl rfl rfl rfl rfl ft rfl rfl (NewM.out) ?_ | refine awpHop_one _ (d_newS _ _ ha hb) rfl rfl rfl rfl rfl rfl rfl rfl ft rfl rfl (NewM.out) sb rfl rfl ?_); rintro v b ⟨rfl, he, -⟩; cases he) | (refine awp_block ?_) | (refine awp_exit ?_) | (refine awp_skip ?_) | (refine awp_ret ?_) | (refine awp_cond_t rfl ?_) | (refine awp_cond_f rfl ?_) | (refine awp_quiet TM rfl (by kernel_rfl) ?_) | ((first | refine awpL_split rfl rfl rfl (fun hc => ?_) (fun hc => ?_) | refine awpQ_split rfl rfl rfl (fun hc => ?_) (fun hc => ?_) | refine awp_cond rfl (fun hc => ?_) (fun hc => ?_)) <;> ((try simp at hc) <;> try contradiction)))) <;> try (exfalso; omega))
  refine awp_loop hE (fun x : Nat × List Int × Nat × Int => x.1 ≤ a * b ∧ x.2.1.length = a * b ∧ ∀ p, -m ≤ x.2.1.getD p 0 ∧ x.2.1.getD p 0 ≤ m) (fun x => a * b - x.1)
    (fun x => [(0, vC), (3, vI m), (8, .one (.ptr 3 3 0 0)), (9, .one (.ptr 5 3 0 0)), (10, vI x.1)]) (fun x => [(1, .ro (.bytes bs)), (2, .own 98 1 (.lit (curL c bs.length x.2.2.1 x.2.2.2))), (3, .own 27 1 (.lit zeroM)), (4, .own 3 (a * b) (.ints x.2.1)), (5, .own 27 1 (.lit [.int a, .int b, .sl 4 1 0 (a * b) (a * b)]))]) 6 [] (0, List.replicate (a * b) 0, i, h) ⟨Nat.zero_le _, List.length_replicate .., fun p => by
      rw [List.getD_eq_getElem?_getD, List.getElem?_replicate]
      split <;> (simp; omega)⟩ ⟨(by repeat' (first | exact trivial | refine ⟨rfl, ?_⟩ | refine ⟨congrArg some (congrArg vI (by first | omega | (simp; done) | (simp; omega))), ?_⟩ | refine ⟨sl_eqA (by first | omega | (simp; done) | (simp; omega)), ?_⟩)), (by repeat' (first | exact trivial | refine ⟨rfl, ?_⟩)), rfl⟩ ?_
  rintro ⟨k, zs, i1, h1⟩ ⟨hk, hz, hb⟩
  dsimp only at hk hz hb ⊢
  by_cases hkl : k < a * b
  · ((repeat' (first | (refine awpL_step TT rfl rfl rfl sd ?_) | (refine awpL_nil ?_) | (refine awpL_skip rfl rfl ?_) | (refine awpQ_step TT rfl rfl rfl rfl sd ?_) | (refine awpQ_nil ?_) | (refine awpQ_skip rfl rfl ?_) | (refine awp_seq ?_) | (refine awp_region ?_) | (refine awp_block ?_) | (refine awp_exit ?_) | (refine awp_skip ?_) | (refine awp_ret ?_) | (refine awp_cond_t rfl ?_) | (refine awp_cond_f rfl ?_) | ((first | refine awpL_split rfl rfl rfl (fun hc => ?_) (fun hc => ?_) | refine awpQ_split rfl rfl rfl (fun hc => ?_) (fun hc => ?_) | refine awp_cond rfl (fun hc => ?_) (fun hc => ?_)) <;> ((try simp at hc) <;> try contradiction)))) <;> try (exfalso; omega))
    refine awp_held TM [(5, _)] sb rfl (fun ρs => ?_)
    refine awpH_take TT 0 rfl kr kr kr nh rfl rfl rfl rfl sd ?_
    refine awpH_take TT 1 rfl kr kr kr nh rfl rfl rfl rfl sd ?_
    refine awpH_take TT 2 rfl kr kr kr nh rfl rfl rfl rfl sd ?_
    refine awpH_take TT 3 rfl kr kr kr nh rfl rfl rfl rfl sd ?_
    refine awpH_take TT 4 rfl kr kr kr nh rfl rfl rfl rfl sd ?_
    refine awpH_take TT 5 rfl kr kr kr nh rfl rfl rfl rfl sd ?_
    refine awpH_take TT 6 rfl kr kr kr nh rfl rfl rfl rfl sd ?_
    refine awpH_take TT 8 rfl kr kr kr nh rfl rfl rfl rfl sd ?_
    refine awpH_all [7] kr rfl ⟨?_, trivial⟩
    first | (refine awpHop_step TT 7 rfl rfl rfl rfl sd sb rfl ?_) | (refine awpHop_call _ (d_l1Below bs c _ _ _ hl) rfl rfl rfl rfl rfl rfl rfl rfl ft rfl rfl ?_; rintro v Hout n1 ⟨r2, i2, h2, ⟨hr2, hr3⟩, rfl, rfl, rfl⟩; refine ⟨sb, ?_⟩; replace hr3 := hr3 (by omega))
    refine awpH_take TT 9 rfl kr kr kr nh rfl rfl rfl rfl sd ?_
    first | (refine awpH_take TT 10 rfl kr kr kr nh rfl rfl rfl rfl sd ?_) | (refine awpH_idx TT 10 rfl kr kr kr nh rfl rfl rfl rfl rfl sd ?_)
    refine awpH_all [11] kr rfl ⟨?_, trivial⟩
    first | (refine awpHop_step TT 11 rfl rfl rfl rfl sd sb rfl ?_) | (refine awpHop_call _ (d_l1Below bs c _ _ _ hl) rfl rfl rfl rfl rfl rfl rfl rfl ft rfl rfl ?_; rintro v Hout n1 ⟨r2, i2, h2, ⟨hr2, hr3⟩, rfl, rfl, rfl⟩; refine ⟨sb, ?_⟩; replace hr3 := hr3 (by omega))
    refine awpH_done kr ?_
    rotate_left
    all_goals ((repeat' (first | (refine awpL_step TT rfl rfl rfl sd ?_) | (refine awpL_nil ?_) | (refine awpL_skip rfl rfl ?_) | (refine awpQ_step TT rfl rfl rfl rfl sd ?_) | (refine awpQ_nil ?_) | (refine awpQ_skip rfl rfl ?_) | (refine awp_seq ?_) | (refine awp_region ?_) | (refine awp_block ?_) | (refine awp_exit ?_) | (refine awp_skip ?_) | (refine awp_ret ?_) | (refine awp_cond_t rfl ?_) | (refine awp_cond_f rfl ?_) | ((first | refine awpL_split rfl rfl rfl (fun hc => ?_) (fun hc => ?_) | refine awpQ_split rfl rfl rfl (fun hc => ?_) (fun hc => ?_) | refine awp_cond rfl (fun hc => ?_) (fun hc => ?_)) <;> ((try simp at hc) <;> try contradiction)))) <;> try (exfalso; omega))
    all_goals exact ⟨[], (k + 1, zs.set k (r2 - m), i2, h2), ⟨hkl, by dsimp only; rw [List.length_set]; exact hz, fun p => by
      dsimp only
      rw [List.getD_eq_getElem?_getD, List.getElem?_set]
      split
      · split
        · simp; omega
        · simp; omega
      · rw [← List.getD_eq_getElem?_getD]; exact hb p⟩, (by first | omega | (dsimp only; omega)), ⟨(by repeat' (first | exact trivial | refine ⟨rfl, ?_⟩ | refine ⟨congrArg some (congrArg vI (by first | omega | (simp; done) | (simp; omega))), ?_⟩ | refine ⟨sl_eqA (by first | omega | (simp; done) | (simp; omega)), ?_⟩)), ⟨rfl, rfl, rfl, own_ints (by simp), rfl, trivial⟩, rfl⟩⟩
  · obtain rfl : k = a * b := by omega
    ((repeat' (first | (refine awpL_step TT rfl rfl rfl sd ?_) | (refine awpL_nil ?_) | (refine awpL_skip rfl rfl ?_) | (refine awpQ_step TT rfl rfl rfl rfl sd ?_) | (refine awpQ_nil ?_) | (refine awpQ_skip rfl rfl ?_) | (refine awp_seq ?_) | (refine awp_region ?_) | (refine awp_block ?_) | (refine awp_exit ?_) | (refine awp_skip ?_) | (refine awp_ret ?_) | (refine awp_cond_t rfl ?_) | (refine awp_cond_f rfl ?_) | (refine awp_quiet TM rfl (by kernel_rfl) ?_) | ((first | refine awpL_split rfl rfl rfl (fun hc => ?_) (fun hc => ?_) | refine awpQ_split rfl rfl rfl (fun hc => ?_) (fun hc => ?_) | refine awp_cond rfl (fun hc => ?_) (fun hc => ?_)) <;> ((try simp at hc) <;> try contradiction)))) <;> try (exfalso; omega))
    exact fin rfl (by repeat' (first | exact trivial | exact Nat.zero_lt_one | omega | refine ⟨?_, ?_⟩)) [(3, 4)] (.agg [.int a, .int b, .sl 3 1 0 (a * b) (a * b)]) [(2, .own 98 1 (.lit (curL c bs.length i1 h1))), (3, .own 3 (a * b) (.ints zs))] 4 ⟨zs, i1, h1, hz, hb, rfl, rfl, rfl⟩ rfl ⟨trivial, ⟨rfl, rfl, trivial⟩, rfl⟩ rfl
def DrewV (t tc : TypeId) (nb c n : Nat) (v : AV) (Hout : List (Nat × Blk)) (n1 : Nat) : Prop :=
  ∃ (zs : List Int) (cap i : Nat) (h : Int), zs.length = n ∧ n ≤ cap ∧ (∀ p, -9223372036854775808 ≤ zs.getD p 0 ∧ zs.getD p 0 ≤ 9223372036854775807) ∧ v = vS 3 1 0 n cap ∧ Hout = [(2, .own tc 1 (.lit (curL c nb i h))), (3, .own t cap (.ints zs))] ∧ n1 = 4
set_option maxHeartbeats 2000000 in
theorem d_l18Vector (bs : List Int) (c i n : Nat) (h : Int) (hn : n ≤ 1000) (hl : bs.length ≤ 1048576) : Does Try.prog 81 [vC, vI n] [(1, .ro (.bytes bs)), (2, .own 98 1 (.lit (curL c bs.length i h)))] 3 (DrewV 3 98 bs.length c n) := by
  refine Does.intro TT Try.func81 rfl (by kernel_rfl) rfl rfl fun E hE => ?_
  ((repeat' (first | (refine awpL_step TT rfl rfl rfl sd ?_) | (refine awpL_nil ?_) | (refine awpL_skip rfl rfl ?_) | (refine awpQ_step TT rfl rfl rfl rfl sd ?_) | (refine awpQ_nil ?_) | (refine awpQ_skip rfl rfl ?_) | (refine awp_seq ?_) | (refine awp_region ?_) | (refine awp_block ?_) | (refine awp_exit ?_) | (refine awp_skip ?_) | (refine awp_ret ?_) | (refine awp_cond_t rfl ?_) | (refine awp_cond_f rfl ?_) | (refine awp_quiet TM rfl (by kernel_rfl) ?_) | ((first | refine awpL_split rfl rfl rfl (fun hc => ?_) (fun hc => ?_) | refine awpQ_split rfl rfl rfl (fun hc => ?_) (fun hc => ?_) | refine awp_cond rfl (fun hc => ?_) (fun hc => ?_)) <;> ((try simp at hc) <;> try contradiction)))) <;> try (exfalso; omega))
  refine awp_loop hE (fun x : Nat × List Int × Nat × Nat × Int => x.1 ≤ n ∧ x.2.1.length = x.1 ∧ x.1 ≤ x.2.2.1 ∧ ∀ p, -9223372036854775808 ≤ x.2.1.getD p 0 ∧ x.2.1.getD p 0 ≤ 9223372036854775807) (fun x => n - x.1)
    (fun x => [(0, vC), (1, vI n), (5, vS 3 1 0 x.1 x.2.2.1), (6, vI x.1)]) (fun x => [(1, .ro (.bytes bs)), (2, .own 98 1 (.lit (curL c bs.length x.2.2.2.1 x.2.2.2.2))), (3, .own 3 x.2.2.1 (.ints x.2.1))]) 4 [] (0, [], 0, i, h) ⟨Nat.zero_le _, rfl, Nat.le_refl _, fun p => by simp⟩ ⟨(by repeat' (first | exact trivial | refine ⟨rfl, ?_⟩ | refine ⟨congrArg some (congrArg vI (by first | omega | (simp; done) | (simp; omega))), ?_⟩ | refine ⟨sl_eqA (by first | omega | (simp; done) | (simp; omega)), ?_⟩)), (by repeat' (first | exact trivial | refine ⟨rfl, ?_⟩)), rfl⟩ ?_
  rintro ⟨k, zs, cp, i1, h1⟩ ⟨hk, hz, hcp, hb⟩
  dsimp only at hk hz hcp hb ⊢
  by_cases hkl : k < n
  · ((repeat' (first | (refine awpL_step TT rfl rfl rfl sd ?_) | (refine awpL_nil ?_) | (refine awpL_skip rfl rfl ?_) | (refine awpQ_step TT rfl rfl rfl rfl sd ?_) | (refine awpQ_nil ?_) | (refine awpQ_skip rfl rfl ?_) | (refine awp_seq ?_) | (refine awp_region ?_) | ((refine awpL_call (d_l1Num bs c _ _ 5 (by omega) hl) rfl rfl rfl rfl rfl rfl rfl ft rfl ?_); rintro v Hout n1 ⟨r2, i2, h2, hr2, rfl, rfl, rfl⟩) | (first | (refine awpL_append TT rfl rfl rfl rfl rfl sd ?_; intro cap hcap) | (refine awpHop_append TT _ rfl rfl rfl rfl rfl rfl sd sb rfl rfl ?_; intro cap hcap)) | (refine awp_block ?_) | (refine awp_exit ?_) | (refine awp_skip ?_) | (refine awp_ret ?_) | (refine awp_cond_t rfl ?_) | (refine awp_cond_f rfl ?_) | (refine awp_quiet TM rfl (by kernel_rfl) ?_) | ((first | refine awpL_split rfl rfl rfl (fun hc => ?_) (fun hc => ?_) | refine awpQ_split rfl rfl rfl (fun hc => ?_) (fun hc => ?_) | refine awp_cond rfl (fun hc => ?_) (fun hc => ?_)) <;> ((try simp at hc) <;> try contradiction)))) <;> try (exfalso; omega))
    all_goals exact ⟨[(3, 5)], (k + 1, zs ++ [r2], cap, i2, h2), ⟨hkl, by simp [hz], by dsimp only at *; omega, fun p => by
      dsimp only
      rw [List.getD_eq_getElem?_getD, List.getElem?_append]
      split
      · rw [← List.getD_eq_getElem?_getD]; exact hb p
      · rcases Nat.eq_zero_or_pos (p - zs.length) with e | e
        · rw [e]; simpa using hr2
        · rw [List.getElem?_eq_none (by simp; omega)]; simp⟩, (by first | omega | (dsimp only; omega)), ⟨(by repeat' (first | exact trivial | refine ⟨rfl, ?_⟩ | refine ⟨congrArg some (congrArg vI (by first | omega | (simp; done) | (simp; omega))), ?_⟩ | refine ⟨sl_eqA (by first | omega | (simp; done) | (simp; omega)), ?_⟩)), ⟨rfl, rfl, own_ints (by simp), trivial⟩, rfl⟩⟩
  · obtain rfl : k = n := by omega
    ((repeat' (first | (refine awpL_step TT rfl rfl rfl sd ?_) | (refine awpL_nil ?_) | (refine awpL_skip rfl rfl ?_) | (refine awpQ_step TT rfl rfl rfl rfl sd ?_) | (refine awpQ_nil ?_) | (refine awpQ_skip rfl rfl ?_) | (refine awp_seq ?_) | (refine awp_region ?_) | (refine awp_block ?_) | (refine awp_exit ?_) | (refine awp_skip ?_) | (refine awp_ret ?_) | (refine awp_cond_t rfl ?_) | (refine awp_cond_f rfl ?_) | (refine awp_quiet TM rfl (by kernel_rfl) ?_) | ((first | refine awpL_split rfl rfl rfl (fun hc => ?_) (fun hc => ?_) | refine awpQ_split rfl rfl rfl (fun hc => ?_) (fun hc => ?_) | refine awp_cond rfl (fun hc => ?_) (fun hc => ?_)) <;> ((try simp at hc) <;> try contradiction)))) <;> try (exfalso; omega))
    exact fin rfl (by repeat' (first | exact trivial | exact Nat.zero_lt_one | omega | refine ⟨?_, ?_⟩)) [] (vS 3 1 0 k cp) [(2, .own 98 1 (.lit (curL c bs.length i1 h1))), (3, .own 3 cp (.ints zs))] 4 ⟨zs, cp, i1, h1, hz, hcp, hb, rfl, rfl, rfl⟩ rfl ⟨trivial, ⟨rfl, rfl, trivial⟩, rfl⟩ rfl
def SpoilM (t tc : TypeId) (nb c : Nat) (k : Int) (v : AV) (Hout : List (Nat × Blk)) (n1 : Nat) : Prop :=
  ∃ (r : Int) (zs : List Int) (cap i : Nat) (h : Int), zs.length ≤ 1000 ∧ zs.length ≤ cap ∧ ((v = .agg [.int r, .int k, .sl 3 1 0 zs.length cap] ∧ Hout = [(2, .own tc 1 (.lit (curL c nb i h))), (3, .own t cap (.ints zs))] ∧ n1 = 4) ∨ (v = .agg [.int r, .int k, .sl 4 1 0 zs.length cap] ∧ Hout = [(2, .own tc 1 (.lit (curL c nb i h))), (4, .own t cap (.ints zs))] ∧ n1 = 5))
set_option maxHeartbeats 4000000 in
theorem d_l3Spoil (bs : List Int) (c i cap n : Nat) (h r k : Int) (xs : List Int) (hn : n = xs.length) (hr : 0 ≤ r ∧ r ≤ 1000) (hx : xs.length ≤ 900) (hcap : xs.length ≤ cap) (hl : bs.length ≤ 1048576) : Does Try.prog 100 [vC, vM r k 3 n cap] [(1, .ro (.bytes bs)), (2, .own 98 1 (.lit (curL c bs.length i h))), (3, .own 3 cap (.ints xs))] 4 (SpoilM 3 98 bs.length c k) := by
  subst hn
  refine Does.intro TT Try.func100 rfl (by kernel_rfl) rfl rfl fun E hE => ?_
  ((repeat' (first | (refine awpL_step TT rfl rfl rfl sd ?_) | (refine awpL_nil ?_) | (refine awpL_skip rfl rfl ?_) | (refine awpQ_step TT rfl rfl rfl rfl sd ?_) | (refine awpQ_nil ?_) | (refine awpQ_skip rfl rfl ?_) | (refine awp_seq ?_) | (refine awp_region ?_) | ((refine awpL_call (d_l1Below bs c _ _ 40 hl) rfl rfl rfl rfl rfl rfl rfl ft rfl ?_); rintro v Hout n1 ⟨r0, i0, h0, ⟨hr1, hr2⟩, rfl, rfl, rfl⟩; replace hr2 := hr2 (by omega)) | (refine awp_block ?_) | (refine awp_exit ?_) | (refine awp_skip ?_) | (refine awp_ret ?_) | (refine awp_cond_t rfl ?_) | (refine awp_cond_f rfl ?_) | ((first | refine awpL_split rfl rfl rfl (fun hc => ?_) (fun hc => ?_) | refine awpQ_split rfl rfl rfl (fun hc => ?_) (fun hc => ?_) | refine awp_cond rfl (fun hc => ?_) (fun hc => ?_)) <;> ((try simp at hc) <;> try contradiction)))) <;> try (exfalso; omega))
  · subst hc
    ((repeat' (first | (refine awpL_step TT rfl rfl rfl sd ?_) | (refine awpL_nil ?_) | (refine awpL_skip rfl rfl ?_) | (refine awpQ_step TT rfl rfl rfl rfl sd ?_) | (refine awpQ_nil ?_) | (refine awpQ_skip rfl rfl ?_) | (refine awp_seq ?_) | (refine awp_region ?_) | ((refine awpL_call (d_l1PickInt bs c _ _ [-1, 0, 7, r + 1] 4 4 rfl (by decide) hl) rfl rfl rfl rfl rfl rfl rfl ft rfl ?_); rintro v Hout n1 ⟨r1, i1, h1, hm1, rfl, rfl, rfl⟩) | (refine awp_block ?_) | (refine awp_exit ?_) | (refine awp_skip ?_) | (refine awp_ret ?_) | (refine awp_cond_t rfl ?_) | (refine awp_cond_f rfl ?_) | ((first | refine awpL_split rfl rfl rfl (fun hc => ?_) (fun hc => ?_) | refine awpQ_split rfl rfl rfl (fun hc => ?_) (fun hc => ?_) | refine awp_cond rfl (fun hc => ?_) (fun hc => ?_)) <;> ((try simp at hc) <;> try contradiction)))) <;> try (exfalso; omega))
    all_goals exact fin rfl (by repeat' (first | exact trivial | exact Nat.zero_lt_one | omega | refine ⟨?_, ?_⟩)) [] (.agg [.int r1, .int k, .sl 3 1 0 xs.length cap]) [(2, .own 98 1 (.lit (curL c bs.length i1 h1))), (3, .own 3 cap (.ints xs))] 4 ⟨r1, xs, cap, i1, h1, by omega, hcap, .inl ⟨rfl, rfl, rfl⟩⟩ rfl ⟨trivial, ⟨rfl, rfl, trivial⟩, rfl⟩ rfl
  · refine awp_held TM [(4, _)] sb rfl (fun ρs => ?_)
    refine awpH_take TT 0 rfl kr kr kr nh rfl rfl rfl rfl sd ?_
    refine awpH_take TT 1 rfl kr kr kr nh rfl rfl rfl rfl sd ?_
    refine awpH_take TT 2 rfl kr kr kr nh rfl rfl rfl rfl sd ?_
    refine awpH_all [3] kr rfl ⟨?_, trivial⟩
    first | (refine awpHop_step TT 3 rfl rfl rfl rfl sd sb rfl ?_) | (refine awpHop_call _ (d_l1Odd bs c _ _ hl) rfl rfl rfl rfl rfl rfl rfl rfl ft rfl rfl ?_; rintro v Hout n1 ⟨r2, i2, h2, hr2', rfl, rfl, rfl⟩; refine ⟨sb, ?_⟩)
    first | (refine awpH_take TT 4 rfl kr kr kr nh rfl rfl rfl rfl sd ?_) | (refine awpH_idx TT 4 rfl kr kr kr nh rfl rfl rfl rfl rfl sd ?_)
    refine awpH_all [5] kr rfl ⟨?_, trivial⟩
    first | (refine awpHop_step TT 5 rfl rfl rfl rfl sd sb rfl ?_) | (refine awpHop_call _ (d_l1Odd bs c _ _ hl) rfl rfl rfl rfl rfl rfl rfl rfl ft rfl rfl ?_; rintro v Hout n1 ⟨r2, i2, h2, hr2', rfl, rfl, rfl⟩; refine ⟨sb, ?_⟩)
    refine awpH_done kr ?_
    rotate_left
    all_goals ((repeat' (first | (refine awpL_step TT rfl rfl rfl sd ?_) | (refine awpL_nil ?_) | (refine awpL_skip rfl rfl ?_) | (refine awpQ_step TT rfl rfl rfl rfl sd ?_) | (refine awpQ_nil ?_) | (refine awpQ_skip rfl rfl ?_) | (refine awp_seq ?_) | (refine awp_region ?_) | (refine awp_block ?_) | (refine awp_exit ?_) | (refine awp_skip ?_) | (refine awp_ret ?_) | (refine awp_cond_t rfl ?_) | (refine awp_cond_f rfl ?_) | ((first | refine awpL_split rfl rfl rfl (fun hc => ?_) (fun hc => ?_) | refine awpQ_split rfl rfl rfl (fun hc => ?_) (fun hc => ?_) | refine awp_cond rfl (fun hc => ?_) (fun hc => ?_)) <;> ((try simp at hc) <;> try contradiction)))) <;> try (exfalso; omega))
    all_goals exact fin rfl (by repeat' (first | exact trivial | exact Nat.zero_lt_one | omega | refine ⟨?_, ?_⟩)) [] (.agg [.int r, .int k, .sl 3 1 0 xs.length cap]) [(2, .own 98 1 (.lit (curL c bs.length i2 h2))), (3, .own 3 cap (.ints (xs.set (0 + Int.toNat 0) r2)))] 4 ⟨r, xs.set (0 + Int.toNat 0) r2, cap, i2, h2, by rw [List.length_set]; omega, by rw [List.length_set]; omega, .inl ⟨by rw [List.length_set], rfl, rfl⟩⟩ rfl ⟨trivial, ⟨rfl, rfl, trivial⟩, rfl⟩ rfl
  · exact fin rfl (by repeat' (first | exact trivial | exact Nat.zero_lt_one | omega | refine ⟨?_, ?_⟩)) [] (.agg [.int r, .int k, .sl 3 1 0 xs.length cap]) [(2, .own 98 1 (.lit (curL c bs.length i0 h0))), (3, .own 3 cap (.ints xs))] 4 ⟨r, xs, cap, i0, h0, by omega, hcap, .inl ⟨rfl, rfl, rfl⟩⟩ rfl ⟨trivial, ⟨rfl, rfl, trivial⟩, rfl⟩ rfl
  · obtain ⟨cap0, hcap0⟩ : ∃ z, z = cap := ⟨_, rfl⟩
    ((repeat' (first | (refine awpL_step TT rfl rfl rfl sd ?_) | (refine awpL_nil ?_) | (refine awpL_skip rfl rfl ?_) | (refine awpQ_step TT rfl rfl rfl rfl sd ?_) | (refine awpQ_nil ?_) | (refine awpQ_skip rfl rfl ?_) | (refine awp_seq ?_) | (refine awp_region ?_) | (first | (refine awpL_append TT rfl rfl rfl rfl rfl sd ?_; intro cap hcap) | (refine awpHop_append TT _ rfl rfl rfl rfl rfl rfl sd sb rfl rfl ?_; intro cap hcap)) | (refine awp_block ?_) | (refine awp_exit ?_) | (refine awp_skip ?_) | (refine awp_ret ?_) | (refine awp_cond_t rfl ?_) | (refine awp_cond_f rfl ?_) | ((first | refine awpL_split rfl rfl rfl (fun hc => ?_) (fun hc => ?_) | refine awpQ_split rfl rfl rfl (fun hc => ?_) (fun hc => ?_) | refine awp_cond rfl (fun hc => ?_) (fun hc => ?_)) <;> ((try simp at hc) <;> try contradiction)))) <;> try (exfalso; omega))
    all_goals rename_i cap1 _
    all_goals exact fin rfl (by repeat' (first | exact trivial | exact Nat.zero_lt_one | omega | refine ⟨?_, ?_⟩)) [(4, 7)] (.agg [.int r, .int k, .sl 4 1 0 (xs.length + 1) cap]) [(2, .own 98 1 (.lit (curL c bs.length i0 h0))), (4, .own 3 cap (.ints (xs ++ [1])))] 5 ⟨r, xs ++ [1], cap, i0, h0, by simp; omega, by simp; omega, .inr ⟨by simp, rfl, rfl⟩⟩ rfl ⟨trivial, ⟨rfl, own_ints (by simp), trivial⟩, rfl⟩ rfl
  · exact fin rfl (by repeat' (first | exact trivial | exact Nat.zero_lt_one | omega | refine ⟨?_, ?_⟩)) [] (.agg [.int r, .int k, .sl 3 1 0 xs.length cap]) [(2, .own 98 1 (.lit (curL c bs.length i0 h0))), (3, .own 3 cap (.ints xs))] 4 ⟨r, xs, cap, i0, h0, by omega, hcap, .inl ⟨rfl, rfl, rfl⟩⟩ rfl ⟨trivial, ⟨rfl, rfl, trivial⟩, rfl⟩ rfl
/-- what is drawn for AddIn -/
def DrewAdd (t : TypeId) (v : AV) (Hout : List (Nat × Blk)) (n1 : Nat) : Prop :=
  ∃ (k : Nat) (r : Int) (zs bs cs : List Int) (cap cb cc : Nat), k ≤ 3 ∧ zs.length ≤ 1000 ∧ bs.length = k ∧ cs.length = k ∧ zs.length ≤ cap ∧ bs.length ≤ cb ∧ cs.length ≤ cc ∧ (∀ p, -9223372036854775808 ≤ bs.getD p 0 ∧ bs.getD p 0 ≤ 9223372036854775807) ∧ (∀ p, -9223372036854775808 ≤ cs.getD p 0 ∧ cs.getD p 0 ≤ 9223372036854775807) ∧ v = .tup [.agg [.int r, .int k, .sl 2 1 0 zs.length cap], .one (.sl 3 1 0 bs.length cb), .one (.sl 4 1 0 cs.length cc)] ∧ Hout = [(2, .own t cap (.ints zs)), (3, .own t cb (.ints bs)), (4, .own t cc (.ints cs))] ∧ n1 = 5
end Go.Proofs.Ytbgeooalhoaemaa
