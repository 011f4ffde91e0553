/-
  CONTRACTS: the pieces of SmithForm of the reference: columns, the least cell.
-/
import Derived.Test.YtmkoifmokdmebaapSmith2
import Derived.Test.YtmkoifmokdmebaabHermS
import Derived.Test.YtmkoifmokdmebaabSmB
set_option linter.unusedVariables false
set_option linter.unusedSimpArgs false
namespace Go.Proofs.Ytmkoifmokdmebaa
open Go.RowKit

set_option maxHeartbeats 4000000 in
theorem d_colSA (r c i j n ca cap : Nat) (q : Int) (xs : List Int) (hn : n = xs.length) (hx : xs.length = r * c) (hr : r ≤ 24) (hc24 : c ≤ 24) (hi : i < c) (hj : j < c) (hij : i ≠ j) (hg : GBs xs) (hq : GB q) :
    Does Try.prog 165 [vM r c 1 n ca, vO 2 i j q] [(1, .own 3 cap (.ints xs))] 2 (SetM 3 cap (dcX xs r c i j q)) := by
  have hqr := hq.rng
  refine Does.intro TT Try.func165 rfl (by kernel_rfl) rfl rfl fun E hE => ?_
  ((repeat' (first | (refine awpL_step TT rfl rfl rfl sd ?_) | (refine awpL_nil ?_) | (refine awpL_skip rfl rfl ?_) | (refine awpQ_step TT rfl rfl rfl rfl sd ?_) | (refine awpQ_nil ?_) | (refine awpQ_skip rfl rfl ?_) | (refine awp_seq ?_) | (refine awp_region ?_) | (refine awp_block ?_) | (refine awp_exit ?_) | (refine awp_skip ?_) | (refine awp_ret ?_) | (refine awp_cond_t rfl ?_) | (refine awp_cond_f rfl ?_) | (refine awp_quiet TM rfl (by kernel_rfl) ?_) | ((first | refine awpL_split rfl rfl rfl (fun hc => ?_) (fun hc => ?_) | refine awpQ_split rfl rfl rfl (fun hc => ?_) (fun hc => ?_) | refine awp_cond rfl (fun hc => ?_) (fun hc => ?_)) <;> ((try simp at hc) <;> try contradiction)))) <;> try (exfalso; omega))
  refine awp_loop hE (fun k : Nat => k ≤ r) (fun k => r - k)
    (fun k => [(2, .one (.ptr 2 3 0 0)), (3, .one (.ptr 3 4 0 0)), (4, vI k)]) (fun k => [(1, .own 3 cap (.ints (cupTo xs c i (dcF xs c j q) k))), (2, .own 27 1 (.lit [.int r, .int c, .sl 1 1 0 n ca])), (3, .own 104 1 (.lit [.int 2, .int i, .int j, .int q]))]) 4 [] 0 (Nat.zero_le _) ⟨(by repeat' (first | exact trivial | refine ⟨rfl, ?_⟩ | refine ⟨congrArg some (congrArg vI (by first | omega | (simp; done) | (simp; omega))), ?_⟩ | refine ⟨sl_eqA (by first | omega | (simp; done) | (simp; omega)), ?_⟩)), (by repeat' (first | exact trivial | refine ⟨rfl, ?_⟩)), rfl⟩ ?_
  intro k hk
  have hlen : (cupTo xs c i (dcF xs c j q) k).length = xs.length := cupTo_len
  by_cases hkr : k < r
  · have hkn : ¬ (r ≤ k) := by omega
    have b1 := cell_facts hkr hi hr hc24
    have b2 := cell_facts hkr hj hr hc24
    have e1 := cell_nat (p := k) (k := i) (c := c)
    have e2 := cell_nat (p := k) (k := j) (c := c)
    have a1 : (cupTo xs c i (dcF xs c j q) k).getD (k * c + i) 0 = xs.getD (k * c + i) 0 := by rw [cupTo_cell hx hi hi hkr (by omega), if_neg (by omega)]
    have a2 : (cupTo xs c i (dcF xs c j q) k).getD (k * c + j) 0 = xs.getD (k * c + j) 0 := by rw [cupTo_cell hx hi hj hkr (by omega), if_neg (by omega)]
    have v1 := hg (k * c + i)
    have v2 := hg (k * c + j)
    rw [← a1, ← e1] at v1
    rw [← a2, ← e2] at v2
    have g1 := d_mulV _ q v2 hq
    have g2 := d_addV _ _ v1 (GB.mul ((cupTo xs c i (dcF xs c j q) k).getD (0 + ((k : Int) * c + j).toNat) 0) q)
    have hv : addV ((cupTo xs c i (dcF xs c j q) k).getD (0 + ((k : Int) * c + i).toNat) 0) (mulV ((cupTo xs c i (dcF xs c j q) k).getD (0 + ((k : Int) * c + j).toNat) 0) q) = dcF xs c j q k (xs.getD (k * c + i) 0) := by rw [e1, e2, a1, a2]; rfl
    have r1 := v1.rng
    have r2 := v2.rng
    ((repeat' (first | (refine awpL_step TT rfl rfl rfl sd ?_) | (refine awpL_nil ?_) | (refine awpL_skip rfl rfl ?_) | (refine awpQ_step TT rfl rfl rfl rfl sd ?_) | (refine awpQ_nil ?_) | (refine awpQ_skip rfl rfl ?_) | (refine awp_seq ?_) | (refine awp_region ?_) | (refine awp_block ?_) | (refine awp_exit ?_) | (refine awp_skip ?_) | (refine awp_ret ?_) | (refine awp_cond_t rfl ?_) | (refine awp_cond_f rfl ?_) | ((first | refine awpL_split rfl rfl rfl (fun hc => ?_) (fun hc => ?_) | refine awpQ_split rfl rfl rfl (fun hc => ?_) (fun hc => ?_) | refine awp_cond rfl (fun hc => ?_) (fun hc => ?_)) <;> ((try simp at hc) <;> try contradiction)))) <;> try (exfalso; omega))
    refine awp_held TM [(2, _), (3, _)] sb rfl (fun ρs => ?_)
    refine awpH_take TT 0 rfl kr kr kr nh rfl rfl rfl rfl sd ?_
    refine awpH_take TT 1 rfl kr kr kr nh rfl rfl rfl rfl sd ?_
    refine awpH_take TT 2 rfl kr kr kr nh rfl rfl rfl rfl sd ?_
    refine awpH_take TT 3 rfl kr kr kr nh rfl rfl rfl rfl sd ?_
    refine awpH_take TT 4 rfl kr kr kr nh rfl rfl rfl rfl sd ?_
    refine awpH_take TT 5 rfl kr kr kr nh rfl rfl rfl rfl sd ?_
    refine awpH_take TT 6 rfl kr kr kr nh rfl rfl rfl rfl sd ?_
    refine awpH_take TT 7 rfl kr kr kr nh rfl rfl rfl rfl sd ?_
    refine awpH_take TT 8 rfl kr kr kr nh rfl rfl rfl rfl sd ?_
    refine awpH_take TT 9 rfl kr kr kr nh rfl rfl rfl rfl sd ?_
    refine awpH_take TT 10 rfl kr kr kr nh rfl rfl rfl rfl sd ?_
    refine awpH_take TT 11 rfl kr kr kr nh rfl rfl rfl rfl sd ?_
    refine awpH_take TT 12 rfl kr kr kr nh rfl rfl rfl rfl sd ?_
    refine awpH_all [13] kr rfl ⟨?_, trivial⟩
    first | (refine awpHop_step TT 13 rfl rfl rfl rfl sd sb rfl ?_) | (first | refine awpL_ret (g1) rfl rfl rfl rfl rfl rfl rfl rfl ft rfl rfl ?_ | refine awpQ_ret (g1) rfl rfl rfl rfl rfl rfl rfl rfl ft rfl rfl ?_ | refine awpHop_ret _ (g1) rfl rfl rfl rfl rfl rfl rfl rfl rfl ft rfl rfl sb rfl ?_) | (first | refine awpL_ret (g2) rfl rfl rfl rfl rfl rfl rfl rfl ft rfl rfl ?_ | refine awpQ_ret (g2) rfl rfl rfl rfl rfl rfl rfl rfl ft rfl rfl ?_ | refine awpHop_ret _ (g2) rfl rfl rfl rfl rfl rfl rfl rfl rfl ft rfl rfl sb rfl ?_)
    refine awpH_all [14] kr rfl ⟨?_, trivial⟩
    first | (refine awpHop_step TT 14 rfl rfl rfl rfl sd sb rfl ?_) | (first | refine awpL_ret (g1) rfl rfl rfl rfl rfl rfl rfl rfl ft rfl rfl ?_ | refine awpQ_ret (g1) rfl rfl rfl rfl rfl rfl rfl rfl ft rfl rfl ?_ | refine awpHop_ret _ (g1) rfl rfl rfl rfl rfl rfl rfl rfl rfl ft rfl rfl sb rfl ?_) | (first | refine awpL_ret (g2) rfl rfl rfl rfl rfl rfl rfl rfl ft rfl rfl ?_ | refine awpQ_ret (g2) rfl rfl rfl rfl rfl rfl rfl rfl ft rfl rfl ?_ | refine awpHop_ret _ (g2) rfl rfl rfl rfl rfl rfl rfl rfl rfl ft rfl rfl sb rfl ?_)
    first | (refine awpH_take TT 15 rfl kr kr kr nh rfl rfl rfl rfl sd ?_) | (refine awpH_idx TT 15 rfl kr kr kr nh rfl rfl rfl rfl rfl sd ?_)
    refine awpH_all [16] kr rfl ⟨?_, trivial⟩
    first | (refine awpHop_step TT 16 rfl rfl rfl rfl sd sb rfl ?_) | (first | refine awpL_ret (g1) rfl rfl rfl rfl rfl rfl rfl rfl ft rfl rfl ?_ | refine awpQ_ret (g1) rfl rfl rfl rfl rfl rfl rfl rfl ft rfl rfl ?_ | refine awpHop_ret _ (g1) rfl rfl rfl rfl rfl rfl rfl rfl rfl ft rfl rfl sb rfl ?_) | (first | refine awpL_ret (g2) rfl rfl rfl rfl rfl rfl rfl rfl ft rfl rfl ?_ | refine awpQ_ret (g2) rfl rfl rfl rfl rfl rfl rfl rfl ft rfl rfl ?_ | refine awpHop_ret _ (g2) rfl rfl rfl rfl rfl rfl rfl rfl rfl ft rfl rfl sb rfl ?_)
    refine awpH_done kr ?_
    rotate_left
    all_goals ((repeat' (first | (refine awpL_step TT rfl rfl rfl sd ?_) | (refine awpL_nil ?_) | (refine awpL_skip rfl rfl ?_) | (refine awpQ_step TT rfl rfl rfl rfl sd ?_) | (refine awpQ_nil ?_) | (refine awpQ_skip rfl rfl ?_) | (refine awp_seq ?_) | (refine awp_region ?_) | (refine awp_block ?_) | (refine awp_exit ?_) | (refine awp_skip ?_) | (refine awp_ret ?_) | (refine awp_cond_t rfl ?_) | (refine awp_cond_f rfl ?_) | ((first | refine awpL_split rfl rfl rfl (fun hc => ?_) (fun hc => ?_) | refine awpQ_split rfl rfl rfl (fun hc => ?_) (fun hc => ?_) | refine awp_cond rfl (fun hc => ?_) (fun hc => ?_)) <;> ((try simp at hc) <;> try contradiction)))) <;> try (exfalso; omega))
    all_goals
      refine ⟨[], k + 1, hkr, (by first | omega | (dsimp only; omega)), ⟨(by repeat' (first | exact trivial | refine ⟨rfl, ?_⟩ | refine ⟨congrArg some (congrArg vI (by first | omega | (simp; done) | (simp; omega))), ?_⟩ | refine ⟨sl_eqA (by first | omega | (simp; done) | (simp; omega)), ?_⟩)), ⟨own_ints ?_, rfl, rfl, trivial⟩, rfl⟩⟩
      rw [hv, e1]; rfl
  · obtain rfl : k = r := by omega
    rw [cup_dcX hx hi hj]
    ((repeat' (first | (refine awpL_step TT rfl rfl rfl sd ?_) | (refine awpL_nil ?_) | (refine awpL_skip rfl rfl ?_) | (refine awpQ_step TT rfl rfl rfl rfl sd ?_) | (refine awpQ_nil ?_) | (refine awpQ_skip rfl rfl ?_) | (refine awp_seq ?_) | (refine awp_region ?_) | (refine awp_block ?_) | (refine awp_exit ?_) | (refine awp_skip ?_) | (refine awp_ret ?_) | (refine awp_cond_t rfl ?_) | (refine awp_cond_f rfl ?_) | (refine awp_quiet TM rfl (by kernel_rfl) ?_) | ((first | refine awpL_split rfl rfl rfl (fun hc => ?_) (fun hc => ?_) | refine awpQ_split rfl rfl rfl (fun hc => ?_) (fun hc => ?_) | refine awp_cond rfl (fun hc => ?_) (fun hc => ?_)) <;> ((try simp at hc) <;> try contradiction)))) <;> try (exfalso; omega))
    exact fin_n rfl (by repeat' (first | exact trivial | exact Nat.zero_lt_one | omega | refine ⟨?_, ?_⟩)) [] (.tup []) [(1, .own 3 cap (.ints (dcX xs k c i j q)))] 2 ⟨rfl, rfl, rfl⟩ rfl ⟨trivial, ⟨rfl, trivial⟩, rfl⟩ rfl
set_option maxHeartbeats 4000000 in
theorem d_colSW (r c i j n ca cap : Nat) (xs : List Int) (hn : n = xs.length) (hx : xs.length = r * c) (hr : r ≤ 24) (hc24 : c ≤ 24) (hi : i < c) (hj : j < c) (hij : i ≠ j) (hg : GBs xs) :
    Does Try.prog 165 [vM r c 1 n ca, vO 0 i j 0] [(1, .own 3 cap (.ints xs))] 2 (SetM 3 cap (turnM (swapTo (turnM xs r c) (i * r) (j * r) r) c r)) := by
  refine Does.intro TT Try.func165 rfl (by kernel_rfl) rfl rfl fun E hE => ?_
  ((repeat' (first | (refine awpL_step TT rfl rfl rfl sd ?_) | (refine awpL_nil ?_) | (refine awpL_skip rfl rfl ?_) | (refine awpQ_step TT rfl rfl rfl rfl sd ?_) | (refine awpQ_nil ?_) | (refine awpQ_skip rfl rfl ?_) | (refine awp_seq ?_) | (refine awp_region ?_) | (refine awp_block ?_) | (refine awp_exit ?_) | (refine awp_skip ?_) | (refine awp_ret ?_) | (refine awp_cond_t rfl ?_) | (refine awp_cond_f rfl ?_) | (refine awp_quiet TM rfl (by kernel_rfl) ?_) | ((first | refine awpL_split rfl rfl rfl (fun hc => ?_) (fun hc => ?_) | refine awpQ_split rfl rfl rfl (fun hc => ?_) (fun hc => ?_) | refine awp_cond rfl (fun hc => ?_) (fun hc => ?_)) <;> ((try simp at hc) <;> try contradiction)))) <;> try (exfalso; omega))
  refine awp_loop hE (fun k : Nat => k ≤ r) (fun k => r - k)
    (fun k => [(2, .one (.ptr 2 3 0 0)), (3, .one (.ptr 3 4 0 0)), (4, vI k)]) (fun k => [(1, .own 3 cap (.ints (cswTo xs c i j k))), (2, .own 27 1 (.lit [.int r, .int c, .sl 1 1 0 n ca])), (3, .own 104 1 (.lit [.int 0, .int i, .int j, .int 0]))]) 4 [] 0 (Nat.zero_le _) ⟨(by repeat' (first | exact trivial | refine ⟨rfl, ?_⟩ | refine ⟨congrArg some (congrArg vI (by first | omega | (simp; done) | (simp; omega))), ?_⟩ | refine ⟨sl_eqA (by first | omega | (simp; done) | (simp; omega)), ?_⟩)), (by repeat' (first | exact trivial | refine ⟨rfl, ?_⟩)), rfl⟩ ?_
  intro k hk
  have hlen : (cswTo xs c i j k).length = xs.length := cswTo_len
  by_cases hkr : k < r
  · have hkn : ¬ (r ≤ k) := by omega
    have b1 := cell_facts hkr hi hr hc24
    have b2 := cell_facts hkr hj hr hc24
    have e1 := cell_nat (p := k) (k := i) (c := c)
    have e2 := cell_nat (p := k) (k := j) (c := c)
    have a1 : (cswTo xs c i j k).getD (k * c + i) 0 = xs.getD (k * c + i) 0 := by rw [cswTo_cell hx hi hj hij hi hkr (by omega), if_neg (by omega), if_neg (by omega)]
    have a2 : (cswTo xs c i j k).getD (k * c + j) 0 = xs.getD (k * c + j) 0 := by rw [cswTo_cell hx hi hj hij hj hkr (by omega), if_neg (by omega), if_neg (by omega)]
    ((repeat' (first | (refine awpL_step TT rfl rfl rfl sd ?_) | (refine awpL_nil ?_) | (refine awpL_skip rfl rfl ?_) | (refine awpQ_step TT rfl rfl rfl rfl sd ?_) | (refine awpQ_nil ?_) | (refine awpQ_skip rfl rfl ?_) | (refine awp_seq ?_) | (refine awp_region ?_) | (refine awp_block ?_) | (refine awp_exit ?_) | (refine awp_skip ?_) | (refine awp_ret ?_) | (refine awp_cond_t rfl ?_) | (refine awp_cond_f rfl ?_) | ((first | refine awpL_split rfl rfl rfl (fun hc => ?_) (fun hc => ?_) | refine awpQ_split rfl rfl rfl (fun hc => ?_) (fun hc => ?_) | refine awp_cond rfl (fun hc => ?_) (fun hc => ?_)) <;> ((try simp at hc) <;> try contradiction)))) <;> try (exfalso; omega))
    all_goals
      refine ⟨[], k + 1, hkr, (by first | omega | (dsimp only; omega)), ⟨(by repeat' (first | exact trivial | refine ⟨rfl, ?_⟩ | refine ⟨congrArg some (congrArg vI (by first | omega | (simp; done) | (simp; omega))), ?_⟩ | refine ⟨sl_eqA (by first | omega | (simp; done) | (simp; omega)), ?_⟩)), ⟨own_ints ?_, rfl, rfl, trivial⟩, rfl⟩⟩
      rw [e1, e2, a1, a2]; rfl
  · obtain rfl : k = r := by omega
    rw [csw_swC hx hi hj hij]
    ((repeat' (first | (refine awpL_step TT rfl rfl rfl sd ?_) | (refine awpL_nil ?_) | (refine awpL_skip rfl rfl ?_) | (refine awpQ_step TT rfl rfl rfl rfl sd ?_) | (refine awpQ_nil ?_) | (refine awpQ_skip rfl rfl ?_) | (refine awp_seq ?_) | (refine awp_region ?_) | (refine awp_block ?_) | (refine awp_exit ?_) | (refine awp_skip ?_) | (refine awp_ret ?_) | (refine awp_cond_t rfl ?_) | (refine awp_cond_f rfl ?_) | (refine awp_quiet TM rfl (by kernel_rfl) ?_) | ((first | refine awpL_split rfl rfl rfl (fun hc => ?_) (fun hc => ?_) | refine awpQ_split rfl rfl rfl (fun hc => ?_) (fun hc => ?_) | refine awp_cond rfl (fun hc => ?_) (fun hc => ?_)) <;> ((try simp at hc) <;> try contradiction)))) <;> try (exfalso; omega))
    exact fin_n rfl (by repeat' (first | exact trivial | exact Nat.zero_lt_one | omega | refine ⟨?_, ?_⟩)) [] (.tup []) [(1, .own 3 cap (.ints (turnM (swapTo (turnM xs k c) (i * k) (j * k) k) c k)))] 2 ⟨rfl, rfl, rfl⟩ rfl ⟨trivial, ⟨rfl, trivial⟩, rfl⟩ rfl
set_option maxHeartbeats 4000000 in
theorem d_lpS (a b t nx cx : Nat) (xs : List Int) (hn : nx = xs.length) (hx : xs.length = a * b) (hnum : xs.all numB = true) (ha : a ≤ 24) (hb : b ≤ 24) (hta : t ≤ a) (htb : t ≤ b) :
    Does Try.prog 164 [vM a b 1 nx cx, vI t] [(1, .ro (.ints xs))] 2 (Ret (.tup [.one (.int (pA (lp xs a b t))), .one (.int (pB (lp xs a b t)))]) 2) := by
  refine Does.intro TT Try.func164 rfl (by kernel_rfl) rfl rfl fun E hE => ?_
  ((repeat' (first | (refine awpL_step TT rfl rfl rfl sd ?_) | (refine awpL_nil ?_) | (refine awpL_skip rfl rfl ?_) | (refine awpQ_step TT rfl rfl rfl rfl sd ?_) | (refine awpQ_nil ?_) | (refine awpQ_skip rfl rfl ?_) | (refine awp_seq ?_) | (refine awp_region ?_) | (refine awp_block ?_) | (refine awp_exit ?_) | (refine awp_skip ?_) | (refine awp_ret ?_) | (refine awp_cond_t rfl ?_) | (refine awp_cond_f rfl ?_) | (refine awp_quiet TM rfl (by kernel_rfl) ?_) | ((first | refine awpL_split rfl rfl rfl (fun hc => ?_) (fun hc => ?_) | refine awpQ_split rfl rfl rfl (fun hc => ?_) (fun hc => ?_) | refine awp_cond rfl (fun hc => ?_) (fun hc => ?_)) <;> ((try simp at hc) <;> try contradiction)))) <;> try (exfalso; omega))
  refine awp_loop hE (fun n : Nat => t + n ≤ a) (fun n => a - (t + n))
    (fun n => [(1, vI t), (2, .one (.ptr 2 3 0 0)), (6, vI (pA (lpTo xs b t (b - t) n))), (7, vI (pB (lpTo xs b t (b - t) n))), (8, vI ((t + n : Nat) : Int))]) (fun _ => [(1, .ro (.ints xs)), (2, .own 27 1 (.lit [.int a, .int b, .sl 1 1 0 nx cx]))]) 3 [] 0 (by omega) ⟨(by repeat' (first | exact trivial | refine ⟨rfl, ?_⟩ | refine ⟨congrArg some (congrArg vI (by first | omega | (simp; done) | (simp; omega))), ?_⟩ | refine ⟨sl_eqA (by first | omega | (simp; done) | (simp; omega)), ?_⟩)), (by repeat' (first | exact trivial | refine ⟨rfl, ?_⟩)), rfl⟩ ?_
  intro n hn2
  by_cases hna : t + n < a
  · have hkn : ¬ ((a : Int) ≤ ((t + n : Nat) : Int)) := by omega
    ((repeat' (first | (refine awpL_step TT rfl rfl rfl sd ?_) | (refine awpL_nil ?_) | (refine awpL_skip rfl rfl ?_) | (refine awpQ_step TT rfl rfl rfl rfl sd ?_) | (refine awpQ_nil ?_) | (refine awpQ_skip rfl rfl ?_) | (refine awp_seq ?_) | (refine awp_region ?_) | (refine awp_block ?_) | (refine awp_exit ?_) | (refine awp_skip ?_) | (refine awp_ret ?_) | (refine awp_cond_t rfl ?_) | (refine awp_cond_f rfl ?_) | (refine awp_quiet TM rfl (by kernel_rfl) ?_) | ((first | refine awpL_split rfl rfl rfl (fun hc => ?_) (fun hc => ?_) | refine awpQ_split rfl rfl rfl (fun hc => ?_) (fun hc => ?_) | refine awp_cond rfl (fun hc => ?_) (fun hc => ?_)) <;> ((try simp at hc) <;> try contradiction)))) <;> try (exfalso; omega))
    refine awp_loop hE (fun m : Nat => t + m ≤ b) (fun m => b - (t + m))
      (fun m => [(1, vI t), (2, .one (.ptr 2 3 0 0)), (6, vI (pA (lpR xs b t (t + n) (lpTo xs b t (b - t) n) m))), (7, vI (pB (lpR xs b t (t + n) (lpTo xs b t (b - t) n) m))), (8, vI ((t + n : Nat) : Int)), (9, vI ((t + m : Nat) : Int))]) (fun _ => [(1, .ro (.ints xs)), (2, .own 27 1 (.lit [.int a, .int b, .sl 1 1 0 nx cx]))]) 3 [] 0 (by omega) ⟨(by repeat' (first | exact trivial | refine ⟨rfl, ?_⟩ | refine ⟨congrArg some (congrArg vI (by first | omega | (simp; done) | (simp; omega))), ?_⟩ | refine ⟨sl_eqA (by first | omega | (simp; done) | (simp; omega)), ?_⟩)), (by repeat' (first | exact trivial | refine ⟨rfl, ?_⟩)), rfl⟩ ?_
    intro m hm
    by_cases hmb : t + m < b
    · have hd := d_cellH a b (t + n) (t + m) nx cx xs hn hx ha hb hna hmb
      have b1 := num_getD hnum ((t + n) * b + (t + m))
      have w1 : xs[(t + n) * b + (t + m)]?.getD 0 = xs.getD ((t + n) * b + (t + m)) 0 := by simp
      cases hl : lpR xs b t (t + n) (lpTo xs b t (b - t) n) m with
      | none =>
        have hpA : pA none = -1 := rfl
        have hpB : pB none = -1 := rfl
        by_cases h0 : xs.getD ((t + n) * b + (t + m)) 0 = 0
        · have hnx : lpR xs b t (t + n) (lpTo xs b t (b - t) n) (m + 1) = none := by rw [lpR, hl, lpAt, if_neg (fun h => h h0)]
          ((repeat' (first | (refine awpL_step TT rfl rfl rfl sd ?_) | (refine awpL_nil ?_) | (refine awpL_skip rfl rfl ?_) | (refine awpQ_step TT rfl rfl rfl rfl sd ?_) | (refine awpQ_nil ?_) | (refine awpQ_skip rfl rfl ?_) | (refine awp_seq ?_) | (refine awp_region ?_) | (first | refine awpL_ret (hd) rfl rfl rfl rfl rfl rfl rfl rfl ft rfl rfl ?_ | refine awpQ_ret (hd) rfl rfl rfl rfl rfl rfl rfl rfl ft rfl rfl ?_ | refine awpHop_ret _ (hd) rfl rfl rfl rfl rfl rfl rfl rfl rfl ft rfl rfl sb rfl ?_) | (first | refine awpL_ret (d_l1Abs _ (by omega) (by omega)) rfl rfl rfl rfl rfl rfl rfl rfl ft rfl rfl ?_ | refine awpQ_ret (d_l1Abs _ (by omega) (by omega)) rfl rfl rfl rfl rfl rfl rfl rfl ft rfl rfl ?_ | refine awpHop_ret _ (d_l1Abs _ (by omega) (by omega)) rfl rfl rfl rfl rfl rfl rfl rfl rfl ft rfl rfl sb rfl ?_) | (refine awp_block ?_) | (refine awp_exit ?_) | (refine awp_skip ?_) | (refine awp_ret ?_) | (refine awp_cond_t rfl ?_) | (refine awp_cond_f rfl ?_) | (refine awp_quiet TM rfl (by kernel_rfl) ?_) | ((first | refine awpL_split rfl rfl rfl (fun hc => ?_) (fun hc => ?_) | refine awpQ_split rfl rfl rfl (fun hc => ?_) (fun hc => ?_) | refine awp_cond rfl (fun hc => ?_) (fun hc => ?_)) <;> ((try simp at hc) <;> try contradiction)))) <;> try (exfalso; omega))
          all_goals exact ⟨[], m + 1, by omega, (by first | omega | (dsimp only; omega)), ⟨⟨rfl, rfl, congrArg some (congrArg vI (by rw [hnx])), congrArg some (congrArg vI (by rw [hnx])), rfl, congrArg some (congrArg vI (by omega)), trivial⟩, ⟨rfl, rfl, trivial⟩, rfl⟩⟩
        · have hnx : lpR xs b t (t + n) (lpTo xs b t (b - t) n) (m + 1) = some (t + n, t + m) := by rw [lpR, hl, lpAt, if_pos h0]
          ((repeat' (first | (refine awpL_step TT rfl rfl rfl sd ?_) | (refine awpL_nil ?_) | (refine awpL_skip rfl rfl ?_) | (refine awpQ_step TT rfl rfl rfl rfl sd ?_) | (refine awpQ_nil ?_) | (refine awpQ_skip rfl rfl ?_) | (refine awp_seq ?_) | (refine awp_region ?_) | (first | refine awpL_ret (hd) rfl rfl rfl rfl rfl rfl rfl rfl ft rfl rfl ?_ | refine awpQ_ret (hd) rfl rfl rfl rfl rfl rfl rfl rfl ft rfl rfl ?_ | refine awpHop_ret _ (hd) rfl rfl rfl rfl rfl rfl rfl rfl rfl ft rfl rfl sb rfl ?_) | (first | refine awpL_ret (d_l1Abs _ (by omega) (by omega)) rfl rfl rfl rfl rfl rfl rfl rfl ft rfl rfl ?_ | refine awpQ_ret (d_l1Abs _ (by omega) (by omega)) rfl rfl rfl rfl rfl rfl rfl rfl ft rfl rfl ?_ | refine awpHop_ret _ (d_l1Abs _ (by omega) (by omega)) rfl rfl rfl rfl rfl rfl rfl rfl rfl ft rfl rfl sb rfl ?_) | (refine awp_block ?_) | (refine awp_exit ?_) | (refine awp_skip ?_) | (refine awp_ret ?_) | (refine awp_cond_t rfl ?_) | (refine awp_cond_f rfl ?_) | (refine awp_quiet TM rfl (by kernel_rfl) ?_) | ((first | refine awpL_split rfl rfl rfl (fun hc => ?_) (fun hc => ?_) | refine awpQ_split rfl rfl rfl (fun hc => ?_) (fun hc => ?_) | refine awp_cond rfl (fun hc => ?_) (fun hc => ?_)) <;> ((try simp at hc) <;> try contradiction)))) <;> try (exfalso; omega))
          all_goals exact ⟨[], m + 1, by omega, (by first | omega | (dsimp only; omega)), ⟨⟨rfl, rfl, congrArg some (congrArg vI (by rw [hnx]; rfl)), congrArg some (congrArg vI (by rw [hnx]; rfl)), rfl, congrArg some (congrArg vI (by omega)), trivial⟩, ⟨rfl, rfl, trivial⟩, rfl⟩⟩
      | some p =>
        obtain ⟨p, q⟩ := p
        have hpA : pA (some (p, q)) = (p : Int) := rfl
        have hpB : pB (some (p, q)) = (q : Int) := rfl
        obtain ⟨p1, p2⟩ := lpR_in hna (by omega) hl
        dsimp only at p1 p2
        have hd2 := d_cellH a b p q nx cx xs hn hx ha hb p1 p2
        have b2 := num_getD hnum (p * b + q)
        have w2 : xs[p * b + q]?.getD 0 = xs.getD (p * b + q) 0 := by simp
        by_cases h0 : xs.getD ((t + n) * b + (t + m)) 0 ≠ 0 ∧ (xs.getD ((t + n) * b + (t + m)) 0).natAbs < (xs.getD (p * b + q) 0).natAbs
        · have hnx : lpR xs b t (t + n) (lpTo xs b t (b - t) n) (m + 1) = some (t + n, t + m) := by rw [lpR, hl, lpAt, if_pos h0]
          rw [hpA, hpB]
          ((repeat' (first | (refine awpL_step TT rfl rfl rfl sd ?_) | (refine awpL_nil ?_) | (refine awpL_skip rfl rfl ?_) | (refine awpQ_step TT rfl rfl rfl rfl sd ?_) | (refine awpQ_nil ?_) | (refine awpQ_skip rfl rfl ?_) | (refine awp_seq ?_) | (refine awp_region ?_) | (first | refine awpL_ret (hd) rfl rfl rfl rfl rfl rfl rfl rfl ft rfl rfl ?_ | refine awpQ_ret (hd) rfl rfl rfl rfl rfl rfl rfl rfl ft rfl rfl ?_ | refine awpHop_ret _ (hd) rfl rfl rfl rfl rfl rfl rfl rfl rfl ft rfl rfl sb rfl ?_) | (first | refine awpL_ret (hd2) rfl rfl rfl rfl rfl rfl rfl rfl ft rfl rfl ?_ | refine awpQ_ret (hd2) rfl rfl rfl rfl rfl rfl rfl rfl ft rfl rfl ?_ | refine awpHop_ret _ (hd2) rfl rfl rfl rfl rfl rfl rfl rfl rfl ft rfl rfl sb rfl ?_) | (first | refine awpL_ret (d_l1Abs _ (by omega) (by omega)) rfl rfl rfl rfl rfl rfl rfl rfl ft rfl rfl ?_ | refine awpQ_ret (d_l1Abs _ (by omega) (by omega)) rfl rfl rfl rfl rfl rfl rfl rfl ft rfl rfl ?_ | refine awpHop_ret _ (d_l1Abs _ (by omega) (by omega)) rfl rfl rfl rfl rfl rfl rfl rfl rfl ft rfl rfl sb rfl ?_) | (refine awp_block ?_) | (refine awp_exit ?_) | (refine awp_skip ?_) | (refine awp_ret ?_) | (refine awp_cond_t rfl ?_) | (refine awp_cond_f rfl ?_) | (refine awp_quiet TM rfl (by kernel_rfl) ?_) | ((first | refine awpL_split rfl rfl rfl (fun hc => ?_) (fun hc => ?_) | refine awpQ_split rfl rfl rfl (fun hc => ?_) (fun hc => ?_) | refine awp_cond rfl (fun hc => ?_) (fun hc => ?_)) <;> ((try simp at hc) <;> try contradiction)))) <;> try (exfalso; omega))
          all_goals exact ⟨[], m + 1, by omega, (by first | omega | (dsimp only; omega)), ⟨⟨rfl, rfl, congrArg some (congrArg vI (by rw [hnx]; rfl)), congrArg some (congrArg vI (by rw [hnx]; rfl)), rfl, congrArg some (congrArg vI (by omega)), trivial⟩, ⟨rfl, rfl, trivial⟩, rfl⟩⟩
        · have hnx : lpR xs b t (t + n) (lpTo xs b t (b - t) n) (m + 1) = some (p, q) := by rw [lpR, hl, lpAt, if_neg h0]
          rw [hpA, hpB]
          ((repeat' (first | (refine awpL_step TT rfl rfl rfl sd ?_) | (refine awpL_nil ?_) | (refine awpL_skip rfl rfl ?_) | (refine awpQ_step TT rfl rfl rfl rfl sd ?_) | (refine awpQ_nil ?_) | (refine awpQ_skip rfl rfl ?_) | (refine awp_seq ?_) | (refine awp_region ?_) | (first | refine awpL_ret (hd) rfl rfl rfl rfl rfl rfl rfl rfl ft rfl rfl ?_ | refine awpQ_ret (hd) rfl rfl rfl rfl rfl rfl rfl rfl ft rfl rfl ?_ | refine awpHop_ret _ (hd) rfl rfl rfl rfl rfl rfl rfl rfl rfl ft rfl rfl sb rfl ?_) | (first | refine awpL_ret (hd2) rfl rfl rfl rfl rfl rfl rfl rfl ft rfl rfl ?_ | refine awpQ_ret (hd2) rfl rfl rfl rfl rfl rfl rfl rfl ft rfl rfl ?_ | refine awpHop_ret _ (hd2) rfl rfl rfl rfl rfl rfl rfl rfl rfl ft rfl rfl sb rfl ?_) | (first | refine awpL_ret (d_l1Abs _ (by omega) (by omega)) rfl rfl rfl rfl rfl rfl rfl rfl ft rfl rfl ?_ | refine awpQ_ret (d_l1Abs _ (by omega) (by omega)) rfl rfl rfl rfl rfl rfl rfl rfl ft rfl rfl ?_ | refine awpHop_ret _ (d_l1Abs _ (by omega) (by omega)) rfl rfl rfl rfl rfl rfl rfl rfl rfl ft rfl rfl sb rfl ?_) | (refine awp_block ?_) | (refine awp_exit ?_) | (refine awp_skip ?_) | (refine awp_ret ?_) | (refine awp_cond_t rfl ?_) | (refine awp_cond_f rfl ?_) | (refine awp_quiet TM rfl (by kernel_rfl) ?_) | ((first | refine awpL_split rfl rfl rfl (fun hc => ?_) (fun hc => ?_) | refine awpQ_split rfl rfl rfl (fun hc => ?_) (fun hc => ?_) | refine awp_cond rfl (fun hc => ?_) (fun hc => ?_)) <;> ((try simp at hc) <;> try contradiction)))) <;> try (exfalso; omega))
          all_goals exact ⟨[], m + 1, by omega, (by first | omega | (dsimp only; omega)), ⟨⟨rfl, rfl, congrArg some (congrArg vI (by rw [hnx]; rfl)), congrArg some (congrArg vI (by rw [hnx]; rfl)), rfl, congrArg some (congrArg vI (by omega)), trivial⟩, ⟨rfl, rfl, trivial⟩, rfl⟩⟩
    · have hmb' : m = b - t := by omega
      have htm : ((t + m : Nat) : Int) = b := by omega
      rw [htm]
      ((repeat' (first | (refine awpL_step TT rfl rfl rfl sd ?_) | (refine awpL_nil ?_) | (refine awpL_skip rfl rfl ?_) | (refine awpQ_step TT rfl rfl rfl rfl sd ?_) | (refine awpQ_nil ?_) | (refine awpQ_skip rfl rfl ?_) | (refine awp_seq ?_) | (refine awp_region ?_) | (refine awp_block ?_) | (refine awp_exit ?_) | (refine awp_skip ?_) | (refine awp_ret ?_) | (refine awp_cond_t rfl ?_) | (refine awp_cond_f rfl ?_) | (refine awp_quiet TM rfl (by kernel_rfl) ?_) | ((first | refine awpL_split rfl rfl rfl (fun hc => ?_) (fun hc => ?_) | refine awpQ_split rfl rfl rfl (fun hc => ?_) (fun hc => ?_) | refine awp_cond rfl (fun hc => ?_) (fun hc => ?_)) <;> ((try simp at hc) <;> try contradiction)))) <;> try (exfalso; omega))
      all_goals exact ⟨[], n + 1, by omega, (by first | omega | (dsimp only; omega)), ⟨⟨rfl, rfl, congrArg some (congrArg vI (by rw [lpTo, ← hmb'])), congrArg some (congrArg vI (by rw [lpTo, ← hmb'])), congrArg some (congrArg vI (by omega)), trivial⟩, ⟨rfl, rfl, trivial⟩, rfl⟩⟩
  · have hnt : n = a - t := by omega
    have htn' : ((t + n : Nat) : Int) = a := by omega
    have hlp : lp xs a b t = lpTo xs b t (b - t) n := by rw [lp, hnt]
    rw [htn', hlp]
    ((repeat' (first | (refine awpL_step TT rfl rfl rfl sd ?_) | (refine awpL_nil ?_) | (refine awpL_skip rfl rfl ?_) | (refine awpQ_step TT rfl rfl rfl rfl sd ?_) | (refine awpQ_nil ?_) | (refine awpQ_skip rfl rfl ?_) | (refine awp_seq ?_) | (refine awp_region ?_) | (refine awp_block ?_) | (refine awp_exit ?_) | (refine awp_skip ?_) | (refine awp_ret ?_) | (refine awp_cond_t rfl ?_) | (refine awp_cond_f rfl ?_) | (refine awp_quiet TM rfl (by kernel_rfl) ?_) | ((first | refine awpL_split rfl rfl rfl (fun hc => ?_) (fun hc => ?_) | refine awpQ_split rfl rfl rfl (fun hc => ?_) (fun hc => ?_) | refine awp_cond rfl (fun hc => ?_) (fun hc => ?_)) <;> ((try simp at hc) <;> try contradiction)))) <;> try (exfalso; omega))
    all_goals refine fin_ret rfl (by repeat' (first | exact trivial | exact Nat.zero_lt_one | omega | refine ⟨?_, ?_⟩)) (rfl) rfl
end Go.Proofs.Ytmkoifmokdmebaa
