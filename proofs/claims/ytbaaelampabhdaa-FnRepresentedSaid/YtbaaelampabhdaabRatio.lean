/-
  CONTRACTS: ratios.
-/
import Derived.Test.YtbaaelampabhdaabNum
import Derived.Test.YtbaaelampabhdaaCont
import Derived.Test.YtbaaelampabhdaaRatio2
set_option linter.unusedVariables false
set_option linter.unusedSimpArgs false
namespace Go.Proofs.Ytbaaelampabhdaa
open Go.RowKit

def vR (p : Int × Int) : AV := .agg [.int p.1, .int p.2]
theorem vR_eq {a b : Int} {p : Int × Int} (h : p = (a, b)) : AV.agg [.int a, .int b] = vR p := by rw [h]; rfl
theorem d_ratioS (n d : Int) : Does Try.prog 115 [.agg [.int n, .int d]] [] 1 (Ret (vB (ratioB n d)) 1) := by
  refine Does.intro TT Try.func115 rfl (by kernel_rfl) rfl rfl fun E hE => ?_
  (repeat' (first | (refine awpL_step TT rfl rfl rfl sd ?_) | (refine awpL_nil ?_) | (refine awpL_skip rfl rfl ?_) | (refine awpQ_step TT rfl rfl rfl rfl sd ?_) | (refine awpQ_nil ?_) | (refine awpQ_skip rfl rfl ?_) | (refine awp_seq ?_) | (refine awp_region ?_) | (first | refine awpL_ret (d_l1In _ _ _) rfl rfl rfl rfl rfl rfl rfl rfl ft rfl rfl ?_ | refine awpQ_ret (d_l1In _ _ _) rfl rfl rfl rfl rfl rfl rfl rfl ft rfl rfl ?_ | refine awpHop_ret _ (d_l1In _ _ _) rfl rfl rfl rfl rfl rfl rfl rfl rfl ft rfl rfl sb rfl ?_) | (first | refine awpL_ret (d_numS _) rfl rfl rfl rfl rfl rfl rfl rfl ft rfl rfl ?_ | refine awpQ_ret (d_numS _) rfl rfl rfl rfl rfl rfl rfl rfl ft rfl rfl ?_ | refine awpHop_ret _ (d_numS _) rfl rfl rfl rfl rfl rfl rfl rfl rfl ft rfl rfl sb rfl ?_) | (first | refine awpL_ret (d_gcdOf _ _) rfl rfl rfl rfl rfl rfl rfl rfl ft rfl rfl ?_ | refine awpQ_ret (d_gcdOf _ _) rfl rfl rfl rfl rfl rfl rfl rfl ft rfl rfl ?_ | refine awpHop_ret _ (d_gcdOf _ _) rfl rfl rfl rfl rfl rfl rfl rfl rfl ft rfl rfl sb rfl ?_) | (refine awp_block ?_) | (refine awp_exit ?_) | (refine awp_skip ?_) | (refine awp_ret ?_) | (refine awp_cond_t rfl ?_) | (refine awp_cond_f rfl ?_) | (refine awp_quiet TM rfl (by kernel_rfl) ?_) | ((first | refine awpL_split rfl rfl rfl (fun hc => ?_) (fun hc => ?_) | refine awpQ_split rfl rfl rfl (fun hc => ?_) (fun hc => ?_) | refine awp_cond rfl (fun hc => ?_) (fun hc => ?_)) <;> ((try simp at hc) <;> try contradiction))))
  all_goals refine fin_ret rfl trivial (congrArg vB ?_) rfl
  · have h1 := numB_true.1 (by assumption : numB n = true)
    have h2 := inB_true.1 (by assumption : inB d 1 400000000 = true)
    rw [gcdOf_eq (by assumption) (numB_true.2 (by omega))]
    simp [ratioB]
    rw [Bool.eq_iff_iff]; simp; omega
  · have h1 := numB_false.1 (by assumption : numB n = false)
    simp [ratioB]; omega
  · have h2 := inB_false.1 (by assumption : inB d 1 400000000 = false)
    simp [ratioB]; omega
theorem q_bd (n : Int) {g : Int} (h1 : -1000000000000000000 ≤ n) (h2 : n ≤ 1000000000000000000) : -1000000000000000000 ≤ n.tdiv g ∧ n.tdiv g ≤ 1000000000000000000 := by
  have hq1 := tdiv_bd n g
  omega
theorem lowR_of {n d : Int} {x y : Int} {b : Bool} (h : (n.tdiv (Int.gcd n d) = x ∧ d.tdiv (Int.gcd n d) = y ∧ 0 < d) ∨ (-(n.tdiv (Int.gcd n d)) = x ∧ -(d.tdiv (Int.gcd n d)) = y ∧ d < 0)) (hb : ratioB x y = b) : lowR n d = if b then (x, y) else (0, 0) := by
  rcases h with ⟨h1, h2, h⟩ | ⟨h1, h2, h⟩
  · rw [lowR_pos h, h1, h2, redR, hb]
  · rw [lowR_neg h, h1, h2, redR, hb]
theorem gcd_nn {n d : Int} : Int.gcd (-n) (-d) = Int.gcd n d := by rw [Int.gcd_neg, Int.neg_gcd]
theorem d_l2Make (n d : Int) (hn : -1000000000000000000 ≤ n ∧ n ≤ 1000000000000000000) (hd : -1000000000000000000 ≤ d ∧ d ≤ 1000000000000000000) : Does Try.prog 117 [vI n, vI d] [] 1 (Ret (vR (if d = 0 then (0, 0) else lowR n d)) 1) := by
  refine Does.intro TT Try.func117 rfl (by kernel_rfl) rfl rfl fun E hE => ?_
  (repeat' (first | (refine awpL_step TT rfl rfl rfl sd ?_) | (refine awpL_nil ?_) | (refine awpL_skip rfl rfl ?_) | (refine awpQ_step TT rfl rfl rfl rfl sd ?_) | (refine awpQ_nil ?_) | (refine awpQ_skip rfl rfl ?_) | (refine awp_seq ?_) | (refine awp_region ?_) | (refine awp_block ?_) | (refine awp_exit ?_) | (refine awp_skip ?_) | (refine awp_ret ?_) | (refine awp_cond_t rfl ?_) | (refine awp_cond_f rfl ?_) | (refine awp_quiet TM rfl (by kernel_rfl) ?_) | ((first | refine awpL_split rfl rfl rfl (fun hc => ?_) (fun hc => ?_) | refine awpQ_split rfl rfl rfl (fun hc => ?_) (fun hc => ?_) | refine awp_cond rfl (fun hc => ?_) (fun hc => ?_)) <;> ((try simp at hc) <;> try contradiction))))
  · refine fin_ret rfl (by repeat' (first | exact trivial | exact Nat.zero_lt_one | omega | refine ⟨?_, ?_⟩)) (vR_eq ?_) rfl
    rw [if_pos hc]
  · rw [if_neg (show ¬ d = 0 by assumption)]
    have h0 : d ≠ 0 := by assumption
    have hg0 := gcd_pos_of (n := n) h0
    have hg1 : (Int.gcd n d : Int) ≤ 1000000000000000000 := gcd_le_left hn.1 hn.2 hd.1 hd.2
    have hq1 := q_bd (-n) (g := (Int.gcd n d : Int)) (by omega) (by omega)
    have hq2 := q_bd (-d) (g := (Int.gcd n d : Int)) (by omega) (by omega)
    refine awp_loop hE (fun p : Int × Int => (-1000000000000000000 ≤ p.1 ∧ p.1 ≤ 1000000000000000000) ∧ (-1000000000000000000 ≤ p.2 ∧ p.2 ≤ 1000000000000000000) ∧ Int.gcd p.1 p.2 = Int.gcd (-n) (-d)) (fun p => p.2.natAbs)
      (fun p => [(0, vI (-n)), (1, vI (-d)), (4, .one (.ptr 1 2 0 0)), (5, vI p.1), (6, vI p.2)]) (fun _ => [(1, .own 90 1 (.lit [.int 0, .int 0]))]) 2 [] (-n, -d) ⟨by omega, by omega, rfl⟩ ⟨⟨rfl, rfl, rfl, rfl, rfl, trivial⟩, ⟨rfl, trivial⟩, rfl⟩ ?_
    rintro ⟨x, y⟩ ⟨h1, h2, h5⟩
    dsimp only at *
    (repeat' (first | (refine awpL_step TT rfl rfl rfl sd ?_) | (refine awpL_nil ?_) | (refine awpL_skip rfl rfl ?_) | (refine awpQ_step TT rfl rfl rfl rfl sd ?_) | (refine awpQ_nil ?_) | (refine awpQ_skip rfl rfl ?_) | (refine awp_seq ?_) | (refine awp_region ?_) | (first | refine awpL_ret (d_l1Abs _ (by omega) (by omega)) rfl rfl rfl rfl rfl rfl rfl rfl ft rfl rfl ?_ | refine awpQ_ret (d_l1Abs _ (by omega) (by omega)) rfl rfl rfl rfl rfl rfl rfl rfl ft rfl rfl ?_ | refine awpHop_ret _ (d_l1Abs _ (by omega) (by omega)) rfl rfl rfl rfl rfl rfl rfl rfl rfl ft rfl rfl sb rfl ?_) | (refine awp_block ?_) | (refine awp_exit ?_) | (refine awp_skip ?_) | (refine awp_ret ?_) | (refine awp_cond_t rfl ?_) | (refine awp_cond_f rfl ?_) | (refine awp_quiet TM rfl (by kernel_rfl) ?_) | ((first | refine awpL_split rfl rfl rfl (fun hc => ?_) (fun hc => ?_) | refine awpQ_split rfl rfl rfl (fun hc => ?_) (fun hc => ?_) | refine awp_cond rfl (fun hc => ?_) (fun hc => ?_)) <;> ((try simp at hc) <;> try contradiction))))
    · obtain ⟨h6, h7⟩ := gcd_round h1 h2 hc h5
      exact ⟨[], (y, x.tmod y), h6, h7, ⟨rfl, rfl, rfl, rfl, rfl, trivial⟩, ⟨rfl, trivial⟩, rfl⟩
    · subst hc
      have e : (x.natAbs : Int) = (Int.gcd n d : Int) := by rw [← gcd_nn, ← h5]; simp
      rw [e]
      refine awp_held TM [] sb rfl (fun ρs => ?_)
      refine awpH_take TT 0 rfl kr kr kr nh rfl rfl rfl rfl sd ?_
      refine awpH_take TT 1 rfl kr kr kr nh rfl rfl rfl rfl sd ?_
      refine awpH_take TT 2 rfl kr kr kr nh rfl rfl rfl rfl sd ?_
      refine awpH_take TT 3 rfl kr kr kr nh rfl rfl rfl rfl sd ?_
      refine awpH_take TT 4 rfl kr kr kr nh rfl rfl rfl rfl sd ?_
      refine awpH_take TT 5 rfl kr kr kr nh rfl rfl rfl rfl sd ?_
      refine awpH_take TT 6 rfl kr kr kr nh rfl rfl rfl rfl sd ?_
      refine awpH_all [7] kr rfl ⟨?_, trivial⟩
      first | (refine awpHop_step TT 7 rfl rfl rfl rfl sd sb rfl ?_)
      refine awpH_all [8] kr rfl ⟨?_, trivial⟩
      first | (refine awpHop_step TT 8 rfl rfl rfl rfl sd sb rfl ?_)
      refine awpH_done kr ?_
      rotate_left
      (repeat' (first | (refine awpL_step TT rfl rfl rfl sd ?_) | (refine awpL_nil ?_) | (refine awpL_skip rfl rfl ?_) | (refine awpQ_step TT rfl rfl rfl rfl sd ?_) | (refine awpQ_nil ?_) | (refine awpQ_skip rfl rfl ?_) | (refine awp_seq ?_) | (refine awp_region ?_) | (first | refine awpL_ret (d_ratioS _ _) rfl rfl rfl rfl rfl rfl rfl rfl ft rfl rfl ?_ | refine awpQ_ret (d_ratioS _ _) rfl rfl rfl rfl rfl rfl rfl rfl ft rfl rfl ?_ | refine awpHop_ret _ (d_ratioS _ _) rfl rfl rfl rfl rfl rfl rfl rfl rfl ft rfl rfl sb rfl ?_) | (refine awp_block ?_) | (refine awp_exit ?_) | (refine awp_skip ?_) | (refine awp_ret ?_) | (refine awp_cond_t rfl ?_) | (refine awp_cond_f rfl ?_) | (refine awp_quiet TM rfl (by kernel_rfl) ?_) | ((first | refine awpL_split rfl rfl rfl (fun hc => ?_) (fun hc => ?_) | refine awpQ_split rfl rfl rfl (fun hc => ?_) (fun hc => ?_) | refine awp_cond rfl (fun hc => ?_) (fun hc => ?_)) <;> ((try simp at hc) <;> try contradiction))))
      all_goals refine fin_ret rfl (by repeat' (first | exact trivial | exact Nat.zero_lt_one | omega | refine ⟨?_, ?_⟩)) (vR_eq ?_) rfl
      all_goals simp only [Int.neg_tdiv] at *
      all_goals rw [lowR_of (.inr ⟨rfl, rfl, by omega⟩) hc]
      all_goals rfl
  · rw [if_neg (show ¬ d = 0 by assumption)]
    have h0 : d ≠ 0 := by assumption
    have hg0 := gcd_pos_of (n := n) h0
    have hg1 : (Int.gcd n d : Int) ≤ 1000000000000000000 := gcd_le_left hn.1 hn.2 hd.1 hd.2
    have hq1 := q_bd n (g := (Int.gcd n d : Int)) (by omega) (by omega)
    have hq2 := q_bd d (g := (Int.gcd n d : Int)) (by omega) (by omega)
    refine awp_loop hE (fun p : Int × Int => (-1000000000000000000 ≤ p.1 ∧ p.1 ≤ 1000000000000000000) ∧ (-1000000000000000000 ≤ p.2 ∧ p.2 ≤ 1000000000000000000) ∧ Int.gcd p.1 p.2 = Int.gcd n d) (fun p => p.2.natAbs)
      (fun p => [(0, vI n), (1, vI d), (4, .one (.ptr 1 2 0 0)), (5, vI p.1), (6, vI p.2)]) (fun _ => [(1, .own 90 1 (.lit [.int 0, .int 0]))]) 2 [] (n, d) ⟨by omega, by omega, rfl⟩ ⟨⟨rfl, rfl, rfl, rfl, rfl, trivial⟩, ⟨rfl, trivial⟩, rfl⟩ ?_
    rintro ⟨x, y⟩ ⟨h1, h2, h5⟩
    dsimp only at *
    (repeat' (first | (refine awpL_step TT rfl rfl rfl sd ?_) | (refine awpL_nil ?_) | (refine awpL_skip rfl rfl ?_) | (refine awpQ_step TT rfl rfl rfl rfl sd ?_) | (refine awpQ_nil ?_) | (refine awpQ_skip rfl rfl ?_) | (refine awp_seq ?_) | (refine awp_region ?_) | (first | refine awpL_ret (d_l1Abs _ (by omega) (by omega)) rfl rfl rfl rfl rfl rfl rfl rfl ft rfl rfl ?_ | refine awpQ_ret (d_l1Abs _ (by omega) (by omega)) rfl rfl rfl rfl rfl rfl rfl rfl ft rfl rfl ?_ | refine awpHop_ret _ (d_l1Abs _ (by omega) (by omega)) rfl rfl rfl rfl rfl rfl rfl rfl rfl ft rfl rfl sb rfl ?_) | (refine awp_block ?_) | (refine awp_exit ?_) | (refine awp_skip ?_) | (refine awp_ret ?_) | (refine awp_cond_t rfl ?_) | (refine awp_cond_f rfl ?_) | (refine awp_quiet TM rfl (by kernel_rfl) ?_) | ((first | refine awpL_split rfl rfl rfl (fun hc => ?_) (fun hc => ?_) | refine awpQ_split rfl rfl rfl (fun hc => ?_) (fun hc => ?_) | refine awp_cond rfl (fun hc => ?_) (fun hc => ?_)) <;> ((try simp at hc) <;> try contradiction))))
    · obtain ⟨h6, h7⟩ := gcd_round h1 h2 hc h5
      exact ⟨[], (y, x.tmod y), h6, h7, ⟨rfl, rfl, rfl, rfl, rfl, trivial⟩, ⟨rfl, trivial⟩, rfl⟩
    · subst hc
      have e : (x.natAbs : Int) = (Int.gcd n d : Int) := by rw [← h5]; simp
      rw [e]
      refine awp_held TM [] sb rfl (fun ρs => ?_)
      refine awpH_take TT 0 rfl kr kr kr nh rfl rfl rfl rfl sd ?_
      refine awpH_take TT 1 rfl kr kr kr nh rfl rfl rfl rfl sd ?_
      refine awpH_take TT 2 rfl kr kr kr nh rfl rfl rfl rfl sd ?_
      refine awpH_take TT 3 rfl kr kr kr nh rfl rfl rfl rfl sd ?_
      refine awpH_take TT 4 rfl kr kr kr nh rfl rfl rfl rfl sd ?_
      refine awpH_take TT 5 rfl kr kr kr nh rfl rfl rfl rfl sd ?_
      refine awpH_take TT 6 rfl kr kr kr nh rfl rfl rfl rfl sd ?_
      refine awpH_all [7] kr rfl ⟨?_, trivial⟩
      first | (refine awpHop_step TT 7 rfl rfl rfl rfl sd sb rfl ?_)
      refine awpH_all [8] kr rfl ⟨?_, trivial⟩
      first | (refine awpHop_step TT 8 rfl rfl rfl rfl sd sb rfl ?_)
      refine awpH_done kr ?_
      rotate_left
      (repeat' (first | (refine awpL_step TT rfl rfl rfl sd ?_) | (refine awpL_nil ?_) | (refine awpL_skip rfl rfl ?_) | (refine awpQ_step TT rfl rfl rfl rfl sd ?_) | (refine awpQ_nil ?_) | (refine awpQ_skip rfl rfl ?_) | (refine awp_seq ?_) | (refine awp_region ?_) | (first | refine awpL_ret (d_ratioS _ _) rfl rfl rfl rfl rfl rfl rfl rfl ft rfl rfl ?_ | refine awpQ_ret (d_ratioS _ _) rfl rfl rfl rfl rfl rfl rfl rfl ft rfl rfl ?_ | refine awpHop_ret _ (d_ratioS _ _) rfl rfl rfl rfl rfl rfl rfl rfl rfl ft rfl rfl sb rfl ?_) | (refine awp_block ?_) | (refine awp_exit ?_) | (refine awp_skip ?_) | (refine awp_ret ?_) | (refine awp_cond_t rfl ?_) | (refine awp_cond_f rfl ?_) | (refine awp_quiet TM rfl (by kernel_rfl) ?_) | ((first | refine awpL_split rfl rfl rfl (fun hc => ?_) (fun hc => ?_) | refine awpQ_split rfl rfl rfl (fun hc => ?_) (fun hc => ?_) | refine awp_cond rfl (fun hc => ?_) (fun hc => ?_)) <;> ((try simp at hc) <;> try contradiction))))
      all_goals refine fin_ret rfl (by repeat' (first | exact trivial | exact Nat.zero_lt_one | omega | refine ⟨?_, ?_⟩)) (vR_eq ?_) rfl
      all_goals rw [lowR_of (.inl ⟨rfl, rfl, by omega⟩) hc]
      all_goals rfl
theorem prod_in {a b : Int} (h1 : -400000000 ≤ a ∧ a ≤ 400000000) (h2 : -400000000 ≤ b ∧ b ≤ 400000000) : -160000000000000000 ≤ a * b ∧ a * b ≤ 160000000000000000 := prod_bd h1.1 h1.2 h2.1 h2.2
theorem ratio_in {n d : Int} (h : ratioB n d = true) : (-400000000 ≤ n ∧ n ≤ 400000000) ∧ (-400000000 ≤ d ∧ d ≤ 400000000) ∧ 1 ≤ d := by
  obtain ⟨h1, h2, h3, h4, _⟩ := ratioB_true h
  omega
theorem ratio_prods {a b c d : Int} (h1 : ratioB a b = true) (h2 : ratioB c d = true) : (-160000000000000000 ≤ a * d ∧ a * d ≤ 160000000000000000) ∧ (-160000000000000000 ≤ c * b ∧ c * b ≤ 160000000000000000) ∧ (-160000000000000000 ≤ b * d ∧ b * d ≤ 160000000000000000) ∧ (-160000000000000000 ≤ b * c ∧ b * c ≤ 160000000000000000) ∧ b * d ≠ 0 ∧ (c ≠ 0 → b * c ≠ 0) := by
  have ⟨a1, a2, a3⟩ := ratio_in h1
  have ⟨b1, b2, b3⟩ := ratio_in h2
  exact ⟨prod_in a1 b2, prod_in b1 a2, prod_in a2 b2, prod_in a2 b1, Int.mul_ne_zero (by omega) (by omega), fun h => Int.mul_ne_zero (by omega) h⟩
def mkR (n d : Int) : Int × Int := if numB n && numB d && !(d == 0) then lowR n d else (0, 0)
theorem d_makeS (n d : Int) : Does Try.prog 97 [vI n, vI d] [] 1 (Ret (vR (mkR n d)) 1) := by
  refine Does.intro TT Try.func97 rfl (by kernel_rfl) rfl rfl fun E hE => ?_
  (repeat' (first | (refine awpL_step TT rfl rfl rfl sd ?_) | (refine awpL_nil ?_) | (refine awpL_skip rfl rfl ?_) | (refine awpQ_step TT rfl rfl rfl rfl sd ?_) | (refine awpQ_nil ?_) | (refine awpQ_skip rfl rfl ?_) | (refine awp_seq ?_) | (refine awp_region ?_) | (first | refine awpL_ret (d_numS _) rfl rfl rfl rfl rfl rfl rfl rfl ft rfl rfl ?_ | refine awpQ_ret (d_numS _) rfl rfl rfl rfl rfl rfl rfl rfl ft rfl rfl ?_ | refine awpHop_ret _ (d_numS _) rfl rfl rfl rfl rfl rfl rfl rfl rfl ft rfl rfl sb rfl ?_) | (first | refine awpL_ret (d_l2Make _ _ (by have := numB_true.1 (by assumption : numB n = true); omega) (by have := numB_true.1 (by assumption : numB d = true); omega)) rfl rfl rfl rfl rfl rfl rfl rfl ft rfl rfl ?_ | refine awpQ_ret (d_l2Make _ _ (by have := numB_true.1 (by assumption : numB n = true); omega) (by have := numB_true.1 (by assumption : numB d = true); omega)) rfl rfl rfl rfl rfl rfl rfl rfl ft rfl rfl ?_ | refine awpHop_ret _ (d_l2Make _ _ (by have := numB_true.1 (by assumption : numB n = true); omega) (by have := numB_true.1 (by assumption : numB d = true); omega)) rfl rfl rfl rfl rfl rfl rfl rfl rfl ft rfl rfl sb rfl ?_) | (refine awp_block ?_) | (refine awp_exit ?_) | (refine awp_skip ?_) | (refine awp_ret ?_) | (refine awp_cond_t rfl ?_) | (refine awp_cond_f rfl ?_) | (refine awp_quiet TM rfl (by kernel_rfl) ?_) | ((first | refine awpL_split rfl rfl rfl (fun hc => ?_) (fun hc => ?_) | refine awpQ_split rfl rfl rfl (fun hc => ?_) (fun hc => ?_) | refine awp_cond rfl (fun hc => ?_) (fun hc => ?_)) <;> ((try simp at hc) <;> try contradiction))))
  all_goals refine fin_ret rfl (by repeat' (first | exact trivial | exact Nat.zero_lt_one | omega | refine ⟨?_, ?_⟩)) (vR_eq ?_) rfl
  all_goals simp_all [mkR]
  all_goals split <;> rfl
end Go.Proofs.Ytbaaelampabhdaa
