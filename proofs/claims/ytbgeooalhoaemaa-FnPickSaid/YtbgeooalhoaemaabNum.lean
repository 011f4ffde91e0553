/-
  CONTRACTS: the number functions of both packages.
-/
import Derived.Test.YtbgeooalhoaemaaTab
import Derived.Test.YtbgeooalhoaemaaAm7
import Derived.Test.YtbgeooalhoaemaaNum
set_option linter.unusedVariables false
set_option linter.unusedSimpArgs false
namespace Go.Proofs.Ytbgeooalhoaemaa
open Go.RowKit

theorem d_absInt (n : Int) (h1 : -9223372036854775807 ≤ n) (h2 : n ≤ 9223372036854775807) : Does Try.prog 87 [vI n] [] 1 (Ret (vI n.natAbs) 1) := by
  refine Does.intro TT Try.func87 rfl (by kernel_rfl) rfl rfl fun E hE => ?_
  (repeat' (first | (refine awpL_step TT rfl rfl rfl sd ?_) | (refine awpL_nil ?_) | (refine awpL_skip rfl rfl ?_) | (refine awpQ_step TT rfl rfl rfl rfl sd ?_) | (refine awpQ_nil ?_) | (refine awpQ_skip rfl rfl ?_) | (refine awp_seq ?_) | (refine awp_region ?_) | (refine awp_block ?_) | (refine awp_exit ?_) | (refine awp_skip ?_) | (refine awp_ret ?_) | (refine awp_cond_t rfl ?_) | (refine awp_cond_f rfl ?_) | (refine awp_quiet TM rfl (by kernel_rfl) ?_) | ((first | refine awpL_split rfl rfl rfl (fun hc => ?_) (fun hc => ?_) | refine awpQ_split rfl rfl rfl (fun hc => ?_) (fun hc => ?_) | refine awp_cond rfl (fun hc => ?_) (fun hc => ?_)) <;> ((try simp at hc) <;> try contradiction))))
  all_goals refine fin_ret rfl trivial (congrArg vI ?_) rfl
  all_goals omega
theorem d_l1Abs (n : Int) (h1 : -9223372036854775807 ≤ n) (h2 : n ≤ 9223372036854775807) : Does Try.prog 86 [vI n] [] 1 (Ret (vI n.natAbs) 1) := by
  refine Does.intro TT Try.func86 rfl (by kernel_rfl) rfl rfl fun E hE => ?_
  (repeat' (first | (refine awpL_step TT rfl rfl rfl sd ?_) | (refine awpL_nil ?_) | (refine awpL_skip rfl rfl ?_) | (refine awpQ_step TT rfl rfl rfl rfl sd ?_) | (refine awpQ_nil ?_) | (refine awpQ_skip rfl rfl ?_) | (refine awp_seq ?_) | (refine awp_region ?_) | (refine awp_block ?_) | (refine awp_exit ?_) | (refine awp_skip ?_) | (refine awp_ret ?_) | (refine awp_cond_t rfl ?_) | (refine awp_cond_f rfl ?_) | (refine awp_quiet TM rfl (by kernel_rfl) ?_) | ((first | refine awpL_split rfl rfl rfl (fun hc => ?_) (fun hc => ?_) | refine awpQ_split rfl rfl rfl (fun hc => ?_) (fun hc => ?_) | refine awp_cond rfl (fun hc => ?_) (fun hc => ?_)) <;> ((try simp at hc) <;> try contradiction))))
  all_goals refine fin_ret rfl trivial (congrArg vI ?_) rfl
  all_goals omega
theorem d_numI (n : Int) : Does Try.prog 85 [vI n] [] 1 (Ret (vB (numB n)) 1) := by
  refine Does.intro TT Try.func85 rfl (by kernel_rfl) rfl rfl fun E hE => ?_
  (repeat' (first | (refine awpL_step TT rfl rfl rfl sd ?_) | (refine awpL_nil ?_) | (refine awpL_skip rfl rfl ?_) | (refine awpQ_step TT rfl rfl rfl rfl sd ?_) | (refine awpQ_nil ?_) | (refine awpQ_skip rfl rfl ?_) | (refine awp_seq ?_) | (refine awp_region ?_) | (refine awp_block ?_) | (refine awp_exit ?_) | (refine awp_skip ?_) | (refine awp_ret ?_) | (refine awp_cond_t rfl ?_) | (refine awp_cond_f rfl ?_) | (refine awp_quiet TM rfl (by kernel_rfl) ?_) | ((first | refine awpL_split rfl rfl rfl (fun hc => ?_) (fun hc => ?_) | refine awpQ_split rfl rfl rfl (fun hc => ?_) (fun hc => ?_) | refine awp_cond rfl (fun hc => ?_) (fun hc => ?_)) <;> ((try simp at hc) <;> try contradiction))))
  all_goals refine fin_ret rfl trivial (congrArg vB ?_) rfl
  all_goals simp [numB]; omega
theorem d_l1In (a b c : Int) : Does Try.prog 57 [vI a, vI b, vI c] [] 1 (Ret (vB (inB a b c)) 1) := by
  refine Does.intro TT Try.func57 rfl (by kernel_rfl) rfl rfl fun E hE => ?_
  (repeat' (first | (refine awpL_step TT rfl rfl rfl sd ?_) | (refine awpL_nil ?_) | (refine awpL_skip rfl rfl ?_) | (refine awpQ_step TT rfl rfl rfl rfl sd ?_) | (refine awpQ_nil ?_) | (refine awpQ_skip rfl rfl ?_) | (refine awp_seq ?_) | (refine awp_region ?_) | (refine awp_block ?_) | (refine awp_exit ?_) | (refine awp_skip ?_) | (refine awp_ret ?_) | (refine awp_cond_t rfl ?_) | (refine awp_cond_f rfl ?_) | (refine awp_quiet TM rfl (by kernel_rfl) ?_) | ((first | refine awpL_split rfl rfl rfl (fun hc => ?_) (fun hc => ?_) | refine awpQ_split rfl rfl rfl (fun hc => ?_) (fun hc => ?_) | refine awp_cond rfl (fun hc => ?_) (fun hc => ?_)) <;> ((try simp at hc) <;> try contradiction))))
  all_goals refine fin_ret rfl trivial (congrArg vB ?_) rfl
  all_goals simp [inB]; try omega
theorem d_numS (n : Int) : Does Try.prog 84 [vI n] [] 1 (Ret (vB (numB n)) 1) := by
  refine Does.intro TT Try.func84 rfl (by kernel_rfl) rfl rfl fun E hE => ?_
  (repeat' (first | (refine awpL_step TT rfl rfl rfl sd ?_) | (refine awpL_nil ?_) | (refine awpL_skip rfl rfl ?_) | (refine awpQ_step TT rfl rfl rfl rfl sd ?_) | (refine awpQ_nil ?_) | (refine awpQ_skip rfl rfl ?_) | (refine awp_seq ?_) | (refine awp_region ?_) | (first | refine awpL_ret (d_l1In _ _ _) rfl rfl rfl rfl rfl rfl rfl rfl ft rfl rfl ?_ | refine awpQ_ret (d_l1In _ _ _) rfl rfl rfl rfl rfl rfl rfl rfl ft rfl rfl ?_ | refine awpHop_ret _ (d_l1In _ _ _) rfl rfl rfl rfl rfl rfl rfl rfl rfl ft rfl rfl sb rfl ?_) | (refine awp_block ?_) | (refine awp_exit ?_) | (refine awp_skip ?_) | (refine awp_ret ?_) | (refine awp_cond_t rfl ?_) | (refine awp_cond_f rfl ?_) | (refine awp_quiet TM rfl (by kernel_rfl) ?_) | ((first | refine awpL_split rfl rfl rfl (fun hc => ?_) (fun hc => ?_) | refine awpQ_split rfl rfl rfl (fun hc => ?_) (fun hc => ?_) | refine awp_cond rfl (fun hc => ?_) (fun hc => ?_)) <;> ((try simp at hc) <;> try contradiction))))
  all_goals refine fin_ret rfl trivial (congrArg vB ?_) rfl
  all_goals rfl
theorem gcd_round {x y a b : Int} {B : Int} (h1 : -B ≤ x ∧ x ≤ B) (h2 : -B ≤ y ∧ y ≤ B) (h0 : y ≠ 0) (h : Int.gcd x y = Int.gcd a b) :
    ((-B ≤ y ∧ y ≤ B) ∧ (-B ≤ x.tmod y ∧ x.tmod y ≤ B) ∧ Int.gcd y (x.tmod y) = Int.gcd a b) ∧ (x.tmod y).natAbs < y.natAbs := by
  have hz : (x.tmod y).natAbs = x.natAbs % y.natAbs := Int.natAbs_tmod x y
  have hl : x.natAbs % y.natAbs < y.natAbs := Nat.mod_lt _ (by omega)
  exact ⟨⟨h2, by omega, (gcd_step x y).trans h⟩, by omega⟩
theorem d_gcd (a b : Int) (ha : -9223372036854775807 ≤ a ∧ a ≤ 9223372036854775807) (hb : -9223372036854775807 ≤ b ∧ b ≤ 9223372036854775807) : Does Try.prog 68 [vI a, vI b] [] 1 (Ret (vI (Int.gcd a b)) 1) := by
  refine Does.intro TT Try.func68 rfl (by kernel_rfl) rfl rfl fun E hE => ?_
  (repeat' (first | (refine awpL_step TT rfl rfl rfl sd ?_) | (refine awpL_nil ?_) | (refine awpL_skip rfl rfl ?_) | (refine awpQ_step TT rfl rfl rfl rfl sd ?_) | (refine awpQ_nil ?_) | (refine awpQ_skip rfl rfl ?_) | (refine awp_seq ?_) | (refine awp_region ?_) | (refine awp_block ?_) | (refine awp_exit ?_) | (refine awp_skip ?_) | (refine awp_ret ?_) | (refine awp_cond_t rfl ?_) | (refine awp_cond_f rfl ?_) | (refine awp_quiet TM rfl (by kernel_rfl) ?_) | ((first | refine awpL_split rfl rfl rfl (fun hc => ?_) (fun hc => ?_) | refine awpQ_split rfl rfl rfl (fun hc => ?_) (fun hc => ?_) | refine awp_cond rfl (fun hc => ?_) (fun hc => ?_)) <;> ((try simp at hc) <;> try contradiction))))
  refine awp_loop hE (fun p : Int × Int => (-9223372036854775807 ≤ p.1 ∧ p.1 ≤ 9223372036854775807) ∧ (-9223372036854775807 ≤ p.2 ∧ p.2 ≤ 9223372036854775807) ∧ Int.gcd p.1 p.2 = Int.gcd a b) (fun p => p.2.natAbs)
    (fun p => [(0, vI p.1), (1, vI p.2)]) (fun _ => []) 1 [] (a, b) ⟨ha, hb, rfl⟩ ⟨⟨rfl, rfl, trivial⟩, trivial, rfl⟩ ?_
  rintro ⟨x, y⟩ ⟨h1, h2, h5⟩
  dsimp only at *
  (repeat' (first | (refine awpL_step TT rfl rfl rfl sd ?_) | (refine awpL_nil ?_) | (refine awpL_skip rfl rfl ?_) | (refine awpQ_step TT rfl rfl rfl rfl sd ?_) | (refine awpQ_nil ?_) | (refine awpQ_skip rfl rfl ?_) | (refine awp_seq ?_) | (refine awp_region ?_) | (first | refine awpL_ret (d_absInt _ (by omega) (by omega)) rfl rfl rfl rfl rfl rfl rfl rfl ft rfl rfl ?_ | refine awpQ_ret (d_absInt _ (by omega) (by omega)) rfl rfl rfl rfl rfl rfl rfl rfl ft rfl rfl ?_ | refine awpHop_ret _ (d_absInt _ (by omega) (by omega)) rfl rfl rfl rfl rfl rfl rfl rfl rfl ft rfl rfl sb rfl ?_) | (refine awp_block ?_) | (refine awp_exit ?_) | (refine awp_skip ?_) | (refine awp_ret ?_) | (refine awp_cond_t rfl ?_) | (refine awp_cond_f rfl ?_) | (refine awp_quiet TM rfl (by kernel_rfl) ?_) | ((first | refine awpL_split rfl rfl rfl (fun hc => ?_) (fun hc => ?_) | refine awpQ_split rfl rfl rfl (fun hc => ?_) (fun hc => ?_) | refine awp_cond rfl (fun hc => ?_) (fun hc => ?_)) <;> ((try simp at hc) <;> try contradiction))))
  · obtain ⟨h6, h7⟩ := gcd_round h1 h2 hc h5
    exact ⟨[], (y, x.tmod y), h6, h7, ⟨rfl, rfl, trivial⟩, trivial, rfl⟩
  · refine fin_ret rfl trivial (congrArg vI ?_) rfl
    subst hc
    rw [← h5]; simp
theorem d_gcdOf (a b : Int) : Does Try.prog 67 [vI a, vI b] [] 1 (Ret (vI (gcdOf a b)) 1) := by
  refine Does.intro TT Try.func67 rfl (by kernel_rfl) rfl rfl fun E hE => ?_
  (repeat' (first | (refine awpL_step TT rfl rfl rfl sd ?_) | (refine awpL_nil ?_) | (refine awpL_skip rfl rfl ?_) | (refine awpQ_step TT rfl rfl rfl rfl sd ?_) | (refine awpQ_nil ?_) | (refine awpQ_skip rfl rfl ?_) | (refine awp_seq ?_) | (refine awp_region ?_) | (first | refine awpL_ret (d_numS _) rfl rfl rfl rfl rfl rfl rfl rfl ft rfl rfl ?_ | refine awpQ_ret (d_numS _) rfl rfl rfl rfl rfl rfl rfl rfl ft rfl rfl ?_ | refine awpHop_ret _ (d_numS _) rfl rfl rfl rfl rfl rfl rfl rfl rfl ft rfl rfl sb rfl ?_) | (refine awp_block ?_) | (refine awp_exit ?_) | (refine awp_skip ?_) | (refine awp_ret ?_) | (refine awp_cond_t rfl ?_) | (refine awp_cond_f rfl ?_) | (refine awp_quiet TM rfl (by kernel_rfl) ?_) | ((first | refine awpL_split rfl rfl rfl (fun hc => ?_) (fun hc => ?_) | refine awpQ_split rfl rfl rfl (fun hc => ?_) (fun hc => ?_) | refine awp_cond rfl (fun hc => ?_) (fun hc => ?_)) <;> ((try simp at hc) <;> try contradiction))))
  · refine fin_ret rfl trivial (congrArg vI ?_) rfl
    simp_all [gcdOf]
  · refine fin_ret rfl trivial (congrArg vI ?_) rfl
    simp_all [gcdOf]
  · have ha := numB_true.1 (by assumption : numB a = true)
    have hb := numB_true.1 (by assumption : numB b = true)
    refine awp_loop hE (fun p : Int × Int => (-400000000 ≤ p.1 ∧ p.1 ≤ 400000000) ∧ (-400000000 ≤ p.2 ∧ p.2 ≤ 400000000) ∧ Int.gcd p.1 p.2 = Int.gcd a b) (fun p => p.2.natAbs)
      (fun p => [(0, vI p.1), (1, vI p.2)]) (fun _ => []) 1 [] (a, b) ⟨ha, hb, rfl⟩ ⟨⟨rfl, rfl, trivial⟩, trivial, rfl⟩ ?_
    rintro ⟨x, y⟩ ⟨h1, h2, h5⟩
    dsimp only at *
    (repeat' (first | (refine awpL_step TT rfl rfl rfl sd ?_) | (refine awpL_nil ?_) | (refine awpL_skip rfl rfl ?_) | (refine awpQ_step TT rfl rfl rfl rfl sd ?_) | (refine awpQ_nil ?_) | (refine awpQ_skip rfl rfl ?_) | (refine awp_seq ?_) | (refine awp_region ?_) | (first | refine awpL_ret (d_l1Abs _ (by omega) (by omega)) rfl rfl rfl rfl rfl rfl rfl rfl ft rfl rfl ?_ | refine awpQ_ret (d_l1Abs _ (by omega) (by omega)) rfl rfl rfl rfl rfl rfl rfl rfl ft rfl rfl ?_ | refine awpHop_ret _ (d_l1Abs _ (by omega) (by omega)) rfl rfl rfl rfl rfl rfl rfl rfl rfl ft rfl rfl sb rfl ?_) | (refine awp_block ?_) | (refine awp_exit ?_) | (refine awp_skip ?_) | (refine awp_ret ?_) | (refine awp_cond_t rfl ?_) | (refine awp_cond_f rfl ?_) | (refine awp_quiet TM rfl (by kernel_rfl) ?_) | ((first | refine awpL_split rfl rfl rfl (fun hc => ?_) (fun hc => ?_) | refine awpQ_split rfl rfl rfl (fun hc => ?_) (fun hc => ?_) | refine awp_cond rfl (fun hc => ?_) (fun hc => ?_)) <;> ((try simp at hc) <;> try contradiction))))
    · obtain ⟨h6, h7⟩ := gcd_round h1 h2 hc h5
      exact ⟨[], (y, x.tmod y), h6, h7, ⟨rfl, rfl, trivial⟩, trivial, rfl⟩
    · refine fin_ret rfl trivial (congrArg vI ?_) rfl
      subst hc
      simp_all [gcdOf]
end Go.Proofs.Ytbgeooalhoaemaa
