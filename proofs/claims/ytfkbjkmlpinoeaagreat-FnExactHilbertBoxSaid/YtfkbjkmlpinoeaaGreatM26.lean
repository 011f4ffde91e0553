/-
  TEXTS OF THE PROOF, put together: bPoint.
-/
import Derived.Test.YtfkbjkmlpinoeaaGreatM25
set_option linter.unusedVariables false
set_option linter.unusedSimpArgs false
namespace Go.Proofs.YtfkbjkmlpinoeaaGreat
open Go.RowKit

set_option maxHeartbeats 1000000 in
theorem d_echOfS (r c : Int) (xs : List Int) (ca : Nat) (hl : xs.length ≤ 1099511627776) : Does Tryz.prog 64 [vM r c 1 xs.length ca] [(1, .ro (.ints xs))] 2 (EchO r c 3 (rankB r c xs)) := by
  refine Does.intro TT Tryz.func64 rfl (by kernel_rfl) rfl rfl fun E hE => ?_
  cases hm : isM r c xs
  · have hR : rankB r c xs = none := by simp [rankB, hm]
    rw [hR]
    ((repeat' (first | refine w_a TT rfl rfl rfl sd ?_ | refine w_b ?_ | refine w_c rfl rfl ?_ | refine w_d TT rfl rfl rfl rfl sd ?_ | refine w_e ?_ | refine w_f rfl rfl ?_ | refine w_g ?_ | refine w_h ?_ | ((first | refine w_z (d_isMatS _ _ _ _ hl) rfl rfl rfl rfl rfl rfl rfl rfl ft rfl rfl ?_ | refine w_A (d_isMatS _ _ _ _ hl) rfl rfl rfl rfl rfl rfl rfl rfl ft rfl rfl ?_) <;> simp only [hm]) | refine w_i ?_ | refine w_j ?_ | refine w_k ?_ | refine w_l ?_ | refine w_m rfl ?_ | refine w_n rfl ?_ | refine w_o TM rfl kr ?_ | ((first | refine w_p rfl rfl rfl (fun hc => ?_) (fun hc => ?_) | refine w_q rfl rfl rfl (fun hc => ?_) (fun hc => ?_) | refine w_r rfl (fun hc => ?_) (fun hc => ?_)) <;> ((try simp at hc) <;> try contradiction)))) <;> try (exfalso; omega))
    exact fin rfl w_3 [(2, 4)] (.tup [.agg zeroM, .one (.sl 2 1 0 0 0), .one (.bool false)]) [(2, .own 3 0 (.ints []))] 3 ⟨rfl, rfl, rfl⟩ rfl ⟨trivial, ⟨rfl, trivial⟩, rfl⟩ rfl
  · obtain ⟨a, b, rfl, rfl, ha, hb, hx, hnum⟩ := isM_dims hm
    have hR : rankB a b xs = rankO xs a b := by simp [rankB, hm]
    rw [hR]
    have he := d_echS a b xs ca hl ha hb hx hnum
    cases ho : rankO xs a b with
    | none =>
      rw [ho] at he
      ((repeat' (first | refine w_a TT rfl rfl rfl sd ?_ | refine w_b ?_ | refine w_c rfl rfl ?_ | refine w_d TT rfl rfl rfl rfl sd ?_ | refine w_e ?_ | refine w_f rfl rfl ?_ | refine w_g ?_ | refine w_h ?_ | ((first | refine w_z (d_isMatS _ _ _ _ hl) rfl rfl rfl rfl rfl rfl rfl rfl ft rfl rfl ?_ | refine w_A (d_isMatS _ _ _ _ hl) rfl rfl rfl rfl rfl rfl rfl rfl ft rfl rfl ?_) <;> simp only [hm]) | ((refine w_E (he) rfl rfl rfl rfl rfl rfl rfl ft rfl ?_); rintro v Hout n1 ⟨rfl, rfl, rfl⟩) | refine w_i ?_ | refine w_j ?_ | refine w_k ?_ | refine w_l ?_ | refine w_m rfl ?_ | refine w_n rfl ?_ | refine w_o TM rfl kr ?_ | ((first | refine w_p rfl rfl rfl (fun hc => ?_) (fun hc => ?_) | refine w_q rfl rfl rfl (fun hc => ?_) (fun hc => ?_) | refine w_r rfl (fun hc => ?_) (fun hc => ?_)) <;> ((try simp at hc) <;> try contradiction)))) <;> try (exfalso; omega))
      exact fin rfl w_3 [(2, 4)] (.tup [.agg zeroM, .one (.sl 2 1 0 0 0), .one (.bool false)]) [(2, .own 3 0 (.ints []))] 3 ⟨rfl, rfl, rfl⟩ rfl ⟨trivial, ⟨rfl, trivial⟩, rfl⟩ rfl
    | some k =>
      rw [ho] at he
      ((repeat' (first | refine w_a TT rfl rfl rfl sd ?_ | refine w_b ?_ | refine w_c rfl rfl ?_ | refine w_d TT rfl rfl rfl rfl sd ?_ | refine w_e ?_ | refine w_f rfl rfl ?_ | refine w_g ?_ | refine w_h ?_ | ((first | refine w_z (d_isMatS _ _ _ _ hl) rfl rfl rfl rfl rfl rfl rfl rfl ft rfl rfl ?_ | refine w_A (d_isMatS _ _ _ _ hl) rfl rfl rfl rfl rfl rfl rfl rfl ft rfl rfl ?_) <;> simp only [hm]) | ((refine w_E (he) rfl rfl rfl rfl rfl rfl rfl ft rfl ?_); rintro v Hout n1 ⟨ys, pv, cy, cp, hpv, rfl, rfl, rfl⟩) | refine w_i ?_ | refine w_j ?_ | refine w_k ?_ | refine w_l ?_ | refine w_m rfl ?_ | refine w_n rfl ?_ | refine w_o TM rfl kr ?_ | ((first | refine w_p rfl rfl rfl (fun hc => ?_) (fun hc => ?_) | refine w_q rfl rfl rfl (fun hc => ?_) (fun hc => ?_) | refine w_r rfl (fun hc => ?_) (fun hc => ?_)) <;> ((try simp at hc) <;> try contradiction)))) <;> try (exfalso; omega))
      exact fin rfl w_3 [(2, 4), (3, 5)] (.tup [.agg [.int a, .int b, .sl 2 1 0 ys.length cy], .one (.sl 3 1 0 pv.length cp), .one (.bool true)]) [(2, .own 3 cy (.ints ys)), (3, .own 3 cp (.ints pv))] 4 ⟨ys, pv, cy, cp, hpv, rfl, rfl, rfl⟩ rfl ⟨trivial, ⟨rfl, rfl, trivial⟩, rfl⟩ rfl
def rankV : Option Nat → AV
  | some k => .tup [.one (.int k), .one (.bool true)]
  | none => .tup [.one (.int 0), .one (.bool false)]
theorem d_rankI (r c : Int) (xs : List Int) (ca : Nat) (hl : xs.length ≤ 1099511627776) : Does Tryz.prog 18 [vM r c 1 xs.length ca] [(1, .ro (.ints xs))] 2 (Ret (rankV (rankB r c xs)) 2) := by
  have he := d_echI r c xs ca hl
  refine Does.intro TT Tryz.func18 rfl (by kernel_rfl) rfl rfl fun E hE => ?_
  cases ho : rankB r c xs with
  | none =>
    rw [ho] at he
    ((repeat' (first | refine w_a TT rfl rfl rfl sd ?_ | refine w_b ?_ | refine w_c rfl rfl ?_ | refine w_d TT rfl rfl rfl rfl sd ?_ | refine w_e ?_ | refine w_f rfl rfl ?_ | refine w_g ?_ | refine w_h ?_ | ((refine w_E (he) rfl rfl rfl rfl rfl rfl rfl ft rfl ?_); rintro v Hout n1 ⟨rfl, rfl, rfl⟩) | refine w_i ?_ | refine w_j ?_ | refine w_k ?_ | refine w_l ?_ | refine w_m rfl ?_ | refine w_n rfl ?_ | refine w_o TM rfl kr ?_ | ((first | refine w_p rfl rfl rfl (fun hc => ?_) (fun hc => ?_) | refine w_q rfl rfl rfl (fun hc => ?_) (fun hc => ?_) | refine w_r rfl (fun hc => ?_) (fun hc => ?_)) <;> ((try simp at hc) <;> try contradiction)))) <;> try (exfalso; omega))
    refine fin_ret rfl w_3 (rfl) rfl
  | some k =>
    rw [ho] at he
    ((repeat' (first | refine w_a TT rfl rfl rfl sd ?_ | refine w_b ?_ | refine w_c rfl rfl ?_ | refine w_d TT rfl rfl rfl rfl sd ?_ | refine w_e ?_ | refine w_f rfl rfl ?_ | refine w_g ?_ | refine w_h ?_ | ((refine w_E (he) rfl rfl rfl rfl rfl rfl rfl ft rfl ?_); rintro v Hout n1 ⟨ys, pv, cy, cp, rfl, rfl, rfl, rfl⟩) | refine w_i ?_ | refine w_j ?_ | refine w_k ?_ | refine w_l ?_ | refine w_m rfl ?_ | refine w_n rfl ?_ | refine w_o TM rfl kr ?_ | ((first | refine w_p rfl rfl rfl (fun hc => ?_) (fun hc => ?_) | refine w_q rfl rfl rfl (fun hc => ?_) (fun hc => ?_) | refine w_r rfl (fun hc => ?_) (fun hc => ?_)) <;> ((try simp at hc) <;> try contradiction)))) <;> try (exfalso; omega))
    refine fin_ret rfl w_3 (rfl) rfl
theorem d_rankS (r c : Int) (xs : List Int) (ca : Nat) (hl : xs.length ≤ 1099511627776) : Does Tryz.prog 14 [vM r c 1 xs.length ca] [(1, .ro (.ints xs))] 2 (Ret (rankV (rankB r c xs)) 2) := by
  have he := d_echOfS r c xs ca hl
  refine Does.intro TT Tryz.func14 rfl (by kernel_rfl) rfl rfl fun E hE => ?_
  cases ho : rankB r c xs with
  | none =>
    rw [ho] at he
    ((repeat' (first | refine w_a TT rfl rfl rfl sd ?_ | refine w_b ?_ | refine w_c rfl rfl ?_ | refine w_d TT rfl rfl rfl rfl sd ?_ | refine w_e ?_ | refine w_f rfl rfl ?_ | refine w_g ?_ | refine w_h ?_ | ((refine w_E (he) rfl rfl rfl rfl rfl rfl rfl ft rfl ?_); rintro v Hout n1 ⟨rfl, rfl, rfl⟩) | refine w_i ?_ | refine w_j ?_ | refine w_k ?_ | refine w_l ?_ | refine w_m rfl ?_ | refine w_n rfl ?_ | refine w_o TM rfl kr ?_ | ((first | refine w_p rfl rfl rfl (fun hc => ?_) (fun hc => ?_) | refine w_q rfl rfl rfl (fun hc => ?_) (fun hc => ?_) | refine w_r rfl (fun hc => ?_) (fun hc => ?_)) <;> ((try simp at hc) <;> try contradiction)))) <;> try (exfalso; omega))
    refine fin_ret rfl w_3 (rfl) rfl
  | some k =>
    rw [ho] at he
    ((repeat' (first | refine w_a TT rfl rfl rfl sd ?_ | refine w_b ?_ | refine w_c rfl rfl ?_ | refine w_d TT rfl rfl rfl rfl sd ?_ | refine w_e ?_ | refine w_f rfl rfl ?_ | refine w_g ?_ | refine w_h ?_ | ((refine w_E (he) rfl rfl rfl rfl rfl rfl rfl ft rfl ?_); rintro v Hout n1 ⟨ys, pv, cy, cp, rfl, rfl, rfl, rfl⟩) | refine w_i ?_ | refine w_j ?_ | refine w_k ?_ | refine w_l ?_ | refine w_m rfl ?_ | refine w_n rfl ?_ | refine w_o TM rfl kr ?_ | ((first | refine w_p rfl rfl rfl (fun hc => ?_) (fun hc => ?_) | refine w_q rfl rfl rfl (fun hc => ?_) (fun hc => ?_) | refine w_r rfl (fun hc => ?_) (fun hc => ?_)) <;> ((try simp at hc) <;> try contradiction)))) <;> try (exfalso; omega))
    refine fin_ret rfl w_3 (rfl) rfl
def pointB (r c : Int) (xs : List Int) : Bool := match rankB r c xs with
  | some k => coneM r c xs && decide ((k : Int) = c)
  | none => false
set_option maxHeartbeats 1000000 in
theorem d_pointI (r c : Int) (xs : List Int) (ca : Nat) (hl : xs.length ≤ 1099511627776) : Does Tryz.prog 44 [vM r c 1 xs.length ca] [(1, .ro (.ints xs))] 2 (Ret (vB (pointB r c xs)) 2) := by
  refine Does.intro TT Tryz.func44 rfl (by kernel_rfl) rfl rfl fun E hE => ?_
  cases ho : rankB r c xs <;> cases hc0 : coneM r c xs
  all_goals
    have hr := d_rankI r c xs ca hl
    rw [ho] at hr
    ((repeat' (first | refine w_a TT rfl rfl rfl sd ?_ | refine w_b ?_ | refine w_c rfl rfl ?_ | refine w_d TT rfl rfl rfl rfl sd ?_ | refine w_e ?_ | refine w_f rfl rfl ?_ | refine w_g ?_ | refine w_h ?_ | (first | refine w_z (hr) rfl rfl rfl rfl rfl rfl rfl rfl ft rfl rfl ?_ | refine w_A (hr) rfl rfl rfl rfl rfl rfl rfl rfl ft rfl rfl ?_) | ((first | refine w_z (d_coneI _ _ _ _ hl) rfl rfl rfl rfl rfl rfl rfl rfl ft rfl rfl ?_ | refine w_A (d_coneI _ _ _ _ hl) rfl rfl rfl rfl rfl rfl rfl rfl ft rfl rfl ?_) <;> simp only [hc0]) | refine w_i ?_ | refine w_j ?_ | refine w_k ?_ | refine w_l ?_ | refine w_m rfl ?_ | refine w_n rfl ?_ | refine w_o TM rfl kr ?_ | ((first | refine w_p rfl rfl rfl (fun hc => ?_) (fun hc => ?_) | refine w_q rfl rfl rfl (fun hc => ?_) (fun hc => ?_) | refine w_r rfl (fun hc => ?_) (fun hc => ?_)) <;> ((try simp at hc) <;> try contradiction)))) <;> try (exfalso; omega))
  all_goals refine fin_ret rfl w_3 (congrArg vB (by rw [Bool.eq_iff_iff]; simp [pointB, ho, hc0]; try omega)) rfl
set_option maxHeartbeats 1000000 in
theorem d_pointS (r c : Int) (xs : List Int) (ca : Nat) (hl : xs.length ≤ 1099511627776) : Does Tryz.prog 58 [vM r c 1 xs.length ca] [(1, .ro (.ints xs))] 2 (Ret (vB (pointB r c xs)) 2) := by
  refine Does.intro TT Tryz.func58 rfl (by kernel_rfl) rfl rfl fun E hE => ?_
  cases ho : rankB r c xs <;> cases hc0 : coneM r c xs
  all_goals
    have hr := d_rankS r c xs ca hl
    rw [ho] at hr
    ((repeat' (first | refine w_a TT rfl rfl rfl sd ?_ | refine w_b ?_ | refine w_c rfl rfl ?_ | refine w_d TT rfl rfl rfl rfl sd ?_ | refine w_e ?_ | refine w_f rfl rfl ?_ | refine w_g ?_ | refine w_h ?_ | (first | refine w_z (hr) rfl rfl rfl rfl rfl rfl rfl rfl ft rfl rfl ?_ | refine w_A (hr) rfl rfl rfl rfl rfl rfl rfl rfl ft rfl rfl ?_) | ((first | refine w_z (d_coneS _ _ _ _ hl) rfl rfl rfl rfl rfl rfl rfl rfl ft rfl rfl ?_ | refine w_A (d_coneS _ _ _ _ hl) rfl rfl rfl rfl rfl rfl rfl rfl ft rfl rfl ?_) <;> simp only [hc0]) | refine w_i ?_ | refine w_j ?_ | refine w_k ?_ | refine w_l ?_ | refine w_m rfl ?_ | refine w_n rfl ?_ | refine w_o TM rfl kr ?_ | ((first | refine w_p rfl rfl rfl (fun hc => ?_) (fun hc => ?_) | refine w_q rfl rfl rfl (fun hc => ?_) (fun hc => ?_) | refine w_r rfl (fun hc => ?_) (fun hc => ?_)) <;> ((try simp at hc) <;> try contradiction)))) <;> try (exfalso; omega))
  all_goals refine fin_ret rfl w_3 (congrArg vB (by rw [Bool.eq_iff_iff]; simp [pointB, ho, hc0]; try omega)) rfl
end Go.Proofs.YtfkbjkmlpinoeaaGreat
