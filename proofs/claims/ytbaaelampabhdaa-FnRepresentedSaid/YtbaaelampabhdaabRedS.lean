/-
  CONTRACTS: the reduction of binary forms, the reference's.
-/
import Derived.Test.YtbaaelampabhdaabRedI
import Derived.Test.YtbaaelampabhdaabIdent
import Derived.Test.YtbaaelampabhdaapMk
set_option linter.unusedVariables false
set_option linter.unusedSimpArgs false
namespace Go.Proofs.Ytbaaelampabhdaa
open Go.RowKit

/-- rounding -b / (2 a) -/
theorem round_k {a b : Int} (h1 : 1 ≤ a) (h2 : a ≤ 5000) (h3 : -5000 ≤ b) (h4 : b ≤ 5000) : ratioB (mkR (-b) (2 * a)).1 (mkR (-b) (2 * a)).2 = true ∧ (2 * (mkR (-b) (2 * a)).1 + (mkR (-b) (2 * a)).2) / (2 * (mkR (-b) (2 * a)).2) = (a - b) / (2 * a) := by
  obtain ⟨k, k1, k2, k3, k4⟩ := mk_spec (n := -b) (d := 2 * a) (by omega) (by omega) (numB_true.2 (by omega))
  refine ⟨k4, ?_⟩
  generalize (mkR (-b) (2 * a)).1 = n at *
  generalize (mkR (-b) (2 * a)).2 = d at *
  have e1 : (a - b) / (2 * a) = (2 * (a - b)) / (2 * (2 * a)) := (Int.mul_ediv_mul_of_pos _ _ (show (0 : Int) < 2 by omega)).symm
  have e2 : 2 * (a - b) = k * (2 * n + d) := by rw [Int.mul_add, ← k3, Int.mul_left_comm, ← k2]; omega
  have e3 : 2 * (2 * a) = k * (2 * d) := by rw [k3, Int.mul_left_comm]
  rw [e1, e2, e3, Int.mul_ediv_mul_of_pos _ _ (show 0 < k by omega)]
theorem d_roundS (n d : Int) (h : ratioB n d = true) : Does Try.prog 96 [.agg [.int n, .int d]] [] 1 (Ret (vI ((2 * n + d) / (2 * d))) 1) := by
  obtain ⟨h1, h2, h3, h4, _⟩ := ratioB_true h
  refine Does.intro TT Try.func96 rfl (by kernel_rfl) rfl rfl fun E hE => ?_
  (repeat' (first | (refine awpL_step TT rfl rfl rfl sd ?_) | (refine awpL_nil ?_) | (refine awpL_skip rfl rfl ?_) | (refine awpQ_step TT rfl rfl rfl rfl sd ?_) | (refine awpQ_nil ?_) | (refine awpQ_skip rfl rfl ?_) | (refine awp_seq ?_) | (refine awp_region ?_) | ((first | refine awpL_ret (d_ratioS _ _) rfl rfl rfl rfl rfl rfl rfl rfl ft rfl rfl ?_ | refine awpQ_ret (d_ratioS _ _) rfl rfl rfl rfl rfl rfl rfl rfl ft rfl rfl ?_ | refine awpHop_ret _ (d_ratioS _ _) rfl rfl rfl rfl rfl rfl rfl rfl rfl ft rfl rfl sb rfl ?_) <;> simp only [h]) | (first | refine awpL_ret (d_floorS _ _ (by omega) (by omega) (by omega)) rfl rfl rfl rfl rfl rfl rfl rfl ft rfl rfl ?_ | refine awpQ_ret (d_floorS _ _ (by omega) (by omega) (by omega)) rfl rfl rfl rfl rfl rfl rfl rfl ft rfl rfl ?_ | refine awpHop_ret _ (d_floorS _ _ (by omega) (by omega) (by omega)) rfl rfl rfl rfl rfl rfl rfl rfl rfl ft rfl rfl sb rfl ?_) | (refine awp_block ?_) | (refine awp_exit ?_) | (refine awp_skip ?_) | (refine awp_ret ?_) | (refine awp_cond_t rfl ?_) | (refine awp_cond_f rfl ?_) | (refine awp_quiet TM rfl (by kernel_rfl) ?_) | ((first | refine awpL_split rfl rfl rfl (fun hc => ?_) (fun hc => ?_) | refine awpQ_split rfl rfl rfl (fun hc => ?_) (fun hc => ?_) | refine awp_cond rfl (fun hc => ?_) (fun hc => ?_)) <;> ((try simp at hc) <;> try contradiction))))
  refine fin_ret rfl (by repeat' (first | exact trivial | exact Nat.zero_lt_one | omega | refine ⟨?_, ?_⟩)) (rfl) rfl
set_option maxHeartbeats 1000000 in
theorem d_chgS (a b c p q r s : Int) (cap : Nat) (u v : Int) (hf : Lit (a, b, c)) (hp : -10000 ≤ p ∧ p ≤ 10000) (hq : -10000 ≤ q ∧ q ≤ 10000) (hr : -10000 ≤ r ∧ r ≤ 10000) (hs : -10000 ≤ s ∧ s ≤ 10000) : Does Try.prog 68 [.agg [.int a, .int b, .int c], .agg [.int u, .int v, .sl 1 1 0 4 cap]] [(1, .ro (.ints [p, q, r, s]))] 2 (Ret (vF (chgF (a, b, c) p q r s)) 2) := by
  have hb := chg_bd hf hp hq hr hs
  have hcc : -10000 ≤ c ∧ c ≤ 10000 := hf.c
  have t1 := term_bd hf.a hp hp
  have t2 := term_bd hf.b hp hr
  have t3 := term_bd hf.c hr hr
  have t4 := term_bd hf.a hq hq
  have t5 := term_bd hf.b hq hs
  have t6 := term_bd hf.c hs hs
  dsimp only at t1 t2 t3 t4 t5 t6
  refine Does.intro TT Try.func68 rfl (by kernel_rfl) rfl rfl fun E hE => ?_
  (repeat' (first | (refine awpL_step TT rfl rfl rfl sd ?_) | (refine awpL_nil ?_) | (refine awpL_skip rfl rfl ?_) | (refine awpQ_step TT rfl rfl rfl rfl sd ?_) | (refine awpQ_nil ?_) | (refine awpQ_skip rfl rfl ?_) | (refine awp_seq ?_) | (refine awp_region ?_) | (refine awp_block ?_) | (refine awp_exit ?_) | (refine awp_skip ?_) | (refine awp_ret ?_) | (refine awp_cond_t rfl ?_) | (refine awp_cond_f rfl ?_) | (refine awp_quiet TM rfl (by kernel_rfl) ?_) | ((first | refine awpL_split rfl rfl rfl (fun hc => ?_) (fun hc => ?_) | refine awpQ_split rfl rfl rfl (fun hc => ?_) (fun hc => ?_) | refine awp_cond rfl (fun hc => ?_) (fun hc => ?_)) <;> ((try simp at hc) <;> try contradiction))))
  refine fin_ret rfl (by repeat' (first | exact trivial | exact Nat.zero_lt_one | omega | refine ⟨?_, ?_⟩)) (vF_eq rfl) rfl
theorem mul_two (p q r s x y z t : Int) : mulM 2 2 2 [p, q, r, s] [x, y, z, t] = [(mulU (p, q, r, s) (x, y, z, t)).1, (mulU (p, q, r, s) (x, y, z, t)).2.1, (mulU (p, q, r, s) (x, y, z, t)).2.2.1, (mulU (p, q, r, s) (x, y, z, t)).2.2.2] := by
  simp [mulM, dotTo, mulU, List.range, List.range.loop]
def intsU (u : U4) : List Int := [u.1, u.2.1, u.2.2.1, u.2.2.2]
theorem four_num {x y z t : Int} (h1 : -10000 ≤ x ∧ x ≤ 10000) (h2 : -10000 ≤ y ∧ y ≤ 10000) (h3 : -10000 ≤ z ∧ z ≤ 10000) (h4 : -10000 ≤ t ∧ t ≤ 10000) : [x, y, z, t].all numB = true := by
  simp [numB]; omega
def GotR4 (t : TypeId) (s : F3 × U4) (k : Nat) (v : AV) (Hout : List (Nat × Blk)) (n1 : Nat) : Prop :=
  v = .tup [.agg (litF s.1), .agg [.int 2, .int 2, .sl k 1 0 4 4]] ∧ Hout = [(k, .own t 4 (.ints (intsU s.2)))] ∧ n1 = k + 1
set_option maxHeartbeats 4000000 in
theorem d_reduceS (f : F3) (hf : Small f) (N : Nat) (hN : RedTo f N) : Does Try.prog 74 [.agg (litF f)] [] 1 (GotR4 3 (rst f N) 1) := by
  refine Does.intro TT Try.func74 rfl (by kernel_rfl) rfl rfl fun E hE => ?_
  (repeat' (first | (refine awpL_step TT rfl rfl rfl sd ?_) | (refine awpL_nil ?_) | (refine awpL_skip rfl rfl ?_) | (refine awpQ_step TT rfl rfl rfl rfl sd ?_) | (refine awpQ_nil ?_) | (refine awpQ_skip rfl rfl ?_) | (refine awp_seq ?_) | (refine awp_region ?_) | (refine awpL_call (d_identS 2) rfl rfl rfl rfl rfl rfl rfl ft rfl ?_) | (refine awp_block ?_) | (refine awp_exit ?_) | (refine awp_skip ?_) | (refine awp_ret ?_) | (refine awp_cond_t rfl ?_) | (refine awp_cond_f rfl ?_) | (refine awp_quiet TM rfl (by kernel_rfl) ?_) | ((first | refine awpL_split rfl rfl rfl (fun hc => ?_) (fun hc => ?_) | refine awpQ_split rfl rfl rfl (fun hc => ?_) (fun hc => ?_) | refine awp_cond rfl (fun hc => ?_) (fun hc => ?_)) <;> ((try simp at hc) <;> try contradiction))))
  rintro v Hout n1 ⟨rfl, rfl, rfl⟩
  (repeat' (first | (refine awpL_step TT rfl rfl rfl sd ?_) | (refine awpL_nil ?_) | (refine awpL_skip rfl rfl ?_) | (refine awpQ_step TT rfl rfl rfl rfl sd ?_) | (refine awpQ_nil ?_) | (refine awpQ_skip rfl rfl ?_) | (refine awp_seq ?_) | (refine awp_region ?_) | (refine awp_block ?_) | (refine awp_exit ?_) | (refine awp_skip ?_) | (refine awp_ret ?_) | (refine awp_cond_t rfl ?_) | (refine awp_cond_f rfl ?_) | (refine awp_quiet TM rfl (by kernel_rfl) ?_) | ((first | refine awpL_split rfl rfl rfl (fun hc => ?_) (fun hc => ?_) | refine awpQ_split rfl rfl rfl (fun hc => ?_) (fun hc => ?_) | refine awp_cond rfl (fun hc => ?_) (fun hc => ?_)) <;> ((try simp at hc) <;> try contradiction))))
  refine awp_loop hE (fun n : Nat => n ≤ N) (fun n => N - n)
    (fun _ => [(2, .one (.ptr 2 3 0 0)), (3, .one (.ptr 3 3 0 0)), (4, .one (.ptr 4 3 0 0)), (5, .one (.ptr 6 3 0 0))])
    (fun n => [(2, .own 26 1 (.lit [.int 0, .int 0, .int 0])), (3, .own 44 1 (.lit zeroM)), (4, .own 26 1 (.lit (litF (rst f n).1))), (5, .own 3 4 (.ints (intsU (rst f n).2))), (6, .own 44 1 (.lit [.int 2, .int 2, .sl 5 1 0 4 4]))]) 7 [] 0 (Nat.zero_le _) ⟨(by repeat' (first | exact trivial | refine ⟨rfl, ?_⟩ | refine ⟨congrArg some (congrArg vI (by first | omega | (simp; done) | (simp; omega))), ?_⟩ | refine ⟨sl_eqA (by first | omega | (simp; done) | (simp; omega)), ?_⟩)), (by repeat' (first | exact trivial | refine ⟨rfl, ?_⟩)), rfl⟩ ?_
  intro n hn
  have hg := hN.good n hn
  have hin := hg.in_ hf
  have hsm := hg.small
  have hk := k_bd hsm
  have hlit := hsm.lit
  have hnx : rst f (n + 1) = rstep (rst f n) := rfl
  cases hl : low3 (rst f n).1
  · have hlt := hN.lt hn hl
    generalize rst f n = S at *
    obtain ⟨⟨a, b, c⟩, ⟨p, q, r, t⟩⟩ := S
    dsimp only [litF, intsU] at *
    have hlow : lowB a b c = false := hl
    obtain ⟨h1, h2, h3, h4, h5, h6, h7⟩ := hsm
    dsimp only at h1 h2 h3 h4 h5 h6
    have hkf : kF (a, b, c) = (a - b) / (2 * a) := rfl
    rw [hkf] at hk
    obtain ⟨hr1, hr2⟩ := round_k h1 h2 h3 h4
    by_cases hk0 : (a - b) / (2 * a) = 0
    · have e : rst f (n + 1) = (chgF (a, b, c) 0 (-1) 1 0, mulU (p, q, r, t) (0, -1, 1, 0)) := by rw [hnx]; simp [rstep, hkf, hk0, cF, chgU]
      (repeat' (first | (refine awpL_step TT rfl rfl rfl sd ?_) | (refine awpL_nil ?_) | (refine awpL_skip rfl rfl ?_) | (refine awpQ_step TT rfl rfl rfl rfl sd ?_) | (refine awpQ_nil ?_) | (refine awpQ_skip rfl rfl ?_) | (refine awp_seq ?_) | (refine awp_region ?_) | ((first | refine awpL_ret (d_lowS _ _ _ ⟨by omega, by omega⟩) rfl rfl rfl rfl rfl rfl rfl rfl ft rfl rfl ?_ | refine awpQ_ret (d_lowS _ _ _ ⟨by omega, by omega⟩) rfl rfl rfl rfl rfl rfl rfl rfl ft rfl rfl ?_ | refine awpHop_ret _ (d_lowS _ _ _ ⟨by omega, by omega⟩) rfl rfl rfl rfl rfl rfl rfl rfl rfl ft rfl rfl sb rfl ?_) <;> simp only [hlow]) | (first | refine awpL_ret (d_makeS _ _) rfl rfl rfl rfl rfl rfl rfl rfl ft rfl rfl ?_ | refine awpQ_ret (d_makeS _ _) rfl rfl rfl rfl rfl rfl rfl rfl ft rfl rfl ?_ | refine awpHop_ret _ (d_makeS _ _) rfl rfl rfl rfl rfl rfl rfl rfl rfl ft rfl rfl sb rfl ?_) | ((first | refine awpL_ret (d_roundS _ _ hr1) rfl rfl rfl rfl rfl rfl rfl rfl ft rfl rfl ?_ | refine awpQ_ret (d_roundS _ _ hr1) rfl rfl rfl rfl rfl rfl rfl rfl ft rfl rfl ?_ | refine awpHop_ret _ (d_roundS _ _ hr1) rfl rfl rfl rfl rfl rfl rfl rfl rfl ft rfl rfl sb rfl ?_) <;> simp only [hr2, hk0]) | (first | refine awpL_ret (d_chgS a b c 0 (-1) 1 0 4 2 2 hlit (by omega) (by omega) (by omega) (by omega)) rfl rfl rfl rfl rfl rfl rfl rfl ft rfl rfl ?_ | refine awpQ_ret (d_chgS a b c 0 (-1) 1 0 4 2 2 hlit (by omega) (by omega) (by omega) (by omega)) rfl rfl rfl rfl rfl rfl rfl rfl ft rfl rfl ?_ | refine awpHop_ret _ (d_chgS a b c 0 (-1) 1 0 4 2 2 hlit (by omega) (by omega) (by omega) (by omega)) rfl rfl rfl rfl rfl rfl rfl rfl rfl ft rfl rfl sb rfl ?_) | ((first | refine awpL_one (d_l3Mul 2 2 2 [p, q, r, t] [0, -1, 1, 0] 4 4 (by omega) (by omega) (by omega) rfl rfl (four_num (by omega) (by omega) (by omega) (by omega)) (four_num (by omega) (by omega) (by omega) (by omega))) rfl rfl rfl rfl rfl rfl rfl ft rfl rfl (MulOut.out) ?_ | refine awpHop_one _ (d_l3Mul 2 2 2 [p, q, r, t] [0, -1, 1, 0] 4 4 (by omega) (by omega) (by omega) rfl rfl (four_num (by omega) (by omega) (by omega) (by omega)) (four_num (by omega) (by omega) (by omega) (by omega))) rfl rfl rfl rfl rfl rfl rfl rfl ft rfl rfl (MulOut.out) sb rfl rfl ?_); rintro v b ⟨rfl, he, -⟩; cases he) | (refine awp_block ?_) | (refine awp_exit ?_) | (refine awp_skip ?_) | (refine awp_ret ?_) | (refine awp_cond_t rfl ?_) | (refine awp_cond_f rfl ?_) | (refine awp_quiet TM rfl (by kernel_rfl) ?_) | ((first | refine awpL_split rfl rfl rfl (fun hc => ?_) (fun hc => ?_) | refine awpQ_split rfl rfl rfl (fun hc => ?_) (fun hc => ?_) | refine awp_cond rfl (fun hc => ?_) (fun hc => ?_)) <;> ((try simp at hc) <;> try contradiction))))
      refine ⟨[(5, 10)], n + 1, hlt, (by first | omega | (dsimp only; omega)), ⟨(by repeat' (first | exact trivial | refine ⟨rfl, ?_⟩ | refine ⟨congrArg some (congrArg vI (by first | omega | (simp; done) | (simp; omega))), ?_⟩ | refine ⟨sl_eqA (by first | omega | (simp; done) | (simp; omega)), ?_⟩)), ⟨rfl, rfl, own_lit ?_, own_ints ?_, rfl, trivial⟩, rfl⟩⟩
      · rw [e]; rfl
      · rw [e, mul_two]
    · have e : rst f (n + 1) = (chgF (a, b, c) 1 ((a - b) / (2 * a)) 0 1, mulU (p, q, r, t) (1, (a - b) / (2 * a), 0, 1)) := by rw [hnx]; simp [rstep, hkf, hk0, cF, chgU]
      (repeat' (first | (refine awpL_step TT rfl rfl rfl sd ?_) | (refine awpL_nil ?_) | (refine awpL_skip rfl rfl ?_) | (refine awpQ_step TT rfl rfl rfl rfl sd ?_) | (refine awpQ_nil ?_) | (refine awpQ_skip rfl rfl ?_) | (refine awp_seq ?_) | (refine awp_region ?_) | ((first | refine awpL_ret (d_lowS _ _ _ ⟨by omega, by omega⟩) rfl rfl rfl rfl rfl rfl rfl rfl ft rfl rfl ?_ | refine awpQ_ret (d_lowS _ _ _ ⟨by omega, by omega⟩) rfl rfl rfl rfl rfl rfl rfl rfl ft rfl rfl ?_ | refine awpHop_ret _ (d_lowS _ _ _ ⟨by omega, by omega⟩) rfl rfl rfl rfl rfl rfl rfl rfl rfl ft rfl rfl sb rfl ?_) <;> simp only [hlow]) | (first | refine awpL_ret (d_makeS _ _) rfl rfl rfl rfl rfl rfl rfl rfl ft rfl rfl ?_ | refine awpQ_ret (d_makeS _ _) rfl rfl rfl rfl rfl rfl rfl rfl ft rfl rfl ?_ | refine awpHop_ret _ (d_makeS _ _) rfl rfl rfl rfl rfl rfl rfl rfl rfl ft rfl rfl sb rfl ?_) | ((first | refine awpL_ret (d_roundS _ _ hr1) rfl rfl rfl rfl rfl rfl rfl rfl ft rfl rfl ?_ | refine awpQ_ret (d_roundS _ _ hr1) rfl rfl rfl rfl rfl rfl rfl rfl ft rfl rfl ?_ | refine awpHop_ret _ (d_roundS _ _ hr1) rfl rfl rfl rfl rfl rfl rfl rfl rfl ft rfl rfl sb rfl ?_) <;> simp only [hr2]) | (first | refine awpL_ret (d_chgS a b c 1 ((a - b) / (2 * a)) 0 1 4 2 2 hlit (by omega) (by omega) (by omega) (by omega)) rfl rfl rfl rfl rfl rfl rfl rfl ft rfl rfl ?_ | refine awpQ_ret (d_chgS a b c 1 ((a - b) / (2 * a)) 0 1 4 2 2 hlit (by omega) (by omega) (by omega) (by omega)) rfl rfl rfl rfl rfl rfl rfl rfl ft rfl rfl ?_ | refine awpHop_ret _ (d_chgS a b c 1 ((a - b) / (2 * a)) 0 1 4 2 2 hlit (by omega) (by omega) (by omega) (by omega)) rfl rfl rfl rfl rfl rfl rfl rfl rfl ft rfl rfl sb rfl ?_) | ((first | refine awpL_one (d_l3Mul 2 2 2 [p, q, r, t] [1, (a - b) / (2 * a), 0, 1] 4 4 (by omega) (by omega) (by omega) rfl rfl (four_num (by omega) (by omega) (by omega) (by omega)) (four_num (by omega) (by omega) (by omega) (by omega))) rfl rfl rfl rfl rfl rfl rfl ft rfl rfl (MulOut.out) ?_ | refine awpHop_one _ (d_l3Mul 2 2 2 [p, q, r, t] [1, (a - b) / (2 * a), 0, 1] 4 4 (by omega) (by omega) (by omega) rfl rfl (four_num (by omega) (by omega) (by omega) (by omega)) (four_num (by omega) (by omega) (by omega) (by omega))) rfl rfl rfl rfl rfl rfl rfl rfl ft rfl rfl (MulOut.out) sb rfl rfl ?_); rintro v b ⟨rfl, he, -⟩; cases he) | (refine awp_block ?_) | (refine awp_exit ?_) | (refine awp_skip ?_) | (refine awp_ret ?_) | (refine awp_cond_t rfl ?_) | (refine awp_cond_f rfl ?_) | (refine awp_quiet TM rfl (by kernel_rfl) ?_) | ((first | refine awpL_split rfl rfl rfl (fun hc => ?_) (fun hc => ?_) | refine awpQ_split rfl rfl rfl (fun hc => ?_) (fun hc => ?_) | refine awp_cond rfl (fun hc => ?_) (fun hc => ?_)) <;> ((try simp at hc) <;> try contradiction))))
      · refine ⟨[(5, 9)], n + 1, hlt, (by first | omega | (dsimp only; omega)), ⟨(by repeat' (first | exact trivial | refine ⟨rfl, ?_⟩ | refine ⟨congrArg some (congrArg vI (by first | omega | (simp; done) | (simp; omega))), ?_⟩ | refine ⟨sl_eqA (by first | omega | (simp; done) | (simp; omega)), ?_⟩)), ⟨rfl, rfl, own_lit ?_, own_ints ?_, rfl, trivial⟩, rfl⟩⟩
        · rw [e]; rfl
        · rw [e, mul_two]
  · obtain rfl := hN.eq hn hl
    have hlow : lowB (rst f n).1.1 (rst f n).1.2.1 (rst f n).1.2.2 = true := hl
    have hb1 := hsm.b1
    have hb2 := hsm.b2
    (repeat' (first | (refine awpL_step TT rfl rfl rfl sd ?_) | (refine awpL_nil ?_) | (refine awpL_skip rfl rfl ?_) | (refine awpQ_step TT rfl rfl rfl rfl sd ?_) | (refine awpQ_nil ?_) | (refine awpQ_skip rfl rfl ?_) | (refine awp_seq ?_) | (refine awp_region ?_) | ((first | refine awpL_ret (d_lowS _ _ _ ⟨by omega, by omega⟩) rfl rfl rfl rfl rfl rfl rfl rfl ft rfl rfl ?_ | refine awpQ_ret (d_lowS _ _ _ ⟨by omega, by omega⟩) rfl rfl rfl rfl rfl rfl rfl rfl ft rfl rfl ?_ | refine awpHop_ret _ (d_lowS _ _ _ ⟨by omega, by omega⟩) rfl rfl rfl rfl rfl rfl rfl rfl rfl ft rfl rfl sb rfl ?_) <;> simp only [hlow]) | (refine awp_block ?_) | (refine awp_exit ?_) | (refine awp_skip ?_) | (refine awp_ret ?_) | (refine awp_cond_t rfl ?_) | (refine awp_cond_f rfl ?_) | (refine awp_quiet TM rfl (by kernel_rfl) ?_) | ((first | refine awpL_split rfl rfl rfl (fun hc => ?_) (fun hc => ?_) | refine awpQ_split rfl rfl rfl (fun hc => ?_) (fun hc => ?_) | refine awp_cond rfl (fun hc => ?_) (fun hc => ?_)) <;> ((try simp at hc) <;> try contradiction))))
    refine awp_held TM [(4, _), (6, _)] sb rfl (fun ρs => ?_)
    refine awpH_take TT 0 rfl kr kr kr nh rfl rfl rfl rfl sd ?_
    refine awpH_take TT 1 rfl kr kr kr nh rfl rfl rfl rfl sd ?_
    refine awpH_all [2] kr rfl ⟨?_, trivial⟩
    first | (refine awpHop_step TT 2 rfl rfl rfl rfl sd sb rfl ?_)
    refine awpH_all [3] kr rfl ⟨?_, trivial⟩
    first | (refine awpHop_step TT 3 rfl rfl rfl rfl sd sb rfl ?_)
    refine awpH_done kr ?_
    rotate_left
    all_goals (repeat' (first | (refine awpL_step TT rfl rfl rfl sd ?_) | (refine awpL_nil ?_) | (refine awpL_skip rfl rfl ?_) | (refine awpQ_step TT rfl rfl rfl rfl sd ?_) | (refine awpQ_nil ?_) | (refine awpQ_skip rfl rfl ?_) | (refine awp_seq ?_) | (refine awp_region ?_) | (refine awp_block ?_) | (refine awp_exit ?_) | (refine awp_skip ?_) | (refine awp_ret ?_) | (refine awp_cond_t rfl ?_) | (refine awp_cond_f rfl ?_) | (refine awp_quiet TM rfl (by kernel_rfl) ?_) | ((first | refine awpL_split rfl rfl rfl (fun hc => ?_) (fun hc => ?_) | refine awpQ_split rfl rfl rfl (fun hc => ?_) (fun hc => ?_) | refine awp_cond rfl (fun hc => ?_) (fun hc => ?_)) <;> ((try simp at hc) <;> try contradiction))))
    all_goals exact fin rfl (by repeat' (first | exact trivial | exact Nat.zero_lt_one | omega | refine ⟨?_, ?_⟩)) [(1, 5)] (.tup [.agg (litF (rst f n).1), .agg [.int 2, .int 2, .sl 1 1 0 4 4]]) [(1, .own 3 4 (.ints (intsU (rst f n).2)))] 2 ⟨rfl, rfl, rfl⟩ rfl ⟨trivial, ⟨rfl, trivial⟩, rfl⟩ rfl
end Go.Proofs.Ytbaaelampabhdaa
