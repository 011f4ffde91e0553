/-
  CONTRACTS: the reduction of binary forms, the program's.
-/
import Derived.Test.YtbaaelampabhdaabI3
import Derived.Test.YtbaaelampabhdaapRed
set_option linter.unusedVariables false
set_option linter.unusedSimpArgs false
namespace Go.Proofs.Ytbaaelampabhdaa
open Go.RowKit

theorem own_lit {t : TypeId} {c : Nat} {l l' : List SV} {m : Nat → Nat} (h : l = l'.map (SV.ren m)) : some (Blk.own t c (.lit l)) = some ((Blk.own t c (.lit l')).ren m) := by subst h; rfl
theorem term_bd {a x y : Int} (ha : -10000 ≤ a ∧ a ≤ 10000) (hx : -10000 ≤ x ∧ x ≤ 10000) (hy : -10000 ≤ y ∧ y ≤ 10000) : (-100000000 ≤ a * x ∧ a * x ≤ 100000000) ∧ (-1000000000000 ≤ a * x * y ∧ a * x * y ≤ 1000000000000) := by
  have h1 := sq_in ha.1 ha.2 hx.1 hx.2
  have h2 := sq_in (a := a * x) (b := y) (A := 100000000) (B := 10000) (by omega) (by omega) hy.1 hy.2
  omega
structure Lit (f : F3) : Prop where
  a : -10000 ≤ f.1 ∧ f.1 ≤ 10000
  b : -10000 ≤ f.2.1 ∧ f.2.1 ≤ 10000
  c : -10000 ≤ f.2.2 ∧ f.2.2 ≤ 10000
theorem Small.lit {f : F3} (h : Small f) : Lit f := by
  obtain ⟨h1, h2, h3, h4, h5, h6, _⟩ := h
  exact ⟨by omega, by omega, by omega⟩
theorem d_formAt (a b c x y : Int) (hf : Lit (a, b, c)) (hx : -10000 ≤ x ∧ x ≤ 10000) (hy : -10000 ≤ y ∧ y ≤ 10000) : Does Try.prog 58 [.agg [.int a, .int b, .int c], vI x, vI y] [] 1 (Ret (vI (formVal a b c x y)) 1) := by
  obtain ⟨ha, hb, hc⟩ := hf
  have t1 := term_bd ha hx hx
  have t2 := term_bd hb hx hy
  have t3 := term_bd hc hy hy
  dsimp only at t1 t2 t3
  refine Does.intro TT Try.func58 rfl (by kernel_rfl) rfl rfl fun E hE => ?_
  (repeat' (first | (refine awpL_step TT rfl rfl rfl sd ?_) | (refine awpL_nil ?_) | (refine awpL_skip rfl rfl ?_) | (refine awpQ_step TT rfl rfl rfl rfl sd ?_) | (refine awpQ_nil ?_) | (refine awpQ_skip rfl rfl ?_) | (refine awp_seq ?_) | (refine awp_region ?_) | (refine awp_block ?_) | (refine awp_exit ?_) | (refine awp_skip ?_) | (refine awp_ret ?_) | (refine awp_cond_t rfl ?_) | (refine awp_cond_f rfl ?_) | (refine awp_quiet TM rfl (by kernel_rfl) ?_) | ((first | refine awpL_split rfl rfl rfl (fun hc => ?_) (fun hc => ?_) | refine awpQ_split rfl rfl rfl (fun hc => ?_) (fun hc => ?_) | refine awp_cond rfl (fun hc => ?_) (fun hc => ?_)) <;> ((try simp at hc) <;> try contradiction))))
  refine fin_ret rfl (by repeat' (first | exact trivial | exact Nat.zero_lt_one | omega | refine ⟨?_, ?_⟩)) (rfl) rfl
theorem vF_eq {f : F3} {a b c : Int} (h : f = (a, b, c)) : AV.agg [.int a, .int b, .int c] = vF f := by subst h; rfl
theorem chg_bd {a b c p q r s : Int} (hf : Lit (a, b, c)) (hp : -10000 ≤ p ∧ p ≤ 10000) (hq : -10000 ≤ q ∧ q ≤ 10000) (hr : -10000 ≤ r ∧ r ≤ 10000) (hs : -10000 ≤ s ∧ s ≤ 10000) :
    (-20000 ≤ 2 * a ∧ 2 * a ≤ 20000) ∧ (-200000000 ≤ 2 * a * p ∧ 2 * a * p ≤ 200000000) ∧ (-2000000000000 ≤ 2 * a * p * q ∧ 2 * a * p * q ≤ 2000000000000) ∧ (-100000000 ≤ p * s ∧ p * s ≤ 100000000) ∧ (-100000000 ≤ q * r ∧ q * r ≤ 100000000) ∧
    (-2000000000000 ≤ b * (p * s + q * r) ∧ b * (p * s + q * r) ≤ 2000000000000) ∧ (-200000000 ≤ 2 * c * r ∧ 2 * c * r ≤ 200000000) ∧ (-2000000000000 ≤ 2 * c * r * s ∧ 2 * c * r * s ≤ 2000000000000) := by
  obtain ⟨ha, hb, hc⟩ := hf
  dsimp only at ha hb hc
  have h1 := sq_in (a := 2 * a) (b := p) (A := 20000) (B := 10000) (by omega) (by omega) hp.1 hp.2
  have h2 := sq_in (a := 2 * a * p) (b := q) (A := 200000000) (B := 10000) (by omega) (by omega) hq.1 hq.2
  have h3 := sq_in hp.1 hp.2 hs.1 hs.2
  have h4 := sq_in hq.1 hq.2 hr.1 hr.2
  have h5 := sq_in (a := b) (b := p * s + q * r) (A := 10000) (B := 200000000) (by omega) (by omega) (by omega) (by omega)
  have h6 := sq_in (a := 2 * c) (b := r) (A := 20000) (B := 10000) (by omega) (by omega) hr.1 hr.2
  have h7 := sq_in (a := 2 * c * r) (b := s) (A := 200000000) (B := 10000) (by omega) (by omega) hs.1 hs.2
  omega
theorem d_changed (a b c p q r s : Int) (hf : Lit (a, b, c)) (hp : -10000 ≤ p ∧ p ≤ 10000) (hq : -10000 ≤ q ∧ q ≤ 10000) (hr : -10000 ≤ r ∧ r ≤ 10000) (hs : -10000 ≤ s ∧ s ≤ 10000) : Does Try.prog 71 [.agg [.int a, .int b, .int c], vI p, vI q, vI r, vI s] [] 1 (Ret (vF (chgF (a, b, c) p q r s)) 1) := by
  have hb := chg_bd hf hp hq hr hs
  have hcc : -10000 ≤ c ∧ c ≤ 10000 := hf.c
  refine Does.intro TT Try.func71 rfl (by kernel_rfl) rfl rfl fun E hE => ?_
  (repeat' (first | (refine awpL_step TT rfl rfl rfl sd ?_) | (refine awpL_nil ?_) | (refine awpL_skip rfl rfl ?_) | (refine awpQ_step TT rfl rfl rfl rfl sd ?_) | (refine awpQ_nil ?_) | (refine awpQ_skip rfl rfl ?_) | (refine awp_seq ?_) | (refine awp_region ?_) | (refine awp_block ?_) | (refine awp_exit ?_) | (refine awp_skip ?_) | (refine awp_ret ?_) | (refine awp_cond_t rfl ?_) | (refine awp_cond_f rfl ?_) | (refine awp_quiet TM rfl (by kernel_rfl) ?_) | ((first | refine awpL_split rfl rfl rfl (fun hc => ?_) (fun hc => ?_) | refine awpQ_split rfl rfl rfl (fun hc => ?_) (fun hc => ?_) | refine awp_cond rfl (fun hc => ?_) (fun hc => ?_)) <;> ((try simp at hc) <;> try contradiction))))
  refine awp_held TM [(1, _)] sb rfl (fun ρs => ?_)
  refine awpH_take TT 0 rfl kr kr kr nh rfl rfl rfl rfl sd ?_
  refine awpH_take TT 1 rfl kr kr kr nh rfl rfl rfl rfl sd ?_
  refine awpH_take TT 2 rfl kr kr kr nh rfl rfl rfl rfl sd ?_
  refine awpH_take TT 4 rfl kr kr kr nh rfl rfl rfl rfl sd ?_
  refine awpH_take TT 5 rfl kr kr kr nh rfl rfl rfl rfl sd ?_
  refine awpH_take TT 6 rfl kr kr kr nh rfl rfl rfl rfl sd ?_
  refine awpH_take TT 7 rfl kr kr kr nh rfl rfl rfl rfl sd ?_
  refine awpH_take TT 8 rfl kr kr kr nh rfl rfl rfl rfl sd ?_
  refine awpH_take TT 9 rfl kr kr kr nh rfl rfl rfl rfl sd ?_
  refine awpH_take TT 10 rfl kr kr kr nh rfl rfl rfl rfl sd ?_
  refine awpH_take TT 11 rfl kr kr kr nh rfl rfl rfl rfl sd ?_
  refine awpH_take TT 12 rfl kr kr kr nh rfl rfl rfl rfl sd ?_
  refine awpH_take TT 13 rfl kr kr kr nh rfl rfl rfl rfl sd ?_
  refine awpH_take TT 14 rfl kr kr kr nh rfl rfl rfl rfl sd ?_
  refine awpH_take TT 15 rfl kr kr kr nh rfl rfl rfl rfl sd ?_
  refine awpH_take TT 16 rfl kr kr kr nh rfl rfl rfl rfl sd ?_
  refine awpH_take TT 17 rfl kr kr kr nh rfl rfl rfl rfl sd ?_
  refine awpH_take TT 18 rfl kr kr kr nh rfl rfl rfl rfl sd ?_
  refine awpH_take TT 19 rfl kr kr kr nh rfl rfl rfl rfl sd ?_
  refine awpH_take TT 20 rfl kr kr kr nh rfl rfl rfl rfl sd ?_
  refine awpH_take TT 21 rfl kr kr kr nh rfl rfl rfl rfl sd ?_
  refine awpH_take TT 22 rfl kr kr kr nh rfl rfl rfl rfl sd ?_
  refine awpH_take TT 23 rfl kr kr kr nh rfl rfl rfl rfl sd ?_
  refine awpH_take TT 24 rfl kr kr kr nh rfl rfl rfl rfl sd ?_
  refine awpH_take TT 25 rfl kr kr kr nh rfl rfl rfl rfl sd ?_
  refine awpH_take TT 26 rfl kr kr kr nh rfl rfl rfl rfl sd ?_
  refine awpH_take TT 27 rfl kr kr kr nh rfl rfl rfl rfl sd ?_
  refine awpH_take TT 28 rfl kr kr kr nh rfl rfl rfl rfl sd ?_
  refine awpH_take TT 29 rfl kr kr kr nh rfl rfl rfl rfl sd ?_
  refine awpH_take TT 30 rfl kr kr kr nh rfl rfl rfl rfl sd ?_
  refine awpH_take TT 31 rfl kr kr kr nh rfl rfl rfl rfl sd ?_
  refine awpH_take TT 32 rfl kr kr kr nh rfl rfl rfl rfl sd ?_
  refine awpH_all [3] kr rfl ⟨?_, trivial⟩
  first | (refine awpHop_step TT 3 rfl rfl rfl rfl sd sb rfl ?_) | (first | refine awpL_ret (d_formAt _ _ _ _ _ hf hp hr) rfl rfl rfl rfl rfl rfl rfl rfl ft rfl rfl ?_ | refine awpQ_ret (d_formAt _ _ _ _ _ hf hp hr) rfl rfl rfl rfl rfl rfl rfl rfl ft rfl rfl ?_ | refine awpHop_ret _ (d_formAt _ _ _ _ _ hf hp hr) rfl rfl rfl rfl rfl rfl rfl rfl rfl ft rfl rfl sb rfl ?_) | (first | refine awpL_ret (d_formAt _ _ _ _ _ hf hq hs) rfl rfl rfl rfl rfl rfl rfl rfl ft rfl rfl ?_ | refine awpQ_ret (d_formAt _ _ _ _ _ hf hq hs) rfl rfl rfl rfl rfl rfl rfl rfl ft rfl rfl ?_ | refine awpHop_ret _ (d_formAt _ _ _ _ _ hf hq hs) rfl rfl rfl rfl rfl rfl rfl rfl rfl ft rfl rfl sb rfl ?_)
  refine awpH_all [33] kr rfl ⟨?_, trivial⟩
  first | (refine awpHop_step TT 33 rfl rfl rfl rfl sd sb rfl ?_) | (first | refine awpL_ret (d_formAt _ _ _ _ _ hf hp hr) rfl rfl rfl rfl rfl rfl rfl rfl ft rfl rfl ?_ | refine awpQ_ret (d_formAt _ _ _ _ _ hf hp hr) rfl rfl rfl rfl rfl rfl rfl rfl ft rfl rfl ?_ | refine awpHop_ret _ (d_formAt _ _ _ _ _ hf hp hr) rfl rfl rfl rfl rfl rfl rfl rfl rfl ft rfl rfl sb rfl ?_) | (first | refine awpL_ret (d_formAt _ _ _ _ _ hf hq hs) rfl rfl rfl rfl rfl rfl rfl rfl ft rfl rfl ?_ | refine awpQ_ret (d_formAt _ _ _ _ _ hf hq hs) rfl rfl rfl rfl rfl rfl rfl rfl ft rfl rfl ?_ | refine awpHop_ret _ (d_formAt _ _ _ _ _ hf hq hs) rfl rfl rfl rfl rfl rfl rfl rfl rfl ft rfl rfl sb rfl ?_)
  refine awpH_take TT 34 rfl kr kr kr nh rfl rfl rfl rfl sd ?_
  refine awpH_all [35] kr rfl ⟨?_, trivial⟩
  first | (refine awpHop_step TT 35 rfl rfl rfl rfl sd sb rfl ?_) | (first | refine awpL_ret (d_formAt _ _ _ _ _ hf hp hr) rfl rfl rfl rfl rfl rfl rfl rfl ft rfl rfl ?_ | refine awpQ_ret (d_formAt _ _ _ _ _ hf hp hr) rfl rfl rfl rfl rfl rfl rfl rfl ft rfl rfl ?_ | refine awpHop_ret _ (d_formAt _ _ _ _ _ hf hp hr) rfl rfl rfl rfl rfl rfl rfl rfl rfl ft rfl rfl sb rfl ?_) | (first | refine awpL_ret (d_formAt _ _ _ _ _ hf hq hs) rfl rfl rfl rfl rfl rfl rfl rfl ft rfl rfl ?_ | refine awpQ_ret (d_formAt _ _ _ _ _ hf hq hs) rfl rfl rfl rfl rfl rfl rfl rfl ft rfl rfl ?_ | refine awpHop_ret _ (d_formAt _ _ _ _ _ hf hq hs) rfl rfl rfl rfl rfl rfl rfl rfl rfl ft rfl rfl sb rfl ?_)
  refine awpH_done kr ?_
  rotate_left
  all_goals (repeat' (first | (refine awpL_step TT rfl rfl rfl sd ?_) | (refine awpL_nil ?_) | (refine awpL_skip rfl rfl ?_) | (refine awpQ_step TT rfl rfl rfl rfl sd ?_) | (refine awpQ_nil ?_) | (refine awpQ_skip rfl rfl ?_) | (refine awp_seq ?_) | (refine awp_region ?_) | (refine awp_block ?_) | (refine awp_exit ?_) | (refine awp_skip ?_) | (refine awp_ret ?_) | (refine awp_cond_t rfl ?_) | (refine awp_cond_f rfl ?_) | (refine awp_quiet TM rfl (by kernel_rfl) ?_) | ((first | refine awpL_split rfl rfl rfl (fun hc => ?_) (fun hc => ?_) | refine awpQ_split rfl rfl rfl (fun hc => ?_) (fun hc => ?_) | refine awp_cond rfl (fun hc => ?_) (fun hc => ?_)) <;> ((try simp at hc) <;> try contradiction))))
  all_goals refine fin_ret rfl (by repeat' (first | exact trivial | exact Nat.zero_lt_one | omega | refine ⟨?_, ?_⟩)) (vF_eq rfl) rfl
theorem k_bd {g : F3} (h : Small g) : -10000 ≤ kF g ∧ kF g ≤ 10000 := by
  obtain ⟨h1, h2, h3, h4, h5, h6, h7⟩ := h
  have hk := k_in (a := g.1) (b := g.2.1) h1
  have e : kF g = (g.1 - g.2.1) / (2 * g.1) := rfl
  rw [e]
  generalize (g.1 - g.2.1) / (2 * g.1) = k at *
  constructor
  · rcases Int.lt_or_le k (-10000) with c | c
    · have := Int.mul_le_mul_of_nonneg_left (show k ≤ -10001 by omega) (show 0 ≤ 2 * g.1 by omega); omega
    · exact c
  · rcases Int.lt_or_le 10000 k with c | c
    · have := Int.mul_le_mul_of_nonneg_left (show 10001 ≤ k by omega) (show 0 ≤ 2 * g.1 by omega); omega
    · exact c
theorem RedTo.lt {f : F3} {N n : Nat} (h : RedTo f N) (hn : n ≤ N) (hl : low3 (rst f n).1 = false) : n < N := by
  rcases Nat.lt_or_ge n N with c | c
  · exact c
  · obtain rfl : n = N := by omega
    rw [h.at_] at hl; cases hl
theorem RedTo.eq {f : F3} {N n : Nat} (h : RedTo f N) (hn : n ≤ N) (hl : low3 (rst f n).1 = true) : n = N := by
  rcases Nat.lt_or_ge n N with c | c
  · rw [h.below n c] at hl; cases hl
  · omega
def litF (f : F3) : List SV := [.int f.1, .int f.2.1, .int f.2.2]
def litU (u : U4) : List SV := [.int u.1, .int u.2.1, .int u.2.2.1, .int u.2.2.2]
def redV (s : F3 × U4) : AV := .tup [.agg (litF s.1), .agg (litU s.2)]
set_option maxHeartbeats 2000000 in
theorem d_reduced (f : F3) (hf : Small f) (N : Nat) (hN : RedTo f N) : Does Try.prog 73 [.agg (litF f)] [] 1 (Ret (redV (rst f N)) 1) := by
  refine Does.intro TT Try.func73 rfl (by kernel_rfl) rfl rfl fun E hE => ?_
  (repeat' (first | (refine awpL_step TT rfl rfl rfl sd ?_) | (refine awpL_nil ?_) | (refine awpL_skip rfl rfl ?_) | (refine awpQ_step TT rfl rfl rfl rfl sd ?_) | (refine awpQ_nil ?_) | (refine awpQ_skip rfl rfl ?_) | (refine awp_seq ?_) | (refine awp_region ?_) | (refine awp_block ?_) | (refine awp_exit ?_) | (refine awp_skip ?_) | (refine awp_ret ?_) | (refine awp_cond_t rfl ?_) | (refine awp_cond_f rfl ?_) | (refine awp_quiet TM rfl (by kernel_rfl) ?_) | ((first | refine awpL_split rfl rfl rfl (fun hc => ?_) (fun hc => ?_) | refine awpQ_split rfl rfl rfl (fun hc => ?_) (fun hc => ?_) | refine awp_cond rfl (fun hc => ?_) (fun hc => ?_)) <;> ((try simp at hc) <;> try contradiction))))
  refine awp_loop hE (fun n : Nat => n ≤ N) (fun n => N - n)
    (fun _ => [(1, .one (.ptr 1 3 0 0)), (2, .one (.ptr 2 3 0 0)), (3, .one (.ptr 3 4 0 0)), (4, .one (.ptr 4 4 0 0))])
    (fun n => [(1, .own 26 1 (.lit (litF (rst f n).1))), (2, .own 26 1 (.lit [.int 0, .int 0, .int 0])), (3, .own 75 1 (.lit [.int 0, .int 0, .int 0, .int 0])), (4, .own 75 1 (.lit (litU (rst f n).2)))]) 5 [] 0 (Nat.zero_le _) ⟨(by repeat' (first | exact trivial | refine ⟨rfl, ?_⟩ | refine ⟨congrArg some (congrArg vI (by first | omega | (simp; done) | (simp; omega))), ?_⟩ | refine ⟨sl_eqA (by first | omega | (simp; done) | (simp; omega)), ?_⟩)), (by repeat' (first | exact trivial | refine ⟨rfl, ?_⟩)), rfl⟩ ?_
  intro n hn
  have hg := hN.good n hn
  have hin := hg.in_ hf
  have hsm := hg.small
  have hk := k_bd hsm
  have hlit := hsm.lit
  have hnx : rst f (n + 1) = rstep (rst f n) := rfl
  cases hl : low3 (rst f n).1
  · have hlt := hN.lt hn hl
    generalize rst f n = S at *
    obtain ⟨⟨a, b, c⟩, ⟨p, q, r, t⟩⟩ := S
    dsimp only [litF, litU] at *
    have hlow : lowB a b c = false := hl
    obtain ⟨h1, h2, h3, h4, h5, h6, h7⟩ := hsm
    dsimp only at h1 h2 h3 h4 h5 h6
    have hkf : kF (a, b, c) = (a - b) / (2 * a) := rfl
    rw [hkf] at hk
    by_cases hk0 : (a - b) / (2 * a) = 0
    · have e : rst f (n + 1) = (chgF (a, b, c) 0 (-1) 1 0, mulU (p, q, r, t) (0, -1, 1, 0)) := by rw [hnx]; simp [rstep, hkf, hk0, cF, chgU]
      (repeat' (first | (refine awpL_step TT rfl rfl rfl sd ?_) | (refine awpL_nil ?_) | (refine awpL_skip rfl rfl ?_) | (refine awpQ_step TT rfl rfl rfl rfl sd ?_) | (refine awpQ_nil ?_) | (refine awpQ_skip rfl rfl ?_) | (refine awp_seq ?_) | (refine awp_region ?_) | ((first | refine awpL_ret (d_lowI _ _ _ ⟨by omega, by omega⟩) rfl rfl rfl rfl rfl rfl rfl rfl ft rfl rfl ?_ | refine awpQ_ret (d_lowI _ _ _ ⟨by omega, by omega⟩) rfl rfl rfl rfl rfl rfl rfl rfl ft rfl rfl ?_ | refine awpHop_ret _ (d_lowI _ _ _ ⟨by omega, by omega⟩) rfl rfl rfl rfl rfl rfl rfl rfl rfl ft rfl rfl sb rfl ?_) <;> simp only [hlow]) | ((first | refine awpL_ret (d_floorI _ _ (by omega) (by omega) (by omega)) rfl rfl rfl rfl rfl rfl rfl rfl ft rfl rfl ?_ | refine awpQ_ret (d_floorI _ _ (by omega) (by omega) (by omega)) rfl rfl rfl rfl rfl rfl rfl rfl ft rfl rfl ?_ | refine awpHop_ret _ (d_floorI _ _ (by omega) (by omega) (by omega)) rfl rfl rfl rfl rfl rfl rfl rfl rfl ft rfl rfl sb rfl ?_) <;> simp only [hk0]) | (first | refine awpL_ret (d_changed _ _ _ _ _ _ _ hlit (by omega) (by omega) (by omega) (by omega)) rfl rfl rfl rfl rfl rfl rfl rfl ft rfl rfl ?_ | refine awpQ_ret (d_changed _ _ _ _ _ _ _ hlit (by omega) (by omega) (by omega) (by omega)) rfl rfl rfl rfl rfl rfl rfl rfl ft rfl rfl ?_ | refine awpHop_ret _ (d_changed _ _ _ _ _ _ _ hlit (by omega) (by omega) (by omega) (by omega)) rfl rfl rfl rfl rfl rfl rfl rfl rfl ft rfl rfl sb rfl ?_) | (refine awp_block ?_) | (refine awp_exit ?_) | (refine awp_skip ?_) | (refine awp_ret ?_) | (refine awp_cond_t rfl ?_) | (refine awp_cond_f rfl ?_) | (refine awp_quiet TM rfl (by kernel_rfl) ?_) | ((first | refine awpL_split rfl rfl rfl (fun hc => ?_) (fun hc => ?_) | refine awpQ_split rfl rfl rfl (fun hc => ?_) (fun hc => ?_) | refine awp_cond rfl (fun hc => ?_) (fun hc => ?_)) <;> ((try simp at hc) <;> try contradiction))))
      refine ⟨[], n + 1, hlt, (by first | omega | (dsimp only; omega)), ⟨(by repeat' (first | exact trivial | refine ⟨rfl, ?_⟩ | refine ⟨congrArg some (congrArg vI (by first | omega | (simp; done) | (simp; omega))), ?_⟩ | refine ⟨sl_eqA (by first | omega | (simp; done) | (simp; omega)), ?_⟩)), ⟨own_lit ?_, rfl, rfl, own_lit ?_, trivial⟩, rfl⟩⟩
      · rw [e]; rfl
      · rw [e]; rfl
    · have m1 := sq_in hin.1.1.1 hin.1.1.2 hk.1 hk.2
      have m2 := sq_in hin.2.1.1 hin.2.1.2 hk.1 hk.2
      have e : rst f (n + 1) = (chgF (a, b, c) 1 ((a - b) / (2 * a)) 0 1, mulU (p, q, r, t) (1, (a - b) / (2 * a), 0, 1)) := by rw [hnx]; simp [rstep, hkf, hk0, cF, chgU]
      (repeat' (first | (refine awpL_step TT rfl rfl rfl sd ?_) | (refine awpL_nil ?_) | (refine awpL_skip rfl rfl ?_) | (refine awpQ_step TT rfl rfl rfl rfl sd ?_) | (refine awpQ_nil ?_) | (refine awpQ_skip rfl rfl ?_) | (refine awp_seq ?_) | (refine awp_region ?_) | ((first | refine awpL_ret (d_lowI _ _ _ ⟨by omega, by omega⟩) rfl rfl rfl rfl rfl rfl rfl rfl ft rfl rfl ?_ | refine awpQ_ret (d_lowI _ _ _ ⟨by omega, by omega⟩) rfl rfl rfl rfl rfl rfl rfl rfl ft rfl rfl ?_ | refine awpHop_ret _ (d_lowI _ _ _ ⟨by omega, by omega⟩) rfl rfl rfl rfl rfl rfl rfl rfl rfl ft rfl rfl sb rfl ?_) <;> simp only [hlow]) | (first | refine awpL_ret (d_floorI _ _ (by omega) (by omega) (by omega)) rfl rfl rfl rfl rfl rfl rfl rfl ft rfl rfl ?_ | refine awpQ_ret (d_floorI _ _ (by omega) (by omega) (by omega)) rfl rfl rfl rfl rfl rfl rfl rfl ft rfl rfl ?_ | refine awpHop_ret _ (d_floorI _ _ (by omega) (by omega) (by omega)) rfl rfl rfl rfl rfl rfl rfl rfl rfl ft rfl rfl sb rfl ?_) | (first | refine awpL_ret (d_changed _ _ _ _ _ _ _ hlit (by omega) (by omega) (by omega) (by omega)) rfl rfl rfl rfl rfl rfl rfl rfl ft rfl rfl ?_ | refine awpQ_ret (d_changed _ _ _ _ _ _ _ hlit (by omega) (by omega) (by omega) (by omega)) rfl rfl rfl rfl rfl rfl rfl rfl ft rfl rfl ?_ | refine awpHop_ret _ (d_changed _ _ _ _ _ _ _ hlit (by omega) (by omega) (by omega) (by omega)) rfl rfl rfl rfl rfl rfl rfl rfl rfl ft rfl rfl sb rfl ?_) | (refine awp_block ?_) | (refine awp_exit ?_) | (refine awp_skip ?_) | (refine awp_ret ?_) | (refine awp_cond_t rfl ?_) | (refine awp_cond_f rfl ?_) | (refine awp_quiet TM rfl (by kernel_rfl) ?_) | ((first | refine awpL_split rfl rfl rfl (fun hc => ?_) (fun hc => ?_) | refine awpQ_split rfl rfl rfl (fun hc => ?_) (fun hc => ?_) | refine awp_cond rfl (fun hc => ?_) (fun hc => ?_)) <;> ((try simp at hc) <;> try contradiction))))
      · refine ⟨[], n + 1, hlt, (by first | omega | (dsimp only; omega)), ⟨(by repeat' (first | exact trivial | refine ⟨rfl, ?_⟩ | refine ⟨congrArg some (congrArg vI (by first | omega | (simp; done) | (simp; omega))), ?_⟩ | refine ⟨sl_eqA (by first | omega | (simp; done) | (simp; omega)), ?_⟩)), ⟨own_lit ?_, rfl, rfl, own_lit ?_, trivial⟩, rfl⟩⟩
        · rw [e]; rfl
        · rw [e]; rfl
  · obtain rfl := hN.eq hn hl
    have hlow : lowB (rst f n).1.1 (rst f n).1.2.1 (rst f n).1.2.2 = true := hl
    have hb1 := hsm.b1
    have hb2 := hsm.b2
    (repeat' (first | (refine awpL_step TT rfl rfl rfl sd ?_) | (refine awpL_nil ?_) | (refine awpL_skip rfl rfl ?_) | (refine awpQ_step TT rfl rfl rfl rfl sd ?_) | (refine awpQ_nil ?_) | (refine awpQ_skip rfl rfl ?_) | (refine awp_seq ?_) | (refine awp_region ?_) | ((first | refine awpL_ret (d_lowI _ _ _ ⟨by omega, by omega⟩) rfl rfl rfl rfl rfl rfl rfl rfl ft rfl rfl ?_ | refine awpQ_ret (d_lowI _ _ _ ⟨by omega, by omega⟩) rfl rfl rfl rfl rfl rfl rfl rfl ft rfl rfl ?_ | refine awpHop_ret _ (d_lowI _ _ _ ⟨by omega, by omega⟩) rfl rfl rfl rfl rfl rfl rfl rfl rfl ft rfl rfl sb rfl ?_) <;> simp only [hlow]) | (refine awp_block ?_) | (refine awp_exit ?_) | (refine awp_skip ?_) | (refine awp_ret ?_) | (refine awp_cond_t rfl ?_) | (refine awp_cond_f rfl ?_) | (refine awp_quiet TM rfl (by kernel_rfl) ?_) | ((first | refine awpL_split rfl rfl rfl (fun hc => ?_) (fun hc => ?_) | refine awpQ_split rfl rfl rfl (fun hc => ?_) (fun hc => ?_) | refine awp_cond rfl (fun hc => ?_) (fun hc => ?_)) <;> ((try simp at hc) <;> try contradiction))))
    refine awp_held TM [(1, _), (4, _)] sb rfl (fun ρs => ?_)
    refine awpH_take TT 0 rfl kr kr kr nh rfl rfl rfl rfl sd ?_
    refine awpH_take TT 1 rfl kr kr kr nh rfl rfl rfl rfl sd ?_
    refine awpH_all [2] kr rfl ⟨?_, trivial⟩
    first | (refine awpHop_step TT 2 rfl rfl rfl rfl sd sb rfl ?_)
    refine awpH_all [3] kr rfl ⟨?_, trivial⟩
    first | (refine awpHop_step TT 3 rfl rfl rfl rfl sd sb rfl ?_)
    refine awpH_done kr ?_
    rotate_left
    (repeat' (first | (refine awpL_step TT rfl rfl rfl sd ?_) | (refine awpL_nil ?_) | (refine awpL_skip rfl rfl ?_) | (refine awpQ_step TT rfl rfl rfl rfl sd ?_) | (refine awpQ_nil ?_) | (refine awpQ_skip rfl rfl ?_) | (refine awp_seq ?_) | (refine awp_region ?_) | (refine awp_block ?_) | (refine awp_exit ?_) | (refine awp_skip ?_) | (refine awp_ret ?_) | (refine awp_cond_t rfl ?_) | (refine awp_cond_f rfl ?_) | (refine awp_quiet TM rfl (by kernel_rfl) ?_) | ((first | refine awpL_split rfl rfl rfl (fun hc => ?_) (fun hc => ?_) | refine awpQ_split rfl rfl rfl (fun hc => ?_) (fun hc => ?_) | refine awp_cond rfl (fun hc => ?_) (fun hc => ?_)) <;> ((try simp at hc) <;> try contradiction))))
    all_goals refine fin_ret rfl (by repeat' (first | exact trivial | exact Nat.zero_lt_one | omega | refine ⟨?_, ?_⟩)) (rfl) rfl
end Go.Proofs.Ytbaaelampabhdaa
