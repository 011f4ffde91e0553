/-
  CONTRACTS: whether points are the corners of a convex polygon, of both packages.
-/
import Derived.Test.YtbgeooalhoaemaabNum
import Derived.Test.YtbgeooalhoaemaabSlice
set_option linter.unusedVariables false
set_option linter.unusedSimpArgs false
namespace Go.Proofs.Ytbgeooalhoaemaa
open Go.RowKit

abbrev vP (p : Int × Int) : AV := .agg [.int p.1, .int p.2]
def turnP (a b c : Int × Int) : Int := (b.1 - a.1) * (c.2 - a.2) - (b.2 - a.2) * (c.1 - a.1)
def pOk (p : Int × Int) : Bool := decide (-10 ≤ p.1 ∧ p.1 ≤ 10 ∧ -10 ≤ p.2 ∧ p.2 ≤ 10)
theorem pOk_true {p : Int × Int} : pOk p = true ↔ -10 ≤ p.1 ∧ p.1 ≤ 10 ∧ -10 ≤ p.2 ∧ p.2 ≤ 10 := by simp [pOk]
theorem prod_bd {u v : Int} (h1 : -20 ≤ u ∧ u ≤ 20) (h2 : -20 ≤ v ∧ v ≤ 20) : -400 ≤ u * v ∧ u * v ≤ 400 := by
  have := Int.mul_nonneg (show 0 ≤ u + 20 by omega) (show 0 ≤ v + 20 by omega)
  have := Int.mul_nonneg (show 0 ≤ 20 - u by omega) (show 0 ≤ 20 - v by omega)
  have := Int.mul_nonneg (show 0 ≤ u + 20 by omega) (show 0 ≤ 20 - v by omega)
  have := Int.mul_nonneg (show 0 ≤ 20 - u by omega) (show 0 ≤ v + 20 by omega)
  constructor <;> grind
theorem turnP_bd {a b c : Int × Int} (ha : pOk a = true) (hb : pOk b = true) (hc : pOk c = true) :
    (-400 ≤ (b.1 - a.1) * (c.2 - a.2) ∧ (b.1 - a.1) * (c.2 - a.2) ≤ 400) ∧ (-400 ≤ (b.2 - a.2) * (c.1 - a.1) ∧ (b.2 - a.2) * (c.1 - a.1) ≤ 400) := by
  have h1 := pOk_true.1 ha
  have h2 := pOk_true.1 hb
  have h3 := pOk_true.1 hc
  exact ⟨prod_bd (by omega) (by omega), prod_bd (by omega) (by omega)⟩
theorem d_turnS (a b c : Int × Int) (ha : pOk a = true) (hb : pOk b = true) (hc : pOk c = true) : Does Try.prog 59 [vP a, vP b, vP c] [] 1 (Ret (vI (turnP a b c)) 1) := by
  refine Does.intro TT Try.func59 rfl (by kernel_rfl) rfl rfl fun E hE => ?_
  have h := turnP_bd ha hb hc
  have h1 := pOk_true.1 ha
  have h2 := pOk_true.1 hb
  have h3 := pOk_true.1 hc
  (repeat' (first | (refine awpL_step TT rfl rfl rfl sd ?_) | (refine awpL_nil ?_) | (refine awpL_skip rfl rfl ?_) | (refine awpQ_step TT rfl rfl rfl rfl sd ?_) | (refine awpQ_nil ?_) | (refine awpQ_skip rfl rfl ?_) | (refine awp_seq ?_) | (refine awp_region ?_) | (refine awp_block ?_) | (refine awp_exit ?_) | (refine awp_skip ?_) | (refine awp_ret ?_) | (refine awp_cond_t rfl ?_) | (refine awp_cond_f rfl ?_) | (refine awp_quiet TM rfl (by kernel_rfl) ?_) | ((first | refine awpL_split rfl rfl rfl (fun hc => ?_) (fun hc => ?_) | refine awpQ_split rfl rfl rfl (fun hc => ?_) (fun hc => ?_) | refine awp_cond rfl (fun hc => ?_) (fun hc => ?_)) <;> ((try simp at hc) <;> try contradiction))))
  refine fin_ret rfl (by repeat' (first | exact trivial | exact Nat.zero_lt_one | omega | refine ⟨?_, ?_⟩)) (rfl) rfl
theorem d_turnI (a b c : Int × Int) (ha : pOk a = true) (hb : pOk b = true) (hc : pOk c = true) : Does Try.prog 61 [vP a, vP b, vP c] [] 1 (Ret (vI (turnP a b c)) 1) := by
  refine Does.intro TT Try.func61 rfl (by kernel_rfl) rfl rfl fun E hE => ?_
  have h := turnP_bd ha hb hc
  have h1 := pOk_true.1 ha
  have h2 := pOk_true.1 hb
  have h3 := pOk_true.1 hc
  (repeat' (first | (refine awpL_step TT rfl rfl rfl sd ?_) | (refine awpL_nil ?_) | (refine awpL_skip rfl rfl ?_) | (refine awpQ_step TT rfl rfl rfl rfl sd ?_) | (refine awpQ_nil ?_) | (refine awpQ_skip rfl rfl ?_) | (refine awp_seq ?_) | (refine awp_region ?_) | (refine awp_block ?_) | (refine awp_exit ?_) | (refine awp_skip ?_) | (refine awp_ret ?_) | (refine awp_cond_t rfl ?_) | (refine awp_cond_f rfl ?_) | (refine awp_quiet TM rfl (by kernel_rfl) ?_) | ((first | refine awpL_split rfl rfl rfl (fun hc => ?_) (fun hc => ?_) | refine awpQ_split rfl rfl rfl (fun hc => ?_) (fun hc => ?_) | refine awp_cond rfl (fun hc => ?_) (fun hc => ?_)) <;> ((try simp at hc) <;> try contradiction))))
  refine fin_ret rfl (by repeat' (first | exact trivial | exact Nat.zero_lt_one | omega | refine ⟨?_, ?_⟩)) (rfl) rfl
abbrev vQ (k n c : Nat) : AV := .one (.sl k 2 0 n c)
def ptP (ps : List (Int × Int)) (i : Nat) : Int × Int := ps.getD i (0, 0)
/-- the corner k lies on the left of side i, or is one of its ends -/
def leftP (ps : List (Int × Int)) (i k : Nat) : Bool := decide (k = i ∨ k = (i + 1) % ps.length ∨ 0 < turnP (ptP ps i) (ptP ps ((i + 1) % ps.length)) (ptP ps k))
def sideP (ps : List (Int × Int)) (i m : Nat) : Bool := decide (∀ k, k < m → leftP ps i k = true)
def sidesP (ps : List (Int × Int)) (m : Nat) : Bool := decide (∀ i, i < m → sideP ps i ps.length = true)
def okP (ps : List (Int × Int)) (m : Nat) : Bool := decide (∀ i, i < m → pOk (ptP ps i) = true)
def polyP (ps : List (Int × Int)) : Bool := decide (3 ≤ ps.length ∧ ps.length ≤ 8) && (okP ps ps.length && sidesP ps ps.length)
theorem allTo_next {f : Nat → Bool} {m : Nat} (h : ∀ i, i < m → f i = true) (hm : f m = true) : ∀ i, i < m + 1 → f i = true := fun i hi => by
  rcases Nat.lt_or_ge i m with c | c
  · exact h i c
  · obtain rfl : i = m := by omega
    exact hm
theorem polyP_no {ps : List (Int × Int)} (h : polyP ps = true) : (3 ≤ ps.length ∧ ps.length ≤ 8) ∧ (∀ i, i < ps.length → pOk (ptP ps i) = true) ∧ ∀ i, i < ps.length → ∀ k, k < ps.length → leftP ps i k = true := by
  simp only [polyP, okP, sidesP, sideP, Bool.and_eq_true, decide_eq_true_eq] at h
  exact ⟨h.1, h.2.1, h.2.2⟩
theorem polyP_yes {ps : List (Int × Int)} (h1 : 3 ≤ ps.length ∧ ps.length ≤ 8) (h2 : ∀ i, i < ps.length → pOk (ptP ps i) = true) (h3 : ∀ i, i < ps.length → ∀ k, k < ps.length → leftP ps i k = true) : polyP ps = true := by
  simp only [polyP, okP, sidesP, sideP, Bool.and_eq_true, decide_eq_true_eq]
  exact ⟨h1, h2, h3⟩
end Go.Proofs.Ytbgeooalhoaemaa
