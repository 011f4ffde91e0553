/-
  WALKS: ratios and continued fractions.
-/
import Derived.Test.YtbaaelampabhdaaSlice
set_option linter.unusedVariables false
set_option linter.unusedSimpArgs false
namespace Go.Proofs.Ytbaaelampabhdaa
open Go.RowKit

def ratioB (n d : Int) : Bool := decide (1 ≤ d ∧ d ≤ 400000000 ∧ -400000000 ≤ n ∧ n ≤ 400000000) && ((Int.gcd n d : Int) == 1)
theorem ratioB_true {n d : Int} (h : ratioB n d = true) : 1 ≤ d ∧ d ≤ 400000000 ∧ -400000000 ≤ n ∧ n ≤ 400000000 ∧ Int.gcd n d = 1 := by
  simp only [ratioB, Bool.and_eq_true, decide_eq_true_eq, beq_iff_eq] at h
  obtain ⟨⟨h1, h2, h3, h4⟩, h5⟩ := h
  exact ⟨h1, h2, h3, h4, by omega⟩
theorem ratio_no {n d : Int} (h : ¬(1 ≤ d ∧ d ≤ 400000000 ∧ -400000000 ≤ n ∧ n ≤ 400000000)) : false = ratioB n d := by
  rw [ratioB, decide_eq_false h]; rfl
theorem ratio_yes {n d : Int} (h : 1 ≤ d ∧ d ≤ 400000000 ∧ -400000000 ≤ n ∧ n ≤ 400000000) : ((Int.gcd n d : Int) == 1) = ratioB n d := by
  rw [ratioB, decide_eq_true h]; rfl

set_option maxHeartbeats 1000000 in
theorem ratioS_any (n d : Int) (w : World) : Gives Try.prog 115 #[.agg #[.int .i64 n, .int .i64 d]] w (.bool (ratioB n d)) := by
  refine Gives.of_below ?_
  by_cases hb : 1 ≤ d ∧ d ≤ 400000000 ∧ -400000000 ≤ n ∧ n ≤ 400000000
  · have HY := Lib.hid (ratio_yes hb)
    obtain ⟨h1, h2, h3, h4⟩ := hb
    have hn : numB n = true := numB_true.2 ⟨h3, h4⟩
    have hd : inB d 1 400000000 = true := inB_true.2 ⟨h1, h2⟩
    have HG := Lib.hid (gcdOf_eq hn (numB_true.2 (show -400000000 ≤ d ∧ d ≤ 400000000 by omega)))
    go_enter Try.func115, Try.ntmps115
    go_wp2_with (first | (go_at_call 55; refine (l1In_any _ _ _ _).mono ?_; rintro e w' ⟨rfl, rfl⟩) | (go_at_call 91; refine (isNumberS_of hn _).mono ?_; rintro e w' ⟨rfl, rfl⟩) | (go_at_call 63; refine (gcdOf_any _ _ _).calls.mono ?_; rintro e w' ⟨rfl, x1, rfl⟩))
    go_ret
    exact ⟨ret_bool (by rw [← HY.out, ← HG.out]), (by repeat' (first | (with_reducible exact Below.refl _ _) | (with_reducible assumption) | (refine Below.via (by with_reducible assumption) ?_ ?_) | (with_reducible refine Ext.up _ ?_ ?_) | (with_reducible exact Nat.le_refl _) | (exact Below.size (by with_reducible assumption)) | (with_reducible refine Ext.le_size _ ?_) | (with_reducible refine le_alloc ?_ _) | (with_reducible refine le_setCell ?_ _ _) | (with_reducible refine le_drew ?_) | (with_reducible refine Below.alloc ?_ ?_ _) | (with_reducible refine Below.drew ?_) | (with_reducible refine Below.setCell ?_ ?_ _) | go_size | (simp [go_sem]; done) | omega | (simp [go_sem]; omega)))⟩
  · have HN := Lib.hid (ratio_no hb)
    have HB := Lib.hid hb
    clear hb
    go_enter Try.func115, Try.ntmps115
    go_wp2_with (first | (go_at_call 55; refine (l1In_any _ _ _ _).mono ?_; rintro e w' ⟨rfl, rfl⟩) | (go_at_call 91; refine (isNumberS_any _ _).mono ?_; rintro e w' ⟨rfl, rfl⟩) | (go_at_call 63; refine (gcdOf_any _ _ _).calls.mono ?_; rintro e w' ⟨rfl, x1, rfl⟩))
    all_goals go_ret
    all_goals first | exact ⟨ret_bool HN.out, (by repeat' (first | (with_reducible exact Below.refl _ _) | (with_reducible assumption) | (refine Below.via (by with_reducible assumption) ?_ ?_) | (with_reducible refine Ext.up _ ?_ ?_) | (with_reducible exact Nat.le_refl _) | (exact Below.size (by with_reducible assumption)) | (with_reducible refine Ext.le_size _ ?_) | (with_reducible refine le_alloc ?_ _) | (with_reducible refine le_setCell ?_ _ _) | (with_reducible refine le_drew ?_) | (with_reducible refine Below.alloc ?_ ?_ _) | (with_reducible refine Below.drew ?_) | (with_reducible refine Below.setCell ?_ ?_ _) | go_size | (simp [go_sem]; done) | omega | (simp [go_sem]; omega)))⟩ | (exfalso; have h1 := numB_true.1 ‹_›; have h2 := inB_true.1 ‹inB d 1 400000000 = true›; exact HB.out ⟨by omega, by omega, by omega, by omega⟩)
theorem ratioS_of {n d : Int} {t : Bool} (h : ratioB n d = t) (w : World) : Gives Try.prog 115 #[.agg #[.int .i64 n, .int .i64 d]] w (.bool t) := h ▸ ratioS_any n d w
/-- the terms of the continued fraction of n / d -/
def cfTerms (n : Int) (d : Nat) : List Int := if _h : d = 0 then [] else (n / (d : Int)) :: cfTerms d (n % (d : Int)).toNat
termination_by d
decreasing_by
  have h1 := Int.emod_lt_of_pos n (show 0 < (d : Int) by omega)
  have h2 := Int.emod_nonneg n (show (d : Int) ≠ 0 by omega)
  omega
theorem cfTerms_zero (n : Int) : cfTerms n 0 = [] := by rw [cfTerms]; simp
theorem cfTerms_succ {n : Int} {d : Nat} (h : d ≠ 0) : cfTerms n d = (n / (d : Int)) :: cfTerms d (n % (d : Int)).toNat := by rw [cfTerms]; simp [h]
def cfOf (n d : Int) : List Int := if ratioB n d then cfTerms n d.toNat else []
def CRel (n : Int) (D : Nat) (w : World) (ov av bv : Value) (wr : World) : Prop :=
  ∃ (A : Option Addr) (k c : Nat) (ys : List Int) (a : Int) (b : Nat), ov = .slice A k c ∧ av = .int .i64 a ∧ bv = .int .i64 b ∧ OI wr w.heap.size A k c ys ∧ Hid (ys ++ cfTerms a b = cfTerms n D) ∧ k + b ≤ D ∧ -400000000 ≤ a ∧ a ≤ 400000000 ∧ Below w.heap.size w wr
theorem cfTerms_len : ∀ (d : Nat) (n : Int), (cfTerms n d).length ≤ d
  | d, n => by
    by_cases h : d = 0
    · subst h; rw [cfTerms_zero]; exact Nat.le_refl _
    · have := Int.emod_lt_of_pos n (show 0 < (d : Int) by omega)
      have := Int.emod_nonneg n (show (d : Int) ≠ 0 by omega)
      have := cfTerms_len (n % (d : Int)).toNat d
      rw [cfTerms_succ h, List.length_cons]; omega
termination_by d => d
decreasing_by
  have _ := Int.emod_lt_of_pos n (show 0 < (d : Int) by omega)
  have _ := Int.emod_nonneg n (show (d : Int) ≠ 0 by omega)
  omega
theorem cfOf_len (n d : Int) : (cfOf n d).length ≤ 400000000 := by
  unfold cfOf
  cases h : ratioB n d with
  | false => simp
  | true =>
    have h1 := ratioB_true h
    have h2 := cfTerms_len d.toNat n
    simp only [if_true]; omega
/-- What 'ContinuedOf' hands back. -/
def GotInts (base : Nat) (ok : Bool) (ys : List Int) (w0 : World) (e : Ending) (w' : World) : Prop :=
  ∃ A c, e = .returned (.tuple #[.slice A ys.length c, .bool ok]) ∧ OI w' base A ys.length c ys ∧ ∃ x : Ext w0, w' = x.val
end Go.Proofs.Ytbaaelampabhdaa
