/-
  WALKS: IsConeMatrix, IsBody of both packages.
-/
import Derived.Test.YtbgeooalhoaemaaMat
namespace Go.Proofs.Ytbgeooalhoaemaa
open Go.RowKit

def coneB (r q : Int) (xs : List Int) : Bool := matB r q xs && decide (r ≤ 8 ∧ 1 ≤ q ∧ q ≤ 3)
theorem coneB_of {r q : Int} {xs : List Int} (h : matB r q xs = true) : coneB r q xs = decide (r ≤ 8 ∧ 1 ≤ q ∧ q ≤ 3) := by rw [coneB, h]; rfl
theorem coneB_no {r q : Int} {xs : List Int} (h : matB r q xs = false) : coneB r q xs = false := by rw [coneB, h]; rfl
theorem coneB_no' {r q : Int} {xs : List Int} (h : ¬ matB r q xs = true) : false = coneB r q xs := (coneB_no (by simpa using h)).symm

theorem cone_rows {r q : Int} {xs : List Int} (h : coneB r q xs = true) : 0 ≤ r ∧ r ≤ 8 ∧ 1 ≤ q ∧ q ≤ 3 ∧ (xs.length : Int) = r * q ∧ xs.all numB = true := by
  simp only [coneB, matB, Bool.and_eq_true, dimB_true, decide_eq_true_eq] at h
  obtain ⟨⟨⟨h1, h2, h3, h4, h5⟩, h6⟩, h7, h8, h9⟩ := h
  exact ⟨h1, h7, h8, h9, h5, h6⟩
set_option maxHeartbeats 2000000 in
theorem isConeI_any (r q : Int) (A : Option Addr) (c : Nat) (xs : List Int) (w : World) (hx : RI w A xs) (hn : xs.length ≤ 9223372036854775807) :
    Gives Try.prog 18 #[.agg #[.int .i64 r, .int .i64 q, .slice A xs.length c]] w (.bool (coneB r q xs)) := by
  refine Gives.of_below ?_
  go_enter Try.func18, Try.ntmps18
  go_wp2_with (go_at_call 58; refine (isMatrixI_any _ _ _ _ xs _ (by first | (with_reducible assumption) | (refine RI.up (by with_reducible assumption) ?_; exact (by repeat' (first | (with_reducible exact Below.refl _ _) | (with_reducible assumption) | (with_reducible refine Ext.up _ ?_ ?_) | (with_reducible exact Nat.le_refl _) | (exact Below.size (by with_reducible assumption)) | (with_reducible refine Ext.le_size _ ?_) | (with_reducible refine le_alloc ?_ _) | (with_reducible refine le_setCell ?_ _ _) | (with_reducible refine le_drew ?_) | (with_reducible refine Below.alloc ?_ ?_ _) | (with_reducible refine Below.drew ?_) | (with_reducible refine Below.setCell ?_ ?_ _) | go_size | (simp [go_sem]; done) | omega)))) hn).calls.mono ?_; rintro e w' ⟨rfl, x1, rfl⟩)
  all_goals go_ret
  all_goals refine ⟨ret_bool ?_, (by repeat' (first | (with_reducible exact Below.refl _ _) | (with_reducible assumption) | (with_reducible refine Ext.up _ ?_ ?_) | (with_reducible exact Nat.le_refl _) | (exact Below.size (by with_reducible assumption)) | (with_reducible refine Ext.le_size _ ?_) | (with_reducible refine le_alloc ?_ _) | (with_reducible refine le_setCell ?_ _ _) | (with_reducible refine le_drew ?_) | (with_reducible refine Below.alloc ?_ ?_ _) | (with_reducible refine Below.drew ?_) | (with_reducible refine Below.setCell ?_ ?_ _) | go_size | (simp [go_sem]; done) | omega))⟩
  all_goals first | exact coneB_no' ‹_› | exact (coneB_no ‹_›).symm | (rw [coneB_of ‹_›]; simp; omega) | (rw [coneB_of ‹_›, Bool.eq_iff_iff]; simp; omega)
theorem isConeI_of {r q : Int} {xs : List Int} {t : Bool} (h : coneB r q xs = t) (A : Option Addr) (c : Nat) (w : World) (hx : RI w A xs) (hn : xs.length ≤ 9223372036854775807) :
    Gives Try.prog 18 #[.agg #[.int .i64 r, .int .i64 q, .slice A xs.length c]] w (.bool t) := h ▸ isConeI_any r q A c xs w hx hn
set_option maxHeartbeats 2000000 in
theorem isConeS_any (r q : Int) (A : Option Addr) (c : Nat) (xs : List Int) (w : World) (hx : RI w A xs) (hn : xs.length ≤ 9223372036854775807) :
    Gives Try.prog 16 #[.agg #[.int .i64 r, .int .i64 q, .slice A xs.length c]] w (.bool (coneB r q xs)) := by
  refine Gives.of_below ?_
  go_enter Try.func16, Try.ntmps16
  go_wp2_with (first | (go_at_call 56; refine (isMatrixS_any _ _ _ _ xs _ (by first | (with_reducible assumption) | (refine RI.up (by with_reducible assumption) ?_; exact (by repeat' (first | (with_reducible exact Below.refl _ _) | (with_reducible assumption) | (with_reducible refine Ext.up _ ?_ ?_) | (with_reducible exact Nat.le_refl _) | (exact Below.size (by with_reducible assumption)) | (with_reducible refine Ext.le_size _ ?_) | (with_reducible refine le_alloc ?_ _) | (with_reducible refine le_setCell ?_ _ _) | (with_reducible refine le_drew ?_) | (with_reducible refine Below.alloc ?_ ?_ _) | (with_reducible refine Below.drew ?_) | (with_reducible refine Below.setCell ?_ ?_ _) | go_size | (simp [go_sem]; done) | omega)))) hn).calls.mono ?_; rintro e w' ⟨rfl, x1, rfl⟩) | (go_at_call 57; refine (l1In_any _ _ _ _).mono ?_; rintro e w' ⟨rfl, rfl⟩))
  all_goals go_ret
  all_goals refine ⟨ret_bool ?_, (by repeat' (first | (with_reducible exact Below.refl _ _) | (with_reducible assumption) | (with_reducible refine Ext.up _ ?_ ?_) | (with_reducible exact Nat.le_refl _) | (exact Below.size (by with_reducible assumption)) | (with_reducible refine Ext.le_size _ ?_) | (with_reducible refine le_alloc ?_ _) | (with_reducible refine le_setCell ?_ _ _) | (with_reducible refine le_drew ?_) | (with_reducible refine Below.alloc ?_ ?_ _) | (with_reducible refine Below.drew ?_) | (with_reducible refine Below.setCell ?_ ?_ _) | go_size | (simp [go_sem]; done) | omega))⟩
  all_goals first | exact coneB_no' ‹_› | exact (coneB_no ‹_›).symm | (rw [coneB_of ‹_›]; simp; omega) | (rw [coneB_of ‹_›, Bool.eq_iff_iff]; simp [inB]; omega)
theorem isConeS_of {r q : Int} {xs : List Int} {t : Bool} (h : coneB r q xs = t) (A : Option Addr) (c : Nat) (w : World) (hx : RI w A xs) (hn : xs.length ≤ 9223372036854775807) :
    Gives Try.prog 16 #[.agg #[.int .i64 r, .int .i64 q, .slice A xs.length c]] w (.bool t) := h ▸ isConeS_any r q A c xs w hx hn
end Go.Proofs.Ytbgeooalhoaemaa
