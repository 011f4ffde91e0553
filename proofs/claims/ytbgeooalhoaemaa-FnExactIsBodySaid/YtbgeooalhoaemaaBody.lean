/-
  WALKS: IsBody of both packages.
-/
import Derived.Test.YtbgeooalhoaemaaCone
namespace Go.Proofs.Ytbgeooalhoaemaa
open Go.RowKit

def bodyB (r q : Int) (xs bs : List Int) : Bool := coneB r q xs && (((bs.length : Int) == r) && bs.all numB)
theorem cone_rows {r q : Int} {xs : List Int} (h : coneB r q xs = true) : 0 ≤ r ∧ r ≤ 8 ∧ 1 ≤ q ∧ q ≤ 3 ∧ (xs.length : Int) = r * q ∧ xs.all numB = true := by
  simp only [coneB, matB, Bool.and_eq_true, dimB_true, decide_eq_true_eq] at h
  obtain ⟨⟨⟨h1, h2, h3, h4, h5⟩, h6⟩, h7, h8, h9⟩ := h
  exact ⟨h1, h7, h8, h9, h5, h6⟩
theorem body_no {r q : Int} {xs bs : List Int} (h : ¬ coneB r q xs = true) : false = bodyB r q xs bs := by rw [bodyB]; simp [h]
theorem body_no' {r q : Int} {xs bs : List Int} (h : ¬ (bs.length : Int) = r) : false = bodyB r q xs bs := by rw [bodyB]; simp [h]
theorem body_yes {r q : Int} {xs bs : List Int} (h : coneB r q xs = true) (hl : (bs.length : Int) = r) : bs.all numB = bodyB r q xs bs := by rw [bodyB, h, hl]; simp
theorem body_yes' {r q : Int} {xs bs : List Int} (h : coneB r q xs = true) (hl : (bs.length : Int) = r) : matB 1 (bs.length : Int) bs = bodyB r q xs bs := by
  obtain ⟨h1, h2, _⟩ := cone_rows h
  rw [← body_yes h hl, matB, dimB_true.2 ⟨by omega, by omega, by omega, by omega, by omega⟩]; rfl
theorem body_yes2 {r q : Int} {xs bs : List Int} (h : coneB r q xs = true) (hl : (bs.length : Int) = r) : matB 1 r bs = bodyB r q xs bs := by
  rw [← body_yes' h hl, hl]
set_option maxHeartbeats 2000000 in
theorem isBodyI_any (r q : Int) (A : Option Addr) (c : Nat) (xs : List Int) (B : Option Addr) (d : Nat) (bs : List Int) (w : World) (hx : RI w A xs) (hn : xs.length ≤ 9223372036854775807) (hb : RI w B bs) (hm : bs.length ≤ 9223372036854775807) :
    Gives Try.prog 27 #[.agg #[.int .i64 r, .int .i64 q, .slice A xs.length c], .slice B bs.length d] w (.bool (bodyB r q xs bs)) := by
  refine Gives.of_below ?_
  go_enter Try.func27, Try.ntmps27
  go_wp2_with (first | (go_at_call 18; refine (isConeI_any _ _ _ _ xs _ (by first | (with_reducible assumption) | (refine RI.up (by with_reducible assumption) ?_; exact (by repeat' (first | (with_reducible exact Below.refl _ _) | (with_reducible assumption) | (with_reducible refine Ext.up _ ?_ ?_) | (with_reducible exact Nat.le_refl _) | (exact Below.size (by with_reducible assumption)) | (with_reducible refine Ext.le_size _ ?_) | (with_reducible refine le_alloc ?_ _) | (with_reducible refine le_setCell ?_ _ _) | (with_reducible refine le_drew ?_) | (with_reducible refine Below.alloc ?_ ?_ _) | (with_reducible refine Below.drew ?_) | (with_reducible refine Below.setCell ?_ ?_ _) | go_size | (simp [go_sem]; done) | omega)))) hn).calls.mono ?_; rintro e w' ⟨rfl, x1, rfl⟩) | (go_at_call 63; refine (areNumbers_any _ _ bs _ (by first | (with_reducible assumption) | (refine RI.up (by with_reducible assumption) ?_; exact (by repeat' (first | (with_reducible exact Below.refl _ _) | (with_reducible assumption) | (with_reducible refine Ext.up _ ?_ ?_) | (with_reducible exact Nat.le_refl _) | (exact Below.size (by with_reducible assumption)) | (with_reducible refine Ext.le_size _ ?_) | (with_reducible refine le_alloc ?_ _) | (with_reducible refine le_setCell ?_ _ _) | (with_reducible refine le_drew ?_) | (with_reducible refine Below.alloc ?_ ?_ _) | (with_reducible refine Below.drew ?_) | (with_reducible refine Below.setCell ?_ ?_ _) | go_size | (simp [go_sem]; done) | omega)))) hm).mono ?_; rintro e w' ⟨rfl, rfl⟩))
  all_goals go_ret
  all_goals refine ⟨ret_bool ?_, (by repeat' (first | (with_reducible exact Below.refl _ _) | (with_reducible assumption) | (with_reducible refine Ext.up _ ?_ ?_) | (with_reducible exact Nat.le_refl _) | (exact Below.size (by with_reducible assumption)) | (with_reducible refine Ext.le_size _ ?_) | (with_reducible refine le_alloc ?_ _) | (with_reducible refine le_setCell ?_ _ _) | (with_reducible refine le_drew ?_) | (with_reducible refine Below.alloc ?_ ?_ _) | (with_reducible refine Below.drew ?_) | (with_reducible refine Below.setCell ?_ ?_ _) | go_size | (simp [go_sem]; done) | omega))⟩
  all_goals first | exact body_no ‹_› | exact body_yes ‹_› ‹_› | exact body_no' ‹_›
set_option maxHeartbeats 2000000 in
theorem isBodyS_any (r q : Int) (A : Option Addr) (c : Nat) (xs : List Int) (B : Option Addr) (d : Nat) (bs : List Int) (w : World) (hx : RI w A xs) (hn : xs.length ≤ 9223372036854775807) (hb : RI w B bs) (hm : bs.length ≤ 9223372036854775807) :
    Gives Try.prog 25 #[.agg #[.int .i64 r, .int .i64 q, .slice A xs.length c], .slice B bs.length d] w (.bool (bodyB r q xs bs)) := by
  refine Gives.of_below ?_
  go_enter Try.func25, Try.ntmps25
  go_wp2_with (first | (go_at_call 16; refine (isConeS_any _ _ _ _ xs _ (by first | (with_reducible assumption) | (refine RI.up (by with_reducible assumption) ?_; exact (by repeat' (first | (with_reducible exact Below.refl _ _) | (with_reducible assumption) | (with_reducible refine Ext.up _ ?_ ?_) | (with_reducible exact Nat.le_refl _) | (exact Below.size (by with_reducible assumption)) | (with_reducible refine Ext.le_size _ ?_) | (with_reducible refine le_alloc ?_ _) | (with_reducible refine le_setCell ?_ _ _) | (with_reducible refine le_drew ?_) | (with_reducible refine Below.alloc ?_ ?_ _) | (with_reducible refine Below.drew ?_) | (with_reducible refine Below.setCell ?_ ?_ _) | go_size | (simp [go_sem]; done) | omega)))) hn).calls.mono ?_; rintro e w' ⟨rfl, x1, rfl⟩) | (go_at_call 56; refine (isMatrixS_any _ _ _ _ bs _ (by first | (with_reducible assumption) | (refine RI.up (by with_reducible assumption) ?_; exact (by repeat' (first | (with_reducible exact Below.refl _ _) | (with_reducible assumption) | (with_reducible refine Ext.up _ ?_ ?_) | (with_reducible exact Nat.le_refl _) | (exact Below.size (by with_reducible assumption)) | (with_reducible refine Ext.le_size _ ?_) | (with_reducible refine le_alloc ?_ _) | (with_reducible refine le_setCell ?_ _ _) | (with_reducible refine le_drew ?_) | (with_reducible refine Below.alloc ?_ ?_ _) | (with_reducible refine Below.drew ?_) | (with_reducible refine Below.setCell ?_ ?_ _) | go_size | (simp [go_sem]; done) | omega)))) hm).calls.mono ?_; rintro e w' ⟨rfl, x1, rfl⟩))
  all_goals go_ret
  all_goals refine ⟨ret_bool ?_, (by repeat' (first | (with_reducible exact Below.refl _ _) | (with_reducible assumption) | (with_reducible refine Ext.up _ ?_ ?_) | (with_reducible exact Nat.le_refl _) | (exact Below.size (by with_reducible assumption)) | (with_reducible refine Ext.le_size _ ?_) | (with_reducible refine le_alloc ?_ _) | (with_reducible refine le_setCell ?_ _ _) | (with_reducible refine le_drew ?_) | (with_reducible refine Below.alloc ?_ ?_ _) | (with_reducible refine Below.drew ?_) | (with_reducible refine Below.setCell ?_ ?_ _) | go_size | (simp [go_sem]; done) | omega))⟩
  all_goals first | exact body_no ‹_› | exact body_yes' ‹_› ‹_› | exact body_yes2 ‹_› ‹_› | exact body_no' ‹_›
end Go.Proofs.Ytbgeooalhoaemaa
