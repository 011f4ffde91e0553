/-
  WALKS: discriminants, the principal form, primitive forms.
-/
import Derived.Test.YtbaaelampabhdaaForm
namespace Go.Proofs.Ytbaaelampabhdaa
open Go.RowKit

def discB (d : Int) : Bool := decide (-1000 ≤ d ∧ d ≤ -3 ∧ d % 4 ≤ 1)
theorem discB_true {d : Int} : discB d = true ↔ -1000 ≤ d ∧ d ≤ -3 ∧ d % 4 ≤ 1 := by simp [discB]
set_option maxHeartbeats 400000 in
theorem isDiscS_any (d : Int) (w : World) :
    Calls Try.prog 59 #[.int .i64 d] w fun e w' => e = .returned (.bool (discB d)) ∧ w = w' := by
  go_enter Try.func59, Try.ntmps59
  go_wp2_with (first | (go_at_call 55; refine (l1In_any _ _ _ _).mono ?_; rintro e w' ⟨rfl, rfl⟩) | (go_at_call 60; refine (l8Mod_any _ _ _ (by omega) (by omega)).mono ?_; rintro e w' ⟨rfl, rfl⟩))
  all_goals go_ret
  all_goals refine ⟨ret_bool ?_, rfl⟩
  all_goals first | (simp [inB, discB, *] at *; omega) | (simp [inB, discB, *] at *; done) | (simp [inB, discB] at *; rw [Bool.eq_iff_iff]; simp; omega)
set_option maxHeartbeats 400000 in
theorem isDiscI_any (d : Int) (w : World) :
    Calls Try.prog 61 #[.int .i64 d] w fun e w' => e = .returned (.bool (discB d)) ∧ w = w' := by
  go_enter Try.func61, Try.ntmps61
  go_wp2_with (first | (go_at_call 62; refine (mod_any _ _ _ (by omega) (by omega)).mono ?_; rintro e w' ⟨rfl, rfl⟩))
  all_goals go_ret
  all_goals refine ⟨ret_bool ?_, rfl⟩
  all_goals first | (simp [discB]; omega) | (rw [Bool.eq_iff_iff]; simp [discB]; omega)

def prA (d : Int) : Int := if discB d then 1 else 0
def prB (d : Int) : Int := if discB d then d % 2 else 0
def prC (d : Int) : Int := if discB d then (d % 2 - d) / 4 else 0
set_option maxHeartbeats 400000 in
theorem principalS_any (d : Int) (w : World) :
    Gives Try.prog 19 #[.int .i64 d] w (.tuple #[.agg #[.int .i64 (prA d), .int .i64 (prB d), .int .i64 (prC d)], .bool (discB d)]) := by
  refine Gives.of_below ?_
  by_cases h : discB d = true
  · have ⟨h1, h2, h3⟩ := discB_true.1 h
    have k1 : 0 ≤ d % 2 := by omega
    have k2 : d % 2 ≤ 1 := by omega
    go_enter Try.func19, Try.ntmps19
    go_wp2_with (first | (go_at_call 59; refine (isDiscS_any _ _).mono ?_; rintro e w' ⟨rfl, rfl⟩) | (go_at_call 60; refine (l8Mod_any _ _ _ (by omega) (by omega)).mono ?_; rintro e w' ⟨rfl, rfl⟩))
    exact bodyPost_ret (v := .tuple #[.agg #[.int .i64 1, .int .i64 (d % 2), .int .i64 ((d % 2 - d) / 4)], .bool true]) (by simp [results, Try.results19, go_sem]) rfl ⟨by simp [prA, prB, prC, h], (by repeat' (first | (with_reducible exact Below.refl _ _) | (with_reducible assumption) | (with_reducible refine Ext.up _ ?_ ?_) | (with_reducible exact Nat.le_refl _) | (with_reducible refine Ext.le_size _ ?_) | (with_reducible refine le_alloc ?_ _) | (with_reducible refine le_setCell ?_ _ _) | (with_reducible refine le_drew ?_) | (with_reducible refine Below.alloc ?_ ?_ _) | (with_reducible refine Below.drew ?_) | (with_reducible refine Below.setCell ?_ ?_ _) | go_size | (simp [go_sem]; done) | omega))⟩
  · have h' : discB d = false := by simpa using h
    clear h
    go_enter Try.func19, Try.ntmps19
    go_wp2_with (first | (go_at_call 59; refine (isDiscS_any _ _).mono ?_; rintro e w' ⟨rfl, rfl⟩))
    exact bodyPost_ret (v := .tuple #[.agg #[.int .i64 0, .int .i64 0, .int .i64 0], .bool false]) (by simp [results, Try.results19, go_sem]) rfl ⟨by simp [prA, prB, prC, h'], (by repeat' (first | (with_reducible exact Below.refl _ _) | (with_reducible assumption) | (with_reducible refine Ext.up _ ?_ ?_) | (with_reducible exact Nat.le_refl _) | (with_reducible refine Ext.le_size _ ?_) | (with_reducible refine le_alloc ?_ _) | (with_reducible refine le_setCell ?_ _ _) | (with_reducible refine le_drew ?_) | (with_reducible refine Below.alloc ?_ ?_ _) | (with_reducible refine Below.drew ?_) | (with_reducible refine Below.setCell ?_ ?_ _) | go_size | (simp [go_sem]; done) | omega))⟩
set_option maxHeartbeats 400000 in
theorem principalI_any (d : Int) (w : World) :
    Gives Try.prog 20 #[.int .i64 d] w (.tuple #[.agg #[.int .i64 (prA d), .int .i64 (prB d), .int .i64 (prC d)], .bool (discB d)]) := by
  refine Gives.of_below ?_
  by_cases h : discB d = true
  · have ⟨h1, h2, h3⟩ := discB_true.1 h
    have k1 : 0 ≤ d % 2 := by omega
    have k2 : d % 2 ≤ 1 := by omega
    have HB : Hid (d % 2 * (d % 2) = d % 2) := by
      rcases (by omega : d % 2 = 0 ∨ d % 2 = 1) with e | e <;> rw [e] <;> rfl
    have k3 : 0 ≤ d % 2 * (d % 2) := by rw [HB.out]; exact k1
    have k4 : d % 2 * (d % 2) ≤ 1 := by rw [HB.out]; exact k2
    go_enter Try.func20, Try.ntmps20
    go_wp2_with (first | (go_at_call 61; refine (isDiscI_any _ _).mono ?_; rintro e w' ⟨rfl, rfl⟩) | (go_at_call 62; refine (mod_any _ _ _ (by omega) (by omega)).mono ?_; rintro e w' ⟨rfl, rfl⟩))
    exact bodyPost_ret (v := .tuple #[.agg #[.int .i64 1, .int .i64 (d % 2), .int .i64 ((d % 2 * (d % 2) - d) / 4)], .bool true]) (by simp [results, Try.results20, go_sem]) rfl ⟨by simp [prA, prB, prC, h, HB.out], (by repeat' (first | (with_reducible exact Below.refl _ _) | (with_reducible assumption) | (with_reducible refine Ext.up _ ?_ ?_) | (with_reducible exact Nat.le_refl _) | (with_reducible refine Ext.le_size _ ?_) | (with_reducible refine le_alloc ?_ _) | (with_reducible refine le_setCell ?_ _ _) | (with_reducible refine le_drew ?_) | (with_reducible refine Below.alloc ?_ ?_ _) | (with_reducible refine Below.drew ?_) | (with_reducible refine Below.setCell ?_ ?_ _) | go_size | (simp [go_sem]; done) | omega))⟩
  · have h' : discB d = false := by simpa using h
    clear h
    go_enter Try.func20, Try.ntmps20
    go_wp2_with (first | (go_at_call 61; refine (isDiscI_any _ _).mono ?_; rintro e w' ⟨rfl, rfl⟩))
    exact bodyPost_ret (v := .tuple #[.agg #[.int .i64 0, .int .i64 0, .int .i64 0], .bool false]) (by simp [results, Try.results20, go_sem]) rfl ⟨by simp [prA, prB, prC, h'], (by repeat' (first | (with_reducible exact Below.refl _ _) | (with_reducible assumption) | (with_reducible refine Ext.up _ ?_ ?_) | (with_reducible exact Nat.le_refl _) | (with_reducible refine Ext.le_size _ ?_) | (with_reducible refine le_alloc ?_ _) | (with_reducible refine le_setCell ?_ _ _) | (with_reducible refine le_drew ?_) | (with_reducible refine Below.alloc ?_ ?_ _) | (with_reducible refine Below.drew ?_) | (with_reducible refine Below.setCell ?_ ?_ _) | go_size | (simp [go_sem]; done) | omega))⟩
set_option maxHeartbeats 400000 in
theorem eqForm_same (a b c : Int) (w : World) :
    Gives Try.prog 21 #[.agg #[.int .i64 a, .int .i64 b, .int .i64 c], .agg #[.int .i64 a, .int .i64 b, .int .i64 c]] w (.bool true) := by
  refine Gives.of_below ?_
  go_enter Try.func21, Try.ntmps21
  go_wp2
  go_ret
  exact ⟨rfl, (by repeat' (first | (with_reducible exact Below.refl _ _) | (with_reducible assumption) | (with_reducible refine Ext.up _ ?_ ?_) | (with_reducible exact Nat.le_refl _) | (with_reducible refine Ext.le_size _ ?_) | (with_reducible refine le_alloc ?_ _) | (with_reducible refine le_setCell ?_ _ _) | (with_reducible refine le_drew ?_) | (with_reducible refine Below.alloc ?_ ?_ _) | (with_reducible refine Below.drew ?_) | (with_reducible refine Below.setCell ?_ ?_ _) | go_size | (simp [go_sem]; done) | omega))⟩

def primB (a b c : Int) : Bool := isFormB a b c && ((Int.gcd (Int.gcd a b) c : Int) == 1)
theorem isForm_gcd {a b c : Int} (h : isFormB a b c = true) : numB a = true ∧ numB b = true ∧ numB c = true ∧ 0 ≤ (Int.gcd a b : Int) ∧ (Int.gcd a b : Int) ≤ 5000 := by
  have ⟨h1, h2, h3, h4, h5, h6, _⟩ := isFormB_true.1 h
  have := gcd_le_left (a := a) (b := b) (M := 5000) (by omega) (by omega) (by omega) (by omega)
  refine ⟨numB_true.2 ?_, numB_true.2 ?_, numB_true.2 ?_, ?_, this⟩ <;> omega
set_option maxHeartbeats 1000000 in
theorem isPrimI_any (a b c : Int) (w : World) :
    Gives Try.prog 23 #[.agg #[.int .i64 a, .int .i64 b, .int .i64 c]] w (.bool (primB a b c)) := by
  refine Gives.of_below ?_
  by_cases h : isFormB a b c = true
  · have ⟨h1, h2, h3, h4, h5, h6, _⟩ := isFormB_true.1 h
    have ⟨_, _, _, k4, k5⟩ := isForm_gcd h
    go_enter Try.func23, Try.ntmps23
    go_wp2
    (refine wp_region_ext (by kernel_rfl) (by kernel_rfl) ?_; (repeat (go_big_quiet_step (first | (go_at_call 56; exact Gives.quiet (isFormI_of h _)) | (go_at_call 64; exact Gives.quiet (gcd_any _ _ _ (by omega) (by omega) (by omega) (by omega)))))); refine wpQuiet_nil ?_; intro _ hw'; obtain ⟨xq, hw''⟩ := hw'; subst hw'')
    go_wp2
    go_ret
    exact ⟨ret_bool (by simp [primB, h]), (by repeat' (first | (with_reducible exact Below.refl _ _) | (with_reducible assumption) | (with_reducible refine Ext.up _ ?_ ?_) | (with_reducible exact Nat.le_refl _) | (with_reducible refine Ext.le_size _ ?_) | (with_reducible refine le_alloc ?_ _) | (with_reducible refine le_setCell ?_ _ _) | (with_reducible refine le_drew ?_) | (with_reducible refine Below.alloc ?_ ?_ _) | (with_reducible refine Below.drew ?_) | (with_reducible refine Below.setCell ?_ ?_ _) | go_size | (simp [go_sem]; done) | omega))⟩
  · have h' : isFormB a b c = false := by simpa using h
    clear h
    go_enter Try.func23, Try.ntmps23
    go_wp2
    (refine wp_region_ext (by kernel_rfl) (by kernel_rfl) ?_; (repeat (go_big_quiet_step (first | (go_at_call 56; exact Gives.quiet (isFormI_of h' _))))); refine wpQuiet_nil ?_; intro _ hw'; obtain ⟨xq, hw''⟩ := hw'; subst hw'')
    go_wp2
    go_ret
    exact ⟨ret_bool (by simp [primB, h']), (by repeat' (first | (with_reducible exact Below.refl _ _) | (with_reducible assumption) | (with_reducible refine Ext.up _ ?_ ?_) | (with_reducible exact Nat.le_refl _) | (with_reducible refine Ext.le_size _ ?_) | (with_reducible refine le_alloc ?_ _) | (with_reducible refine le_setCell ?_ _ _) | (with_reducible refine le_drew ?_) | (with_reducible refine Below.alloc ?_ ?_ _) | (with_reducible refine Below.drew ?_) | (with_reducible refine Below.setCell ?_ ?_ _) | go_size | (simp [go_sem]; done) | omega))⟩
set_option maxHeartbeats 1000000 in
theorem isPrimS_any (a b c : Int) (w : World) :
    Gives Try.prog 22 #[.agg #[.int .i64 a, .int .i64 b, .int .i64 c]] w (.bool (primB a b c)) := by
  refine Gives.of_below ?_
  by_cases h : isFormB a b c = true
  · have ⟨k1, k2, k3, k4, k5⟩ := isForm_gcd h
    have HE : Hid (gcdOf (gcdOf a b) c = (Int.gcd (Int.gcd a b) c : Int)) := by
      show gcdOf (gcdOf a b) c = _
      rw [gcdOf_eq k1 k2, gcdOf_eq (numB_true.2 (by omega)) k3]
    clear k1 k2 k3 k4 k5
    go_enter Try.func22, Try.ntmps22
    go_wp2
    (refine wp_region_ext (by kernel_rfl) (by kernel_rfl) ?_; (repeat (go_big_quiet_step (first | (go_at_call 54; exact Gives.quiet (isFormS_of h _)) | (go_at_call 63; exact Gives.quiet (gcdOf_any _ _ _))))); refine wpQuiet_nil ?_; intro _ hw'; obtain ⟨xq, hw''⟩ := hw'; subst hw'')
    go_wp2
    go_ret
    exact ⟨ret_bool (by simp [primB, h, HE.out]), (by repeat' (first | (with_reducible exact Below.refl _ _) | (with_reducible assumption) | (with_reducible refine Ext.up _ ?_ ?_) | (with_reducible exact Nat.le_refl _) | (with_reducible refine Ext.le_size _ ?_) | (with_reducible refine le_alloc ?_ _) | (with_reducible refine le_setCell ?_ _ _) | (with_reducible refine le_drew ?_) | (with_reducible refine Below.alloc ?_ ?_ _) | (with_reducible refine Below.drew ?_) | (with_reducible refine Below.setCell ?_ ?_ _) | go_size | (simp [go_sem]; done) | omega))⟩
  · have h' : isFormB a b c = false := by simpa using h
    clear h
    go_enter Try.func22, Try.ntmps22
    go_wp2
    (refine wp_region_ext (by kernel_rfl) (by kernel_rfl) ?_; (repeat (go_big_quiet_step (first | (go_at_call 54; exact Gives.quiet (isFormS_of h' _))))); refine wpQuiet_nil ?_; intro _ hw'; obtain ⟨xq, hw''⟩ := hw'; subst hw'')
    go_wp2
    go_ret
    exact ⟨ret_bool (by simp [primB, h']), (by repeat' (first | (with_reducible exact Below.refl _ _) | (with_reducible assumption) | (with_reducible refine Ext.up _ ?_ ?_) | (with_reducible exact Nat.le_refl _) | (with_reducible refine Ext.le_size _ ?_) | (with_reducible refine le_alloc ?_ _) | (with_reducible refine le_setCell ?_ _ _) | (with_reducible refine le_drew ?_) | (with_reducible refine Below.alloc ?_ ?_ _) | (with_reducible refine Below.drew ?_) | (with_reducible refine Below.setCell ?_ ?_ _) | go_size | (simp [go_sem]; done) | omega))⟩
end Go.Proofs.Ytbaaelampabhdaa
