/-
  WALKS: sums and quotients of ratios.
-/
import Derived.Test.YtimaihabaflhiaaRatio
set_option linter.unusedVariables false
set_option linter.unusedSimpArgs false
namespace Go.Proofs.Ytimaihabaflhiaa
open Go.RowKit
attribute [-go_sem] alloc_frozen

theorem prod_bd {a b : Int} (h1 : -400000000 ≤ a) (h2 : a ≤ 400000000) (h3 : -400000000 ≤ b) (h4 : b ≤ 400000000) : -160000000000000000 ≤ a * b ∧ a * b ≤ 160000000000000000 := by
  have h : (a * b).natAbs ≤ 400000000 * 400000000 := by
    rw [Int.natAbs_mul]; exact Nat.mul_le_mul (by omega) (by omega)
  omega
def addR (a b c d : Int) : Int × Int := if ratioB a b && ratioB c d then lowR (a * d + c * b) (b * d) else (0, 0)
def divR (a b c d : Int) : Int × Int := if ratioB a b && ratioB c d && !(c == 0) then lowR (a * d) (b * c) else (0, 0)
theorem addR_val {a b c d : Int} (h1 : ratioB a b = true) (h2 : ratioB c d = true) : Value.agg #[.int .i64 (lowR (a * d + c * b) (b * d)).1, .int .i64 (lowR (a * d + c * b) (b * d)).2] = .agg #[.int .i64 (addR a b c d).1, .int .i64 (addR a b c d).2] := by simp [addR, h1, h2]
theorem divR_val {a b c d : Int} (h1 : ratioB a b = true) (h2 : ratioB c d = true) (h3 : (c == 0) = false) : Value.agg #[.int .i64 (lowR (a * d) (b * c)).1, .int .i64 (lowR (a * d) (b * c)).2] = .agg #[.int .i64 (divR a b c d).1, .int .i64 (divR a b c d).2] := by simp [divR, h1, h2, h3]
set_option maxHeartbeats 2000000 in
theorem addI_any (a b c d : Int) (w : World) :
    Gives Try.prog 30 #[.agg #[.int .i64 a, .int .i64 b], .agg #[.int .i64 c, .int .i64 d]] w (.agg #[.int .i64 (addR a b c d).1, .int .i64 (addR a b c d).2]) := by
  refine Gives.of_below ?_
  cases h1 : ratioB a b with
  | false =>
    have HE : Hid (addR a b c d = (0, 0)) := by show _ = _; simp [addR, h1]
    go_enter Try.func30, Try.ntmps30
    go_wp2_with (go_at_call 37; refine (ratioI_of h1 _).calls.mono ?_; rintro e w' ⟨rfl, x1, rfl⟩)
    exact bodyPost_ret (v := .agg #[.int .i64 0, .int .i64 0]) (by simp [results, Try.results30, go_sem, ↓IntWalk.iteOmega]) rfl ⟨ret_val (pair_val HE), (by repeat' (first | (with_reducible exact Below.refl _ _) | (with_reducible assumption) | (refine Below.via (by with_reducible assumption) ?_ ?_) | (with_reducible refine Ext.up _ ?_ ?_) | (with_reducible exact Nat.le_refl _) | (exact Below.size (by with_reducible assumption)) | (with_reducible refine Ext.le_size _ ?_) | (with_reducible refine le_alloc ?_ _) | (with_reducible refine le_setCell ?_ _ _) | (with_reducible refine le_drew ?_) | (with_reducible refine Below.alloc ?_ ?_ _) | (with_reducible refine Below.drew ?_) | (with_reducible refine Below.setCell ?_ ?_ _) | go_size | (simp [go_sem]; done) | omega | (simp [go_sem]; omega)))⟩
  | true =>
    cases h2 : ratioB c d with
    | false =>
      have HE : Hid (addR a b c d = (0, 0)) := by show _ = _; simp [addR, h2]
      go_enter Try.func30, Try.ntmps30
      go_wp2_with (go_at_call 37; refine (ratioI_any _ _ _).calls.mono ?_; rintro e w' ⟨rfl, x1, rfl⟩)
      exact bodyPost_ret (v := .agg #[.int .i64 0, .int .i64 0]) (by simp [results, Try.results30, go_sem, ↓IntWalk.iteOmega]) rfl ⟨ret_val (pair_val HE), (by repeat' (first | (with_reducible exact Below.refl _ _) | (with_reducible assumption) | (refine Below.via (by with_reducible assumption) ?_ ?_) | (with_reducible refine Ext.up _ ?_ ?_) | (with_reducible exact Nat.le_refl _) | (exact Below.size (by with_reducible assumption)) | (with_reducible refine Ext.le_size _ ?_) | (with_reducible refine le_alloc ?_ _) | (with_reducible refine le_setCell ?_ _ _) | (with_reducible refine le_drew ?_) | (with_reducible refine Below.alloc ?_ ?_ _) | (with_reducible refine Below.drew ?_) | (with_reducible refine Below.setCell ?_ ?_ _) | go_size | (simp [go_sem]; done) | omega | (simp [go_sem]; omega)))⟩
    | true =>
      obtain ⟨k1, k2, k3, k4, _⟩ := ratioB_true h1
      obtain ⟨m1, m2, m3, m4, _⟩ := ratioB_true h2
      have ⟨p1, p2⟩ := prod_bd (a := a) (b := d) (by omega) (by omega) (by omega) (by omega)
      have ⟨p3, p4⟩ := prod_bd (a := c) (b := b) (by omega) (by omega) (by omega) (by omega)
      have ⟨p6, p7⟩ := prod_bd (a := b) (b := d) (by omega) (by omega) (by omega) (by omega)
      have p5 : b * d ≠ 0 := Int.mul_ne_zero (by omega) (by omega)
      have HV := Lib.hid (addR_val h1 h2)
      have HW := Lib.hid fun w => lowI_any (a * d + c * b) (b * d) w (by omega) (by omega) (by omega) (by omega) p5
      clear p5
      generalize lowR (a * d + c * b) (b * d) = lw at *
      go_enter Try.func30, Try.ntmps30
      go_wp2_with (first | (go_at_call 37; refine (ratioI_any _ _ _).calls.mono ?_; rintro e w' ⟨rfl, x1, rfl⟩) | (go_at_call 57; refine (HW.out _).calls.mono ?_; rintro e w' ⟨rfl, x1, rfl⟩))
      exact bodyPost_ret (v := .agg #[.int .i64 lw.1, .int .i64 lw.2]) (by simp [results, Try.results30, go_sem, ↓IntWalk.iteOmega]) rfl ⟨ret_val HV.out, (by repeat' (first | (with_reducible exact Below.refl _ _) | (with_reducible assumption) | (refine Below.via (by with_reducible assumption) ?_ ?_) | (with_reducible refine Ext.up _ ?_ ?_) | (with_reducible exact Nat.le_refl _) | (exact Below.size (by with_reducible assumption)) | (with_reducible refine Ext.le_size _ ?_) | (with_reducible refine le_alloc ?_ _) | (with_reducible refine le_setCell ?_ _ _) | (with_reducible refine le_drew ?_) | (with_reducible refine Below.alloc ?_ ?_ _) | (with_reducible refine Below.drew ?_) | (with_reducible refine Below.setCell ?_ ?_ _) | go_size | (simp [go_sem]; done) | omega | (simp [go_sem]; omega)))⟩
set_option maxHeartbeats 2000000 in
theorem addS_any (a b c d : Int) (w : World) :
    Gives Try.prog 47 #[.agg #[.int .i64 a, .int .i64 b], .agg #[.int .i64 c, .int .i64 d]] w (.agg #[.int .i64 (addR a b c d).1, .int .i64 (addR a b c d).2]) := by
  refine Gives.of_below ?_
  cases h1 : ratioB a b with
  | false =>
    have HE : Hid (addR a b c d = (0, 0)) := by show _ = _; simp [addR, h1]
    go_enter Try.func47, Try.ntmps47
    go_wp2_with (go_at_call 32; refine (ratioS_of h1 _).calls.mono ?_; rintro e w' ⟨rfl, x1, rfl⟩)
    exact bodyPost_ret (v := .agg #[.int .i64 0, .int .i64 0]) (by simp [results, Try.results47, go_sem, ↓IntWalk.iteOmega]) rfl ⟨ret_val (pair_val HE), (by repeat' (first | (with_reducible exact Below.refl _ _) | (with_reducible assumption) | (refine Below.via (by with_reducible assumption) ?_ ?_) | (with_reducible refine Ext.up _ ?_ ?_) | (with_reducible exact Nat.le_refl _) | (exact Below.size (by with_reducible assumption)) | (with_reducible refine Ext.le_size _ ?_) | (with_reducible refine le_alloc ?_ _) | (with_reducible refine le_setCell ?_ _ _) | (with_reducible refine le_drew ?_) | (with_reducible refine Below.alloc ?_ ?_ _) | (with_reducible refine Below.drew ?_) | (with_reducible refine Below.setCell ?_ ?_ _) | go_size | (simp [go_sem]; done) | omega | (simp [go_sem]; omega)))⟩
  | true =>
    cases h2 : ratioB c d with
    | false =>
      have HE : Hid (addR a b c d = (0, 0)) := by show _ = _; simp [addR, h2]
      go_enter Try.func47, Try.ntmps47
      go_wp2_with (go_at_call 32; refine (ratioS_any _ _ _).calls.mono ?_; rintro e w' ⟨rfl, x1, rfl⟩)
      exact bodyPost_ret (v := .agg #[.int .i64 0, .int .i64 0]) (by simp [results, Try.results47, go_sem, ↓IntWalk.iteOmega]) rfl ⟨ret_val (pair_val HE), (by repeat' (first | (with_reducible exact Below.refl _ _) | (with_reducible assumption) | (refine Below.via (by with_reducible assumption) ?_ ?_) | (with_reducible refine Ext.up _ ?_ ?_) | (with_reducible exact Nat.le_refl _) | (exact Below.size (by with_reducible assumption)) | (with_reducible refine Ext.le_size _ ?_) | (with_reducible refine le_alloc ?_ _) | (with_reducible refine le_setCell ?_ _ _) | (with_reducible refine le_drew ?_) | (with_reducible refine Below.alloc ?_ ?_ _) | (with_reducible refine Below.drew ?_) | (with_reducible refine Below.setCell ?_ ?_ _) | go_size | (simp [go_sem]; done) | omega | (simp [go_sem]; omega)))⟩
    | true =>
      obtain ⟨k1, k2, k3, k4, _⟩ := ratioB_true h1
      obtain ⟨m1, m2, m3, m4, _⟩ := ratioB_true h2
      have ⟨p1, p2⟩ := prod_bd (a := a) (b := d) (by omega) (by omega) (by omega) (by omega)
      have ⟨p3, p4⟩ := prod_bd (a := c) (b := b) (by omega) (by omega) (by omega) (by omega)
      have ⟨p6, p7⟩ := prod_bd (a := b) (b := d) (by omega) (by omega) (by omega) (by omega)
      have p5 : b * d ≠ 0 := Int.mul_ne_zero (by omega) (by omega)
      have HV := Lib.hid (addR_val h1 h2)
      have HW := Lib.hid fun w => makeS_any (a * d + c * b) (b * d) w (by omega) (by omega) (by omega) (by omega) p5
      clear p5
      generalize lowR (a * d + c * b) (b * d) = lw at *
      go_enter Try.func47, Try.ntmps47
      go_wp2_with (first | (go_at_call 32; refine (ratioS_any _ _ _).calls.mono ?_; rintro e w' ⟨rfl, x1, rfl⟩) | (go_at_call 66; refine (HW.out _).calls.mono ?_; rintro e w' ⟨rfl, x1, rfl⟩))
      exact bodyPost_ret (v := .agg #[.int .i64 lw.1, .int .i64 lw.2]) (by simp [results, Try.results47, go_sem, ↓IntWalk.iteOmega]) rfl ⟨ret_val HV.out, (by repeat' (first | (with_reducible exact Below.refl _ _) | (with_reducible assumption) | (refine Below.via (by with_reducible assumption) ?_ ?_) | (with_reducible refine Ext.up _ ?_ ?_) | (with_reducible exact Nat.le_refl _) | (exact Below.size (by with_reducible assumption)) | (with_reducible refine Ext.le_size _ ?_) | (with_reducible refine le_alloc ?_ _) | (with_reducible refine le_setCell ?_ _ _) | (with_reducible refine le_drew ?_) | (with_reducible refine Below.alloc ?_ ?_ _) | (with_reducible refine Below.drew ?_) | (with_reducible refine Below.setCell ?_ ?_ _) | go_size | (simp [go_sem]; done) | omega | (simp [go_sem]; omega)))⟩
set_option maxHeartbeats 2000000 in
theorem divI_any (a b c d : Int) (w : World) :
    Gives Try.prog 51 #[.agg #[.int .i64 a, .int .i64 b], .agg #[.int .i64 c, .int .i64 d]] w (.agg #[.int .i64 (divR a b c d).1, .int .i64 (divR a b c d).2]) := by
  refine Gives.of_below ?_
  cases h1 : ratioB a b with
  | false =>
    have HE : Hid (divR a b c d = (0, 0)) := by show _ = _; simp [divR, h1]
    go_enter Try.func51, Try.ntmps51
    go_wp2_with (go_at_call 37; refine (ratioI_of h1 _).calls.mono ?_; rintro e w' ⟨rfl, x1, rfl⟩)
    exact bodyPost_ret (v := .agg #[.int .i64 0, .int .i64 0]) (by simp [results, Try.results51, go_sem, ↓IntWalk.iteOmega]) rfl ⟨ret_val (pair_val HE), (by repeat' (first | (with_reducible exact Below.refl _ _) | (with_reducible assumption) | (refine Below.via (by with_reducible assumption) ?_ ?_) | (with_reducible refine Ext.up _ ?_ ?_) | (with_reducible exact Nat.le_refl _) | (exact Below.size (by with_reducible assumption)) | (with_reducible refine Ext.le_size _ ?_) | (with_reducible refine le_alloc ?_ _) | (with_reducible refine le_setCell ?_ _ _) | (with_reducible refine le_drew ?_) | (with_reducible refine Below.alloc ?_ ?_ _) | (with_reducible refine Below.drew ?_) | (with_reducible refine Below.setCell ?_ ?_ _) | go_size | (simp [go_sem]; done) | omega | (simp [go_sem]; omega)))⟩
  | true =>
    cases h2 : ratioB c d with
    | false =>
      have HE : Hid (divR a b c d = (0, 0)) := by show _ = _; simp [divR, h2]
      go_enter Try.func51, Try.ntmps51
      go_wp2_with (go_at_call 37; refine (ratioI_any _ _ _).calls.mono ?_; rintro e w' ⟨rfl, x1, rfl⟩)
      exact bodyPost_ret (v := .agg #[.int .i64 0, .int .i64 0]) (by simp [results, Try.results51, go_sem, ↓IntWalk.iteOmega]) rfl ⟨ret_val (pair_val HE), (by repeat' (first | (with_reducible exact Below.refl _ _) | (with_reducible assumption) | (refine Below.via (by with_reducible assumption) ?_ ?_) | (with_reducible refine Ext.up _ ?_ ?_) | (with_reducible exact Nat.le_refl _) | (exact Below.size (by with_reducible assumption)) | (with_reducible refine Ext.le_size _ ?_) | (with_reducible refine le_alloc ?_ _) | (with_reducible refine le_setCell ?_ _ _) | (with_reducible refine le_drew ?_) | (with_reducible refine Below.alloc ?_ ?_ _) | (with_reducible refine Below.drew ?_) | (with_reducible refine Below.setCell ?_ ?_ _) | go_size | (simp [go_sem]; done) | omega | (simp [go_sem]; omega)))⟩
    | true =>
      cases h3 : (c == 0) with
      | true =>
        have HE : Hid (divR a b c d = (0, 0)) := by show _ = _; simp [divR, h3]
        go_enter Try.func51, Try.ntmps51
        go_wp2_with (go_at_call 37; refine (ratioI_any _ _ _).calls.mono ?_; rintro e w' ⟨rfl, x1, rfl⟩)
        exact bodyPost_ret (v := .agg #[.int .i64 0, .int .i64 0]) (by simp [results, Try.results51, go_sem, ↓IntWalk.iteOmega]) rfl ⟨ret_val (pair_val HE), (by repeat' (first | (with_reducible exact Below.refl _ _) | (with_reducible assumption) | (refine Below.via (by with_reducible assumption) ?_ ?_) | (with_reducible refine Ext.up _ ?_ ?_) | (with_reducible exact Nat.le_refl _) | (exact Below.size (by with_reducible assumption)) | (with_reducible refine Ext.le_size _ ?_) | (with_reducible refine le_alloc ?_ _) | (with_reducible refine le_setCell ?_ _ _) | (with_reducible refine le_drew ?_) | (with_reducible refine Below.alloc ?_ ?_ _) | (with_reducible refine Below.drew ?_) | (with_reducible refine Below.setCell ?_ ?_ _) | go_size | (simp [go_sem]; done) | omega | (simp [go_sem]; omega)))⟩
      | false =>
        obtain ⟨k1, k2, k3, k4, _⟩ := ratioB_true h1
        obtain ⟨m1, m2, m3, m4, _⟩ := ratioB_true h2
        have ⟨p1, p2⟩ := prod_bd (a := a) (b := d) (by omega) (by omega) (by omega) (by omega)
        have ⟨p3, p4⟩ := prod_bd (a := b) (b := c) (by omega) (by omega) (by omega) (by omega)
        have hc0 : c ≠ 0 := by simpa using h3
        have p5 : b * c ≠ 0 := Int.mul_ne_zero (by omega) hc0
        have HV := Lib.hid (divR_val h1 h2 h3)
        have HW := Lib.hid fun w => lowI_any (a * d) (b * c) w (by omega) (by omega) (by omega) (by omega) p5
        clear p5
        generalize lowR (a * d) (b * c) = lw at *
        go_enter Try.func51, Try.ntmps51
        go_wp2_with (first | (go_at_call 37; refine (ratioI_any _ _ _).calls.mono ?_; rintro e w' ⟨rfl, x1, rfl⟩) | (go_at_call 57; refine (HW.out _).calls.mono ?_; rintro e w' ⟨rfl, x1, rfl⟩))
        exact bodyPost_ret (v := .agg #[.int .i64 lw.1, .int .i64 lw.2]) (by simp [results, Try.results51, go_sem, ↓IntWalk.iteOmega]) rfl ⟨ret_val HV.out, (by repeat' (first | (with_reducible exact Below.refl _ _) | (with_reducible assumption) | (refine Below.via (by with_reducible assumption) ?_ ?_) | (with_reducible refine Ext.up _ ?_ ?_) | (with_reducible exact Nat.le_refl _) | (exact Below.size (by with_reducible assumption)) | (with_reducible refine Ext.le_size _ ?_) | (with_reducible refine le_alloc ?_ _) | (with_reducible refine le_setCell ?_ _ _) | (with_reducible refine le_drew ?_) | (with_reducible refine Below.alloc ?_ ?_ _) | (with_reducible refine Below.drew ?_) | (with_reducible refine Below.setCell ?_ ?_ _) | go_size | (simp [go_sem]; done) | omega | (simp [go_sem]; omega)))⟩
set_option maxHeartbeats 2000000 in
theorem divS_any (a b c d : Int) (w : World) :
    Gives Try.prog 48 #[.agg #[.int .i64 a, .int .i64 b], .agg #[.int .i64 c, .int .i64 d]] w (.agg #[.int .i64 (divR a b c d).1, .int .i64 (divR a b c d).2]) := by
  refine Gives.of_below ?_
  cases h1 : ratioB a b with
  | false =>
    have HE : Hid (divR a b c d = (0, 0)) := by show _ = _; simp [divR, h1]
    go_enter Try.func48, Try.ntmps48
    go_wp2_with (go_at_call 32; refine (ratioS_of h1 _).calls.mono ?_; rintro e w' ⟨rfl, x1, rfl⟩)
    exact bodyPost_ret (v := .agg #[.int .i64 0, .int .i64 0]) (by simp [results, Try.results48, go_sem, ↓IntWalk.iteOmega]) rfl ⟨ret_val (pair_val HE), (by repeat' (first | (with_reducible exact Below.refl _ _) | (with_reducible assumption) | (refine Below.via (by with_reducible assumption) ?_ ?_) | (with_reducible refine Ext.up _ ?_ ?_) | (with_reducible exact Nat.le_refl _) | (exact Below.size (by with_reducible assumption)) | (with_reducible refine Ext.le_size _ ?_) | (with_reducible refine le_alloc ?_ _) | (with_reducible refine le_setCell ?_ _ _) | (with_reducible refine le_drew ?_) | (with_reducible refine Below.alloc ?_ ?_ _) | (with_reducible refine Below.drew ?_) | (with_reducible refine Below.setCell ?_ ?_ _) | go_size | (simp [go_sem]; done) | omega | (simp [go_sem]; omega)))⟩
  | true =>
    cases h2 : ratioB c d with
    | false =>
      have HE : Hid (divR a b c d = (0, 0)) := by show _ = _; simp [divR, h2]
      go_enter Try.func48, Try.ntmps48
      go_wp2_with (go_at_call 32; refine (ratioS_any _ _ _).calls.mono ?_; rintro e w' ⟨rfl, x1, rfl⟩)
      exact bodyPost_ret (v := .agg #[.int .i64 0, .int .i64 0]) (by simp [results, Try.results48, go_sem, ↓IntWalk.iteOmega]) rfl ⟨ret_val (pair_val HE), (by repeat' (first | (with_reducible exact Below.refl _ _) | (with_reducible assumption) | (refine Below.via (by with_reducible assumption) ?_ ?_) | (with_reducible refine Ext.up _ ?_ ?_) | (with_reducible exact Nat.le_refl _) | (exact Below.size (by with_reducible assumption)) | (with_reducible refine Ext.le_size _ ?_) | (with_reducible refine le_alloc ?_ _) | (with_reducible refine le_setCell ?_ _ _) | (with_reducible refine le_drew ?_) | (with_reducible refine Below.alloc ?_ ?_ _) | (with_reducible refine Below.drew ?_) | (with_reducible refine Below.setCell ?_ ?_ _) | go_size | (simp [go_sem]; done) | omega | (simp [go_sem]; omega)))⟩
    | true =>
      cases h3 : (c == 0) with
      | true =>
        have HE : Hid (divR a b c d = (0, 0)) := by show _ = _; simp [divR, h3]
        go_enter Try.func48, Try.ntmps48
        go_wp2_with (go_at_call 32; refine (ratioS_any _ _ _).calls.mono ?_; rintro e w' ⟨rfl, x1, rfl⟩)
        exact bodyPost_ret (v := .agg #[.int .i64 0, .int .i64 0]) (by simp [results, Try.results48, go_sem, ↓IntWalk.iteOmega]) rfl ⟨ret_val (pair_val HE), (by repeat' (first | (with_reducible exact Below.refl _ _) | (with_reducible assumption) | (refine Below.via (by with_reducible assumption) ?_ ?_) | (with_reducible refine Ext.up _ ?_ ?_) | (with_reducible exact Nat.le_refl _) | (exact Below.size (by with_reducible assumption)) | (with_reducible refine Ext.le_size _ ?_) | (with_reducible refine le_alloc ?_ _) | (with_reducible refine le_setCell ?_ _ _) | (with_reducible refine le_drew ?_) | (with_reducible refine Below.alloc ?_ ?_ _) | (with_reducible refine Below.drew ?_) | (with_reducible refine Below.setCell ?_ ?_ _) | go_size | (simp [go_sem]; done) | omega | (simp [go_sem]; omega)))⟩
      | false =>
        obtain ⟨k1, k2, k3, k4, _⟩ := ratioB_true h1
        obtain ⟨m1, m2, m3, m4, _⟩ := ratioB_true h2
        have ⟨p1, p2⟩ := prod_bd (a := a) (b := d) (by omega) (by omega) (by omega) (by omega)
        have ⟨p3, p4⟩ := prod_bd (a := b) (b := c) (by omega) (by omega) (by omega) (by omega)
        have hc0 : c ≠ 0 := by simpa using h3
        have p5 : b * c ≠ 0 := Int.mul_ne_zero (by omega) hc0
        have HV := Lib.hid (divR_val h1 h2 h3)
        have HW := Lib.hid fun w => makeS_any (a * d) (b * c) w (by omega) (by omega) (by omega) (by omega) p5
        clear p5
        generalize lowR (a * d) (b * c) = lw at *
        go_enter Try.func48, Try.ntmps48
        go_wp2_with (first | (go_at_call 32; refine (ratioS_any _ _ _).calls.mono ?_; rintro e w' ⟨rfl, x1, rfl⟩) | (go_at_call 66; refine (HW.out _).calls.mono ?_; rintro e w' ⟨rfl, x1, rfl⟩))
        exact bodyPost_ret (v := .agg #[.int .i64 lw.1, .int .i64 lw.2]) (by simp [results, Try.results48, go_sem, ↓IntWalk.iteOmega]) rfl ⟨ret_val HV.out, (by repeat' (first | (with_reducible exact Below.refl _ _) | (with_reducible assumption) | (refine Below.via (by with_reducible assumption) ?_ ?_) | (with_reducible refine Ext.up _ ?_ ?_) | (with_reducible exact Nat.le_refl _) | (exact Below.size (by with_reducible assumption)) | (with_reducible refine Ext.le_size _ ?_) | (with_reducible refine le_alloc ?_ _) | (with_reducible refine le_setCell ?_ _ _) | (with_reducible refine le_drew ?_) | (with_reducible refine Below.alloc ?_ ?_ _) | (with_reducible refine Below.drew ?_) | (with_reducible refine Below.setCell ?_ ?_ _) | go_size | (simp [go_sem]; done) | omega | (simp [go_sem]; omega)))⟩
end Go.Proofs.Ytimaihabaflhiaa
