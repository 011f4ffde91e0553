/-
  WALKS: the leaf functions on binary forms: what each call gives.
-/
import Derived.Test.YtbaaelampabhdaaNum
namespace Go.Proofs.Ytbaaelampabhdaa
open Go.RowKit

def isFormB (a b c : Int) : Bool := decide (1 ≤ a ∧ a ≤ 5000 ∧ 1 ≤ c ∧ c ≤ 5000 ∧ -5000 ≤ b ∧ b ≤ 5000 ∧ b * b < 4 * a * c)
theorem isFormB_true {a b c : Int} : isFormB a b c = true ↔ 1 ≤ a ∧ a ≤ 5000 ∧ 1 ≤ c ∧ c ≤ 5000 ∧ -5000 ≤ b ∧ b ≤ 5000 ∧ b * b < 4 * a * c := by simp [isFormB]
theorem isForm_last {a b c : Int} (h1 : 1 ≤ a) (h2 : a ≤ 5000) (h3 : 1 ≤ c) (h4 : c ≤ 5000) (h5 : -5000 ≤ b) (h6 : b ≤ 5000) :
    decide (wrap64 (b * b) < wrap64 (4 * a * c)) = isFormB a b c := by
  have k1 := mul_bd h5 h6 h5 h6
  have k2 := mul_bd (A := 20000) (B := 5000) (a := 4 * a) (b := c) (by omega) (by omega) (by omega) h4
  rw [w64 (by omega) (by omega), w64 (by omega) (by omega)]
  simp [isFormB, *]

set_option maxHeartbeats 1000000 in
theorem isFormI_any (a b c : Int) (w : World) :
    Gives Try.prog 56 #[.agg #[.int .i64 a, .int .i64 b, .int .i64 c]] w (.bool (isFormB a b c)) := by
  refine Gives.of_below ?_
  go_enter Try.func56, Try.ntmps56
  go_wp2
  all_goals go_ret
  all_goals refine ⟨ret_bool ?_, by go_grown⟩
  all_goals first | exact isForm_last ‹_› ‹_› ‹_› ‹_› ‹_› ‹_› | (simp [isFormB]; omega)
theorem isFormI_of {a b c : Int} {t : Bool} (h : isFormB a b c = t) (w : World) : Gives Try.prog 56 #[.agg #[.int .i64 a, .int .i64 b, .int .i64 c]] w (.bool t) := h ▸ isFormI_any a b c w
set_option maxHeartbeats 1000000 in
theorem isFormS_any (a b c : Int) (w : World) :
    Gives Try.prog 54 #[.agg #[.int .i64 a, .int .i64 b, .int .i64 c]] w (.bool (isFormB a b c)) := by
  refine Gives.of_below ?_
  go_enter Try.func54, Try.ntmps54
  go_wp2_with (go_at_call 55; refine (l1In_any _ _ _ _).mono ?_; rintro e w' ⟨rfl, rfl⟩)
  all_goals go_ret
  all_goals refine ⟨ret_bool ?_, by go_grown⟩
  all_goals simp [inB] at *
  all_goals first | (unfold isFormB; apply decide_eq_false; omega) | (rw [w64 (x := 4 * a) (by omega) (by omega)]; refine isForm_last ?_ ?_ ?_ ?_ ?_ ?_ <;> omega)

theorem isFormS_of {a b c : Int} {t : Bool} (h : isFormB a b c = t) (w : World) : Gives Try.prog 54 #[.agg #[.int .i64 a, .int .i64 b, .int .i64 c]] w (.bool t) := h ▸ isFormS_any a b c w

def formVal (a b c x y : Int) : Int := a * x * x + b * x * y + c * y * y
def formOk (a b c x y : Int) : Bool := isFormB a b c && (inB x (-100) 100 && inB y (-100) 100)
def formN (a b c x y : Int) : Int := if formOk a b c x y then formVal a b c x y else 0

theorem formAt_no {a b c x y : Int} (h : formOk a b c x y = false) : Value.tuple #[.int .i64 0, .bool false] = .tuple #[.int .i64 (formN a b c x y), .bool (formOk a b c x y)] := by simp [formN, h]
theorem formAt_yes {a b c x y n : Int} (h : formOk a b c x y = true) (hn : n = formVal a b c x y) : Value.tuple #[.int .i64 n, .bool true] = .tuple #[.int .i64 (formN a b c x y), .bool (formOk a b c x y)] := by simp [formN, h, hn]
theorem formVal_w {a b c x y : Int} (ha : -5000 ≤ a) (ha' : a ≤ 5000) (hb : -5000 ≤ b) (hb' : b ≤ 5000) (hc : -5000 ≤ c) (hc' : c ≤ 5000) (hx : -10000 ≤ x) (hx' : x ≤ 10000) (hy : -10000 ≤ y) (hy' : y ≤ 10000) :
    wrap64 (wrap64 (wrap64 (wrap64 (a * x) * x) + wrap64 (wrap64 (b * x) * y)) + wrap64 (wrap64 (c * y) * y)) = formVal a b c x y := by
  have k1 := mul_bd ha ha' hx hx'
  have k2 := mul_bd hb hb' hx hx'
  have k3 := mul_bd hc hc' hy hy'
  have k4 := mul_bd k1.1 k1.2 hx hx'
  have k5 := mul_bd k2.1 k2.2 hy hy'
  have k6 := mul_bd k3.1 k3.2 hy hy'
  rw [w64 (x := a * x) (by omega) (by omega), w64 (x := b * x) (by omega) (by omega), w64 (x := c * y) (by omega) (by omega)]
  rw [w64 (x := a * x * x) (by omega) (by omega), w64 (x := b * x * y) (by omega) (by omega), w64 (x := c * y * y) (by omega) (by omega)]
  rw [w64 (x := a * x * x + b * x * y) (by omega) (by omega), w64 (by omega) (by omega)]
  rfl

set_option maxHeartbeats 1000000 in
theorem formAt_any (a b c x y : Int) (w : World) :
    Gives Try.prog 58 #[.agg #[.int .i64 a, .int .i64 b, .int .i64 c], .int .i64 x, .int .i64 y] w
      (.int .i64 (wrap64 (wrap64 (wrap64 (wrap64 (a * x) * x) + wrap64 (wrap64 (b * x) * y)) + wrap64 (wrap64 (c * y) * y)))) := by
  refine Gives.of_below ?_
  go_enter Try.func58, Try.ntmps58
  go_wp2
  go_ret
  exact ⟨rfl, by go_grown⟩
theorem formVal_ok {a b c x y : Int} (h : formOk a b c x y = true) :
    wrap64 (wrap64 (wrap64 (wrap64 (a * x) * x) + wrap64 (wrap64 (b * x) * y)) + wrap64 (wrap64 (c * y) * y)) = formVal a b c x y := by
  simp only [formOk, Bool.and_eq_true, isFormB_true, inB_true] at h
  exact formVal_w (by omega) (by omega) (by omega) (by omega) (by omega) (by omega) (by omega) (by omega) (by omega) (by omega)
set_option maxHeartbeats 1000000 in
theorem formAtS_any (a b c x y : Int) (w : World) :
    Gives Try.prog 16 #[.agg #[.int .i64 a, .int .i64 b, .int .i64 c], .int .i64 x, .int .i64 y] w
      (.tuple #[.int .i64 (formN a b c x y), .bool (formOk a b c x y)]) := by
  refine Gives.of_below ?_
  go_enter Try.func16, Try.ntmps16
  go_wp2_with (first | (go_at_call 54; refine (isFormS_any _ _ _ _).calls.mono ?_; rintro e w' ⟨rfl, x1, rfl⟩) | (go_at_call 55; refine (l1In_any _ _ _ _).mono ?_; rintro e w' ⟨rfl, rfl⟩))
  all_goals go_ret2
  all_goals refine ⟨ret_val ?_, (by repeat' (first | (with_reducible exact Below.refl _ _) | (with_reducible assumption) | (with_reducible refine Ext.up _ ?_ ?_) | (with_reducible exact Nat.le_refl _) | (with_reducible refine Ext.le_size _ ?_) | (with_reducible refine le_alloc ?_ _) | (with_reducible refine le_setCell ?_ _ _) | (with_reducible refine le_drew ?_) | (with_reducible refine Below.alloc ?_ ?_ _) | (with_reducible refine Below.drew ?_) | (with_reducible refine Below.setCell ?_ ?_ _) | go_size | (simp [go_sem]; done) | omega))⟩
  all_goals try simp only [Bool.not_eq_true', Bool.not_eq_false'] at *
  all_goals first | exact formAt_no (by simp [formOk, *]; done) | exact formAt_yes (by simp [formOk, *]; done) (formVal_ok (by simp [formOk, *]; done))
theorem absW_gt {x : Int} : inB x (-100) 100 = (decide (absW x ≤ 100) && decide (-100 ≤ x)) := by
  unfold absW inB wrap64; rw [Bool.eq_iff_iff]; simp; omega
set_option maxHeartbeats 1000000 in
theorem formAtI_any (a b c x y : Int) (w : World) :
    Gives Try.prog 18 #[.agg #[.int .i64 a, .int .i64 b, .int .i64 c], .int .i64 x, .int .i64 y] w
      (.tuple #[.int .i64 (formN a b c x y), .bool (formOk a b c x y)]) := by
  refine Gives.of_below ?_
  go_enter Try.func18, Try.ntmps18
  go_wp2_with (first | (go_at_call 56; refine (isFormI_any _ _ _ _).calls.mono ?_; rintro e w' ⟨rfl, x1, rfl⟩) | (go_at_call 57; refine (absInt_any _ _).mono ?_; rintro e w' ⟨rfl, rfl⟩) | (go_at_call 58; refine (formAt_any _ _ _ _ _ _).calls.mono ?_; rintro e w' ⟨rfl, x1, rfl⟩))
  all_goals go_ret2
  all_goals refine ⟨ret_val ?_, (by repeat' (first | (with_reducible exact Below.refl _ _) | (with_reducible assumption) | (with_reducible refine Ext.up _ ?_ ?_) | (with_reducible exact Nat.le_refl _) | (with_reducible refine Ext.le_size _ ?_) | (with_reducible refine le_alloc ?_ _) | (with_reducible refine le_setCell ?_ _ _) | (with_reducible refine le_drew ?_) | (with_reducible refine Below.alloc ?_ ?_ _) | (with_reducible refine Below.drew ?_) | (with_reducible refine Below.setCell ?_ ?_ _) | go_size | (simp [go_sem]; done) | omega))⟩
  all_goals first | exact formAt_no (by simp [formOk, absW_gt, *]; try omega) | exact formAt_yes (by simp [formOk, absW_gt, *]; try omega) (formVal_ok (by simp [formOk, absW_gt, *]; try omega))
set_option maxHeartbeats 400000 in
theorem toForm_any (a b c : Int) (w : World) :
    Gives Try.prog 17 #[.agg #[.int .i64 a, .int .i64 b, .int .i64 c]] w (.agg #[.int .i64 a, .int .i64 b, .int .i64 c]) := by
  refine Gives.of_below ?_
  go_enter Try.func17, Try.ntmps17
  go_wp2
  exact bodyPost_ret (v := .agg #[.int .i64 a, .int .i64 b, .int .i64 c]) (by simp [results, Try.results17, go_sem]) rfl ⟨rfl, (by repeat' (first | (with_reducible exact Below.refl _ _) | (with_reducible assumption) | (with_reducible refine Ext.up _ ?_ ?_) | (with_reducible exact Nat.le_refl _) | (with_reducible refine Ext.le_size _ ?_) | (with_reducible refine le_alloc ?_ _) | (with_reducible refine le_setCell ?_ _ _) | (with_reducible refine le_drew ?_) | (with_reducible refine Below.alloc ?_ ?_ _) | (with_reducible refine Below.drew ?_) | (with_reducible refine Below.setCell ?_ ?_ _) | go_size | (simp [go_sem]; done) | omega))⟩
end Go.Proofs.Ytbaaelampabhdaa
