/-
  WALKS: ratios and continued fractions.
-/
import Derived.Test.YtimaihabaflhiaaSlice
set_option linter.unusedVariables false
set_option linter.unusedSimpArgs false
namespace Go.Proofs.Ytimaihabaflhiaa
open Go.RowKit

def ratioB (n d : Int) : Bool := decide (1 ≤ d ∧ d ≤ 400000000 ∧ -400000000 ≤ n ∧ n ≤ 400000000) && ((Int.gcd n d : Int) == 1)
theorem ratioB_true {n d : Int} (h : ratioB n d = true) : 1 ≤ d ∧ d ≤ 400000000 ∧ -400000000 ≤ n ∧ n ≤ 400000000 ∧ Int.gcd n d = 1 := by
  simp only [ratioB, Bool.and_eq_true, decide_eq_true_eq, beq_iff_eq] at h
  obtain ⟨⟨h1, h2, h3, h4⟩, h5⟩ := h
  exact ⟨h1, h2, h3, h4, by omega⟩
theorem ratio_no {n d : Int} (h : ¬(1 ≤ d ∧ d ≤ 400000000 ∧ -400000000 ≤ n ∧ n ≤ 400000000)) : false = ratioB n d := by
  rw [ratioB, decide_eq_false h]; rfl
theorem ratio_yes {n d : Int} (h : 1 ≤ d ∧ d ≤ 400000000 ∧ -400000000 ≤ n ∧ n ≤ 400000000) : ((Int.gcd n d : Int) == 1) = ratioB n d := by
  rw [ratioB, decide_eq_true h]; rfl

set_option maxHeartbeats 1000000 in
theorem ratioI_any (n d : Int) (w : World) : Gives Try.prog 37 #[.agg #[.int .i64 n, .int .i64 d]] w (.bool (ratioB n d)) := by
  refine Gives.of_below ?_
  by_cases hb : 1 ≤ d ∧ d ≤ 400000000 ∧ -400000000 ≤ n ∧ n ≤ 400000000
  · have HY := Lib.hid (ratio_yes hb)
    obtain ⟨h1, h2, h3, h4⟩ := hb
    have hn : numB n = true := numB_true.2 ⟨h3, h4⟩
    go_enter Try.func37, Try.ntmps37
    go_wp2_with (first | (go_at_call 64; refine (isNumberI_of hn _).mono ?_; rintro e w' ⟨rfl, rfl⟩) | (go_at_call 65; refine (gcd_any _ _ _ (by omega) (by omega) (by omega) (by omega)).calls.mono ?_; rintro e w' ⟨rfl, x1, rfl⟩))
    go_ret
    exact ⟨ret_bool HY.out, (by repeat' (first | (with_reducible exact Below.refl _ _) | (with_reducible assumption) | (refine Below.via (by with_reducible assumption) ?_ ?_) | (with_reducible refine Ext.up _ ?_ ?_) | (with_reducible exact Nat.le_refl _) | (exact Below.size (by with_reducible assumption)) | (with_reducible refine Ext.le_size _ ?_) | (with_reducible refine le_alloc ?_ _) | (with_reducible refine le_setCell ?_ _ _) | (with_reducible refine le_drew ?_) | (with_reducible refine Below.alloc ?_ ?_ _) | (with_reducible refine Below.drew ?_) | (with_reducible refine Below.setCell ?_ ?_ _) | go_size | (simp [go_sem]; done) | omega | (simp [go_sem]; omega)))⟩
  · have HN := Lib.hid (ratio_no hb)
    have HB := Lib.hid hb
    clear hb
    go_enter Try.func37, Try.ntmps37
    go_wp2_with (go_at_call 64; refine (isNumberI_any _ _).mono ?_; rintro e w' ⟨rfl, rfl⟩)
    all_goals first | (go_ret; exact ⟨ret_bool HN.out, (by repeat' (first | (with_reducible exact Below.refl _ _) | (with_reducible assumption) | (refine Below.via (by with_reducible assumption) ?_ ?_) | (with_reducible refine Ext.up _ ?_ ?_) | (with_reducible exact Nat.le_refl _) | (exact Below.size (by with_reducible assumption)) | (with_reducible refine Ext.le_size _ ?_) | (with_reducible refine le_alloc ?_ _) | (with_reducible refine le_setCell ?_ _ _) | (with_reducible refine le_drew ?_) | (with_reducible refine Below.alloc ?_ ?_ _) | (with_reducible refine Below.drew ?_) | (with_reducible refine Below.setCell ?_ ?_ _) | go_size | (simp [go_sem]; done) | omega | (simp [go_sem]; omega)))⟩) | (exfalso; have := numB_true.1 ‹_›; exact HB.out ⟨by omega, by omega, by omega, by omega⟩)
set_option maxHeartbeats 1000000 in
theorem ratioS_any (n d : Int) (w : World) : Gives Try.prog 32 #[.agg #[.int .i64 n, .int .i64 d]] w (.bool (ratioB n d)) := by
  refine Gives.of_below ?_
  by_cases hb : 1 ≤ d ∧ d ≤ 400000000 ∧ -400000000 ≤ n ∧ n ≤ 400000000
  · have HY := Lib.hid (ratio_yes hb)
    obtain ⟨h1, h2, h3, h4⟩ := hb
    have hn : numB n = true := numB_true.2 ⟨h3, h4⟩
    have hd : inB d 1 400000000 = true := inB_true.2 ⟨h1, h2⟩
    have HG := Lib.hid (gcdOf_eq hn (numB_true.2 (show -400000000 ≤ d ∧ d ≤ 400000000 by omega)))
    go_enter Try.func32, Try.ntmps32
    go_wp2_with (first | (go_at_call 39; refine (l1In_any _ _ _ _).mono ?_; rintro e w' ⟨rfl, rfl⟩) | (go_at_call 46; refine (isNumberS_of hn _).mono ?_; rintro e w' ⟨rfl, rfl⟩) | (go_at_call 58; refine (gcdOf_any _ _ _).calls.mono ?_; rintro e w' ⟨rfl, x1, rfl⟩))
    go_ret
    exact ⟨ret_bool (by rw [← HY.out, ← HG.out]), (by repeat' (first | (with_reducible exact Below.refl _ _) | (with_reducible assumption) | (refine Below.via (by with_reducible assumption) ?_ ?_) | (with_reducible refine Ext.up _ ?_ ?_) | (with_reducible exact Nat.le_refl _) | (exact Below.size (by with_reducible assumption)) | (with_reducible refine Ext.le_size _ ?_) | (with_reducible refine le_alloc ?_ _) | (with_reducible refine le_setCell ?_ _ _) | (with_reducible refine le_drew ?_) | (with_reducible refine Below.alloc ?_ ?_ _) | (with_reducible refine Below.drew ?_) | (with_reducible refine Below.setCell ?_ ?_ _) | go_size | (simp [go_sem]; done) | omega | (simp [go_sem]; omega)))⟩
  · have HN := Lib.hid (ratio_no hb)
    have HB := Lib.hid hb
    clear hb
    go_enter Try.func32, Try.ntmps32
    go_wp2_with (first | (go_at_call 39; refine (l1In_any _ _ _ _).mono ?_; rintro e w' ⟨rfl, rfl⟩) | (go_at_call 46; refine (isNumberS_any _ _).mono ?_; rintro e w' ⟨rfl, rfl⟩) | (go_at_call 58; refine (gcdOf_any _ _ _).calls.mono ?_; rintro e w' ⟨rfl, x1, rfl⟩))
    all_goals go_ret
    all_goals first | exact ⟨ret_bool HN.out, (by repeat' (first | (with_reducible exact Below.refl _ _) | (with_reducible assumption) | (refine Below.via (by with_reducible assumption) ?_ ?_) | (with_reducible refine Ext.up _ ?_ ?_) | (with_reducible exact Nat.le_refl _) | (exact Below.size (by with_reducible assumption)) | (with_reducible refine Ext.le_size _ ?_) | (with_reducible refine le_alloc ?_ _) | (with_reducible refine le_setCell ?_ _ _) | (with_reducible refine le_drew ?_) | (with_reducible refine Below.alloc ?_ ?_ _) | (with_reducible refine Below.drew ?_) | (with_reducible refine Below.setCell ?_ ?_ _) | go_size | (simp [go_sem]; done) | omega | (simp [go_sem]; omega)))⟩ | (exfalso; have h1 := numB_true.1 ‹_›; have h2 := inB_true.1 ‹inB d 1 400000000 = true›; exact HB.out ⟨by omega, by omega, by omega, by omega⟩)
theorem ratioI_of {n d : Int} {t : Bool} (h : ratioB n d = t) (w : World) : Gives Try.prog 37 #[.agg #[.int .i64 n, .int .i64 d]] w (.bool t) := h ▸ ratioI_any n d w
theorem ratioS_of {n d : Int} {t : Bool} (h : ratioB n d = t) (w : World) : Gives Try.prog 32 #[.agg #[.int .i64 n, .int .i64 d]] w (.bool t) := h ▸ ratioS_any n d w
/-- the terms of the continued fraction of n / d -/
def cfTerms (n : Int) (d : Nat) : List Int := if _h : d = 0 then [] else (n / (d : Int)) :: cfTerms d (n % (d : Int)).toNat
termination_by d
decreasing_by
  have h1 := Int.emod_lt_of_pos n (show 0 < (d : Int) by omega)
  have h2 := Int.emod_nonneg n (show (d : Int) ≠ 0 by omega)
  omega
theorem cfTerms_zero (n : Int) : cfTerms n 0 = [] := by rw [cfTerms]; simp
theorem cfTerms_succ {n : Int} {d : Nat} (h : d ≠ 0) : cfTerms n d = (n / (d : Int)) :: cfTerms d (n % (d : Int)).toNat := by rw [cfTerms]; simp [h]
def cfOf (n d : Int) : List Int := if ratioB n d then cfTerms n d.toNat else []
def CRel (n : Int) (D : Nat) (w : World) (ov av bv : Value) (wr : World) : Prop :=
  ∃ (A : Option Addr) (k c : Nat) (ys : List Int) (a : Int) (b : Nat), ov = .slice A k c ∧ av = .int .i64 a ∧ bv = .int .i64 b ∧ OI wr w.heap.size A k c ys ∧ Hid (ys ++ cfTerms a b = cfTerms n D) ∧ k + b ≤ D ∧ -400000000 ≤ a ∧ a ≤ 400000000 ∧ Below w.heap.size w wr
theorem cfTerms_len : ∀ (d : Nat) (n : Int), (cfTerms n d).length ≤ d
  | d, n => by
    by_cases h : d = 0
    · subst h; rw [cfTerms_zero]; exact Nat.le_refl _
    · have := Int.emod_lt_of_pos n (show 0 < (d : Int) by omega)
      have := Int.emod_nonneg n (show (d : Int) ≠ 0 by omega)
      have := cfTerms_len (n % (d : Int)).toNat d
      rw [cfTerms_succ h, List.length_cons]; omega
termination_by d => d
decreasing_by
  have _ := Int.emod_lt_of_pos n (show 0 < (d : Int) by omega)
  have _ := Int.emod_nonneg n (show (d : Int) ≠ 0 by omega)
  omega
theorem cfOf_len (n d : Int) : (cfOf n d).length ≤ 400000000 := by
  unfold cfOf
  cases h : ratioB n d with
  | false => simp
  | true =>
    have h1 := ratioB_true h
    have h2 := cfTerms_len d.toNat n
    simp only [if_true]; omega
/-- What 'ContinuedOf' hands back. -/
def GotInts (base : Nat) (ok : Bool) (ys : List Int) (w0 : World) (e : Ending) (w' : World) : Prop :=
  ∃ A c, e = .returned (.tuple #[.slice A ys.length c, .bool ok]) ∧ OI w' base A ys.length c ys ∧ ∃ x : Ext w0, w' = x.val
set_option maxHeartbeats 2000000 in
set_option maxRecDepth 100000 in
theorem contI_yes (n d : Int) (w : World) (hr : ratioB n d = true) :
    Calls Try.prog 12 #[.agg #[.int .i64 n, .int .i64 d]] w (GotInts w.heap.size true (cfTerms n d.toNat) w) := by
  obtain ⟨h1, h2, h3, h4, _⟩ := ratioB_true hr
  obtain ⟨D, rfl⟩ := Int.eq_ofNat_of_zero_le (show 0 ≤ d by omega)
  rw [Int.toNat_natCast]
  go_enter Try.func12, Try.ntmps12
  go_wp2_with (go_at_call 37; refine (ratioI_of hr _).calls.mono ?_; rintro e w' ⟨rfl, x1, rfl⟩)
  go_loopw [4, 5, 6] (fun ov av bv wr => CRel n D w ov av bv wr) (fun _ _ bv _ => (intOf bv).toNat)
  case atStart => exact ⟨_, 0, 0, [], n, D, rfl, rfl, rfl, (by simpa [go_sem] using OI.empty (base := w.heap.size) (show w.heap.size ≤ x1.val.heap.size by have := x1.size; simp at this; omega)), rfl, by omega, h3, h4, (by repeat' (first | (with_reducible exact Below.refl _ _) | (with_reducible assumption) | (refine Below.via (by with_reducible assumption) ?_ ?_) | (with_reducible refine Ext.up _ ?_ ?_) | (with_reducible exact Nat.le_refl _) | (exact Below.size (by with_reducible assumption)) | (with_reducible refine Ext.le_size _ ?_) | (with_reducible refine le_alloc ?_ _) | (with_reducible refine le_setCell ?_ _ _) | (with_reducible refine le_drew ?_) | (with_reducible refine Below.alloc ?_ ?_ _) | (with_reducible refine Below.drew ?_) | (with_reducible refine Below.setCell ?_ ?_ _) | go_size | (simp [go_sem]; done) | omega | (simp [go_sem]; omega)))⟩
  case round =>
    obtain ⟨A, k, c, ys, a, b, rfl, rfl, rfl, hO, he, hkb, ha1, ha2, hb⟩ := hrel
    by_cases hb0 : b = 0
    · have hys : ys = cfTerms n D := by have := he.out; rw [hb0, cfTerms_zero, List.append_nil] at this; exact this
      have hk : k = (cfTerms n D).length := by rw [← hys]; exact hO.1.symm
      have HY := Lib.hid hys
      have HK := Lib.hid hk
      subst hb0
      clear hys hk
      go_wp2
      go_ret2
      exact ⟨A, c, by rw [HK.out]; rfl, by rw [← HY.out, hO.1]; exact hO, Ext.some hb⟩
    · have hm1 := Int.emod_lt_of_pos a (show 0 < (b : Int) by omega)
      have hm2 := Int.emod_nonneg a (show (b : Int) ≠ 0 by omega)
      have hdm := Int.mul_ediv_add_emod a (b : Int)
      rw [Int.mul_comm] at hdm
      have hq1 : -800000000 ≤ a / (b : Int) * (b : Int) := by omega
      have hq2 : a / (b : Int) * (b : Int) ≤ 800000000 := by omega
      have HE : Hid (a - a / (b : Int) * (b : Int) = ((a % (b : Int)).toNat : Int)) := by show _ = _; omega
      have hb2 : (a % (b : Int)).toNat < b := by omega
      have HC : Hid (cfTerms a b = (a / (b : Int)) :: cfTerms b (a % (b : Int)).toNat) := cfTerms_succ hb0
      have hbs := hb.size
      have hbz : ((b : Int) != 0) = true := bne_iff_ne.2 (by omega)
      have HQ : Hid (∀ w : World, Calls Try.prog 38 #[.int .i64 a, .int .i64 b] w fun e w' => e = .returned (.int .i64 (a / (b : Int))) ∧ w = w') := fun w => floorDiv_any a b w (by omega) (by omega) (by omega) (by omega)
      clear hdm hm1 hm2
      generalize a / (b : Int) = q at *
      generalize (a % (b : Int)).toNat = r at *
      go_wp2_with (first | (go_at_call 38; refine (HQ.out _).mono ?_; rintro e w' ⟨rfl, rfl⟩) | (at_builtin; refine wp_append_int rfl _ _ rfl w.heap.size A k c ys q wr.heap.size rfl rfl (hO.alloc _) (by simp) (by omega) (by simp; omega) ?_; intro A' c' w2 hO2 hb2))
      go_roundw
      case rel => exact ⟨A', k + 1, c', ys ++ [q], b, r, rfl, rfl, by rw [HE.out], hO2, by
        show (ys ++ [q]) ++ cfTerms b r = cfTerms n D
        rw [List.append_assoc, ← he.out, HC.out]; rfl, by omega, by omega, by omega, (hb.alloc hbs _).trans hb2⟩
      case measure => rw [HE.out]; simp [intOf]; omega
theorem contI_no (n d : Int) (w : World) (hr : ratioB n d = false) :
    Calls Try.prog 12 #[.agg #[.int .i64 n, .int .i64 d]] w (GotInts w.heap.size false [] w) := by
  go_enter Try.func12, Try.ntmps12
  go_wp2_with (go_at_call 37; refine (ratioI_of hr _).calls.mono ?_; rintro e w' ⟨rfl, x1, rfl⟩)
  go_ret2
  exact ⟨_, _, rfl, (by simpa [go_sem] using OI.empty (base := w.heap.size) (show w.heap.size ≤ x1.val.heap.size by have := x1.size; simp at this; omega)), Ext.some (by repeat' (first | (with_reducible exact Below.refl _ _) | (with_reducible assumption) | (refine Below.via (by with_reducible assumption) ?_ ?_) | (with_reducible refine Ext.up _ ?_ ?_) | (with_reducible exact Nat.le_refl _) | (exact Below.size (by with_reducible assumption)) | (with_reducible refine Ext.le_size _ ?_) | (with_reducible refine le_alloc ?_ _) | (with_reducible refine le_setCell ?_ _ _) | (with_reducible refine le_drew ?_) | (with_reducible refine Below.alloc ?_ ?_ _) | (with_reducible refine Below.drew ?_) | (with_reducible refine Below.setCell ?_ ?_ _) | go_size | (simp [go_sem]; done) | omega | (simp [go_sem]; omega)))⟩
theorem contI_any (n d : Int) (w : World) :
    Calls Try.prog 12 #[.agg #[.int .i64 n, .int .i64 d]] w (GotInts w.heap.size (ratioB n d) (cfOf n d) w) := by
  unfold cfOf
  cases h : ratioB n d with
  | true => exact contI_yes n d w h
  | false => exact contI_no n d w h
set_option maxHeartbeats 2000000 in
set_option maxRecDepth 100000 in
theorem contS_yes (n d : Int) (w : World) (hr : ratioB n d = true) :
    Calls Try.prog 10 #[.agg #[.int .i64 n, .int .i64 d]] w (GotInts w.heap.size true (cfTerms n d.toNat) w) := by
  obtain ⟨h1, h2, h3, h4, _⟩ := ratioB_true hr
  obtain ⟨D, rfl⟩ := Int.eq_ofNat_of_zero_le (show 0 ≤ d by omega)
  rw [Int.toNat_natCast]
  go_enter Try.func10, Try.ntmps10
  go_wp2_with (go_at_call 32; refine (ratioS_of hr _).calls.mono ?_; rintro e w' ⟨rfl, x1, rfl⟩)
  go_loopw [4, 5, 6] (fun ov av bv wr => CRel n D w ov av bv wr) (fun _ _ bv _ => (intOf bv).toNat)
  case atStart => exact ⟨_, 0, 0, [], n, D, rfl, rfl, rfl, (by simpa [go_sem] using OI.empty (base := w.heap.size) (show w.heap.size ≤ x1.val.heap.size by have := x1.size; simp at this; omega)), rfl, by omega, h3, h4, (by repeat' (first | (with_reducible exact Below.refl _ _) | (with_reducible assumption) | (refine Below.via (by with_reducible assumption) ?_ ?_) | (with_reducible refine Ext.up _ ?_ ?_) | (with_reducible exact Nat.le_refl _) | (exact Below.size (by with_reducible assumption)) | (with_reducible refine Ext.le_size _ ?_) | (with_reducible refine le_alloc ?_ _) | (with_reducible refine le_setCell ?_ _ _) | (with_reducible refine le_drew ?_) | (with_reducible refine Below.alloc ?_ ?_ _) | (with_reducible refine Below.drew ?_) | (with_reducible refine Below.setCell ?_ ?_ _) | go_size | (simp [go_sem]; done) | omega | (simp [go_sem]; omega)))⟩
  case round =>
    obtain ⟨A, k, c, ys, a, b, rfl, rfl, rfl, hO, he, hkb, ha1, ha2, hb⟩ := hrel
    by_cases hb0 : b = 0
    · have hys : ys = cfTerms n D := by have := he.out; rw [hb0, cfTerms_zero, List.append_nil] at this; exact this
      have hk : k = (cfTerms n D).length := by rw [← hys]; exact hO.1.symm
      have HY := Lib.hid hys
      have HK := Lib.hid hk
      subst hb0
      clear hys hk
      go_wp2
      go_ret2
      exact ⟨A, c, by rw [HK.out]; rfl, by rw [← HY.out, hO.1]; exact hO, Ext.some hb⟩
    · have hm1 := Int.emod_lt_of_pos a (show 0 < (b : Int) by omega)
      have hm2 := Int.emod_nonneg a (show (b : Int) ≠ 0 by omega)
      have hdm := Int.mul_ediv_add_emod a (b : Int)
      rw [Int.mul_comm] at hdm
      have hq1 : -800000000 ≤ a / (b : Int) * (b : Int) := by omega
      have hq2 : a / (b : Int) * (b : Int) ≤ 800000000 := by omega
      have HE : Hid (a - a / (b : Int) * (b : Int) = ((a % (b : Int)).toNat : Int)) := by show _ = _; omega
      have hb2 : (a % (b : Int)).toNat < b := by omega
      have HC : Hid (cfTerms a b = (a / (b : Int)) :: cfTerms b (a % (b : Int)).toNat) := cfTerms_succ hb0
      have hbs := hb.size
      have hbz : ((b : Int) != 0) = true := bne_iff_ne.2 (by omega)
      have HQ : Hid (∀ w : World, Calls Try.prog 36 #[.int .i64 a, .int .i64 b] w fun e w' => e = .returned (.int .i64 (a / (b : Int))) ∧ w = w') := fun w => l1Floor_any a b w (by omega) (by omega) (by omega) (by omega)
      clear hdm hm1 hm2
      generalize a / (b : Int) = q at *
      generalize (a % (b : Int)).toNat = r at *
      go_wp2_with (first | (go_at_call 36; refine (HQ.out _).mono ?_; rintro e w' ⟨rfl, rfl⟩) | (at_builtin; refine wp_append_int rfl _ _ rfl w.heap.size A k c ys q wr.heap.size rfl rfl (hO.alloc _) (by simp) (by omega) (by simp; omega) ?_; intro A' c' w2 hO2 hb2))
      go_roundw
      case rel => exact ⟨A', k + 1, c', ys ++ [q], b, r, rfl, rfl, by rw [HE.out], hO2, by
        show (ys ++ [q]) ++ cfTerms b r = cfTerms n D
        rw [List.append_assoc, ← he.out, HC.out]; rfl, by omega, by omega, by omega, (hb.alloc hbs _).trans hb2⟩
      case measure => rw [HE.out]; simp [intOf]; omega
theorem contS_no (n d : Int) (w : World) (hr : ratioB n d = false) :
    Calls Try.prog 10 #[.agg #[.int .i64 n, .int .i64 d]] w (GotInts w.heap.size false [] w) := by
  go_enter Try.func10, Try.ntmps10
  go_wp2_with (go_at_call 32; refine (ratioS_of hr _).calls.mono ?_; rintro e w' ⟨rfl, x1, rfl⟩)
  go_ret2
  exact ⟨_, _, rfl, (by simpa [go_sem] using OI.empty (base := w.heap.size) (show w.heap.size ≤ x1.val.heap.size by have := x1.size; simp at this; omega)), Ext.some (by repeat' (first | (with_reducible exact Below.refl _ _) | (with_reducible assumption) | (refine Below.via (by with_reducible assumption) ?_ ?_) | (with_reducible refine Ext.up _ ?_ ?_) | (with_reducible exact Nat.le_refl _) | (exact Below.size (by with_reducible assumption)) | (with_reducible refine Ext.le_size _ ?_) | (with_reducible refine le_alloc ?_ _) | (with_reducible refine le_setCell ?_ _ _) | (with_reducible refine le_drew ?_) | (with_reducible refine Below.alloc ?_ ?_ _) | (with_reducible refine Below.drew ?_) | (with_reducible refine Below.setCell ?_ ?_ _) | go_size | (simp [go_sem]; done) | omega | (simp [go_sem]; omega)))⟩
theorem contS_any (n d : Int) (w : World) :
    Calls Try.prog 10 #[.agg #[.int .i64 n, .int .i64 d]] w (GotInts w.heap.size (ratioB n d) (cfOf n d) w) := by
  unfold cfOf
  cases h : ratioB n d with
  | true => exact contS_yes n d w h
  | false => exact contS_no n d w h
set_option maxHeartbeats 400000 in
theorem toRatio_any (a b : Int) (w : World) :
    Gives Try.prog 11 #[.agg #[.int .i64 a, .int .i64 b]] w (.agg #[.int .i64 a, .int .i64 b]) := by
  refine Gives.of_below ?_
  go_enter Try.func11, Try.ntmps11
  go_wp2
  exact bodyPost_ret (v := .agg #[.int .i64 a, .int .i64 b]) (by simp [results, Try.results11, go_sem]) rfl ⟨rfl, (by repeat' (first | (with_reducible exact Below.refl _ _) | (with_reducible assumption) | (refine Below.via (by with_reducible assumption) ?_ ?_) | (with_reducible refine Ext.up _ ?_ ?_) | (with_reducible exact Nat.le_refl _) | (exact Below.size (by with_reducible assumption)) | (with_reducible refine Ext.le_size _ ?_) | (with_reducible refine le_alloc ?_ _) | (with_reducible refine le_setCell ?_ _ _) | (with_reducible refine le_drew ?_) | (with_reducible refine Below.alloc ?_ ?_ _) | (with_reducible refine Below.drew ?_) | (with_reducible refine Below.setCell ?_ ?_ _) | go_size | (simp [go_sem]; done) | omega | (simp [go_sem]; omega)))⟩
end Go.Proofs.Ytimaihabaflhiaa
