/-
  WALKS: arithmetic of ratios.
-/
import Derived.Test.YtbaaelampabhdaaCont
set_option linter.unusedVariables false
set_option linter.unusedSimpArgs false
namespace Go.Proofs.Ytbaaelampabhdaa
open Go.RowKit

def redR (x y : Int) : Int × Int := if ratioB x y then (x, y) else (0, 0)
def lowR (n d : Int) : Int × Int :=
  if d < 0 then redR (-(n / (Int.gcd n d : Int))) (-(d / (Int.gcd n d : Int))) else redR (n / (Int.gcd n d : Int)) (d / (Int.gcd n d : Int))
theorem gcd_pos_of {n d : Int} (h : d ≠ 0) : 0 < (Int.gcd n d : Int) := by
  have := Int.gcd_pos_of_ne_zero_right n h; omega
theorem tdiv_left {n d : Int} (_h : d ≠ 0) : n.tdiv (Int.gcd n d) = n / (Int.gcd n d : Int) :=
  (Int.tdiv_eq_ediv_of_dvd (Int.gcd_dvd_left n d))
theorem tdiv_right {n d : Int} (_h : d ≠ 0) : d.tdiv (Int.gcd n d) = d / (Int.gcd n d : Int) :=
  (Int.tdiv_eq_ediv_of_dvd (Int.gcd_dvd_right n d))
theorem redR_yes {x y : Int} (h : ratioB x y = true) : redR x y = (x, y) := by simp [redR, h]
theorem redR_no {x y : Int} (h : ratioB x y = false) : redR x y = (0, 0) := by simp [redR, h]
theorem lowR_pos {n d : Int} (h : 0 < d) : lowR n d = redR (n.tdiv (Int.gcd n d)) (d.tdiv (Int.gcd n d)) := by
  rw [lowR, if_neg (by omega), tdiv_left (by omega), tdiv_right (by omega)]
theorem lowR_neg {n d : Int} (h : d < 0) : lowR n d = redR (-(n.tdiv (Int.gcd n d))) (-(d.tdiv (Int.gcd n d))) := by
  rw [lowR, if_pos h, tdiv_left (by omega), tdiv_right (by omega)]
theorem lowR_flip (n d : Int) (h : d < 0) : lowR n d = lowR (-n) (-d) := by
  rw [lowR_neg h, lowR_pos (by omega), Int.gcd_neg, Int.neg_gcd]
  rw [Int.neg_tdiv, Int.neg_tdiv]

@[go_sem low] theorem alloc_frozen {W : World} (c : Array Value) (t : TypeId) (b o : Nat) : (W.alloc (.cells c t)).frozen? ⟨b, o, none⟩ = if b < W.heap.size then W.frozen? ⟨b, o, none⟩ else false := by
  rw [frozen?_alloc_cells]
  split
  · rfl
  · have e : W.heap[b]? = none := by simp; omega
    simp [World.frozen?, e]
theorem pair_val {p : Int × Int} {x y : Int} (h : Hid (p = (x, y))) : Value.agg #[.int .i64 x, .int .i64 y] = .agg #[.int .i64 p.1, .int .i64 p.2] := by rw [h.out]
set_option maxHeartbeats 2000000 in
theorem makeS_pos (n d : Int) (w : World) (hn : -1000000000000000000 ≤ n) (hn' : n ≤ 1000000000000000000) (hd : 0 < d) (hd' : d ≤ 1000000000000000000) :
    Gives Try.prog 117 #[.int .i64 n, .int .i64 d] w (.agg #[.int .i64 (lowR n d).1, .int .i64 (lowR n d).2]) := by
  refine Gives.of_below ?_
  have HL := Lib.hid (lowR_pos (n := n) hd)
  have hg0 := gcd_pos_of (n := n) (d := d) (by omega)
  have hdz : (d == 0) = false := beq_eq_false_iff_ne.2 (by omega)
  have hdl : decide (d < 0) = false := decide_eq_false (by omega)
  go_enter Try.func117, Try.ntmps117
  go_wp2_with fail
  go_loopw [5, 6] (fun s t wr => ∃ x y : Int, s = .int .i64 x ∧ t = .int .i64 y ∧ -1000000000000000000 ≤ x ∧ x ≤ 1000000000000000000 ∧ -1000000000000000000 ≤ y ∧ y ≤ 1000000000000000000 ∧ Hid (Int.gcd x y = Int.gcd n d) ∧ IsExt (w.alloc (.cells #[.int .i64 0, .int .i64 0] 90)) wr) (fun _ t _ => (intOf t).natAbs)
  case atStart => exact ⟨n, d, rfl, rfl, by omega, by omega, by omega, by omega, rfl, IsExt.of (Below.refl _ _)⟩
  case round =>
    obtain ⟨x, y, rfl, rfl, hx, hx', hy, hy', hg, hw⟩ := hrel
    obtain ⟨x0, rfl⟩ := hw
    by_cases h0 : y = 0
    · subst h0
      have HA := Lib.hid fun w => l1Abs_any x w (by omega) (by omega)
      have hgg : (x.natAbs : Int) = (Int.gcd n d : Int) := by rw [← hg.out]; simp
      rw [hgg] at HA
      have hg1 : (Int.gcd n d : Int) ≤ 1000000000000000000 := by rw [← hgg]; omega
      clear hgg hg
      generalize (Int.gcd n d : Int) = g at *
      have hq1 := tdiv_bd n g
      have hq2 := tdiv_bd d g
      have hq3 : -1000000000000000000 ≤ Int.tdiv n g := by omega
      have hq4 : Int.tdiv n g ≤ 1000000000000000000 := by omega
      have hq5 : -1000000000000000000 ≤ Int.tdiv d g := by omega
      have hq6 : Int.tdiv d g ≤ 1000000000000000000 := by omega
      clear hq1 hq2
      cases hr : ratioB (n.tdiv g) (d.tdiv g) with
      | true =>
        have HE := Lib.hid (HL.out.trans (redR_yes hr))
        go_wp2_with (first | (go_at_call 92; refine (HA.out _).mono ?_; rintro e w' ⟨rfl, rfl⟩) | (go_at_call 115; refine (ratioS_of hr _).calls.mono ?_; rintro e w' ⟨rfl, x1, rfl⟩))
        go_region
        go_wp2_with (first | (go_at_call 92; refine (HA.out _).mono ?_; rintro e w' ⟨rfl, rfl⟩) | (go_at_call 115; refine (ratioS_of hr _).calls.mono ?_; rintro e w' ⟨rfl, x1, rfl⟩))
        exact bodyPost_ret (v := .agg #[.int .i64 (n.tdiv g), .int .i64 (d.tdiv g)]) (by simp [results, Try.results117, go_sem, ↓IntWalk.iteOmega]) rfl ⟨ret_val (pair_val HE), (by repeat' (first | (with_reducible exact Below.refl _ _) | (with_reducible assumption) | (refine Below.via (by with_reducible assumption) ?_ ?_) | (with_reducible refine Ext.up _ ?_ ?_) | (with_reducible exact Nat.le_refl _) | (exact Below.size (by with_reducible assumption)) | (with_reducible refine Ext.le_size _ ?_) | (with_reducible refine le_alloc ?_ _) | (with_reducible refine le_setCell ?_ _ _) | (with_reducible refine le_drew ?_) | (with_reducible refine Below.alloc ?_ ?_ _) | (with_reducible refine Below.drew ?_) | (with_reducible refine Below.setCell ?_ ?_ _) | go_size | (simp [go_sem]; done) | omega | (simp [go_sem]; omega)))⟩
      | false =>
        have HE := Lib.hid (HL.out.trans (redR_no hr))
        go_wp2_with (first | (go_at_call 92; refine (HA.out _).mono ?_; rintro e w' ⟨rfl, rfl⟩) | (go_at_call 115; refine (ratioS_of hr _).calls.mono ?_; rintro e w' ⟨rfl, x1, rfl⟩))
        go_region
        go_wp2_with (first | (go_at_call 92; refine (HA.out _).mono ?_; rintro e w' ⟨rfl, rfl⟩) | (go_at_call 115; refine (ratioS_of hr _).calls.mono ?_; rintro e w' ⟨rfl, x1, rfl⟩))
        exact bodyPost_ret (v := .agg #[.int .i64 0, .int .i64 0]) (by simp [results, Try.results117, go_sem, ↓IntWalk.iteOmega]) rfl ⟨ret_val (pair_val HE), (by repeat' (first | (with_reducible exact Below.refl _ _) | (with_reducible assumption) | (refine Below.via (by with_reducible assumption) ?_ ?_) | (with_reducible refine Ext.up _ ?_ ?_) | (with_reducible exact Nat.le_refl _) | (exact Below.size (by with_reducible assumption)) | (with_reducible refine Ext.le_size _ ?_) | (with_reducible refine le_alloc ?_ _) | (with_reducible refine le_setCell ?_ _ _) | (with_reducible refine le_drew ?_) | (with_reducible refine Below.alloc ?_ ?_ _) | (with_reducible refine Below.drew ?_) | (with_reducible refine Below.setCell ?_ ?_ _) | go_size | (simp [go_sem]; done) | omega | (simp [go_sem]; omega)))⟩
    · go_wp2
      go_region
      have hz : (x.tmod y).natAbs = x.natAbs % y.natAbs := Int.natAbs_tmod x y
      have hl : x.natAbs % y.natAbs < y.natAbs := Nat.mod_lt _ (by omega)
      go_wp2
      go_roundw
      case rel => exact ⟨y, x.tmod y, rfl, rfl, hy, hy', by omega, by omega, (gcd_step x y).trans hg.out, IsExt.of (by repeat' (first | (with_reducible exact Below.refl _ _) | (with_reducible assumption) | (refine Below.via (by with_reducible assumption) ?_ ?_) | (with_reducible refine Ext.up _ ?_ ?_) | (with_reducible exact Nat.le_refl _) | (exact Below.size (by with_reducible assumption)) | (with_reducible refine Ext.le_size _ ?_) | (with_reducible refine le_alloc ?_ _) | (with_reducible refine le_setCell ?_ _ _) | (with_reducible refine le_drew ?_) | (with_reducible refine Below.alloc ?_ ?_ _) | (with_reducible refine Below.drew ?_) | (with_reducible refine Below.setCell ?_ ?_ _) | go_size | (simp [go_sem]; done) | omega | (simp [go_sem]; omega)))⟩
      case measure => simp [intOf]; omega
set_option maxHeartbeats 2000000 in
theorem makeS_neg (n d : Int) (w : World) (hn : -1000000000000000000 ≤ n) (hn' : n ≤ 1000000000000000000) (hd : -1000000000000000000 ≤ d) (hd' : d < 0) :
    Gives Try.prog 117 #[.int .i64 n, .int .i64 d] w (.agg #[.int .i64 (lowR n d).1, .int .i64 (lowR n d).2]) := by
  refine Gives.of_below ?_
  have HL := Lib.hid ((lowR_flip n d hd').trans (lowR_pos (n := -n) (d := -d) (by omega)))
  have hg0 := gcd_pos_of (n := (-n)) (d := (-d)) (by omega)
  have hdz : (d == 0) = false := beq_eq_false_iff_ne.2 (by omega)
  have hdl : decide (d < 0) = true := decide_eq_true (by omega)
  go_enter Try.func117, Try.ntmps117
  go_wp2_with fail
  go_loopw [5, 6] (fun s t wr => ∃ x y : Int, s = .int .i64 x ∧ t = .int .i64 y ∧ -1000000000000000000 ≤ x ∧ x ≤ 1000000000000000000 ∧ -1000000000000000000 ≤ y ∧ y ≤ 1000000000000000000 ∧ Hid (Int.gcd x y = Int.gcd (-n) (-d)) ∧ IsExt (w.alloc (.cells #[.int .i64 0, .int .i64 0] 90)) wr) (fun _ t _ => (intOf t).natAbs)
  case atStart => exact ⟨(-n), (-d), rfl, rfl, by omega, by omega, by omega, by omega, rfl, IsExt.of (Below.refl _ _)⟩
  case round =>
    obtain ⟨x, y, rfl, rfl, hx, hx', hy, hy', hg, hw⟩ := hrel
    obtain ⟨x0, rfl⟩ := hw
    by_cases h0 : y = 0
    · subst h0
      have HA := Lib.hid fun w => l1Abs_any x w (by omega) (by omega)
      have hgg : (x.natAbs : Int) = (Int.gcd (-n) (-d) : Int) := by rw [← hg.out]; simp
      rw [hgg] at HA
      have hg1 : (Int.gcd (-n) (-d) : Int) ≤ 1000000000000000000 := by rw [← hgg]; omega
      clear hgg hg
      generalize (Int.gcd (-n) (-d) : Int) = g at *
      have hq1 := tdiv_bd (-n) g
      have hq2 := tdiv_bd (-d) g
      have hq3 : -1000000000000000000 ≤ Int.tdiv (-n) g := by omega
      have hq4 : Int.tdiv (-n) g ≤ 1000000000000000000 := by omega
      have hq5 : -1000000000000000000 ≤ Int.tdiv (-d) g := by omega
      have hq6 : Int.tdiv (-d) g ≤ 1000000000000000000 := by omega
      clear hq1 hq2
      simp only [Int.neg_tdiv] at *
      cases hr : ratioB (-(n.tdiv g)) (-(d.tdiv g)) with
      | true =>
        have HE := Lib.hid (HL.out.trans (redR_yes hr))
        go_wp2_with (first | (go_at_call 92; refine (HA.out _).mono ?_; rintro e w' ⟨rfl, rfl⟩) | (go_at_call 115; refine (ratioS_of hr _).calls.mono ?_; rintro e w' ⟨rfl, x1, rfl⟩))
        go_region
        go_wp2_with (first | (go_at_call 92; refine (HA.out _).mono ?_; rintro e w' ⟨rfl, rfl⟩) | (go_at_call 115; refine (ratioS_of hr _).calls.mono ?_; rintro e w' ⟨rfl, x1, rfl⟩))
        exact bodyPost_ret (v := .agg #[.int .i64 (-(n.tdiv g)), .int .i64 (-(d.tdiv g))]) (by simp [results, Try.results117, go_sem, ↓IntWalk.iteOmega]) rfl ⟨ret_val (pair_val HE), (by repeat' (first | (with_reducible exact Below.refl _ _) | (with_reducible assumption) | (refine Below.via (by with_reducible assumption) ?_ ?_) | (with_reducible refine Ext.up _ ?_ ?_) | (with_reducible exact Nat.le_refl _) | (exact Below.size (by with_reducible assumption)) | (with_reducible refine Ext.le_size _ ?_) | (with_reducible refine le_alloc ?_ _) | (with_reducible refine le_setCell ?_ _ _) | (with_reducible refine le_drew ?_) | (with_reducible refine Below.alloc ?_ ?_ _) | (with_reducible refine Below.drew ?_) | (with_reducible refine Below.setCell ?_ ?_ _) | go_size | (simp [go_sem]; done) | omega | (simp [go_sem]; omega)))⟩
      | false =>
        have HE := Lib.hid (HL.out.trans (redR_no hr))
        go_wp2_with (first | (go_at_call 92; refine (HA.out _).mono ?_; rintro e w' ⟨rfl, rfl⟩) | (go_at_call 115; refine (ratioS_of hr _).calls.mono ?_; rintro e w' ⟨rfl, x1, rfl⟩))
        go_region
        go_wp2_with (first | (go_at_call 92; refine (HA.out _).mono ?_; rintro e w' ⟨rfl, rfl⟩) | (go_at_call 115; refine (ratioS_of hr _).calls.mono ?_; rintro e w' ⟨rfl, x1, rfl⟩))
        exact bodyPost_ret (v := .agg #[.int .i64 0, .int .i64 0]) (by simp [results, Try.results117, go_sem, ↓IntWalk.iteOmega]) rfl ⟨ret_val (pair_val HE), (by repeat' (first | (with_reducible exact Below.refl _ _) | (with_reducible assumption) | (refine Below.via (by with_reducible assumption) ?_ ?_) | (with_reducible refine Ext.up _ ?_ ?_) | (with_reducible exact Nat.le_refl _) | (exact Below.size (by with_reducible assumption)) | (with_reducible refine Ext.le_size _ ?_) | (with_reducible refine le_alloc ?_ _) | (with_reducible refine le_setCell ?_ _ _) | (with_reducible refine le_drew ?_) | (with_reducible refine Below.alloc ?_ ?_ _) | (with_reducible refine Below.drew ?_) | (with_reducible refine Below.setCell ?_ ?_ _) | go_size | (simp [go_sem]; done) | omega | (simp [go_sem]; omega)))⟩
    · go_wp2
      go_region
      have hz : (x.tmod y).natAbs = x.natAbs % y.natAbs := Int.natAbs_tmod x y
      have hl : x.natAbs % y.natAbs < y.natAbs := Nat.mod_lt _ (by omega)
      go_wp2
      go_roundw
      case rel => exact ⟨y, x.tmod y, rfl, rfl, hy, hy', by omega, by omega, (gcd_step x y).trans hg.out, IsExt.of (by repeat' (first | (with_reducible exact Below.refl _ _) | (with_reducible assumption) | (refine Below.via (by with_reducible assumption) ?_ ?_) | (with_reducible refine Ext.up _ ?_ ?_) | (with_reducible exact Nat.le_refl _) | (exact Below.size (by with_reducible assumption)) | (with_reducible refine Ext.le_size _ ?_) | (with_reducible refine le_alloc ?_ _) | (with_reducible refine le_setCell ?_ _ _) | (with_reducible refine le_drew ?_) | (with_reducible refine Below.alloc ?_ ?_ _) | (with_reducible refine Below.drew ?_) | (with_reducible refine Below.setCell ?_ ?_ _) | go_size | (simp [go_sem]; done) | omega | (simp [go_sem]; omega)))⟩
      case measure => simp [intOf]; omega
theorem makeS_any (n d : Int) (w : World) (hn : -1000000000000000000 ≤ n) (hn' : n ≤ 1000000000000000000) (hd : -1000000000000000000 ≤ d) (hd' : d ≤ 1000000000000000000) (h0 : d ≠ 0) :
    Gives Try.prog 117 #[.int .i64 n, .int .i64 d] w (.agg #[.int .i64 (lowR n d).1, .int .i64 (lowR n d).2]) := by
  rcases Int.lt_or_lt_of_ne h0 with h | h
  · exact makeS_neg n d w hn hn' hd h
  · exact makeS_pos n d w hn hn' h hd'
end Go.Proofs.Ytbaaelampabhdaa
