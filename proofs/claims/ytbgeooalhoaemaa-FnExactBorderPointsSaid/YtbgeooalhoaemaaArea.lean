/-
  WALKS: DoubleArea and BorderPoints of both packages.
-/
import Derived.Test.YtbgeooalhoaemaaPoly
namespace Go.Proofs.Ytbgeooalhoaemaa
open Go.RowKit

theorem polyB_true {ps : List (Int × Int)} (h : polyB ps = true) : 3 ≤ ps.length ∧ ps.length ≤ 8 ∧ ps.all ptOk = true := by
  simp only [polyB, Bool.and_eq_true, decide_eq_true_eq] at h
  exact ⟨h.1.1, h.1.2, h.2.1⟩
theorem polyI_of {ps : List (Int × Int)} {t : Bool} (h : polyB ps = t) (A : Option Addr) (c : Nat) (w : World) (hx : RP w A ps) (hn : ps.length ≤ 1048576) :
    Gives Try.prog 23 #[.slice A ps.length c] w (.bool t) := h ▸ polyI_any A c ps w hx hn
theorem polyS_of {ps : List (Int × Int)} {t : Bool} (h : polyB ps = t) (A : Option Addr) (c : Nat) (w : World) (hx : RP w A ps) (hn : ps.length ≤ 1048576) :
    Gives Try.prog 21 #[.slice A ps.length c] w (.bool t) := h ▸ polyS_any A c ps w hx hn
def areaTo (ps : List (Int × Int)) : Nat → Int
  | 0 => 0
  | m + 1 => areaTo ps m + turn (pt ps 0) (pt ps (m + 1)) (pt ps (m + 2))
def areaN (ps : List (Int × Int)) : Int := if polyB ps then areaTo ps (ps.length - 2) else 0
theorem pt_ok {ps : List (Int × Int)} (h : ps.all ptOk = true) (i : Nat) : ptOk (pt ps i) = true := by
  by_cases hi : i < ps.length
  · rw [pt_get hi]; exact List.all_eq_true.1 h _ (List.getElem_mem hi)
  · simp [pt, hi, ptOk]
theorem areaTo_bd {ps : List (Int × Int)} (h : ps.all ptOk = true) : ∀ m : Nat, -(800 * (m : Int)) ≤ areaTo ps m ∧ areaTo ps m ≤ 800 * (m : Int)
  | 0 => by simp [areaTo]
  | m + 1 => by
    have h1 := areaTo_bd h m
    have h2 := turn_le (pt_ok h 0) (pt_ok h (m + 1)) (pt_ok h (m + 2))
    simp only [areaTo]; omega
theorem areaTo_step {ps : List (Int × Int)} {i : Nat} (h1 : 1 ≤ i) (h : i + 1 < ps.length) : areaTo ps i = areaTo ps (i - 1) + turn (ps[0]'(by omega)) (ps[i]'(by omega)) ps[i + 1] := by
  obtain ⟨m, rfl⟩ : ∃ m, i = m + 1 := ⟨i - 1, by omega⟩
  simp only [areaTo, Nat.add_sub_cancel]
  rw [pt_get (i := 0) (by omega), pt_get (i := m + 1) (by omega), pt_get (i := m + 2) (by omega)]

set_option maxHeartbeats 2000000 in
theorem areaS_any (A : Option Addr) (c : Nat) (ps : List (Int × Int)) (w : World) (hx : RP w A ps) (hn : ps.length ≤ 1048576) :
    Gives Try.prog 29 #[.slice A ps.length c] w (.tuple #[.int .i64 (areaN ps), .bool (polyB ps)]) := by
  refine Gives.of_below ?_
  by_cases hp : polyB ps = true
  · obtain ⟨hd1, hd2, hall⟩ := polyB_true hp
    have HA := Lib.hid hall
    have HN : Hid (areaN ps = areaTo ps (ps.length - 2)) := by show areaN ps = _; rw [areaN, if_pos hp]
    have HP := Lib.hid hp
    clear hall hp
    go_enter Try.func29, Try.ntmps29
    go_wp2_with (go_at_call 21; refine (polyS_of HP.out _ _ _ (by first | (with_reducible assumption) | (refine RP.up (by with_reducible assumption) ?_; exact (by repeat' (first | (with_reducible exact Below.refl _ _) | (with_reducible assumption) | (with_reducible refine Ext.up _ ?_ ?_) | (with_reducible exact Nat.le_refl _) | (exact Below.size (by with_reducible assumption)) | (with_reducible refine Ext.le_size _ ?_) | (with_reducible refine le_alloc ?_ _) | (with_reducible refine le_setCell ?_ _ _) | (with_reducible refine le_drew ?_) | (with_reducible refine Below.alloc ?_ ?_ _) | (with_reducible refine Below.drew ?_) | (with_reducible refine Below.setCell ?_ ?_ _) | go_size | (simp [go_sem]; done) | omega)))) hn).calls.mono ?_; rintro e w' ⟨rfl, x1, rfl⟩)
    go_loopw [4, 5] (fun s iv wr => ∃ i : Nat, 1 ≤ i ∧ i + 1 ≤ ps.length ∧ iv = .int .i64 i ∧ s = .int .i64 (areaTo ps (i - 1)) ∧ Below w.heap.size w wr) (fun _ iv _ => ps.length - (intOf iv).toNat)
    case atStart => exact ⟨1, Nat.le_refl _, by omega, rfl, rfl, (by repeat' (first | (with_reducible exact Below.refl _ _) | (with_reducible assumption) | (with_reducible refine Ext.up _ ?_ ?_) | (with_reducible exact Nat.le_refl _) | (exact Below.size (by with_reducible assumption)) | (with_reducible refine Ext.le_size _ ?_) | (with_reducible refine le_alloc ?_ _) | (with_reducible refine le_setCell ?_ _ _) | (with_reducible refine le_drew ?_) | (with_reducible refine Below.alloc ?_ ?_ _) | (with_reducible refine Below.drew ?_) | (with_reducible refine Below.setCell ?_ ?_ _) | go_size | (simp [go_sem]; done) | omega))⟩
    case round =>
      obtain ⟨i, hi1, hi2, rfl, rfl, hb⟩ := hrel
      have ⟨b1, b2⟩ := areaTo_bd HA.out (i - 1)
      by_cases hlt : i + 1 < ps.length
      · have hst := areaTo_step hi1 hlt
        have ⟨b3, b4⟩ := areaTo_bd HA.out i
        rw [hst] at b3 b4
        have HS := Lib.hid hst
        have o1 : ptOk (ps[0]'(by omega)) = true := List.all_eq_true.1 HA.out _ (List.getElem_mem _)
        have o2 : ptOk (ps[i]'(by omega)) = true := List.all_eq_true.1 HA.out _ (List.getElem_mem _)
        have o3 : ptOk ps[i + 1] = true := List.all_eq_true.1 HA.out _ (List.getElem_mem _)
        obtain ⟨b, off, rfl, hbl, hc1, hc2⟩ := (hx.up hb).at_ (show 0 < ps.length by omega)
        obtain ⟨_, _, hbe, hbl2, hc3, hc4⟩ := (hx.up hb).at_ (show i < ps.length by omega)
        cases hbe
        obtain ⟨_, _, hbe, hbl3, hc5, hc6⟩ := (hx.up hb).at_ hlt
        cases hbe
        simp only [Nat.zero_mul, Nat.add_zero] at hc1 hc2
        clear hst
        go_wp2
        (refine wp_region_ext (by kernel_rfl) (by kernel_rfl) ?_; (repeat (go_big_quiet_step ((go_at_call 59; exact Gives.quiet (turnS_any _ _ _ _ o1 o2 o3))))); refine wpQuiet_nil ?_; intro _ hw'; obtain ⟨xq, hw''⟩ := hw'; subst hw'')
        go_wp2
        go_roundw
        case rel => exact ⟨i + 1, by omega, by omega, by go_num, by rw [Nat.add_sub_cancel, HS.out], (by repeat' (first | (with_reducible exact Below.refl _ _) | (with_reducible assumption) | (with_reducible refine Ext.up _ ?_ ?_) | (with_reducible exact Nat.le_refl _) | (exact Below.size (by with_reducible assumption)) | (with_reducible refine Ext.le_size _ ?_) | (with_reducible refine le_alloc ?_ _) | (with_reducible refine le_setCell ?_ _ _) | (with_reducible refine le_drew ?_) | (with_reducible refine Below.alloc ?_ ?_ _) | (with_reducible refine Below.drew ?_) | (with_reducible refine Below.setCell ?_ ?_ _) | go_size | (simp [go_sem]; done) | omega))⟩
        case measure => simp [intOf]; omega
      · go_wp2
        go_ret2
        have : i - 1 = ps.length - 2 := by omega
        exact ⟨ret_val (by rw [HN.out, HP.out, ← this]; rfl), hb⟩
  · have hp' : polyB ps = false := by simpa using hp
    have HN : Hid (areaN ps = 0) := by show areaN ps = _; rw [areaN, hp']; rfl
    have HP := Lib.hid hp'
    clear hp hp'
    go_enter Try.func29, Try.ntmps29
    go_wp2_with (go_at_call 21; refine (polyS_of HP.out _ _ _ (by first | (with_reducible assumption) | (refine RP.up (by with_reducible assumption) ?_; exact (by repeat' (first | (with_reducible exact Below.refl _ _) | (with_reducible assumption) | (with_reducible refine Ext.up _ ?_ ?_) | (with_reducible exact Nat.le_refl _) | (exact Below.size (by with_reducible assumption)) | (with_reducible refine Ext.le_size _ ?_) | (with_reducible refine le_alloc ?_ _) | (with_reducible refine le_setCell ?_ _ _) | (with_reducible refine le_drew ?_) | (with_reducible refine Below.alloc ?_ ?_ _) | (with_reducible refine Below.drew ?_) | (with_reducible refine Below.setCell ?_ ?_ _) | go_size | (simp [go_sem]; done) | omega)))) hn).calls.mono ?_; rintro e w' ⟨rfl, x1, rfl⟩)
    go_ret2
    exact ⟨ret_val (by rw [HN.out, HP.out]; rfl), (by repeat' (first | (with_reducible exact Below.refl _ _) | (with_reducible assumption) | (with_reducible refine Ext.up _ ?_ ?_) | (with_reducible exact Nat.le_refl _) | (exact Below.size (by with_reducible assumption)) | (with_reducible refine Ext.le_size _ ?_) | (with_reducible refine le_alloc ?_ _) | (with_reducible refine le_setCell ?_ _ _) | (with_reducible refine le_drew ?_) | (with_reducible refine Below.alloc ?_ ?_ _) | (with_reducible refine Below.drew ?_) | (with_reducible refine Below.setCell ?_ ?_ _) | go_size | (simp [go_sem]; done) | omega))⟩
set_option maxHeartbeats 2000000 in
theorem areaI_any (A : Option Addr) (c : Nat) (ps : List (Int × Int)) (w : World) (hx : RP w A ps) (hn : ps.length ≤ 1048576) :
    Gives Try.prog 30 #[.slice A ps.length c] w (.tuple #[.int .i64 (areaN ps), .bool (polyB ps)]) := by
  refine Gives.of_below ?_
  by_cases hp : polyB ps = true
  · obtain ⟨hd1, hd2, hall⟩ := polyB_true hp
    have HA := Lib.hid hall
    have HN : Hid (areaN ps = areaTo ps (ps.length - 2)) := by show areaN ps = _; rw [areaN, if_pos hp]
    have HP := Lib.hid hp
    clear hall hp
    go_enter Try.func30, Try.ntmps30
    go_wp2_with (go_at_call 23; refine (polyI_of HP.out _ _ _ (by first | (with_reducible assumption) | (refine RP.up (by with_reducible assumption) ?_; exact (by repeat' (first | (with_reducible exact Below.refl _ _) | (with_reducible assumption) | (with_reducible refine Ext.up _ ?_ ?_) | (with_reducible exact Nat.le_refl _) | (exact Below.size (by with_reducible assumption)) | (with_reducible refine Ext.le_size _ ?_) | (with_reducible refine le_alloc ?_ _) | (with_reducible refine le_setCell ?_ _ _) | (with_reducible refine le_drew ?_) | (with_reducible refine Below.alloc ?_ ?_ _) | (with_reducible refine Below.drew ?_) | (with_reducible refine Below.setCell ?_ ?_ _) | go_size | (simp [go_sem]; done) | omega)))) hn).calls.mono ?_; rintro e w' ⟨rfl, x1, rfl⟩)
    go_loopw [4, 5] (fun s iv wr => ∃ i : Nat, 1 ≤ i ∧ i + 1 ≤ ps.length ∧ iv = .int .i64 ((i + 1 : Nat) : Int) ∧ s = .int .i64 (areaTo ps (i - 1)) ∧ Below w.heap.size w wr) (fun _ iv _ => ps.length - (intOf iv).toNat)
    case atStart => exact ⟨1, Nat.le_refl _, by omega, rfl, rfl, (by repeat' (first | (with_reducible exact Below.refl _ _) | (with_reducible assumption) | (with_reducible refine Ext.up _ ?_ ?_) | (with_reducible exact Nat.le_refl _) | (exact Below.size (by with_reducible assumption)) | (with_reducible refine Ext.le_size _ ?_) | (with_reducible refine le_alloc ?_ _) | (with_reducible refine le_setCell ?_ _ _) | (with_reducible refine le_drew ?_) | (with_reducible refine Below.alloc ?_ ?_ _) | (with_reducible refine Below.drew ?_) | (with_reducible refine Below.setCell ?_ ?_ _) | go_size | (simp [go_sem]; done) | omega))⟩
    case round =>
      obtain ⟨i, hi1, hi2, rfl, rfl, hb⟩ := hrel
      have ⟨b1, b2⟩ := areaTo_bd HA.out (i - 1)
      by_cases hlt : i + 1 < ps.length
      · have hst := areaTo_step hi1 hlt
        have ⟨b3, b4⟩ := areaTo_bd HA.out i
        rw [hst] at b3 b4
        have HS := Lib.hid hst
        have o1 : ptOk (ps[0]'(by omega)) = true := List.all_eq_true.1 HA.out _ (List.getElem_mem _)
        have o2 : ptOk (ps[i]'(by omega)) = true := List.all_eq_true.1 HA.out _ (List.getElem_mem _)
        have o3 : ptOk ps[i + 1] = true := List.all_eq_true.1 HA.out _ (List.getElem_mem _)
        obtain ⟨b, off, rfl, hbl, hc1, hc2⟩ := (hx.up hb).at_ (show 0 < ps.length by omega)
        obtain ⟨_, _, hbe, hbl2, hc3, hc4⟩ := (hx.up hb).at_ (show i < ps.length by omega)
        cases hbe
        obtain ⟨_, _, hbe, hbl3, hc5, hc6⟩ := (hx.up hb).at_ hlt
        cases hbe
        simp only [Nat.zero_mul, Nat.add_zero] at hc1 hc2
        have ei : (((i + 1 : Nat) : Int) - 1).toNat = i := by omega
        have ej : ((i : Int) + 1 - 1) = (i : Int) := by omega
        clear hst
        go_wp2
        (refine wp_region_ext (by kernel_rfl) (by kernel_rfl) ?_; (repeat (go_big_quiet_step ((go_at_call 61; exact Gives.quiet (turnI_any _ _ _ _ o1 o2 o3))))); refine wpQuiet_nil ?_; intro _ hw'; obtain ⟨xq, hw''⟩ := hw'; subst hw'')
        go_wp2
        go_roundw
        case rel => exact ⟨i + 1, by omega, by omega, by go_num, by rw [Nat.add_sub_cancel, HS.out], (by repeat' (first | (with_reducible exact Below.refl _ _) | (with_reducible assumption) | (with_reducible refine Ext.up _ ?_ ?_) | (with_reducible exact Nat.le_refl _) | (exact Below.size (by with_reducible assumption)) | (with_reducible refine Ext.le_size _ ?_) | (with_reducible refine le_alloc ?_ _) | (with_reducible refine le_setCell ?_ _ _) | (with_reducible refine le_drew ?_) | (with_reducible refine Below.alloc ?_ ?_ _) | (with_reducible refine Below.drew ?_) | (with_reducible refine Below.setCell ?_ ?_ _) | go_size | (simp [go_sem]; done) | omega))⟩
        case measure => simp [intOf]; omega
      · go_wp2
        go_ret2
        have : i - 1 = ps.length - 2 := by omega
        exact ⟨ret_val (by rw [HN.out, HP.out, ← this]; rfl), hb⟩
  · have hp' : polyB ps = false := by simpa using hp
    have HN : Hid (areaN ps = 0) := by show areaN ps = _; rw [areaN, hp']; rfl
    have HP := Lib.hid hp'
    clear hp hp'
    go_enter Try.func30, Try.ntmps30
    go_wp2_with (go_at_call 23; refine (polyI_of HP.out _ _ _ (by first | (with_reducible assumption) | (refine RP.up (by with_reducible assumption) ?_; exact (by repeat' (first | (with_reducible exact Below.refl _ _) | (with_reducible assumption) | (with_reducible refine Ext.up _ ?_ ?_) | (with_reducible exact Nat.le_refl _) | (exact Below.size (by with_reducible assumption)) | (with_reducible refine Ext.le_size _ ?_) | (with_reducible refine le_alloc ?_ _) | (with_reducible refine le_setCell ?_ _ _) | (with_reducible refine le_drew ?_) | (with_reducible refine Below.alloc ?_ ?_ _) | (with_reducible refine Below.drew ?_) | (with_reducible refine Below.setCell ?_ ?_ _) | go_size | (simp [go_sem]; done) | omega)))) hn).calls.mono ?_; rintro e w' ⟨rfl, x1, rfl⟩)
    go_ret2
    exact ⟨ret_val (by rw [HN.out, HP.out]; rfl), (by repeat' (first | (with_reducible exact Below.refl _ _) | (with_reducible assumption) | (with_reducible refine Ext.up _ ?_ ?_) | (with_reducible exact Nat.le_refl _) | (exact Below.size (by with_reducible assumption)) | (with_reducible refine Ext.le_size _ ?_) | (with_reducible refine le_alloc ?_ _) | (with_reducible refine le_setCell ?_ _ _) | (with_reducible refine le_drew ?_) | (with_reducible refine Below.alloc ?_ ?_ _) | (with_reducible refine Below.drew ?_) | (with_reducible refine Below.setCell ?_ ?_ _) | go_size | (simp [go_sem]; done) | omega))⟩
end Go.Proofs.Ytbgeooalhoaemaa
