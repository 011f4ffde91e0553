/-
  WALKS: BorderPoints of both packages.
-/
import Derived.Test.YtbgeooalhoaemaaArea
namespace Go.Proofs.Ytbgeooalhoaemaa
open Go.RowKit

def sideGcd (a b : Int × Int) : Int := (Int.gcd (b.1 - a.1) (b.2 - a.2) : Int)
def borderTo (ps : List (Int × Int)) : Nat → Int
  | 0 => 0
  | m + 1 => borderTo ps m + sideGcd (pt ps m) (pt ps ((m + 1) % ps.length))
def borderN (ps : List (Int × Int)) : Int := if polyB ps then borderTo ps ps.length else 0
theorem sideGcd_bd {a b : Int × Int} (ha : ptOk a = true) (hb : ptOk b = true) : 0 ≤ sideGcd a b ∧ sideGcd a b ≤ 20 := by
  simp only [ptOk_true] at ha hb
  exact ⟨Int.natCast_nonneg _, gcd_le_left (by omega) (by omega) (by omega) (by omega)⟩
theorem borderTo_bd {ps : List (Int × Int)} (h : ps.all ptOk = true) : ∀ m : Nat, 0 ≤ borderTo ps m ∧ borderTo ps m ≤ 20 * (m : Int)
  | 0 => by simp [borderTo]
  | m + 1 => by
    have h1 := borderTo_bd h m
    have h2 := sideGcd_bd (pt_ok h m) (pt_ok h ((m + 1) % ps.length))
    simp only [borderTo]; omega
theorem borderTo_step {ps : List (Int × Int)} {i j : Nat} (h : i < ps.length) (hj : j < ps.length) (e : j = (i + 1) % ps.length) : borderTo ps (i + 1) = borderTo ps i + sideGcd ps[i] ps[j] := by
  rw [borderTo, ← e, pt_get h, pt_get hj]

set_option maxHeartbeats 2000000 in
theorem borderS_any (A : Option Addr) (c : Nat) (ps : List (Int × Int)) (w : World) (hx : RP w A ps) (hn : ps.length ≤ 1048576) :
    Gives Try.prog 33 #[.slice A ps.length c] w (.tuple #[.int .i64 (borderN ps), .bool (polyB ps)]) := by
  refine Gives.of_below ?_
  by_cases hp : polyB ps = true
  · obtain ⟨hd1, hd2, hall⟩ := polyB_true hp
    have HA := Lib.hid hall
    have HN : Hid (borderN ps = borderTo ps ps.length) := by show borderN ps = _; rw [borderN, if_pos hp]
    have HP := Lib.hid hp
    clear hall hp
    go_enter Try.func33, Try.ntmps33
    go_wp2_with (go_at_call 21; refine (polyS_of HP.out _ _ _ (by first | (with_reducible assumption) | (refine RP.up (by with_reducible assumption) ?_; exact (by repeat' (first | (with_reducible exact Below.refl _ _) | (with_reducible assumption) | (with_reducible refine Ext.up _ ?_ ?_) | (with_reducible exact Nat.le_refl _) | (exact Below.size (by with_reducible assumption)) | (with_reducible refine Ext.le_size _ ?_) | (with_reducible refine le_alloc ?_ _) | (with_reducible refine le_setCell ?_ _ _) | (with_reducible refine le_drew ?_) | (with_reducible refine Below.alloc ?_ ?_ _) | (with_reducible refine Below.drew ?_) | (with_reducible refine Below.setCell ?_ ?_ _) | go_size | (simp [go_sem]; done) | omega)))) hn).calls.mono ?_; rintro e w' ⟨rfl, x1, rfl⟩)
    go_loopw [4, 5] (fun s iv wr => ∃ i : Nat, i ≤ ps.length ∧ iv = .int .i64 i ∧ s = .int .i64 (borderTo ps i) ∧ Below w.heap.size w wr) (fun _ iv _ => ps.length - (intOf iv).toNat)
    case atStart => exact ⟨0, Nat.zero_le _, rfl, rfl, (by repeat' (first | (with_reducible exact Below.refl _ _) | (with_reducible assumption) | (with_reducible refine Ext.up _ ?_ ?_) | (with_reducible exact Nat.le_refl _) | (exact Below.size (by with_reducible assumption)) | (with_reducible refine Ext.le_size _ ?_) | (with_reducible refine le_alloc ?_ _) | (with_reducible refine le_setCell ?_ _ _) | (with_reducible refine le_drew ?_) | (with_reducible refine Below.alloc ?_ ?_ _) | (with_reducible refine Below.drew ?_) | (with_reducible refine Below.setCell ?_ ?_ _) | go_size | (simp [go_sem]; done) | omega))⟩
    case round =>
      obtain ⟨i, hi1, rfl, rfl, hb⟩ := hrel
      have ⟨b1, b2⟩ := borderTo_bd HA.out i
      by_cases hlt : i < ps.length
      · obtain ⟨j, hj⟩ : ∃ j, j = (i + 1) % ps.length := ⟨_, rfl⟩
        have hjl : j < ps.length := by rw [hj]; exact Nat.mod_lt _ (by omega)
        have hjI : ((i : Int) + 1) % (ps.length : Int) = (j : Int) := by rw [hj]; simp
        have hst := borderTo_step hlt hjl hj
        have o1 : ptOk ps[i] = true := List.all_eq_true.1 HA.out _ (List.getElem_mem _)
        have o2 : ptOk ps[j] = true := List.all_eq_true.1 HA.out _ (List.getElem_mem _)
        have ⟨b3, b4⟩ := sideGcd_bd o1 o2
        obtain ⟨p1, p2, p3, p4⟩ := ptOk_true.1 o1
        obtain ⟨q1, q2, q3, q4⟩ := ptOk_true.1 o2
        have HG : Hid (gcdOf (ps[j].1 - ps[i].1) (ps[j].2 - ps[i].2) = sideGcd ps[i] ps[j]) := gcdOf_eq (numB_true.2 (by omega)) (numB_true.2 (by omega))
        have b5 : 0 ≤ gcdOf (ps[j].1 - ps[i].1) (ps[j].2 - ps[i].2) := by rw [HG.out]; exact b3
        have b6 : gcdOf (ps[j].1 - ps[i].1) (ps[j].2 - ps[i].2) ≤ 20 := by rw [HG.out]; exact b4
        have HS := Lib.hid hst
        obtain ⟨b, off, rfl, hbl, hc1, hc2⟩ := (hx.up hb).at_ hlt
        obtain ⟨_, _, hbe, hbl2, hc3, hc4⟩ := (hx.up hb).at_ hjl
        cases hbe
        clear hst hj o1 o2
        go_wp2
        (refine wp_region_ext (by kernel_rfl) (by kernel_rfl) ?_; (repeat (go_big_quiet_step ((go_at_call 67; exact Gives.quiet (gcdOf_any _ _ _))))); refine wpQuiet_nil ?_; intro _ hw'; obtain ⟨xq, hw''⟩ := hw'; subst hw'')
        go_wp2
        go_roundw
        case rel => exact ⟨i + 1, hlt, by go_num, by rw [HS.out, ← HG.out], (by repeat' (first | (with_reducible exact Below.refl _ _) | (with_reducible assumption) | (with_reducible refine Ext.up _ ?_ ?_) | (with_reducible exact Nat.le_refl _) | (exact Below.size (by with_reducible assumption)) | (with_reducible refine Ext.le_size _ ?_) | (with_reducible refine le_alloc ?_ _) | (with_reducible refine le_setCell ?_ _ _) | (with_reducible refine le_drew ?_) | (with_reducible refine Below.alloc ?_ ?_ _) | (with_reducible refine Below.drew ?_) | (with_reducible refine Below.setCell ?_ ?_ _) | go_size | (simp [go_sem]; done) | omega))⟩
        case measure => simp [intOf]; omega
      · go_wp2
        go_ret2
        have : i = ps.length := by omega
        subst this
        exact ⟨ret_val (by rw [HN.out, HP.out]; rfl), hb⟩
  · have hp' : polyB ps = false := by simpa using hp
    have HN : Hid (borderN ps = 0) := by show borderN ps = _; rw [borderN, hp']; rfl
    have HP := Lib.hid hp'
    clear hp hp'
    go_enter Try.func33, Try.ntmps33
    go_wp2_with (go_at_call 21; refine (polyS_of HP.out _ _ _ (by first | (with_reducible assumption) | (refine RP.up (by with_reducible assumption) ?_; exact (by repeat' (first | (with_reducible exact Below.refl _ _) | (with_reducible assumption) | (with_reducible refine Ext.up _ ?_ ?_) | (with_reducible exact Nat.le_refl _) | (exact Below.size (by with_reducible assumption)) | (with_reducible refine Ext.le_size _ ?_) | (with_reducible refine le_alloc ?_ _) | (with_reducible refine le_setCell ?_ _ _) | (with_reducible refine le_drew ?_) | (with_reducible refine Below.alloc ?_ ?_ _) | (with_reducible refine Below.drew ?_) | (with_reducible refine Below.setCell ?_ ?_ _) | go_size | (simp [go_sem]; done) | omega)))) hn).calls.mono ?_; rintro e w' ⟨rfl, x1, rfl⟩)
    go_ret2
    exact ⟨ret_val (by rw [HN.out, HP.out]; rfl), (by repeat' (first | (with_reducible exact Below.refl _ _) | (with_reducible assumption) | (with_reducible refine Ext.up _ ?_ ?_) | (with_reducible exact Nat.le_refl _) | (exact Below.size (by with_reducible assumption)) | (with_reducible refine Ext.le_size _ ?_) | (with_reducible refine le_alloc ?_ _) | (with_reducible refine le_setCell ?_ _ _) | (with_reducible refine le_drew ?_) | (with_reducible refine Below.alloc ?_ ?_ _) | (with_reducible refine Below.drew ?_) | (with_reducible refine Below.setCell ?_ ?_ _) | go_size | (simp [go_sem]; done) | omega))⟩
set_option maxHeartbeats 2000000 in
theorem borderI_any (A : Option Addr) (c : Nat) (ps : List (Int × Int)) (w : World) (hx : RP w A ps) (hn : ps.length ≤ 1048576) :
    Gives Try.prog 34 #[.slice A ps.length c] w (.tuple #[.int .i64 (borderN ps), .bool (polyB ps)]) := by
  refine Gives.of_below ?_
  by_cases hp : polyB ps = true
  · obtain ⟨hd1, hd2, hall⟩ := polyB_true hp
    have HA := Lib.hid hall
    have HN : Hid (borderN ps = borderTo ps ps.length) := by show borderN ps = _; rw [borderN, if_pos hp]
    have HP := Lib.hid hp
    clear hall hp
    go_enter Try.func34, Try.ntmps34
    go_wp2_with (go_at_call 23; refine (polyI_of HP.out _ _ _ (by first | (with_reducible assumption) | (refine RP.up (by with_reducible assumption) ?_; exact (by repeat' (first | (with_reducible exact Below.refl _ _) | (with_reducible assumption) | (with_reducible refine Ext.up _ ?_ ?_) | (with_reducible exact Nat.le_refl _) | (exact Below.size (by with_reducible assumption)) | (with_reducible refine Ext.le_size _ ?_) | (with_reducible refine le_alloc ?_ _) | (with_reducible refine le_setCell ?_ _ _) | (with_reducible refine le_drew ?_) | (with_reducible refine Below.alloc ?_ ?_ _) | (with_reducible refine Below.drew ?_) | (with_reducible refine Below.setCell ?_ ?_ _) | go_size | (simp [go_sem]; done) | omega)))) hn).calls.mono ?_; rintro e w' ⟨rfl, x1, rfl⟩)
    go_loopw [4, 12] (fun s iv wr => ∃ i : Nat, i ≤ ps.length ∧ iv = .int .i64 i ∧ s = .int .i64 (borderTo ps i) ∧ Below w.heap.size w wr) (fun _ iv _ => ps.length - (intOf iv).toNat)
    case atStart => exact ⟨0, Nat.zero_le _, rfl, rfl, (by repeat' (first | (with_reducible exact Below.refl _ _) | (with_reducible assumption) | (with_reducible refine Ext.up _ ?_ ?_) | (with_reducible exact Nat.le_refl _) | (exact Below.size (by with_reducible assumption)) | (with_reducible refine Ext.le_size _ ?_) | (with_reducible refine le_alloc ?_ _) | (with_reducible refine le_setCell ?_ _ _) | (with_reducible refine le_drew ?_) | (with_reducible refine Below.alloc ?_ ?_ _) | (with_reducible refine Below.drew ?_) | (with_reducible refine Below.setCell ?_ ?_ _) | go_size | (simp [go_sem]; done) | omega))⟩
    case round =>
      obtain ⟨i, hi1, rfl, rfl, hb⟩ := hrel
      have ⟨b1, b2⟩ := borderTo_bd HA.out i
      by_cases hlt : i < ps.length
      · obtain ⟨j, hj⟩ : ∃ j, j = (i + 1) % ps.length := ⟨_, rfl⟩
        have hjl : j < ps.length := by rw [hj]; exact Nat.mod_lt _ (by omega)
        have hjI : ((i : Int) + 1) % (ps.length : Int) = (j : Int) := by rw [hj]; simp
        have hst := borderTo_step hlt hjl hj
        have o1 : ptOk ps[i] = true := List.all_eq_true.1 HA.out _ (List.getElem_mem _)
        have o2 : ptOk ps[j] = true := List.all_eq_true.1 HA.out _ (List.getElem_mem _)
        have ⟨b3, b4⟩ := sideGcd_bd o1 o2
        obtain ⟨p1, p2, p3, p4⟩ := ptOk_true.1 o1
        obtain ⟨q1, q2, q3, q4⟩ := ptOk_true.1 o2
        have b5 : 0 ≤ (Int.gcd (ps[j].1 - ps[i].1) (ps[j].2 - ps[i].2) : Int) := b3
        have b6 : (Int.gcd (ps[j].1 - ps[i].1) (ps[j].2 - ps[i].2) : Int) ≤ 20 := b4
        have HS := Lib.hid hst
        obtain ⟨b, off, rfl, hbl, hc1, hc2⟩ := (hx.up hb).at_ hlt
        obtain ⟨_, _, hbe, hbl2, hc3, hc4⟩ := (hx.up hb).at_ hjl
        cases hbe
        clear hst hj o1 o2
        go_wp2
        (refine wp_region_ext (by kernel_rfl) (by kernel_rfl) ?_; (repeat (go_big_quiet_step ((go_at_call 68; exact Gives.quiet (gcd_any _ _ _ (by omega) (by omega) (by omega) (by omega)))))); refine wpQuiet_nil ?_; intro _ hw'; obtain ⟨xq, hw''⟩ := hw'; subst hw'')
        go_wp2
        go_roundw
        case rel => exact ⟨i + 1, hlt, by go_num, by rw [HS.out]; rfl, (by repeat' (first | (with_reducible exact Below.refl _ _) | (with_reducible assumption) | (with_reducible refine Ext.up _ ?_ ?_) | (with_reducible exact Nat.le_refl _) | (exact Below.size (by with_reducible assumption)) | (with_reducible refine Ext.le_size _ ?_) | (with_reducible refine le_alloc ?_ _) | (with_reducible refine le_setCell ?_ _ _) | (with_reducible refine le_drew ?_) | (with_reducible refine Below.alloc ?_ ?_ _) | (with_reducible refine Below.drew ?_) | (with_reducible refine Below.setCell ?_ ?_ _) | go_size | (simp [go_sem]; done) | omega))⟩
        case measure => simp [intOf]; omega
      · go_wp2
        go_ret2
        have : i = ps.length := by omega
        subst this
        exact ⟨ret_val (by rw [HN.out, HP.out]; rfl), hb⟩
  · have hp' : polyB ps = false := by simpa using hp
    have HN : Hid (borderN ps = 0) := by show borderN ps = _; rw [borderN, hp']; rfl
    have HP := Lib.hid hp'
    clear hp hp'
    go_enter Try.func34, Try.ntmps34
    go_wp2_with (go_at_call 23; refine (polyI_of HP.out _ _ _ (by first | (with_reducible assumption) | (refine RP.up (by with_reducible assumption) ?_; exact (by repeat' (first | (with_reducible exact Below.refl _ _) | (with_reducible assumption) | (with_reducible refine Ext.up _ ?_ ?_) | (with_reducible exact Nat.le_refl _) | (exact Below.size (by with_reducible assumption)) | (with_reducible refine Ext.le_size _ ?_) | (with_reducible refine le_alloc ?_ _) | (with_reducible refine le_setCell ?_ _ _) | (with_reducible refine le_drew ?_) | (with_reducible refine Below.alloc ?_ ?_ _) | (with_reducible refine Below.drew ?_) | (with_reducible refine Below.setCell ?_ ?_ _) | go_size | (simp [go_sem]; done) | omega)))) hn).calls.mono ?_; rintro e w' ⟨rfl, x1, rfl⟩)
    go_ret2
    exact ⟨ret_val (by rw [HN.out, HP.out]; rfl), (by repeat' (first | (with_reducible exact Below.refl _ _) | (with_reducible assumption) | (with_reducible refine Ext.up _ ?_ ?_) | (with_reducible exact Nat.le_refl _) | (exact Below.size (by with_reducible assumption)) | (with_reducible refine Ext.le_size _ ?_) | (with_reducible refine le_alloc ?_ _) | (with_reducible refine le_setCell ?_ _ _) | (with_reducible refine le_drew ?_) | (with_reducible refine Below.alloc ?_ ?_ _) | (with_reducible refine Below.drew ?_) | (with_reducible refine Below.setCell ?_ ?_ _) | go_size | (simp [go_sem]; done) | omega))⟩
end Go.Proofs.Ytbgeooalhoaemaa
