/-
  WALKS: IsPolygon of both packages.
-/
import Derived.Test.YtbgeooalhoaemaaPoint
namespace Go.Proofs.Ytbgeooalhoaemaa
open Go.RowKit

def pt (ps : List (Int × Int)) (i : Nat) : Int × Int := ps.getD i (0, 0)
theorem pt_get {ps : List (Int × Int)} {i : Nat} (h : i < ps.length) : pt ps i = ps[i] := by simp [pt, h]
/-- the corner k lies on the left of side i, or is one of its ends -/
def leftB (ps : List (Int × Int)) (i k : Nat) : Bool := decide (k = i ∨ k = (i + 1) % ps.length ∨ 0 < turn (pt ps i) (pt ps ((i + 1) % ps.length)) (pt ps k))
def sideTo (ps : List (Int × Int)) (i m : Nat) : Bool := (List.range m).all (leftB ps i)
def sidesTo (ps : List (Int × Int)) (m : Nat) : Bool := (List.range m).all fun i => sideTo ps i ps.length
def polyB (ps : List (Int × Int)) : Bool := decide (3 ≤ ps.length ∧ ps.length ≤ 8) && (ps.all ptOk && sidesTo ps ps.length)
theorem sideTo_succ {ps : List (Int × Int)} {i m : Nat} : sideTo ps i (m + 1) = (sideTo ps i m && leftB ps i m) := by simp [sideTo, List.range_succ]
theorem sidesTo_succ {ps : List (Int × Int)} {m : Nat} : sidesTo ps (m + 1) = (sidesTo ps m && sideTo ps m ps.length) := by simp [sidesTo, List.range_succ]
theorem sides_not {ps : List (Int × Int)} {i k n : Nat} (hi : i < n) (hk : k < ps.length) (h : leftB ps i k = false) : sidesTo ps n = false := by
  rw [sidesTo, List.all_eq_false]
  refine ⟨i, by simpa using hi, ?_⟩
  rw [Bool.not_eq_true, sideTo, List.all_eq_false]
  exact ⟨k, by simpa using hk, by simp [h]⟩
theorem allp_take_succ {ps : List (Int × Int)} {k : Nat} (p : Int × Int → Bool) (h : k < ps.length) : (ps.take (k + 1)).all p = ((ps.take k).all p && p ps[k]) := by
  rw [List.take_succ_eq_append_getElem h, List.all_append, List.all_cons, List.all_nil, Bool.and_true]
theorem allp_of_not {ps : List (Int × Int)} {k : Nat} {p : Int × Int → Bool} (h : k < ps.length) (hp : p ps[k] = false) : ps.all p = false := by
  rw [List.all_eq_false]; exact ⟨ps[k], List.getElem_mem h, by simp [hp]⟩
theorem poly_no1 {ps : List (Int × Int)} (h : ps.all ptOk = false) : polyB ps = false := by rw [polyB, h]; simp
theorem poly_no2 {ps : List (Int × Int)} (h : sidesTo ps ps.length = false) : polyB ps = false := by rw [polyB, h]; simp
theorem poly_no3 {ps : List (Int × Int)} (h : ¬(3 ≤ ps.length ∧ ps.length ≤ 8)) : polyB ps = false := by rw [polyB]; simp [h]
theorem poly_yes {ps : List (Int × Int)} (h1 : ps.all ptOk = true) (h2 : sidesTo ps ps.length = true) : polyB ps = decide (3 ≤ ps.length ∧ ps.length ≤ 8) := by rw [polyB, h1, h2]; simp

set_option maxHeartbeats 4000000 in
set_option maxRecDepth 100000 in
theorem polyS_any (A : Option Addr) (c : Nat) (ps : List (Int × Int)) (w : World) (hx : RP w A ps) (hn : ps.length ≤ 1048576) :
    Gives Try.prog 21 #[.slice A ps.length c] w (.bool (polyB ps)) := by
  refine Gives.of_below ?_
  go_enter Try.func21, Try.ntmps21
  go_wp2
  go_loopw [4] (fun i wr => ∃ k : Nat, k ≤ ps.length ∧ i = .int .i64 k ∧ Hid ((ps.take k).all ptOk = true) ∧ Below w.heap.size w wr) (fun i _ => ps.length - (intOf i).toNat)
  case atStart => exact ⟨0, Nat.zero_le _, rfl, by simp [Hid], Below.refl _ _⟩
  case round =>
    obtain ⟨k, hk, rfl, he, hb⟩ := hrel
    by_cases hlt : k < ps.length
    · obtain ⟨b, off, rfl, hbl, hc1, hc2⟩ := (hx.up hb).at_ hlt
      by_cases hp : ptOk ps[k] = true
      · have ⟨p1, p2, p3, p4⟩ := ptOk_true.1 hp
        have i1 : inB ps[k].1 (-10) 10 = true := inB_true.2 ⟨p1, p2⟩
        have i2 : inB ps[k].2 (-10) 10 = true := inB_true.2 ⟨p3, p4⟩
        have he' : Hid ((ps.take (k + 1)).all ptOk = true) := by show (ps.take (k+1)).all ptOk = true; rw [allp_take_succ ptOk hlt, he.out, hp]; rfl
        clear p1 p2 p3 p4 hp
        go_wp2_with (go_at_call 57; refine (l1In_any _ _ _ _).mono ?_; rintro e w' ⟨rfl, rfl⟩)
        go_roundw
        case rel => exact ⟨k + 1, hlt, by go_num, he', hb⟩
        case measure => simp [intOf]; omega
      · have hp' : ptOk ps[k] = false := by simpa using hp
        have HF := Lib.hid (poly_no1 (allp_of_not hlt hp'))
        have hp2 := Lib.hid (ptOk_false.1 hp')
        clear hp hp'
        go_wp2_with (go_at_call 57; refine (l1In_any _ _ _ _).mono ?_; rintro e w' ⟨rfl, rfl⟩)
        all_goals first | (go_ret; exact ⟨ret_bool HF.out.symm, hb⟩) | skip
        exfalso
        have j1 := inB_true.1 ‹inB ps[k].1 (-10) 10 = true›
        have j2 := inB_true.1 (show inB ps[k].2 (-10) 10 = true by have := ‹(!inB ps[k].2 (-10) 10) = false›; simpa using this)
        exact hp2.out ⟨j1.1, j1.2, j2.1, j2.2⟩
    · have hall : ps.all ptOk = true := by have := he.out; rwa [List.take_of_length_le (by omega)] at this
      have HA := Lib.hid hall
      clear hall he
      obtain ⟨wo, rfl⟩ : ∃ wo : World, wo = wr := ⟨_, rfl⟩
      go_wp2
      clear hlt hk
      go_loopw [5] (fun i wr => ∃ k : Nat, k ≤ ps.length ∧ i = .int .i64 k ∧ Hid (sidesTo ps k = true) ∧ Below w.heap.size w wr) (fun i _ => ps.length - (intOf i).toNat)
      case atStart => exact ⟨0, Nat.zero_le _, rfl, rfl, hb⟩
      case round =>
        clear hb
        obtain ⟨i, hi, rfl, he, hb⟩ := hrel
        by_cases hlt : i < ps.length
        · obtain ⟨j, hj⟩ : ∃ j, j = (i + 1) % ps.length := ⟨_, rfl⟩
          have hjl : j < ps.length := by rw [hj]; exact Nat.mod_lt _ (by omega)
          have hjI : ((i : Int) + 1) % (ps.length : Int) = (j : Int) := by rw [hj]; simp
          have HJ := Lib.hid hj
          clear hj
          go_wp2
          go_loopw [6] (fun kv wr => ∃ k : Nat, k ≤ ps.length ∧ kv = .int .i64 k ∧ Hid (sideTo ps i k = true) ∧ Below w.heap.size w wr) (fun kv _ => ps.length - (intOf kv).toNat)
          case atStart => exact ⟨0, Nat.zero_le _, rfl, rfl, hb⟩
          case round =>
            clear hb
            obtain ⟨k, hk, rfl, he2, hb⟩ := hrel
            by_cases hlk : k < ps.length
            · obtain ⟨b, off, hbe, hbl, hc1, hc2⟩ := (hx.up hb).at_ hlk
              obtain ⟨b2, off2, hbe2, hbl2, hc3, hc4⟩ := (hx.up hb).at_ hlt
              obtain ⟨b3, off3, hbe3, hbl3, hc5, hc6⟩ := (hx.up hb).at_ hjl
              subst hbe
              cases hbe2
              cases hbe3
              have o1 : ptOk ps[k] = true := List.all_eq_true.1 HA.out _ (List.getElem_mem hlk)
              have o2 : ptOk ps[i] = true := List.all_eq_true.1 HA.out _ (List.getElem_mem hlt)
              have o3 : ptOk ps[j] = true := List.all_eq_true.1 HA.out _ (List.getElem_mem hjl)
              have hL : Hid (leftB ps i k = decide (k = i ∨ k = j ∨ 0 < turn ps[i] ps[j] ps[k])) := by
                show leftB ps i k = _
                rw [leftB, ← HJ.out, pt_get hlk, pt_get hlt, pt_get hjl]
              by_cases hki : k = i
              · have g1 : ((k : Int) != (i : Int)) = false := by simp [hki]
                have HS : Hid (sideTo ps i (k + 1) = true) := by show sideTo ps i (k + 1) = true; rw [sideTo_succ, he2.out, hL.out]; simp [hki]
                clear hki
                go_wp2
                (refine wp_region_ext (by kernel_rfl) (by kernel_rfl) ?_; (repeat (go_big_quiet_step (fail))); refine wpQuiet_nil ?_; intro _ hw'; obtain ⟨xq, hw''⟩ := hw'; subst hw'')
                go_wp2
                go_roundw
                case rel => exact ⟨k + 1, hlk, by go_num, HS, (by repeat' (first | (with_reducible exact Below.refl _ _) | (with_reducible assumption) | (with_reducible refine Ext.up _ ?_ ?_) | (with_reducible exact Nat.le_refl _) | (exact Below.size (by with_reducible assumption)) | (with_reducible refine Ext.le_size _ ?_) | (with_reducible refine le_alloc ?_ _) | (with_reducible refine le_setCell ?_ _ _) | (with_reducible refine le_drew ?_) | (with_reducible refine Below.alloc ?_ ?_ _) | (with_reducible refine Below.drew ?_) | (with_reducible refine Below.setCell ?_ ?_ _) | go_size | (simp [go_sem]; done) | omega))⟩
                case measure => simp [intOf]; omega
              · have g1 : ((k : Int) != (i : Int)) = true := bne_iff_ne.2 (by omega)
                by_cases hkj : k = j
                · have g2 : ((k : Int) != (j : Int)) = false := by simp [hkj]
                  have HS : Hid (sideTo ps i (k + 1) = true) := by show sideTo ps i (k + 1) = true; rw [sideTo_succ, he2.out, hL.out]; simp [hkj]
                  clear hki hkj
                  go_wp2
                  (refine wp_region_ext (by kernel_rfl) (by kernel_rfl) ?_; (repeat (go_big_quiet_step (fail))); refine wpQuiet_nil ?_; intro _ hw'; obtain ⟨xq, hw''⟩ := hw'; subst hw'')
                  go_wp2
                  go_roundw
                  case rel => exact ⟨k + 1, hlk, by go_num, HS, (by repeat' (first | (with_reducible exact Below.refl _ _) | (with_reducible assumption) | (with_reducible refine Ext.up _ ?_ ?_) | (with_reducible exact Nat.le_refl _) | (exact Below.size (by with_reducible assumption)) | (with_reducible refine Ext.le_size _ ?_) | (with_reducible refine le_alloc ?_ _) | (with_reducible refine le_setCell ?_ _ _) | (with_reducible refine le_drew ?_) | (with_reducible refine Below.alloc ?_ ?_ _) | (with_reducible refine Below.drew ?_) | (with_reducible refine Below.setCell ?_ ?_ _) | go_size | (simp [go_sem]; done) | omega))⟩
                  case measure => simp [intOf]; omega
                · have g2 : ((k : Int) != (j : Int)) = true := bne_iff_ne.2 (by omega)
                  by_cases ht : 0 < turn ps[i] ps[j] ps[k]
                  · have ht2 : decide (turn ps[i] ps[j] ps[k] ≤ 0) = false := decide_eq_false (by omega)
                    have HS : Hid (sideTo ps i (k + 1) = true) := by show sideTo ps i (k + 1) = true; rw [sideTo_succ, he2.out, hL.out]; simp [ht]
                    clear hki hkj
                    go_wp2
                    (refine wp_region_ext (by kernel_rfl) (by kernel_rfl) ?_; (repeat (go_big_quiet_step ((go_at_call 59; exact Gives.quiet (turnS_any _ _ _ _ o2 o3 o1))))); refine wpQuiet_nil ?_; intro _ hw'; obtain ⟨xq, hw''⟩ := hw'; subst hw'')
                    go_wp2
                    go_roundw
                    case rel => exact ⟨k + 1, hlk, by go_num, HS, (by repeat' (first | (with_reducible exact Below.refl _ _) | (with_reducible assumption) | (with_reducible refine Ext.up _ ?_ ?_) | (with_reducible exact Nat.le_refl _) | (exact Below.size (by with_reducible assumption)) | (with_reducible refine Ext.le_size _ ?_) | (with_reducible refine le_alloc ?_ _) | (with_reducible refine le_setCell ?_ _ _) | (with_reducible refine le_drew ?_) | (with_reducible refine Below.alloc ?_ ?_ _) | (with_reducible refine Below.drew ?_) | (with_reducible refine Below.setCell ?_ ?_ _) | go_size | (simp [go_sem]; done) | omega))⟩
                    case measure => simp [intOf]; omega
                  · have ht2 : decide (turn ps[i] ps[j] ps[k] ≤ 0) = true := decide_eq_true (by omega)
                    have HF : Hid (polyB ps = false) := poly_no2 (sides_not (k := k) hlt hlk (by rw [hL.out]; simp [hki, hkj, ht]))
                    clear hki hkj
                    go_wp2
                    (refine wp_region_ext (by kernel_rfl) (by kernel_rfl) ?_; (repeat (go_big_quiet_step ((go_at_call 59; exact Gives.quiet (turnS_any _ _ _ _ o2 o3 o1))))); refine wpQuiet_nil ?_; intro _ hw'; obtain ⟨xq, hw''⟩ := hw'; subst hw'')
                    go_wp2
                    go_ret
                    exact ⟨ret_bool HF.out.symm, (by repeat' (first | (with_reducible exact Below.refl _ _) | (with_reducible assumption) | (with_reducible refine Ext.up _ ?_ ?_) | (with_reducible exact Nat.le_refl _) | (exact Below.size (by with_reducible assumption)) | (with_reducible refine Ext.le_size _ ?_) | (with_reducible refine le_alloc ?_ _) | (with_reducible refine le_setCell ?_ _ _) | (with_reducible refine le_drew ?_) | (with_reducible refine Below.alloc ?_ ?_ _) | (with_reducible refine Below.drew ?_) | (with_reducible refine Below.setCell ?_ ?_ _) | go_size | (simp [go_sem]; done) | omega))⟩
            · have HS : Hid (sidesTo ps (i + 1) = true) := by
                have hkn : k = ps.length := by omega
                show sidesTo ps (i + 1) = true
                rw [sidesTo_succ, he.out, ← hkn, he2.out]; rfl
              go_wp2
              go_roundw
              case rel => exact ⟨i + 1, hlt, by go_num, HS, hb⟩
              case measure => simp [intOf]; omega
        · have hin : i = ps.length := by omega
          have HP := Lib.hid (poly_yes HA.out (by rw [← hin]; exact he.out))
          go_wp2_with (go_at_call 57; refine (l1In_any _ _ _ _).mono ?_; rintro e w' ⟨rfl, rfl⟩)
          go_ret
          exact ⟨ret_bool (by rw [HP.out, inB]; congr 1; simp; omega), hb⟩
set_option maxHeartbeats 4000000 in
set_option maxRecDepth 100000 in
theorem polyI_any (A : Option Addr) (c : Nat) (ps : List (Int × Int)) (w : World) (hx : RP w A ps) (hn : ps.length ≤ 1048576) :
    Gives Try.prog 23 #[.slice A ps.length c] w (.bool (polyB ps)) := by
  refine Gives.of_below ?_
  by_cases hd : 3 ≤ ps.length ∧ ps.length ≤ 8
  case neg =>
    have HF := Lib.hid (poly_no3 hd)
    have hd' : ps.length < 3 ∨ 8 < ps.length := by omega
    clear hd
    rcases hd' with h | h
    all_goals
      go_enter Try.func23, Try.ntmps23
      go_wp2
      go_ret
      exact ⟨ret_bool HF.out.symm, (by repeat' (first | (with_reducible exact Below.refl _ _) | (with_reducible assumption) | (with_reducible refine Ext.up _ ?_ ?_) | (with_reducible exact Nat.le_refl _) | (exact Below.size (by with_reducible assumption)) | (with_reducible refine Ext.le_size _ ?_) | (with_reducible refine le_alloc ?_ _) | (with_reducible refine le_setCell ?_ _ _) | (with_reducible refine le_drew ?_) | (with_reducible refine Below.alloc ?_ ?_ _) | (with_reducible refine Below.drew ?_) | (with_reducible refine Below.setCell ?_ ?_ _) | go_size | (simp [go_sem]; done) | omega))⟩
  obtain ⟨hd1, hd2⟩ := hd
  go_enter Try.func23, Try.ntmps23
  go_wp2
  go_loopw [19] (fun i wr => ∃ k : Nat, k ≤ ps.length ∧ i = .int .i64 k ∧ Hid ((ps.take k).all ptOk = true) ∧ Below w.heap.size w wr) (fun i _ => ps.length - (intOf i).toNat)
  case atStart => exact ⟨0, Nat.zero_le _, rfl, by simp [Hid], Below.refl _ _⟩
  case round =>
    obtain ⟨k, hk, rfl, he, hb⟩ := hrel
    by_cases hlt : k < ps.length
    · obtain ⟨b, off, rfl, hbl, hc1, hc2⟩ := (hx.up hb).at_ hlt
      by_cases hp : ptOk ps[k] = true
      · have ⟨p1, p2, p3, p4⟩ := ptOk_true.1 hp
        have he' : Hid ((ps.take (k + 1)).all ptOk = true) := by show (ps.take (k+1)).all ptOk = true; rw [allp_take_succ ptOk hlt, he.out, hp]; rfl
        clear hp
        go_wp2
        go_roundw
        case rel => exact ⟨k + 1, hlt, by go_num, he', (by repeat' (first | (with_reducible exact Below.refl _ _) | (with_reducible assumption) | (with_reducible refine Ext.up _ ?_ ?_) | (with_reducible exact Nat.le_refl _) | (exact Below.size (by with_reducible assumption)) | (with_reducible refine Ext.le_size _ ?_) | (with_reducible refine le_alloc ?_ _) | (with_reducible refine le_setCell ?_ _ _) | (with_reducible refine le_drew ?_) | (with_reducible refine Below.alloc ?_ ?_ _) | (with_reducible refine Below.drew ?_) | (with_reducible refine Below.setCell ?_ ?_ _) | go_size | (simp [go_sem]; done) | omega))⟩
        case measure => simp [intOf]; omega
      · have hp' : ptOk ps[k] = false := by simpa using hp
        have HF := Lib.hid (poly_no1 (allp_of_not hlt hp'))
        have hp2 := Lib.hid (ptOk_false.1 hp')
        clear hp hp'
        go_wp2
        all_goals first | (go_ret; exact ⟨ret_bool HF.out.symm, (by repeat' (first | (with_reducible exact Below.refl _ _) | (with_reducible assumption) | (with_reducible refine Ext.up _ ?_ ?_) | (with_reducible exact Nat.le_refl _) | (exact Below.size (by with_reducible assumption)) | (with_reducible refine Ext.le_size _ ?_) | (with_reducible refine le_alloc ?_ _) | (with_reducible refine le_setCell ?_ _ _) | (with_reducible refine le_drew ?_) | (with_reducible refine Below.alloc ?_ ?_ _) | (with_reducible refine Below.drew ?_) | (with_reducible refine Below.setCell ?_ ?_ _) | go_size | (simp [go_sem]; done) | omega))⟩) | (exfalso; refine hp2.out ⟨?_, ?_, ?_, ?_⟩ <;> omega)
    · have hall : ps.all ptOk = true := by have := he.out; rwa [List.take_of_length_le (by omega)] at this
      have HA := Lib.hid hall
      clear hall he
      obtain ⟨wo, rfl⟩ : ∃ wo : World, wo = wr := ⟨_, rfl⟩
      go_wp2
      clear hlt hk
      go_loopw [44] (fun i wr => ∃ k : Nat, k ≤ ps.length ∧ i = .int .i64 k ∧ Hid (sidesTo ps k = true) ∧ Below w.heap.size w wr) (fun i _ => ps.length - (intOf i).toNat)
      case atStart => exact ⟨0, Nat.zero_le _, rfl, rfl, hb⟩
      case round =>
        clear hb
        obtain ⟨i, hi, rfl, he, hb⟩ := hrel
        by_cases hlt : i < ps.length
        · obtain ⟨j, hj⟩ : ∃ j, j = (i + 1) % ps.length := ⟨_, rfl⟩
          have hjl : j < ps.length := by rw [hj]; exact Nat.mod_lt _ (by omega)
          have hjI : ((i : Int) + 1) % (ps.length : Int) = (j : Int) := by rw [hj]; simp
          have HJ := Lib.hid hj
          clear hj
          go_wp2
          go_loopw [53] (fun kv wr => ∃ k : Nat, k ≤ ps.length ∧ kv = .int .i64 k ∧ Hid (sideTo ps i k = true) ∧ Below w.heap.size w wr) (fun kv _ => ps.length - (intOf kv).toNat)
          case atStart => exact ⟨0, Nat.zero_le _, rfl, rfl, hb⟩
          case round =>
            clear hb
            obtain ⟨k, hk, rfl, he2, hb⟩ := hrel
            by_cases hlk : k < ps.length
            · obtain ⟨b, off, hbe, hbl, hc1, hc2⟩ := (hx.up hb).at_ hlk
              obtain ⟨b2, off2, hbe2, hbl2, hc3, hc4⟩ := (hx.up hb).at_ hlt
              obtain ⟨b3, off3, hbe3, hbl3, hc5, hc6⟩ := (hx.up hb).at_ hjl
              subst hbe
              cases hbe2
              cases hbe3
              have o1 : ptOk ps[k] = true := List.all_eq_true.1 HA.out _ (List.getElem_mem hlk)
              have o2 : ptOk ps[i] = true := List.all_eq_true.1 HA.out _ (List.getElem_mem hlt)
              have o3 : ptOk ps[j] = true := List.all_eq_true.1 HA.out _ (List.getElem_mem hjl)
              have hL : Hid (leftB ps i k = decide (k = i ∨ k = j ∨ 0 < turn ps[i] ps[j] ps[k])) := by
                show leftB ps i k = _
                rw [leftB, ← HJ.out, pt_get hlk, pt_get hlt, pt_get hjl]
              by_cases hki : k = i
              · have g1 : ((k : Int) != (i : Int)) = false := by simp [hki]
                have HS : Hid (sideTo ps i (k + 1) = true) := by show sideTo ps i (k + 1) = true; rw [sideTo_succ, he2.out, hL.out]; simp [hki]
                clear hki
                go_wp2
                (refine wp_region_ext (by kernel_rfl) (by kernel_rfl) ?_; (repeat (go_big_quiet_step (fail))); refine wpQuiet_nil ?_; intro _ hw'; obtain ⟨xq, hw''⟩ := hw'; subst hw'')
                go_wp2
                go_roundw
                case rel => exact ⟨k + 1, hlk, by go_num, HS, (by repeat' (first | (with_reducible exact Below.refl _ _) | (with_reducible assumption) | (with_reducible refine Ext.up _ ?_ ?_) | (with_reducible exact Nat.le_refl _) | (exact Below.size (by with_reducible assumption)) | (with_reducible refine Ext.le_size _ ?_) | (with_reducible refine le_alloc ?_ _) | (with_reducible refine le_setCell ?_ _ _) | (with_reducible refine le_drew ?_) | (with_reducible refine Below.alloc ?_ ?_ _) | (with_reducible refine Below.drew ?_) | (with_reducible refine Below.setCell ?_ ?_ _) | go_size | (simp [go_sem]; done) | omega))⟩
                case measure => simp [intOf]; omega
              · have g1 : ((k : Int) != (i : Int)) = true := bne_iff_ne.2 (by omega)
                by_cases hkj : k = j
                · have g2 : ((k : Int) != (j : Int)) = false := by simp [hkj]
                  have HS : Hid (sideTo ps i (k + 1) = true) := by show sideTo ps i (k + 1) = true; rw [sideTo_succ, he2.out, hL.out]; simp [hkj]
                  clear hki hkj
                  go_wp2
                  (refine wp_region_ext (by kernel_rfl) (by kernel_rfl) ?_; (repeat (go_big_quiet_step (fail))); refine wpQuiet_nil ?_; intro _ hw'; obtain ⟨xq, hw''⟩ := hw'; subst hw'')
                  go_wp2
                  go_roundw
                  case rel => exact ⟨k + 1, hlk, by go_num, HS, (by repeat' (first | (with_reducible exact Below.refl _ _) | (with_reducible assumption) | (with_reducible refine Ext.up _ ?_ ?_) | (with_reducible exact Nat.le_refl _) | (exact Below.size (by with_reducible assumption)) | (with_reducible refine Ext.le_size _ ?_) | (with_reducible refine le_alloc ?_ _) | (with_reducible refine le_setCell ?_ _ _) | (with_reducible refine le_drew ?_) | (with_reducible refine Below.alloc ?_ ?_ _) | (with_reducible refine Below.drew ?_) | (with_reducible refine Below.setCell ?_ ?_ _) | go_size | (simp [go_sem]; done) | omega))⟩
                  case measure => simp [intOf]; omega
                · have g2 : ((k : Int) != (j : Int)) = true := bne_iff_ne.2 (by omega)
                  by_cases ht : 0 < turn ps[i] ps[j] ps[k]
                  · have ht2 : decide (turn ps[i] ps[j] ps[k] ≤ 0) = false := decide_eq_false (by omega)
                    have HS : Hid (sideTo ps i (k + 1) = true) := by show sideTo ps i (k + 1) = true; rw [sideTo_succ, he2.out, hL.out]; simp [ht]
                    clear hki hkj
                    go_wp2
                    (refine wp_region_ext (by kernel_rfl) (by kernel_rfl) ?_; (repeat (go_big_quiet_step ((go_at_call 61; exact Gives.quiet (turnI_any _ _ _ _ o2 o3 o1))))); refine wpQuiet_nil ?_; intro _ hw'; obtain ⟨xq, hw''⟩ := hw'; subst hw'')
                    go_wp2
                    go_roundw
                    case rel => exact ⟨k + 1, hlk, by go_num, HS, (by repeat' (first | (with_reducible exact Below.refl _ _) | (with_reducible assumption) | (with_reducible refine Ext.up _ ?_ ?_) | (with_reducible exact Nat.le_refl _) | (exact Below.size (by with_reducible assumption)) | (with_reducible refine Ext.le_size _ ?_) | (with_reducible refine le_alloc ?_ _) | (with_reducible refine le_setCell ?_ _ _) | (with_reducible refine le_drew ?_) | (with_reducible refine Below.alloc ?_ ?_ _) | (with_reducible refine Below.drew ?_) | (with_reducible refine Below.setCell ?_ ?_ _) | go_size | (simp [go_sem]; done) | omega))⟩
                    case measure => simp [intOf]; omega
                  · have ht2 : decide (turn ps[i] ps[j] ps[k] ≤ 0) = true := decide_eq_true (by omega)
                    have HF : Hid (polyB ps = false) := poly_no2 (sides_not (k := k) hlt hlk (by rw [hL.out]; simp [hki, hkj, ht]))
                    clear hki hkj
                    go_wp2
                    (refine wp_region_ext (by kernel_rfl) (by kernel_rfl) ?_; (repeat (go_big_quiet_step ((go_at_call 61; exact Gives.quiet (turnI_any _ _ _ _ o2 o3 o1))))); refine wpQuiet_nil ?_; intro _ hw'; obtain ⟨xq, hw''⟩ := hw'; subst hw'')
                    go_wp2
                    go_ret
                    exact ⟨ret_bool HF.out.symm, (by repeat' (first | (with_reducible exact Below.refl _ _) | (with_reducible assumption) | (with_reducible refine Ext.up _ ?_ ?_) | (with_reducible exact Nat.le_refl _) | (exact Below.size (by with_reducible assumption)) | (with_reducible refine Ext.le_size _ ?_) | (with_reducible refine le_alloc ?_ _) | (with_reducible refine le_setCell ?_ _ _) | (with_reducible refine le_drew ?_) | (with_reducible refine Below.alloc ?_ ?_ _) | (with_reducible refine Below.drew ?_) | (with_reducible refine Below.setCell ?_ ?_ _) | go_size | (simp [go_sem]; done) | omega))⟩
            · have HS : Hid (sidesTo ps (i + 1) = true) := by
                have hkn : k = ps.length := by omega
                show sidesTo ps (i + 1) = true
                rw [sidesTo_succ, he.out, ← hkn, he2.out]; rfl
              go_wp2
              go_roundw
              case rel => exact ⟨i + 1, hlt, by go_num, HS, hb⟩
              case measure => simp [intOf]; omega
        · have hin : i = ps.length := by omega
          have HP := Lib.hid (poly_yes HA.out (by rw [← hin]; exact he.out))
          clear hin
          go_wp2
          go_ret
          exact ⟨ret_bool (by rw [HP.out]; simp; omega), hb⟩
end Go.Proofs.Ytbgeooalhoaemaa
