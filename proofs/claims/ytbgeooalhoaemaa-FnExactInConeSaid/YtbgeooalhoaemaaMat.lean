/-
  WALKS: matrices: their laws' copies and comparisons, IsMatrix of both packages.
-/
import Derived.Test.YtbgeooalhoaemaaSlice
namespace Go.Proofs.Ytbgeooalhoaemaa
open Go.RowKit

theorem szIntS_ok (A : Option Addr) (n c : Nat) (left : Int) (w : World) (h : (n : Int) ≤ left) (hl : left ≤ 1048576) :
    Calls Try.prog 55 #[.slice A n c, .int .i64 left] w fun e w' => e = .returned (.int .i64 (left - n)) ∧ w = w' := by
  go_enter Try.func55, Try.ntmps55
  go_wp2
  go_ret
  exact ⟨rfl, rfl⟩
theorem szIntS_no (A : Option Addr) (n c : Nat) (left : Int) (w : World) (h : left < n) (hl : 0 ≤ left) (hl' : left ≤ 1048576) (hn : n ≤ 9223372036854775807) :
    Calls Try.prog 55 #[.slice A n c, .int .i64 left] w fun e w' => e = .returned (.int .i64 (-1)) ∧ w = w' := by
  go_enter Try.func55, Try.ntmps55
  go_wp2
  go_ret
  exact ⟨rfl, rfl⟩
theorem szMatrix_ok (r q : Int) (A : Option Addr) (n c : Nat) (left : Int) (w : World) (h : (n : Int) ≤ left) (hl : left ≤ 1048576) :
    Gives Try.prog 15 #[.agg #[.int .i64 r, .int .i64 q, .slice A n c], .int .i64 left] w (.int .i64 (left - n)) := by
  refine Gives.of_below ?_
  go_enter Try.func15, Try.ntmps15
  go_wp2_with (go_at_call 55; refine (szIntS_ok _ _ _ _ _ h hl).mono ?_; rintro e w' ⟨rfl, rfl⟩)
  go_ret
  exact ⟨rfl, (by repeat' (first | (with_reducible exact Below.refl _ _) | (with_reducible assumption) | (with_reducible refine Ext.up _ ?_ ?_) | (with_reducible exact Nat.le_refl _) | (exact Below.size (by with_reducible assumption)) | (with_reducible refine Ext.le_size _ ?_) | (with_reducible refine le_alloc ?_ _) | (with_reducible refine le_setCell ?_ _ _) | (with_reducible refine le_drew ?_) | (with_reducible refine Below.alloc ?_ ?_ _) | (with_reducible refine Below.drew ?_) | (with_reducible refine Below.setCell ?_ ?_ _) | go_size | (simp [go_sem]; done) | omega))⟩
theorem szMatrix_no (r q : Int) (A : Option Addr) (n c : Nat) (left : Int) (w : World) (h : left < n) (hl : 0 ≤ left) (hl' : left ≤ 1048576) (hn : n ≤ 9223372036854775807) :
    Gives Try.prog 15 #[.agg #[.int .i64 r, .int .i64 q, .slice A n c], .int .i64 left] w (.int .i64 (-1)) := by
  refine Gives.of_below ?_
  go_enter Try.func15, Try.ntmps15
  go_wp2_with (go_at_call 55; refine (szIntS_no _ _ _ _ _ h hl hl' hn).mono ?_; rintro e w' ⟨rfl, rfl⟩)
  go_ret
  exact ⟨rfl, (by repeat' (first | (with_reducible exact Below.refl _ _) | (with_reducible assumption) | (with_reducible refine Ext.up _ ?_ ?_) | (with_reducible exact Nat.le_refl _) | (exact Below.size (by with_reducible assumption)) | (with_reducible refine Ext.le_size _ ?_) | (with_reducible refine le_alloc ?_ _) | (with_reducible refine le_setCell ?_ _ _) | (with_reducible refine le_drew ?_) | (with_reducible refine Below.alloc ?_ ?_ _) | (with_reducible refine Below.drew ?_) | (with_reducible refine Below.setCell ?_ ?_ _) | go_size | (simp [go_sem]; done) | omega))⟩
/-- A matrix that a call hands back: new memory. -/
def MadeMat (base : Nat) (r q : Int) (xs : List Int) (w0 : World) (e : Ending) (w' : World) : Prop :=
  ∃ A c, e = .returned (.agg #[.int .i64 r, .int .i64 q, .slice A xs.length c]) ∧ OI w' base A xs.length c xs ∧ ∃ x : Ext w0, w' = x.val
set_option maxHeartbeats 1000000 in
theorem toMatrix_any (r q : Int) (A : Option Addr) (c : Nat) (xs : List Int) (w : World) (hr : RI w A xs) (hn : xs.length ≤ 17592186044416) :
    Calls Try.prog 17 #[.agg #[.int .i64 r, .int .i64 q, .slice A xs.length c]] w (MadeMat w.heap.size r q xs w) := by
  go_enter Try.func17, Try.ntmps17
  go_wp2_with (go_at_call 26; refine (toIntS_any _ _ xs _ (by exact hr.up (by repeat' (first | (with_reducible exact Below.refl _ _) | (with_reducible assumption) | (with_reducible refine Ext.up _ ?_ ?_) | (with_reducible exact Nat.le_refl _) | (exact Below.size (by with_reducible assumption)) | (with_reducible refine Ext.le_size _ ?_) | (with_reducible refine le_alloc ?_ _) | (with_reducible refine le_setCell ?_ _ _) | (with_reducible refine le_drew ?_) | (with_reducible refine Below.alloc ?_ ?_ _) | (with_reducible refine Below.drew ?_) | (with_reducible refine Below.setCell ?_ ?_ _) | go_size | (simp [go_sem]; done) | omega))) hn).mono ?_; rintro e w' ⟨A1, c1, rfl, hO1, x1, rfl⟩)
  exact bodyPost_ret (v := .agg #[.int .i64 r, .int .i64 q, .slice A1 xs.length c1]) (by simp [results, Try.results17, go_sem]) rfl ⟨A1, c1, rfl, (by refine OI.mono (base := ?ownb1) ?ownh1 ?ownl1; (case ownh1 => (repeat' (first | (with_reducible assumption) | (with_reducible refine OI.set_below ?_ ?_ _) | (with_reducible refine OI.alloc ?_ _) | (with_reducible refine OI.ext ?_ _) | omega | (simp; done) | (simp; omega) | (simp [go_sem]; done) | (simp [go_sem]; omega)))); (case ownl1 => first | omega | (simp; done) | (simp; omega) | (simp [go_sem]; done) | (simp [go_sem]; omega))), Ext.some (by repeat' (first | (with_reducible exact Below.refl _ _) | (with_reducible assumption) | (with_reducible refine Ext.up _ ?_ ?_) | (with_reducible exact Nat.le_refl _) | (exact Below.size (by with_reducible assumption)) | (with_reducible refine Ext.le_size _ ?_) | (with_reducible refine le_alloc ?_ _) | (with_reducible refine le_setCell ?_ _ _) | (with_reducible refine le_drew ?_) | (with_reducible refine Below.alloc ?_ ?_ _) | (with_reducible refine Below.drew ?_) | (with_reducible refine Below.setCell ?_ ?_ _) | go_size | (simp [go_sem]; done) | omega))⟩
set_option maxHeartbeats 1000000 in
theorem eqIntS_any (A B : Option Addr) (c d : Nat) (xs ys : List Int) (w : World) (hx : RI w A xs) (hy : RI w B ys) (hn : xs.length ≤ 17592186044416) (hn' : ys.length ≤ 17592186044416) :
    Gives Try.prog 28 #[.slice A xs.length c, .slice B ys.length d] w (.bool (decide (xs = ys))) := by
  refine Gives.of_below ?_
  by_cases hl : xs.length = ys.length
  · have hl1 : ((xs.length : Int) != (ys.length : Int)) = false := by rw [hl]; simp
    have hl2 : ((xs.length : Int) != (xs.length : Int)) = false := by simp
    have HL := Lib.hid hl
    clear hl
    go_enter Try.func28, Try.ntmps28
    go_wp2
    go_loopw [5] (fun i wr => ∃ k : Nat, k ≤ xs.length ∧ i = .int .i64 k ∧ Hid (xs.take k = ys.take k) ∧ Below w.heap.size w wr) (fun i _ => xs.length - (intOf i).toNat)
    case atStart => exact ⟨0, Nat.zero_le _, rfl, rfl, Below.refl _ _⟩
    case round =>
      obtain ⟨k, hk, rfl, he, hb⟩ := hrel
      by_cases hlt : k < xs.length
      · have hlt' : k < ys.length := by have := HL.out; omega
        obtain ⟨b, off, rfl, hbl, hcell⟩ := (hx.up hb).at_ hlt
        obtain ⟨b', off', rfl, hbl', hcell'⟩ := (hy.up hb).at_ hlt'
        by_cases hv : xs[k] = ys[k]
        · have hv' : (xs[k] != ys[k]) = false := by simp [hv]
          have HV := Lib.hid hv
          clear hv
          go_wp2
          (refine wp_region_ext (by kernel_rfl) (by kernel_rfl) ?_; (repeat (go_big_quiet_step (fail))); refine wpQuiet_nil ?_; intro _ hw'; obtain ⟨xq, hw''⟩ := hw'; subst hw'')
          go_wp2
          go_roundw
          case rel => exact ⟨k + 1, hlt, by go_num, by
            show xs.take (k+1) = ys.take (k+1)
            rw [List.take_succ_eq_append_getElem hlt, List.take_succ_eq_append_getElem hlt', he.out, HV.out], (by repeat' (first | (with_reducible exact Below.refl _ _) | (with_reducible assumption) | (with_reducible refine Ext.up _ ?_ ?_) | (with_reducible exact Nat.le_refl _) | (exact Below.size (by with_reducible assumption)) | (with_reducible refine Ext.le_size _ ?_) | (with_reducible refine le_alloc ?_ _) | (with_reducible refine le_setCell ?_ _ _) | (with_reducible refine le_drew ?_) | (with_reducible refine Below.alloc ?_ ?_ _) | (with_reducible refine Below.drew ?_) | (with_reducible refine Below.setCell ?_ ?_ _) | go_size | (simp [go_sem]; done) | omega))⟩
          case measure => simp [intOf]; omega
        · have hv' : (xs[k] != ys[k]) = true := by simp [hv]
          have hne : xs ≠ ys := fun e => hv (by subst e; rfl)
          have HN := Lib.hid hne
          clear hne hv
          go_wp2
          (refine wp_region_ext (by kernel_rfl) (by kernel_rfl) ?_; (repeat (go_big_quiet_step (fail))); refine wpQuiet_nil ?_; intro _ hw'; obtain ⟨xq, hw''⟩ := hw'; subst hw'')
          go_wp2
          go_ret
          exact ⟨ret_bool (by simp [HN.out]), (by repeat' (first | (with_reducible exact Below.refl _ _) | (with_reducible assumption) | (with_reducible refine Ext.up _ ?_ ?_) | (with_reducible exact Nat.le_refl _) | (exact Below.size (by with_reducible assumption)) | (with_reducible refine Ext.le_size _ ?_) | (with_reducible refine le_alloc ?_ _) | (with_reducible refine le_setCell ?_ _ _) | (with_reducible refine le_drew ?_) | (with_reducible refine Below.alloc ?_ ?_ _) | (with_reducible refine Below.drew ?_) | (with_reducible refine Below.setCell ?_ ?_ _) | go_size | (simp [go_sem]; done) | omega))⟩
      · go_wp2
        go_ret
        have h1 : k = xs.length := by omega
        have h2 : xs = ys := by
          have := he.out
          rw [h1, List.take_of_length_le (Nat.le_refl _), List.take_of_length_le (by rw [HL.out]; exact Nat.le_refl _)] at this
          exact this
        exact ⟨ret_bool (by simp [h2]), hb⟩
  · have hl1 : ((xs.length : Int) != (ys.length : Int)) = true := by simp; omega
    have hne : xs ≠ ys := fun e => hl (by rw [e])
    have HN := Lib.hid hne
    clear hne hl
    go_enter Try.func28, Try.ntmps28
    go_wp2
    go_ret
    exact ⟨ret_bool (by simp [HN.out]), Below.refl _ _⟩
set_option maxHeartbeats 1000000 in
theorem eqMatrix_same (r q : Int) (A B : Option Addr) (c d : Nat) (xs : List Int) (w : World) (hx : RI w A xs) (hy : RI w B xs) (hn : xs.length ≤ 17592186044416) :
    Gives Try.prog 19 #[.agg #[.int .i64 r, .int .i64 q, .slice A xs.length c], .agg #[.int .i64 r, .int .i64 q, .slice B xs.length d]] w (.bool true) := by
  refine Gives.of_below ?_
  go_enter Try.func19, Try.ntmps19
  go_wp2_with (go_at_call 28; refine (eqIntS_any _ _ _ _ xs xs _ (by exact hx.up (by repeat' (first | (with_reducible exact Below.refl _ _) | (with_reducible assumption) | (with_reducible refine Ext.up _ ?_ ?_) | (with_reducible exact Nat.le_refl _) | (exact Below.size (by with_reducible assumption)) | (with_reducible refine Ext.le_size _ ?_) | (with_reducible refine le_alloc ?_ _) | (with_reducible refine le_setCell ?_ _ _) | (with_reducible refine le_drew ?_) | (with_reducible refine Below.alloc ?_ ?_ _) | (with_reducible refine Below.drew ?_) | (with_reducible refine Below.setCell ?_ ?_ _) | go_size | (simp [go_sem]; done) | omega))) (by exact hy.up (by repeat' (first | (with_reducible exact Below.refl _ _) | (with_reducible assumption) | (with_reducible refine Ext.up _ ?_ ?_) | (with_reducible exact Nat.le_refl _) | (exact Below.size (by with_reducible assumption)) | (with_reducible refine Ext.le_size _ ?_) | (with_reducible refine le_alloc ?_ _) | (with_reducible refine le_setCell ?_ _ _) | (with_reducible refine le_drew ?_) | (with_reducible refine Below.alloc ?_ ?_ _) | (with_reducible refine Below.drew ?_) | (with_reducible refine Below.setCell ?_ ?_ _) | go_size | (simp [go_sem]; done) | omega))) hn hn).calls.mono ?_; rintro e w' ⟨rfl, x1, rfl⟩)
  go_ret
  exact ⟨rfl, (by repeat' (first | (with_reducible exact Below.refl _ _) | (with_reducible assumption) | (with_reducible refine Ext.up _ ?_ ?_) | (with_reducible exact Nat.le_refl _) | (exact Below.size (by with_reducible assumption)) | (with_reducible refine Ext.le_size _ ?_) | (with_reducible refine le_alloc ?_ _) | (with_reducible refine le_setCell ?_ _ _) | (with_reducible refine le_drew ?_) | (with_reducible refine Below.alloc ?_ ?_ _) | (with_reducible refine Below.drew ?_) | (with_reducible refine Below.setCell ?_ ?_ _) | go_size | (simp [go_sem]; done) | omega))⟩

def dimB (r c : Int) (n : Nat) : Bool := decide (0 ≤ r ∧ r ≤ 24 ∧ 0 ≤ c ∧ c ≤ 24 ∧ (n : Int) = r * c)
def matB (r c : Int) (xs : List Int) : Bool := dimB r c xs.length && xs.all numB
theorem dimB_true {r c : Int} {n : Nat} : dimB r c n = true ↔ 0 ≤ r ∧ r ≤ 24 ∧ 0 ≤ c ∧ c ≤ 24 ∧ (n : Int) = r * c := by simp [dimB]
theorem mul_24 {r c : Int} (h1 : 0 ≤ r) (h2 : r ≤ 24) (h3 : 0 ≤ c) (h4 : c ≤ 24) : 0 ≤ r * c ∧ r * c ≤ 576 := by
  have := mul_bd (A := 24) (B := 24) (a := r) (b := c) (by omega) h2 (by omega) h4
  exact ⟨Int.mul_nonneg h1 h3, by omega⟩
theorem wrap_24 {r c : Int} (h1 : 0 ≤ r) (h2 : r ≤ 24) (h3 : 0 ≤ c) (h4 : c ≤ 24) : wrap64 (r * c) = r * c := by
  have := mul_24 h1 h2 h3 h4; exact w64 (by omega) (by omega)
theorem matB_no {r q : Int} {xs : List Int} (h : dimB r q xs.length = false) : false = matB r q xs := by rw [matB, h]; rfl
theorem matB_yes {r q : Int} {xs : List Int} (h1 : 0 ≤ r) (h2 : r ≤ 24) (h3 : 0 ≤ q) (h4 : q ≤ 24) (h : (xs.length : Int) = wrap64 (r * q)) : xs.all numB = matB r q xs := by
  rw [wrap_24 h1 h2 h3 h4] at h
  rw [matB, dimB_true.2 ⟨h1, h2, h3, h4, h⟩]; rfl
theorem dimB_no {r q : Int} {n : Nat} (h1 : 0 ≤ r) (h2 : r ≤ 24) (h3 : 0 ≤ q) (h4 : q ≤ 24) (h : ¬ (n : Int) = wrap64 (r * q)) : dimB r q n = false := by
  rw [wrap_24 h1 h2 h3 h4] at h
  unfold dimB; apply decide_eq_false; omega
theorem all_take_succ {xs : List Int} {k : Nat} (p : Int → Bool) (h : k < xs.length) : (xs.take (k + 1)).all p = ((xs.take k).all p && p xs[k]) := by
  rw [List.take_succ_eq_append_getElem h, List.all_append, List.all_cons, List.all_nil, Bool.and_true]
theorem all_of_not {xs : List Int} {k : Nat} {p : Int → Bool} (h : k < xs.length) (hp : p xs[k] = false) : xs.all p = false := by
  rw [List.all_eq_false]; exact ⟨xs[k], List.getElem_mem h, by simp [hp]⟩

set_option maxHeartbeats 1000000 in
theorem areNumbers_any (A : Option Addr) (c : Nat) (xs : List Int) (w : World) (hx : RI w A xs) (hn : xs.length ≤ 9223372036854775807) :
    Calls Try.prog 63 #[.slice A xs.length c] w fun e w' => e = .returned (.bool (xs.all numB)) ∧ w = w' := by
  go_enter Try.func63, Try.ntmps63
  go_wp2
  go_loop [7] (fun i => ∃ k : Nat, k ≤ xs.length ∧ i = .int .i64 k ∧ Hid ((xs.take k).all numB = true)) (fun i => xs.length - (intOf i).toNat)
  case atStart => exact ⟨0, Nat.zero_le _, rfl, by simp [Hid]⟩
  case round =>
    obtain ⟨k, hk, rfl, he⟩ := hrel
    by_cases hlt : k < xs.length
    · obtain ⟨b, off, rfl, hbl, hcell⟩ := hx.at_ hlt
      by_cases hv : numB xs[k] = true
      · have he' : Hid ((xs.take (k + 1)).all numB = true) := by show (xs.take (k+1)).all numB = true; rw [all_take_succ numB hlt, he.out, hv]; rfl
        go_wp2_with (go_at_call 85; refine (isNumberI_any _ _).mono ?_; rintro e w' ⟨rfl, rfl⟩)
        go_round
        case rel => exact ⟨k + 1, hlt, by go_num, he'⟩
        case measure => simp [intOf]; omega
      · have hv' : numB xs[k] = false := by simpa using hv
        have ha := all_of_not hlt hv'
        have HA := Lib.hid ha
        clear hv ha
        go_wp2_with (go_at_call 85; refine (isNumberI_any _ _).mono ?_; rintro e w' ⟨rfl, rfl⟩)
        go_ret
        exact ⟨ret_bool (by rw [HA.out]), rfl⟩
    · go_wp2
      go_ret
      have h1 : k = xs.length := by omega
      subst h1
      have := he.out
      rw [List.take_of_length_le (Nat.le_refl _)] at this
      exact ⟨ret_bool this.symm, rfl⟩
theorem areNumbers_of {xs : List Int} {t : Bool} (h : xs.all numB = t) (A : Option Addr) (c : Nat) (w : World) (hx : RI w A xs) (hn : xs.length ≤ 9223372036854775807) :
    Calls Try.prog 63 #[.slice A xs.length c] w fun e w' => e = .returned (.bool t) ∧ w = w' := h ▸ areNumbers_any A c xs w hx hn
set_option maxHeartbeats 2000000 in
theorem isMatrixI_any (r q : Int) (A : Option Addr) (c : Nat) (xs : List Int) (w : World) (hx : RI w A xs) (hn : xs.length ≤ 9223372036854775807) :
    Gives Try.prog 58 #[.agg #[.int .i64 r, .int .i64 q, .slice A xs.length c]] w (.bool (matB r q xs)) := by
  refine Gives.of_below ?_
  go_enter Try.func58, Try.ntmps58
  go_wp2_with (go_at_call 63; refine (areNumbers_any _ _ xs _ (by exact hx.up (by repeat' (first | (with_reducible exact Below.refl _ _) | (with_reducible assumption) | (with_reducible refine Ext.up _ ?_ ?_) | (with_reducible exact Nat.le_refl _) | (exact Below.size (by with_reducible assumption)) | (with_reducible refine Ext.le_size _ ?_) | (with_reducible refine le_alloc ?_ _) | (with_reducible refine le_setCell ?_ _ _) | (with_reducible refine le_drew ?_) | (with_reducible refine Below.alloc ?_ ?_ _) | (with_reducible refine Below.drew ?_) | (with_reducible refine Below.setCell ?_ ?_ _) | go_size | (simp [go_sem]; done) | omega))) hn).mono ?_; rintro e w' ⟨rfl, rfl⟩)
  all_goals go_ret
  all_goals refine ⟨ret_bool ?_, (by repeat' (first | (with_reducible exact Below.refl _ _) | (with_reducible assumption) | (with_reducible refine Ext.up _ ?_ ?_) | (with_reducible exact Nat.le_refl _) | (exact Below.size (by with_reducible assumption)) | (with_reducible refine Ext.le_size _ ?_) | (with_reducible refine le_alloc ?_ _) | (with_reducible refine le_setCell ?_ _ _) | (with_reducible refine le_drew ?_) | (with_reducible refine Below.alloc ?_ ?_ _) | (with_reducible refine Below.drew ?_) | (with_reducible refine Below.setCell ?_ ?_ _) | go_size | (simp [go_sem]; done) | omega))⟩
  all_goals first | exact matB_yes ‹_› ‹_› ‹_› ‹_› ‹_› | exact matB_no (dimB_no ‹_› ‹_› ‹_› ‹_› ‹_›) | exact matB_no (by unfold dimB; apply decide_eq_false; omega)
set_option maxHeartbeats 2000000 in
theorem isMatrixS_any (r q : Int) (A : Option Addr) (c : Nat) (xs : List Int) (w : World) (hx : RI w A xs) (hn : xs.length ≤ 9223372036854775807) :
    Gives Try.prog 56 #[.agg #[.int .i64 r, .int .i64 q, .slice A xs.length c]] w (.bool (matB r q xs)) := by
  refine Gives.of_below ?_
  by_cases hd : dimB r q xs.length = true
  · have ⟨h1, h2, h3, h4, h5⟩ := dimB_true.1 hd
    have ⟨h6, h7⟩ := mul_24 h1 h2 h3 h4
    have hr1 : inB r 0 24 = true := inB_true.2 ⟨h1, h2⟩
    have hr2 : inB q 0 24 = true := inB_true.2 ⟨h3, h4⟩
    have hl : ((xs.length : Int) != wrap64 (r * q)) = false := by rw [w64 (x := r * q) (by omega) (by omega), h5]; simp
    clear h1 h2 h3 h4 h5 h6 h7
    go_enter Try.func56, Try.ntmps56
    go_wp2_with (go_at_call 57; refine (l1In_any _ _ _ _).mono ?_; rintro e w' ⟨rfl, rfl⟩)
    go_loop [3] (fun i => ∃ k : Nat, k ≤ xs.length ∧ i = .int .i64 k ∧ Hid ((xs.take k).all numB = true)) (fun i => xs.length - (intOf i).toNat)
    case atStart => exact ⟨0, Nat.zero_le _, rfl, by simp [Hid]⟩
    case round =>
      obtain ⟨k, hk, rfl, he⟩ := hrel
      by_cases hlt : k < xs.length
      · obtain ⟨b, off, rfl, hbl, hcell⟩ := (hx.up (W := w.alloc (.cells #[.int .i64 r, .int .i64 q, .slice A xs.length c] 27)) (by repeat' (first | (with_reducible exact Below.refl _ _) | (with_reducible assumption) | (with_reducible refine Ext.up _ ?_ ?_) | (with_reducible exact Nat.le_refl _) | (exact Below.size (by with_reducible assumption)) | (with_reducible refine Ext.le_size _ ?_) | (with_reducible refine le_alloc ?_ _) | (with_reducible refine le_setCell ?_ _ _) | (with_reducible refine le_drew ?_) | (with_reducible refine Below.alloc ?_ ?_ _) | (with_reducible refine Below.drew ?_) | (with_reducible refine Below.setCell ?_ ?_ _) | go_size | (simp [go_sem]; done) | omega))).at_ hlt
        by_cases hv : numB xs[k] = true
        · have he' : Hid ((xs.take (k + 1)).all numB = true) := by show (xs.take (k+1)).all numB = true; rw [all_take_succ numB hlt, he.out, hv]; rfl
          go_wp2_with (go_at_call 84; refine (isNumberS_any _ _).mono ?_; rintro e w' ⟨rfl, rfl⟩)
          go_round
          case rel => exact ⟨k + 1, hlt, by go_num, he'⟩
          case measure => simp [intOf]; omega
        · have hv' : numB xs[k] = false := by simpa using hv
          have ha := all_of_not hlt hv'
          have HA := Lib.hid ha
          clear hv ha
          go_wp2_with (go_at_call 84; refine (isNumberS_any _ _).mono ?_; rintro e w' ⟨rfl, rfl⟩)
          go_ret
          exact ⟨ret_bool (by rw [matB, HA.out]; simp), (by repeat' (first | (with_reducible exact Below.refl _ _) | (with_reducible assumption) | (with_reducible refine Ext.up _ ?_ ?_) | (with_reducible exact Nat.le_refl _) | (exact Below.size (by with_reducible assumption)) | (with_reducible refine Ext.le_size _ ?_) | (with_reducible refine le_alloc ?_ _) | (with_reducible refine le_setCell ?_ _ _) | (with_reducible refine le_drew ?_) | (with_reducible refine Below.alloc ?_ ?_ _) | (with_reducible refine Below.drew ?_) | (with_reducible refine Below.setCell ?_ ?_ _) | go_size | (simp [go_sem]; done) | omega))⟩
      · go_wp2
        go_ret
        have h1 : k = xs.length := by omega
        subst h1
        have := he.out
        rw [List.take_of_length_le (Nat.le_refl _)] at this
        exact ⟨ret_bool (by rw [matB, hd, this]; rfl), (by repeat' (first | (with_reducible exact Below.refl _ _) | (with_reducible assumption) | (with_reducible refine Ext.up _ ?_ ?_) | (with_reducible exact Nat.le_refl _) | (exact Below.size (by with_reducible assumption)) | (with_reducible refine Ext.le_size _ ?_) | (with_reducible refine le_alloc ?_ _) | (with_reducible refine le_setCell ?_ _ _) | (with_reducible refine le_drew ?_) | (with_reducible refine Below.alloc ?_ ?_ _) | (with_reducible refine Below.drew ?_) | (with_reducible refine Below.setCell ?_ ?_ _) | go_size | (simp [go_sem]; done) | omega))⟩
  · have hd' : dimB r q xs.length = false := by simpa using hd
    have hm : matB r q xs = false := by rw [matB, hd']; rfl
    have HM := Lib.hid hm
    have HD := Lib.hid hd
    clear hd hm hd'
    go_enter Try.func56, Try.ntmps56
    go_wp2_with (go_at_call 57; refine (l1In_any _ _ _ _).mono ?_; rintro e w' ⟨rfl, rfl⟩)
    all_goals try (go_ret; exact ⟨ret_bool HM.out.symm, (by repeat' (first | (with_reducible exact Below.refl _ _) | (with_reducible assumption) | (with_reducible refine Ext.up _ ?_ ?_) | (with_reducible exact Nat.le_refl _) | (exact Below.size (by with_reducible assumption)) | (with_reducible refine Ext.le_size _ ?_) | (with_reducible refine le_alloc ?_ _) | (with_reducible refine le_setCell ?_ _ _) | (with_reducible refine le_drew ?_) | (with_reducible refine Below.alloc ?_ ?_ _) | (with_reducible refine Below.drew ?_) | (with_reducible refine Below.setCell ?_ ?_ _) | go_size | (simp [go_sem]; done) | omega))⟩)
    exfalso
    have h1 := inB_true.1 ‹inB r 0 24 = true›
    have h2 := inB_true.1 ‹inB q 0 24 = true›
    have h3 := ‹((xs.length : Int) != wrap64 (r * q)) = false›
    rw [wrap_24 h1.1 h1.2 h2.1 h2.2] at h3
    exact HD.out (dimB_true.2 ⟨h1.1, h1.2, h2.1, h2.2, by simpa using h3⟩)
end Go.Proofs.Ytbgeooalhoaemaa
