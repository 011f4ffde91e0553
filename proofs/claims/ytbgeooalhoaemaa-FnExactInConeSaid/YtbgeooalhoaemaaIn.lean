/-
  WALKS: InCone of both packages.
-/
import Derived.Test.YtbgeooalhoaemaaRow
import Derived.Test.YtbgeooalhoaemaaCone
namespace Go.Proofs.Ytbgeooalhoaemaa
open Go.RowKit

/-- all rows have products of at least 0 -/
def rowsOk (xs vs : List Int) (Q : Nat) (n : Nat) : Bool := (List.range n).all fun i => decide (0 ≤ wrap64 (dotL (rowAt xs Q i) vs))
def inOk (r q : Int) (xs vs : List Int) : Bool := coneB r q xs && (((vs.length : Int) == q) && vs.all numB)
def inConeB (r q : Int) (xs vs : List Int) : Bool := inOk r q xs vs && rowsOk xs vs q.toNat r.toNat
theorem rowsOk_succ {xs vs : List Int} {Q n : Nat} : rowsOk xs vs Q (n + 1) = (rowsOk xs vs Q n && decide (0 ≤ wrap64 (dotL (rowAt xs Q n) vs))) := by
  simp [rowsOk, List.range_succ]
theorem rowsOk_not {xs vs : List Int} {Q n k : Nat} (h : k < n) (hk : wrap64 (dotL (rowAt xs Q k) vs) < 0) : rowsOk xs vs Q n = false := by
  rw [rowsOk, List.all_eq_false]
  exact ⟨k, by simpa using h, by simp; omega⟩
theorem inOk_true {r q : Int} {xs vs : List Int} (h : inOk r q xs vs = true) : coneB r q xs = true ∧ (vs.length : Int) = q ∧ vs.all numB = true := by
  simpa [inOk, and_assoc] using h
theorem row_in {R Q i L : Nat} (h : L = R * Q) (hi : i < R) : (i + 1) * Q ≤ L := by rw [h]; exact Nat.mul_le_mul_right _ hi

set_option maxHeartbeats 2000000 in
theorem inConeI_any (r q : Int) (A : Option Addr) (c : Nat) (xs : List Int) (B : Option Addr) (d : Nat) (vs : List Int) (w : World) (hx : RI w A xs) (hn : xs.length ≤ 9223372036854775807) (hc : xs.length ≤ c) (hv : RI w B vs) (hm : vs.length ≤ 9223372036854775807) :
    Gives Try.prog 32 #[.agg #[.int .i64 r, .int .i64 q, .slice A xs.length c], .slice B vs.length d] w (.bool (inConeB r q xs vs)) := by
  refine Gives.of_below ?_
  by_cases hok : inOk r q xs vs = true
  · obtain ⟨k1, k2, k3⟩ := inOk_true hok
    obtain ⟨r1, r2, r3, r4, r5, r6⟩ := cone_rows k1
    obtain ⟨R, rfl⟩ := Int.eq_ofNat_of_zero_le r1
    obtain ⟨Q, rfl⟩ := Int.eq_ofNat_of_zero_le (show 0 ≤ q by omega)
    have hl1 : ((vs.length : Int) != (Q : Int)) = false := by rw [k2]; simp
    have hlen : xs.length = R * Q := by rw [← Int.natCast_mul] at r5; exact Int.ofNat_inj.1 r5
    have hQ : Q = vs.length := by omega
    have HQ := Lib.hid hQ
    have HL := Lib.hid hlen
    have HO := Lib.hid hok
    have hR : R ≤ 8 := by omega
    have hxs : xs.length ≤ 1048576 := by
      have : R * Q ≤ 8 * 3 := Nat.mul_le_mul hR (by omega)
      omega
    have hvs : vs.length ≤ 1048576 := by omega
    clear r1 r2 r3 r4 r5 r6 hlen hQ hok k2
    go_enter Try.func32, Try.ntmps32
    go_wp2_with (first | (go_at_call 18; refine (isConeI_of k1 _ _ _ (by first | (with_reducible assumption) | (refine RI.up (by with_reducible assumption) ?_; exact (by repeat' (first | (with_reducible exact Below.refl _ _) | (with_reducible assumption) | (with_reducible refine Ext.up _ ?_ ?_) | (with_reducible exact Nat.le_refl _) | (exact Below.size (by with_reducible assumption)) | (with_reducible refine Ext.le_size _ ?_) | (with_reducible refine le_alloc ?_ _) | (with_reducible refine le_setCell ?_ _ _) | (with_reducible refine le_drew ?_) | (with_reducible refine Below.alloc ?_ ?_ _) | (with_reducible refine Below.drew ?_) | (with_reducible refine Below.setCell ?_ ?_ _) | go_size | (simp [go_sem]; done) | omega)))) hn).calls.mono ?_; rintro e w' ⟨rfl, x1, rfl⟩) | (go_at_call 63; refine (areNumbers_of k3 _ _ _ (by first | (with_reducible assumption) | (refine RI.up (by with_reducible assumption) ?_; exact (by repeat' (first | (with_reducible exact Below.refl _ _) | (with_reducible assumption) | (with_reducible refine Ext.up _ ?_ ?_) | (with_reducible exact Nat.le_refl _) | (exact Below.size (by with_reducible assumption)) | (with_reducible refine Ext.le_size _ ?_) | (with_reducible refine le_alloc ?_ _) | (with_reducible refine le_setCell ?_ _ _) | (with_reducible refine le_drew ?_) | (with_reducible refine Below.alloc ?_ ?_ _) | (with_reducible refine Below.drew ?_) | (with_reducible refine Below.setCell ?_ ?_ _) | go_size | (simp [go_sem]; done) | omega)))) hm).mono ?_; rintro e w' ⟨rfl, rfl⟩))
    go_loopw [5] (fun i wr => ∃ k : Nat, k ≤ R ∧ i = .int .i64 k ∧ Hid (rowsOk xs vs Q k = true) ∧ IsExt (w.alloc (.cells #[.int .i64 (R : Int), .int .i64 (Q : Int), .slice A xs.length c] 27)) wr) (fun i _ => R - (intOf i).toNat)
    case atStart => exact ⟨0, Nat.zero_le _, rfl, rfl, ⟨_, rfl⟩⟩
    case round =>
      obtain ⟨k, hk, rfl, he, y, rfl⟩ := hrel
      by_cases hlt : k < R
      · have hi := row_in HL.out hlt
        have hrl := rowAt_len hi
        have hle : (rowAt xs Q k).length ≤ vs.length := by rw [hrl, HQ.out]; exact Nat.le_refl _
        have HRL := Lib.hid hrl
        have HI := Lib.hid hi
        clear hi hrl
        by_cases hp : wrap64 (dotL (rowAt xs Q k) vs) < 0
        · have HF := Lib.hid (rowsOk_not (Q := Q) hlt hp)
          go_wp2_with (first | (go_at_call 66; refine (row_any _ _ _ xs k Q _ (by first | (with_reducible assumption) | (refine RI.up (by with_reducible assumption) ?_; exact (by repeat' (first | (with_reducible exact Below.refl _ _) | (with_reducible assumption) | (with_reducible refine Ext.up _ ?_ ?_) | (with_reducible exact Nat.le_refl _) | (exact Below.size (by with_reducible assumption)) | (with_reducible refine Ext.le_size _ ?_) | (with_reducible refine le_alloc ?_ _) | (with_reducible refine le_setCell ?_ _ _) | (with_reducible refine le_drew ?_) | (with_reducible refine Below.alloc ?_ ?_ _) | (with_reducible refine Below.drew ?_) | (with_reducible refine Below.setCell ?_ ?_ _) | go_size | (simp [go_sem]; done) | omega)))) HI.out hc hxs (by omega)).mono ?_; rintro e w' ⟨A1, c1, rfl, hR1, hc1, x1, rfl⟩) | (go_at_call 65; refine (dot_any _ _ _ _ (rowAt xs Q k) vs _ (by first | (with_reducible assumption) | (refine RI.up (by with_reducible assumption) ?_; exact (by repeat' (first | (with_reducible exact Below.refl _ _) | (with_reducible assumption) | (with_reducible refine Ext.up _ ?_ ?_) | (with_reducible exact Nat.le_refl _) | (exact Below.size (by with_reducible assumption)) | (with_reducible refine Ext.le_size _ ?_) | (with_reducible refine le_alloc ?_ _) | (with_reducible refine le_setCell ?_ _ _) | (with_reducible refine le_drew ?_) | (with_reducible refine Below.alloc ?_ ?_ _) | (with_reducible refine Below.drew ?_) | (with_reducible refine Below.setCell ?_ ?_ _) | go_size | (simp [go_sem]; done) | omega)))) (by first | (with_reducible assumption) | (refine RI.up (by with_reducible assumption) ?_; exact (by repeat' (first | (with_reducible exact Below.refl _ _) | (with_reducible assumption) | (with_reducible refine Ext.up _ ?_ ?_) | (with_reducible exact Nat.le_refl _) | (exact Below.size (by with_reducible assumption)) | (with_reducible refine Ext.le_size _ ?_) | (with_reducible refine le_alloc ?_ _) | (with_reducible refine le_setCell ?_ _ _) | (with_reducible refine le_drew ?_) | (with_reducible refine Below.alloc ?_ ?_ _) | (with_reducible refine Below.drew ?_) | (with_reducible refine Below.setCell ?_ ?_ _) | go_size | (simp [go_sem]; done) | omega)))) hle hvs).calls.mono ?_; rintro e w' ⟨rfl, x1, rfl⟩))
          go_ret
          exact ⟨ret_bool (by rw [inConeB]; simp [HF.out]), (by repeat' (first | (with_reducible exact Below.refl _ _) | (with_reducible assumption) | (with_reducible refine Ext.up _ ?_ ?_) | (with_reducible exact Nat.le_refl _) | (exact Below.size (by with_reducible assumption)) | (with_reducible refine Ext.le_size _ ?_) | (with_reducible refine le_alloc ?_ _) | (with_reducible refine le_setCell ?_ _ _) | (with_reducible refine le_drew ?_) | (with_reducible refine Below.alloc ?_ ?_ _) | (with_reducible refine Below.drew ?_) | (with_reducible refine Below.setCell ?_ ?_ _) | go_size | (simp [go_sem]; done) | omega))⟩
        · have HS : Hid (rowsOk xs vs Q (k + 1) = true) := by
            show rowsOk xs vs Q (k + 1) = true
            rw [rowsOk_succ, he.out]; simp; omega
          go_wp2_with (first | (go_at_call 66; refine (row_any _ _ _ xs k Q _ (by first | (with_reducible assumption) | (refine RI.up (by with_reducible assumption) ?_; exact (by repeat' (first | (with_reducible exact Below.refl _ _) | (with_reducible assumption) | (with_reducible refine Ext.up _ ?_ ?_) | (with_reducible exact Nat.le_refl _) | (exact Below.size (by with_reducible assumption)) | (with_reducible refine Ext.le_size _ ?_) | (with_reducible refine le_alloc ?_ _) | (with_reducible refine le_setCell ?_ _ _) | (with_reducible refine le_drew ?_) | (with_reducible refine Below.alloc ?_ ?_ _) | (with_reducible refine Below.drew ?_) | (with_reducible refine Below.setCell ?_ ?_ _) | go_size | (simp [go_sem]; done) | omega)))) HI.out hc hxs (by omega)).mono ?_; rintro e w' ⟨A1, c1, rfl, hR1, hc1, x1, rfl⟩) | (go_at_call 65; refine (dot_any _ _ _ _ (rowAt xs Q k) vs _ (by first | (with_reducible assumption) | (refine RI.up (by with_reducible assumption) ?_; exact (by repeat' (first | (with_reducible exact Below.refl _ _) | (with_reducible assumption) | (with_reducible refine Ext.up _ ?_ ?_) | (with_reducible exact Nat.le_refl _) | (exact Below.size (by with_reducible assumption)) | (with_reducible refine Ext.le_size _ ?_) | (with_reducible refine le_alloc ?_ _) | (with_reducible refine le_setCell ?_ _ _) | (with_reducible refine le_drew ?_) | (with_reducible refine Below.alloc ?_ ?_ _) | (with_reducible refine Below.drew ?_) | (with_reducible refine Below.setCell ?_ ?_ _) | go_size | (simp [go_sem]; done) | omega)))) (by first | (with_reducible assumption) | (refine RI.up (by with_reducible assumption) ?_; exact (by repeat' (first | (with_reducible exact Below.refl _ _) | (with_reducible assumption) | (with_reducible refine Ext.up _ ?_ ?_) | (with_reducible exact Nat.le_refl _) | (exact Below.size (by with_reducible assumption)) | (with_reducible refine Ext.le_size _ ?_) | (with_reducible refine le_alloc ?_ _) | (with_reducible refine le_setCell ?_ _ _) | (with_reducible refine le_drew ?_) | (with_reducible refine Below.alloc ?_ ?_ _) | (with_reducible refine Below.drew ?_) | (with_reducible refine Below.setCell ?_ ?_ _) | go_size | (simp [go_sem]; done) | omega)))) hle hvs).calls.mono ?_; rintro e w' ⟨rfl, x1, rfl⟩))
          go_roundw
          case rel => exact ⟨k + 1, hlt, by go_num, HS, IsExt.of (by repeat' (first | (with_reducible exact Below.refl _ _) | (with_reducible assumption) | (with_reducible refine Ext.up _ ?_ ?_) | (with_reducible exact Nat.le_refl _) | (exact Below.size (by with_reducible assumption)) | (with_reducible refine Ext.le_size _ ?_) | (with_reducible refine le_alloc ?_ _) | (with_reducible refine le_setCell ?_ _ _) | (with_reducible refine le_drew ?_) | (with_reducible refine Below.alloc ?_ ?_ _) | (with_reducible refine Below.drew ?_) | (with_reducible refine Below.setCell ?_ ?_ _) | go_size | (simp [go_sem]; done) | omega))⟩
          case measure => simp [intOf]; omega
      · go_wp2
        go_ret
        have : k = R := by omega
        subst this
        exact ⟨ret_bool (by rw [inConeB, HO.out]; simp [he.out]), (by repeat' (first | (with_reducible exact Below.refl _ _) | (with_reducible assumption) | (with_reducible refine Ext.up _ ?_ ?_) | (with_reducible exact Nat.le_refl _) | (exact Below.size (by with_reducible assumption)) | (with_reducible refine Ext.le_size _ ?_) | (with_reducible refine le_alloc ?_ _) | (with_reducible refine le_setCell ?_ _ _) | (with_reducible refine le_drew ?_) | (with_reducible refine Below.alloc ?_ ?_ _) | (with_reducible refine Below.drew ?_) | (with_reducible refine Below.setCell ?_ ?_ _) | go_size | (simp [go_sem]; done) | omega))⟩
  · have HO := Lib.hid hok
    have HF : Hid (inConeB r q xs vs = false) := by show inConeB r q xs vs = false; rw [inConeB]; simp [hok]
    clear hok
    by_cases k1 : coneB r q xs = true
    · by_cases k2 : (vs.length : Int) = q
      · have k3 : vs.all numB = false := by
          have := HO.out
          simp only [inOk, k1, k2] at this
          simpa using this
        have hl1 : ((vs.length : Int) != q) = false := by simp [k2]
        clear k2
        go_enter Try.func32, Try.ntmps32
        go_wp2_with (first | (go_at_call 18; refine (isConeI_of k1 _ _ _ (by first | (with_reducible assumption) | (refine RI.up (by with_reducible assumption) ?_; exact (by repeat' (first | (with_reducible exact Below.refl _ _) | (with_reducible assumption) | (with_reducible refine Ext.up _ ?_ ?_) | (with_reducible exact Nat.le_refl _) | (exact Below.size (by with_reducible assumption)) | (with_reducible refine Ext.le_size _ ?_) | (with_reducible refine le_alloc ?_ _) | (with_reducible refine le_setCell ?_ _ _) | (with_reducible refine le_drew ?_) | (with_reducible refine Below.alloc ?_ ?_ _) | (with_reducible refine Below.drew ?_) | (with_reducible refine Below.setCell ?_ ?_ _) | go_size | (simp [go_sem]; done) | omega)))) hn).calls.mono ?_; rintro e w' ⟨rfl, x1, rfl⟩) | (go_at_call 63; refine (areNumbers_of k3 _ _ _ (by first | (with_reducible assumption) | (refine RI.up (by with_reducible assumption) ?_; exact (by repeat' (first | (with_reducible exact Below.refl _ _) | (with_reducible assumption) | (with_reducible refine Ext.up _ ?_ ?_) | (with_reducible exact Nat.le_refl _) | (exact Below.size (by with_reducible assumption)) | (with_reducible refine Ext.le_size _ ?_) | (with_reducible refine le_alloc ?_ _) | (with_reducible refine le_setCell ?_ _ _) | (with_reducible refine le_drew ?_) | (with_reducible refine Below.alloc ?_ ?_ _) | (with_reducible refine Below.drew ?_) | (with_reducible refine Below.setCell ?_ ?_ _) | go_size | (simp [go_sem]; done) | omega)))) hm).mono ?_; rintro e w' ⟨rfl, rfl⟩))
        go_ret
        exact ⟨ret_bool HF.out.symm, (by repeat' (first | (with_reducible exact Below.refl _ _) | (with_reducible assumption) | (with_reducible refine Ext.up _ ?_ ?_) | (with_reducible exact Nat.le_refl _) | (exact Below.size (by with_reducible assumption)) | (with_reducible refine Ext.le_size _ ?_) | (with_reducible refine le_alloc ?_ _) | (with_reducible refine le_setCell ?_ _ _) | (with_reducible refine le_drew ?_) | (with_reducible refine Below.alloc ?_ ?_ _) | (with_reducible refine Below.drew ?_) | (with_reducible refine Below.setCell ?_ ?_ _) | go_size | (simp [go_sem]; done) | omega))⟩
      · have hl1 : ((vs.length : Int) != q) = true := by simp [k2]
        clear k2
        go_enter Try.func32, Try.ntmps32
        go_wp2_with (first | (go_at_call 18; refine (isConeI_of k1 _ _ _ (by first | (with_reducible assumption) | (refine RI.up (by with_reducible assumption) ?_; exact (by repeat' (first | (with_reducible exact Below.refl _ _) | (with_reducible assumption) | (with_reducible refine Ext.up _ ?_ ?_) | (with_reducible exact Nat.le_refl _) | (exact Below.size (by with_reducible assumption)) | (with_reducible refine Ext.le_size _ ?_) | (with_reducible refine le_alloc ?_ _) | (with_reducible refine le_setCell ?_ _ _) | (with_reducible refine le_drew ?_) | (with_reducible refine Below.alloc ?_ ?_ _) | (with_reducible refine Below.drew ?_) | (with_reducible refine Below.setCell ?_ ?_ _) | go_size | (simp [go_sem]; done) | omega)))) hn).calls.mono ?_; rintro e w' ⟨rfl, x1, rfl⟩))
        go_ret
        exact ⟨ret_bool HF.out.symm, (by repeat' (first | (with_reducible exact Below.refl _ _) | (with_reducible assumption) | (with_reducible refine Ext.up _ ?_ ?_) | (with_reducible exact Nat.le_refl _) | (exact Below.size (by with_reducible assumption)) | (with_reducible refine Ext.le_size _ ?_) | (with_reducible refine le_alloc ?_ _) | (with_reducible refine le_setCell ?_ _ _) | (with_reducible refine le_drew ?_) | (with_reducible refine Below.alloc ?_ ?_ _) | (with_reducible refine Below.drew ?_) | (with_reducible refine Below.setCell ?_ ?_ _) | go_size | (simp [go_sem]; done) | omega))⟩
    · have k1' : coneB r q xs = false := by simpa using k1
      clear k1
      go_enter Try.func32, Try.ntmps32
      go_wp2_with (first | (go_at_call 18; refine (isConeI_of k1' _ _ _ (by first | (with_reducible assumption) | (refine RI.up (by with_reducible assumption) ?_; exact (by repeat' (first | (with_reducible exact Below.refl _ _) | (with_reducible assumption) | (with_reducible refine Ext.up _ ?_ ?_) | (with_reducible exact Nat.le_refl _) | (exact Below.size (by with_reducible assumption)) | (with_reducible refine Ext.le_size _ ?_) | (with_reducible refine le_alloc ?_ _) | (with_reducible refine le_setCell ?_ _ _) | (with_reducible refine le_drew ?_) | (with_reducible refine Below.alloc ?_ ?_ _) | (with_reducible refine Below.drew ?_) | (with_reducible refine Below.setCell ?_ ?_ _) | go_size | (simp [go_sem]; done) | omega)))) hn).calls.mono ?_; rintro e w' ⟨rfl, x1, rfl⟩))
      go_ret
      exact ⟨ret_bool HF.out.symm, (by repeat' (first | (with_reducible exact Below.refl _ _) | (with_reducible assumption) | (with_reducible refine Ext.up _ ?_ ?_) | (with_reducible exact Nat.le_refl _) | (exact Below.size (by with_reducible assumption)) | (with_reducible refine Ext.le_size _ ?_) | (with_reducible refine le_alloc ?_ _) | (with_reducible refine le_setCell ?_ _ _) | (with_reducible refine le_drew ?_) | (with_reducible refine Below.alloc ?_ ?_ _) | (with_reducible refine Below.drew ?_) | (with_reducible refine Below.setCell ?_ ?_ _) | go_size | (simp [go_sem]; done) | omega))⟩

/-- The products of the rows, up to place j of the vector. -/
def prodsTo (xs vs : List Int) (Q R j : Nat) : List Int := (List.range R).map fun i => wrap64 (dotTo (rowAt xs Q i) vs j)
/-- k of them with one place more -/
def prodsMid (xs vs : List Int) (Q R j k : Nat) : List Int := (List.range R).map fun i => wrap64 (dotTo (rowAt xs Q i) vs (if i < k then j + 1 else j))
def GotProds (ok : Bool) (ys : List Int) (w0 : World) (e : Ending) (w' : World) : Prop :=
  ∃ A c, e = .returned (.tuple #[.slice A ys.length c, .bool ok]) ∧ RI w' A ys ∧ ∃ x : Ext w0, w' = x.val
def prodsIf (xs vs : List Int) (Q R : Nat) : List Int := if vs.all numB then prodsTo xs vs Q R Q else []
theorem prodsIf_t {xs vs : List Int} {Q R : Nat} (h : vs.all numB = true) : prodsIf xs vs Q R = prodsTo xs vs Q R Q := by rw [prodsIf, if_pos h]
theorem prodsIf_f {xs vs : List Int} {Q R : Nat} (h : vs.all numB = false) : prodsIf xs vs Q R = [] := by rw [prodsIf, h]; rfl
theorem prodsTo_zero {xs vs : List Int} {Q R : Nat} : prodsTo xs vs Q R 0 = List.replicate R 0 := by
  rw [prodsTo, List.eq_replicate_iff]
  refine ⟨by simp, fun b hb => ?_⟩
  obtain ⟨i, _, rfl⟩ := List.mem_map.1 hb
  simp [dotTo, wrap64]
theorem prodsMid_zero {xs vs : List Int} {Q R j : Nat} : prodsMid xs vs Q R j 0 = prodsTo xs vs Q R j := by simp [prodsMid, prodsTo]
theorem prodsMid_all {xs vs : List Int} {Q R j : Nat} : prodsMid xs vs Q R j R = prodsTo xs vs Q R (j + 1) := by
  unfold prodsMid prodsTo
  refine List.map_congr_left fun i hi => ?_
  rw [if_pos (by simpa using hi)]
theorem prodsMid_len {xs vs : List Int} {Q R j k : Nat} : (prodsMid xs vs Q R j k).length = R := by simp [prodsMid]
theorem prodsMid_get {xs vs : List Int} {Q R j k : Nat} (h : k < (prodsMid xs vs Q R j k).length) : (prodsMid xs vs Q R j k)[k] = wrap64 (dotTo (rowAt xs Q k) vs j) := by simp [prodsMid]
theorem prodsMid_set {xs vs : List Int} {Q R j k : Nat} (h : k < R) : (prodsMid xs vs Q R j k).set k (wrap64 (dotTo (rowAt xs Q k) vs (j + 1))) = prodsMid xs vs Q R j (k + 1) := by
  apply List.ext_getElem?
  intro i
  by_cases e : i = k
  · subst e
    rw [List.getElem?_set_self (by simp [prodsMid]; exact h)]
    simp [prodsMid, h]
  · rw [List.getElem?_set_ne (by omega)]
    simp only [prodsMid, List.getElem?_map]
    by_cases hi : i < R
    · rw [List.getElem?_range hi]
      simp only [Option.map_some, Option.some_inj]
      by_cases h1 : i < k
      · rw [if_pos h1, if_pos (by omega)]
      · rw [if_neg h1, if_neg (by omega)]
    · rw [List.getElem?_eq_none (by simp; omega)]; rfl

set_option maxHeartbeats 2000000 in
theorem products_mid (R Q : Nat) (A : Option Addr) (c : Nat) (xs : List Int) (B : Option Addr) (d : Nat) (vs : List Int) (w : World) (hx : RI w A xs) (hn : xs.length ≤ 9223372036854775807) (hv : RI w B vs) (hm : vs.length ≤ 9223372036854775807) (k1 : coneB R Q xs = true) (k2 : (vs.length : Int) = Q) :
    Calls Try.prog 64 #[.agg #[.int .i64 (R : Int), .int .i64 (Q : Int), .slice A xs.length c], .slice B vs.length d] w (GotProds (vs.all numB) (prodsIf xs vs Q R) w) := by
  obtain ⟨r1, r2, r3, r4, r5, r6⟩ := cone_rows k1
  have hl1 : ((vs.length : Int) != (Q : Int)) = false := by rw [k2]; simp
  have hlen : xs.length = R * Q := by rw [← Int.natCast_mul] at r5; exact Int.ofNat_inj.1 r5
  have hQ : Q = vs.length := by omega
  have HQ := Lib.hid hQ
  have HL := Lib.hid hlen
  have hR : R ≤ 8 := by omega
  have hQ3 : Q ≤ 3 := by omega
  clear r1 r2 r3 r4 r5 r6 hlen hQ k2
  go_enter Try.func64, Try.ntmps64
  go_wp2_with (first | (go_at_call 16; refine (isConeS_of k1 _ _ _ (by first | (with_reducible assumption) | (refine RI.up (by with_reducible assumption) ?_; exact (by repeat' (first | (with_reducible exact Below.refl _ _) | (with_reducible assumption) | (with_reducible refine Ext.up _ ?_ ?_) | (with_reducible exact Nat.le_refl _) | (exact Below.size (by with_reducible assumption)) | (with_reducible refine Ext.le_size _ ?_) | (with_reducible refine le_alloc ?_ _) | (with_reducible refine le_setCell ?_ _ _) | (with_reducible refine le_drew ?_) | (with_reducible refine Below.alloc ?_ ?_ _) | (with_reducible refine Below.drew ?_) | (with_reducible refine Below.setCell ?_ ?_ _) | go_size | (simp [go_sem]; done) | omega)))) hn).calls.mono ?_; rintro e w' ⟨rfl, x1, rfl⟩) | (refine wp_make_ints rfl _ _ rfl _ _ R rfl rfl rfl rfl (by omega) ?_; intro w1 hO1 hs1 hb1))
  obtain ⟨G, hG⟩ : ∃ G, G = w.heap.size + 1 + x1.n := ⟨_, rfl⟩
  rw [x1.size_eq, World.size_alloc, ← hG] at hO1
  rw [← hG]
  have hG1 : w.heap.size < G := by omega
  have hb2 : Below (w.alloc (.cells #[.int .i64 (R : Int), .int .i64 (Q : Int), .slice A xs.length c] 27)).heap.size (w.alloc (.cells #[.int .i64 (R : Int), .int .i64 (Q : Int), .slice A xs.length c] 27)) w1 := x1.below.trans (hb1.mono x1.size)
  clear hG hs1 hb1
  go_loopw [7] (fun jv wr => ∃ j : Nat, j ≤ vs.length ∧ jv = .int .i64 j ∧ OI wr (w.heap.size + 1) (some ⟨G, 0, none⟩) R R (prodsTo xs vs Q R j) ∧ Hid ((vs.take j).all numB = true) ∧ IsExt (w.alloc (.cells #[.int .i64 (R : Int), .int .i64 (Q : Int), .slice A xs.length c] 27)) wr) (fun jv _ => vs.length - (intOf jv).toNat)
  case atStart => exact ⟨0, Nat.zero_le _, rfl, by rw [prodsTo_zero]; exact hO1.mono (by omega), by simp [Hid], IsExt.of hb2⟩
  case round =>
    clear hO1 hb2 w1 x1
    obtain ⟨j, hj, rfl, hO, hta, y, rfl⟩ := hrel
    by_cases hlt : j < vs.length
    · obtain ⟨b, off, rfl, hbl, hcell⟩ := (hv.up (W := y.val) (by repeat' (first | (with_reducible exact Below.refl _ _) | (with_reducible assumption) | (with_reducible refine Ext.up _ ?_ ?_) | (with_reducible exact Nat.le_refl _) | (exact Below.size (by with_reducible assumption)) | (with_reducible refine Ext.le_size _ ?_) | (with_reducible refine le_alloc ?_ _) | (with_reducible refine le_setCell ?_ _ _) | (with_reducible refine le_drew ?_) | (with_reducible refine Below.alloc ?_ ?_ _) | (with_reducible refine Below.drew ?_) | (with_reducible refine Below.setCell ?_ ?_ _) | go_size | (simp [go_sem]; done) | omega))).at_ hlt
      by_cases hnum : numB vs[j] = true
      case neg =>
        have hnum' : numB vs[j] = false := by simpa using hnum
        have HF := Lib.hid (all_of_not hlt hnum')
        clear hnum
        go_wp2_with (go_at_call 84; refine (isNumberS_of hnum' _).mono ?_; rintro e w' ⟨rfl, rfl⟩)
        go_ret2
        rw [prodsIf_f HF.out, HF.out]
        exact ⟨_, _, rfl, RI.nil, Ext.some (by repeat' (first | (with_reducible exact Below.refl _ _) | (with_reducible assumption) | (with_reducible refine Ext.up _ ?_ ?_) | (with_reducible exact Nat.le_refl _) | (exact Below.size (by with_reducible assumption)) | (with_reducible refine Ext.le_size _ ?_) | (with_reducible refine le_alloc ?_ _) | (with_reducible refine le_setCell ?_ _ _) | (with_reducible refine le_drew ?_) | (with_reducible refine Below.alloc ?_ ?_ _) | (with_reducible refine Below.drew ?_) | (with_reducible refine Below.setCell ?_ ?_ _) | go_size | (simp [go_sem]; done) | omega))⟩
      have hta' : Hid ((vs.take (j + 1)).all numB = true) := by show (vs.take (j+1)).all numB = true; rw [all_take_succ numB hlt, hta.out, hnum]; rfl
      go_wp2_with (go_at_call 84; refine (isNumberS_of hnum _).mono ?_; rintro e w' ⟨rfl, rfl⟩)
      go_loopw [8] (fun iv wr => ∃ k : Nat, k ≤ R ∧ iv = .int .i64 k ∧ OI wr (w.heap.size + 1) (some ⟨G, 0, none⟩) R R (prodsMid xs vs Q R j k) ∧ IsExt (w.alloc (.cells #[.int .i64 (R : Int), .int .i64 (Q : Int), .slice A xs.length c] 27)) wr) (fun iv _ => R - (intOf iv).toNat)
      case atStart => exact ⟨0, Nat.zero_le _, rfl, by rw [prodsMid_zero]; exact hO, ⟨_, rfl⟩⟩
      case round =>
        clear hO hcell hbl y
        obtain ⟨k, hk, rfl, hO, y, rfl⟩ := hrel
        by_cases hlk : k < R
        · have hi := row_in HL.out hlk
          obtain ⟨lo, hlo⟩ : ∃ lo, lo = k * Q := ⟨_, rfl⟩
          have hj3 : j < Q := by have := HQ.out; omega
          have hlj : lo + j < xs.length := by rw [Nat.add_mul] at hi; omega
          have hlo2 : lo ≤ 24 := by rw [hlo]; exact Nat.le_trans (Nat.mul_le_mul (show k ≤ 8 by omega) (show Q ≤ 3 from hQ3)) (by omega)
          have e0 : wrap64 ((k : Int) * (Q : Int)) = (lo : Int) := by rw [← Int.natCast_mul, ← hlo]; exact w64 (by omega) (by omega)
          obtain ⟨b2, off2, rfl, hbl2, hcell2⟩ := (hx.up (W := y.val) (by repeat' (first | (with_reducible exact Below.refl _ _) | (with_reducible assumption) | (with_reducible refine Ext.up _ ?_ ?_) | (with_reducible exact Nat.le_refl _) | (exact Below.size (by with_reducible assumption)) | (with_reducible refine Ext.le_size _ ?_) | (with_reducible refine le_alloc ?_ _) | (with_reducible refine le_setCell ?_ _ _) | (with_reducible refine le_drew ?_) | (with_reducible refine Below.alloc ?_ ?_ _) | (with_reducible refine Below.drew ?_) | (with_reducible refine Below.setCell ?_ ?_ _) | go_size | (simp [go_sem]; done) | omega))).at_ hlj
          obtain ⟨b3, off3, hbe, hbl3, hcell3⟩ := (hv.up (W := y.val) (by repeat' (first | (with_reducible exact Below.refl _ _) | (with_reducible assumption) | (with_reducible refine Ext.up _ ?_ ?_) | (with_reducible exact Nat.le_refl _) | (exact Below.size (by with_reducible assumption)) | (with_reducible refine Ext.le_size _ ?_) | (with_reducible refine le_alloc ?_ _) | (with_reducible refine le_setCell ?_ _ _) | (with_reducible refine le_drew ?_) | (with_reducible refine Below.alloc ?_ ?_ _) | (with_reducible refine Below.drew ?_) | (with_reducible refine Below.setCell ?_ ?_ _) | go_size | (simp [go_sem]; done) | omega))).at_ hlt
          have hcs := hO.cell (k := k) (by rw [prodsMid_len]; exact hlk)
          rw [prodsMid_get] at hcs
          have hfz := hO.frozen k
          have hrow : xs[lo + j] = (rowAt xs Q k).getD j 0 := by
            rw [List.getD_eq_getElem?_getD, rowAt_get hj3, ← hlo, List.getElem?_eq_getElem hlj]; rfl
          have HST : Hid (wrap64 (wrap64 (dotTo (rowAt xs Q k) vs j) + wrap64 (xs[lo + j] * vs[j])) = wrap64 (dotTo (rowAt xs Q k) vs (j + 1))) := by
            show wrap64 _ = _
            rw [wrap_add_wrap, hrow]; simp [dotTo, hlt]
          cases hbe
          clear hrow hlo hi
          go_wp2
          go_region
          go_wp2
          go_roundw
          case rel => exact ⟨k + 1, hlk, by go_num, by
            have h1 := hO.store k (wrap64 (dotTo (rowAt xs Q k) vs (j + 1)))
            rw [prodsMid_set hlk] at h1
            rw [HST.out]
            exact h1, IsExt.of (by repeat' (first | (with_reducible exact Below.refl _ _) | (with_reducible assumption) | (with_reducible refine Ext.up _ ?_ ?_) | (with_reducible exact Nat.le_refl _) | (exact Below.size (by with_reducible assumption)) | (with_reducible refine Ext.le_size _ ?_) | (with_reducible refine le_alloc ?_ _) | (with_reducible refine le_setCell ?_ _ _) | (with_reducible refine le_drew ?_) | (with_reducible refine Below.alloc ?_ ?_ _) | (with_reducible refine Below.drew ?_) | (with_reducible refine Below.setCell ?_ ?_ _) | go_size | (simp [go_sem]; done) | omega))⟩
          case measure => simp [intOf]; omega
        · have hkR : k = R := by omega
          subst hkR
          go_wp2
          go_roundw
          case rel => exact ⟨j + 1, hlt, by go_num, by rw [← prodsMid_all]; exact hO, hta', ⟨_, rfl⟩⟩
          case measure => simp [intOf]; omega
    · go_wp2
      go_ret2
      have hjQ : j = Q := by have := HQ.out; omega
      subst hjQ
      have hall : vs.all numB = true := by have := hta.out; rwa [List.take_of_length_le (by omega)] at this
      rw [prodsIf_t hall, hall]
      exact ⟨some ⟨G, 0, none⟩, R, by rw [show (prodsTo xs vs j R j).length = R by simp [prodsTo]]; rfl, hO.read, Ext.some (by repeat' (first | (with_reducible exact Below.refl _ _) | (with_reducible assumption) | (with_reducible refine Ext.up _ ?_ ?_) | (with_reducible exact Nat.le_refl _) | (exact Below.size (by with_reducible assumption)) | (with_reducible refine Ext.le_size _ ?_) | (with_reducible refine le_alloc ?_ _) | (with_reducible refine le_setCell ?_ _ _) | (with_reducible refine le_drew ?_) | (with_reducible refine Below.alloc ?_ ?_ _) | (with_reducible refine Below.drew ?_) | (with_reducible refine Below.setCell ?_ ?_ _) | go_size | (simp [go_sem]; done) | omega))⟩

theorem products_yes (R Q : Nat) (A : Option Addr) (c : Nat) (xs : List Int) (B : Option Addr) (d : Nat) (vs : List Int) (w : World) (hx : RI w A xs) (hn : xs.length ≤ 9223372036854775807) (hv : RI w B vs) (hm : vs.length ≤ 9223372036854775807) (hok : inOk R Q xs vs = true) :
    Calls Try.prog 64 #[.agg #[.int .i64 (R : Int), .int .i64 (Q : Int), .slice A xs.length c], .slice B vs.length d] w (GotProds true (prodsTo xs vs Q R Q) w) := by
  obtain ⟨k1, k2, k3⟩ := inOk_true hok
  have := products_mid R Q A c xs B d vs w hx hn hv hm k1 k2
  rw [prodsIf_t k3, k3] at this
  exact this
set_option maxHeartbeats 2000000 in
theorem products_no (r q : Int) (A : Option Addr) (c : Nat) (xs : List Int) (B : Option Addr) (d : Nat) (vs : List Int) (w : World) (hx : RI w A xs) (hn : xs.length ≤ 9223372036854775807) (hv : RI w B vs) (hm : vs.length ≤ 9223372036854775807) (hok : inOk r q xs vs = false) :
    Calls Try.prog 64 #[.agg #[.int .i64 r, .int .i64 q, .slice A xs.length c], .slice B vs.length d] w (GotProds false [] w) := by
  by_cases k1 : coneB r q xs = true
  · by_cases k2 : (vs.length : Int) = q
    · have k3 : vs.all numB = false := by simpa [inOk, k1, k2] using hok
      obtain ⟨r1, r2, r3, r4, r5, r6⟩ := cone_rows k1
      obtain ⟨R, rfl⟩ := Int.eq_ofNat_of_zero_le r1
      obtain ⟨Q, rfl⟩ := Int.eq_ofNat_of_zero_le (show 0 ≤ q by omega)
      have := products_mid R Q A c xs B d vs w hx hn hv hm k1 k2
      rw [prodsIf_f k3, k3] at this
      exact this
    · have hl1 : ((vs.length : Int) != q) = true := by simp [k2]
      clear k2
      go_enter Try.func64, Try.ntmps64
      go_wp2_with (first | (go_at_call 16; refine (isConeS_of k1 _ _ _ (by first | (with_reducible assumption) | (refine RI.up (by with_reducible assumption) ?_; exact (by repeat' (first | (with_reducible exact Below.refl _ _) | (with_reducible assumption) | (with_reducible refine Ext.up _ ?_ ?_) | (with_reducible exact Nat.le_refl _) | (exact Below.size (by with_reducible assumption)) | (with_reducible refine Ext.le_size _ ?_) | (with_reducible refine le_alloc ?_ _) | (with_reducible refine le_setCell ?_ _ _) | (with_reducible refine le_drew ?_) | (with_reducible refine Below.alloc ?_ ?_ _) | (with_reducible refine Below.drew ?_) | (with_reducible refine Below.setCell ?_ ?_ _) | go_size | (simp [go_sem]; done) | omega)))) hn).calls.mono ?_; rintro e w' ⟨rfl, x1, rfl⟩))
      go_ret2
      exact ⟨_, _, rfl, RI.nil, Ext.some (by repeat' (first | (with_reducible exact Below.refl _ _) | (with_reducible assumption) | (with_reducible refine Ext.up _ ?_ ?_) | (with_reducible exact Nat.le_refl _) | (exact Below.size (by with_reducible assumption)) | (with_reducible refine Ext.le_size _ ?_) | (with_reducible refine le_alloc ?_ _) | (with_reducible refine le_setCell ?_ _ _) | (with_reducible refine le_drew ?_) | (with_reducible refine Below.alloc ?_ ?_ _) | (with_reducible refine Below.drew ?_) | (with_reducible refine Below.setCell ?_ ?_ _) | go_size | (simp [go_sem]; done) | omega))⟩
  · have k1' : coneB r q xs = false := by simpa using k1
    clear k1
    go_enter Try.func64, Try.ntmps64
    go_wp2_with (first | (go_at_call 16; refine (isConeS_of k1' _ _ _ (by first | (with_reducible assumption) | (refine RI.up (by with_reducible assumption) ?_; exact (by repeat' (first | (with_reducible exact Below.refl _ _) | (with_reducible assumption) | (with_reducible refine Ext.up _ ?_ ?_) | (with_reducible exact Nat.le_refl _) | (exact Below.size (by with_reducible assumption)) | (with_reducible refine Ext.le_size _ ?_) | (with_reducible refine le_alloc ?_ _) | (with_reducible refine le_setCell ?_ _ _) | (with_reducible refine le_drew ?_) | (with_reducible refine Below.alloc ?_ ?_ _) | (with_reducible refine Below.drew ?_) | (with_reducible refine Below.setCell ?_ ?_ _) | go_size | (simp [go_sem]; done) | omega)))) hn).calls.mono ?_; rintro e w' ⟨rfl, x1, rfl⟩))
    go_ret2
    exact ⟨_, _, rfl, RI.nil, Ext.some (by repeat' (first | (with_reducible exact Below.refl _ _) | (with_reducible assumption) | (with_reducible refine Ext.up _ ?_ ?_) | (with_reducible exact Nat.le_refl _) | (exact Below.size (by with_reducible assumption)) | (with_reducible refine Ext.le_size _ ?_) | (with_reducible refine le_alloc ?_ _) | (with_reducible refine le_setCell ?_ _ _) | (with_reducible refine le_drew ?_) | (with_reducible refine Below.alloc ?_ ?_ _) | (with_reducible refine Below.drew ?_) | (with_reducible refine Below.setCell ?_ ?_ _) | go_size | (simp [go_sem]; done) | omega))⟩
set_option maxHeartbeats 2000000 in
theorem inConeS_yes (R Q : Nat) (A : Option Addr) (c : Nat) (xs : List Int) (B : Option Addr) (d : Nat) (vs : List Int) (w : World) (hx : RI w A xs) (hn : xs.length ≤ 9223372036854775807) (hv : RI w B vs) (hm : vs.length ≤ 9223372036854775807) (hok : inOk R Q xs vs = true) :
    Gives Try.prog 31 #[.agg #[.int .i64 (R : Int), .int .i64 (Q : Int), .slice A xs.length c], .slice B vs.length d] w (.bool (inConeB R Q xs vs)) := by
  refine Gives.of_below ?_
  have HO := Lib.hid hok
  have hR : R ≤ 8 := by have := cone_rows (inOk_true hok).1; omega
  have hlen : (prodsTo xs vs Q R Q).length = R := by simp [prodsTo]
  have hget : ∀ k (h : k < (prodsTo xs vs Q R Q).length), (prodsTo xs vs Q R Q)[k] = wrap64 (dotTo (rowAt xs Q k) vs Q) := fun k h => by simp [prodsTo]
  have hrl : ∀ k, k < R → dotL (rowAt xs Q k) vs = dotTo (rowAt xs Q k) vs Q := fun k h => by
    have h2 := (cone_rows (inOk_true hok).1).2.2.2.2.1
    rw [← Int.natCast_mul] at h2
    rw [dotL, rowAt_len (row_in (Int.ofNat_inj.1 h2) h)]
  have HG := Lib.hid hget
  have HR := Lib.hid hrl
  have HL := Lib.hid hlen
  clear hok hget hrl hlen
  generalize hys : prodsTo xs vs Q R Q = ys at HG HL
  have HY := Lib.hid hys
  clear hys
  go_enter Try.func31, Try.ntmps31
  go_wp2_with (go_at_call 64; refine (products_yes _ _ _ _ xs _ _ vs _ (by first | (with_reducible assumption) | (refine RI.up (by with_reducible assumption) ?_; exact (by repeat' (first | (with_reducible exact Below.refl _ _) | (with_reducible assumption) | (with_reducible refine Ext.up _ ?_ ?_) | (with_reducible exact Nat.le_refl _) | (exact Below.size (by with_reducible assumption)) | (with_reducible refine Ext.le_size _ ?_) | (with_reducible refine le_alloc ?_ _) | (with_reducible refine le_setCell ?_ _ _) | (with_reducible refine le_drew ?_) | (with_reducible refine Below.alloc ?_ ?_ _) | (with_reducible refine Below.drew ?_) | (with_reducible refine Below.setCell ?_ ?_ _) | go_size | (simp [go_sem]; done) | omega)))) hn (by first | (with_reducible assumption) | (refine RI.up (by with_reducible assumption) ?_; exact (by repeat' (first | (with_reducible exact Below.refl _ _) | (with_reducible assumption) | (with_reducible refine Ext.up _ ?_ ?_) | (with_reducible exact Nat.le_refl _) | (exact Below.size (by with_reducible assumption)) | (with_reducible refine Ext.le_size _ ?_) | (with_reducible refine le_alloc ?_ _) | (with_reducible refine le_setCell ?_ _ _) | (with_reducible refine le_drew ?_) | (with_reducible refine Below.alloc ?_ ?_ _) | (with_reducible refine Below.drew ?_) | (with_reducible refine Below.setCell ?_ ?_ _) | go_size | (simp [go_sem]; done) | omega)))) hm HO.out).mono ?_; rw [HY.out]; rintro e w' ⟨A1, c1, rfl, hR1, x1, rfl⟩)
  go_loopw [7] (fun iv wr => ∃ k : Nat, k ≤ ys.length ∧ iv = .int .i64 k ∧ Hid (rowsOk xs vs Q k = true) ∧ IsExt x1.val wr) (fun iv _ => ys.length - (intOf iv).toNat)
  case atStart => exact ⟨0, Nat.zero_le _, rfl, rfl, IsExt.of (Below.refl _ _)⟩
  case round =>
    obtain ⟨k, hk, rfl, he, y, rfl⟩ := hrel
    have hkR : ys.length = R := HL.out
    have hy8 : ys.length ≤ 8 := by omega
    by_cases hlt : k < ys.length
    · obtain ⟨b, off, rfl, hbl, hcell⟩ := (hR1.up (W := y.val) (by repeat' (first | (with_reducible exact Below.refl _ _) | (with_reducible assumption) | (with_reducible refine Ext.up _ ?_ ?_) | (with_reducible exact Nat.le_refl _) | (exact Below.size (by with_reducible assumption)) | (with_reducible refine Ext.le_size _ ?_) | (with_reducible refine le_alloc ?_ _) | (with_reducible refine le_setCell ?_ _ _) | (with_reducible refine le_drew ?_) | (with_reducible refine Below.alloc ?_ ?_ _) | (with_reducible refine Below.drew ?_) | (with_reducible refine Below.setCell ?_ ?_ _) | go_size | (simp [go_sem]; done) | omega))).at_ hlt
      have hv1 := HG.out k hlt
      rw [← HR.out k (by omega)] at hv1
      rw [hv1] at hcell
      clear hv1 hkR
      by_cases hp : wrap64 (dotL (rowAt xs Q k) vs) < 0
      · have HF := Lib.hid (rowsOk_not (Q := Q) (n := R) (by have := HL.out; omega) hp)
        go_wp2
        go_ret
        exact ⟨ret_bool (by rw [inConeB]; simp [HF.out]), (by repeat' (first | (with_reducible exact Below.refl _ _) | (with_reducible assumption) | (with_reducible refine Ext.up _ ?_ ?_) | (with_reducible exact Nat.le_refl _) | (exact Below.size (by with_reducible assumption)) | (with_reducible refine Ext.le_size _ ?_) | (with_reducible refine le_alloc ?_ _) | (with_reducible refine le_setCell ?_ _ _) | (with_reducible refine le_drew ?_) | (with_reducible refine Below.alloc ?_ ?_ _) | (with_reducible refine Below.drew ?_) | (with_reducible refine Below.setCell ?_ ?_ _) | go_size | (simp [go_sem]; done) | omega))⟩
      · have HS : Hid (rowsOk xs vs Q (k + 1) = true) := by
          show rowsOk xs vs Q (k + 1) = true
          rw [rowsOk_succ, he.out]; simp; omega
        go_wp2
        go_roundw
        case rel => exact ⟨k + 1, hlt, by go_num, HS, ⟨_, rfl⟩⟩
        case measure => simp [intOf]; omega
    · have hkk : k = R := by omega
      clear hkR
      go_wp2
      go_ret
      exact ⟨ret_bool (by rw [inConeB, HO.out]; simp; rw [← hkk]; exact he.out), (by repeat' (first | (with_reducible exact Below.refl _ _) | (with_reducible assumption) | (with_reducible refine Ext.up _ ?_ ?_) | (with_reducible exact Nat.le_refl _) | (exact Below.size (by with_reducible assumption)) | (with_reducible refine Ext.le_size _ ?_) | (with_reducible refine le_alloc ?_ _) | (with_reducible refine le_setCell ?_ _ _) | (with_reducible refine le_drew ?_) | (with_reducible refine Below.alloc ?_ ?_ _) | (with_reducible refine Below.drew ?_) | (with_reducible refine Below.setCell ?_ ?_ _) | go_size | (simp [go_sem]; done) | omega))⟩
theorem inConeS_any (r q : Int) (A : Option Addr) (c : Nat) (xs : List Int) (B : Option Addr) (d : Nat) (vs : List Int) (w : World) (hx : RI w A xs) (hn : xs.length ≤ 9223372036854775807) (hv : RI w B vs) (hm : vs.length ≤ 9223372036854775807) :
    Gives Try.prog 31 #[.agg #[.int .i64 r, .int .i64 q, .slice A xs.length c], .slice B vs.length d] w (.bool (inConeB r q xs vs)) := by
  by_cases hok : inOk r q xs vs = true
  · obtain ⟨k1, k2, k3⟩ := inOk_true hok
    obtain ⟨r1, r2, r3, r4, r5, r6⟩ := cone_rows k1
    obtain ⟨R, rfl⟩ := Int.eq_ofNat_of_zero_le r1
    obtain ⟨Q, rfl⟩ := Int.eq_ofNat_of_zero_le (show 0 ≤ q by omega)
    exact inConeS_yes R Q A c xs B d vs w hx hn hv hm hok
  · have hok' : inOk r q xs vs = false := by simpa using hok
    have hf : inConeB r q xs vs = false := by rw [inConeB, hok']; rfl
    rw [hf]
    clear hok hf
    refine Gives.of_below ?_
    go_enter Try.func31, Try.ntmps31
    go_wp2_with (go_at_call 64; refine (products_no _ _ _ _ xs _ _ vs _ (by first | (with_reducible assumption) | (refine RI.up (by with_reducible assumption) ?_; exact (by repeat' (first | (with_reducible exact Below.refl _ _) | (with_reducible assumption) | (with_reducible refine Ext.up _ ?_ ?_) | (with_reducible exact Nat.le_refl _) | (exact Below.size (by with_reducible assumption)) | (with_reducible refine Ext.le_size _ ?_) | (with_reducible refine le_alloc ?_ _) | (with_reducible refine le_setCell ?_ _ _) | (with_reducible refine le_drew ?_) | (with_reducible refine Below.alloc ?_ ?_ _) | (with_reducible refine Below.drew ?_) | (with_reducible refine Below.setCell ?_ ?_ _) | go_size | (simp [go_sem]; done) | omega)))) hn (by first | (with_reducible assumption) | (refine RI.up (by with_reducible assumption) ?_; exact (by repeat' (first | (with_reducible exact Below.refl _ _) | (with_reducible assumption) | (with_reducible refine Ext.up _ ?_ ?_) | (with_reducible exact Nat.le_refl _) | (exact Below.size (by with_reducible assumption)) | (with_reducible refine Ext.le_size _ ?_) | (with_reducible refine le_alloc ?_ _) | (with_reducible refine le_setCell ?_ _ _) | (with_reducible refine le_drew ?_) | (with_reducible refine Below.alloc ?_ ?_ _) | (with_reducible refine Below.drew ?_) | (with_reducible refine Below.setCell ?_ ?_ _) | go_size | (simp [go_sem]; done) | omega)))) hm hok').mono ?_; rintro e w' ⟨A1, c1, rfl, hR1, x1, rfl⟩)
    go_loopw [7] (fun iv wr => iv = .int .i64 0 ∧ IsExt x1.val wr) (fun _ _ => 0)
    case atStart => exact ⟨rfl, IsExt.of (Below.refl _ _)⟩
    case round =>
      obtain ⟨rfl, y, rfl⟩ := hrel
      go_wp2
      go_ret
      exact ⟨rfl, (by repeat' (first | (with_reducible exact Below.refl _ _) | (with_reducible assumption) | (with_reducible refine Ext.up _ ?_ ?_) | (with_reducible exact Nat.le_refl _) | (exact Below.size (by with_reducible assumption)) | (with_reducible refine Ext.le_size _ ?_) | (with_reducible refine le_alloc ?_ _) | (with_reducible refine le_setCell ?_ _ _) | (with_reducible refine le_drew ?_) | (with_reducible refine Below.alloc ?_ ?_ _) | (with_reducible refine Below.drew ?_) | (with_reducible refine Below.setCell ?_ ?_ _) | go_size | (simp [go_sem]; done) | omega))⟩
end Go.Proofs.Ytbgeooalhoaemaa
