/-
  WALKS: rows of a matrix, the product of two rows.
-/
import Derived.Test.YtbgeooalhoaemaaMat
import Derived.WideShapes
namespace Go.Proofs.Ytbgeooalhoaemaa
open Go.RowKit

theorem wrap_add_wrap (a b : Int) : wrap64 (wrap64 a + wrap64 b) = wrap64 (a + b) := by unfold wrap64; omega
theorem wrap_add_left (a b : Int) : wrap64 (wrap64 a + b) = wrap64 (a + b) := by unfold wrap64; omega
theorem wrap_add_right (a b : Int) : wrap64 (a + wrap64 b) = wrap64 (a + b) := by unfold wrap64; omega
theorem wrap_sub_wrap (a b : Int) : wrap64 (wrap64 a - wrap64 b) = wrap64 (a - b) := by unfold wrap64; omega
theorem wrap_wrap (a : Int) : wrap64 (wrap64 a) = wrap64 a := by unfold wrap64; omega

def dotTo (a b : List Int) : Nat → Int
  | 0 => 0
  | k + 1 => dotTo a b k + a.getD k 0 * b.getD k 0
def dotL (a b : List Int) : Int := dotTo a b a.length
def rowAt (xs : List Int) (q i : Nat) : List Int := (xs.drop (i * q)).take q

theorem rowAt_len {xs : List Int} {q i : Nat} (h : (i + 1) * q ≤ xs.length) : (rowAt xs q i).length = q := by
  rw [Nat.add_mul] at h; simp [rowAt]; omega
theorem rowAt_get {xs : List Int} {q i j : Nat} (hj : j < q) : (rowAt xs q i)[j]? = xs[i * q + j]? := by
  simp [rowAt, hj, List.getElem?_drop]

/-- A row that a call hands back: a part of the matrix's own memory. -/
def GotRow (ys : List Int) (w0 : World) (e : Ending) (w' : World) : Prop :=
  ∃ A c, e = .returned (.slice A ys.length c) ∧ RI w' A ys ∧ ys.length ≤ c ∧ ∃ x : Ext w0, w' = x.val

theorem gotRow_cut {A : Option Addr} {c : Nat} {xs : List Int} {Q i lo hh : Nat} {w W : World} (hx : RI w A xs) (hi : (i + 1) * Q ≤ xs.length) (hc : xs.length ≤ c) (hlo : lo = i * Q) (hsub : hh - lo = Q) (hb : Below w.heap.size w W) :
    GotRow (rowAt xs Q i) w (.returned (.slice (A.map (fun x => x.add lo)) (hh - lo) (c - lo))) W := by
  have hl := rowAt_len hi
  rw [Nat.add_mul, Nat.one_mul] at hi
  refine ⟨A.map (fun x => x.add lo), c - lo, by rw [hl, hsub], fun h0 => ?_, by omega, Ext.some hb⟩
  obtain ⟨b, off, rfl, hlt, hcell⟩ := (hx.up hb) (by omega)
  refine ⟨b, off + lo, Option.some_inj.2 (Go.WideShapes.add_plain _ _ _), hlt, fun k hk => ?_⟩
  have hk' : i * Q + k < xs.length := by omega
  have e : (rowAt xs Q i)[k]? = xs[i * Q + k]? := rowAt_get (by omega)
  rw [List.getElem?_eq_getElem hk, List.getElem?_eq_getElem hk', Option.some_inj] at e
  rw [e, Nat.add_assoc, hlo]
  exact hcell _ hk'
theorem gotRow_none {A : Option Addr} {c : Nat} {xs : List Int} {Q i lo hh : Nat} {w W : World} (hi : (i + 1) * Q ≤ xs.length) (hsub : hh - lo = Q) (hle : hh ≤ lo) (hb : Below w.heap.size w W) :
    GotRow (rowAt xs Q i) w (.returned (.slice A (hh - lo) c)) W := by
  have hl := rowAt_len hi
  exact ⟨A, c, by rw [hl, hsub], fun h0 => by omega, by omega, Ext.some hb⟩
set_option maxHeartbeats 1000000 in
theorem row_any (r : Int) (A : Option Addr) (c : Nat) (xs : List Int) (i Q : Nat) (w : World) (hx : RI w A xs) (hi : (i + 1) * Q ≤ xs.length) (hc : xs.length ≤ c) (hn : xs.length ≤ 1048576) (hb : i ≤ 1048576) :
    Calls Try.prog 66 #[.agg #[.int .i64 r, .int .i64 (Q : Int), .slice A xs.length c], .int .i64 i] w (GotRow (rowAt xs Q i) w) := by
  have h1 : (i + 1) * Q = i * Q + Q := by rw [Nat.add_mul]; omega
  obtain ⟨lo, hlo⟩ : ∃ lo, lo = i * Q := ⟨_, rfl⟩
  obtain ⟨hh, hhi⟩ : ∃ hh, hh = i * Q + Q := ⟨_, rfl⟩
  have e1 : wrap64 ((i : Int) * (Q : Int)) = (lo : Int) := by
    rw [← Int.natCast_mul, ← hlo]; exact w64 (by omega) (by omega)
  have e2 : wrap64 (((i : Int) + 1) * (Q : Int)) = (hh : Int) := by
    have : ((i : Int) + 1) * (Q : Int) = (hh : Int) := by
      rw [hhi, ← h1, Int.natCast_mul]; rfl
    rw [this]; exact w64 (by omega) (by omega)
  have h2 : lo ≤ hh := by omega
  have h3 : hh ≤ c := by omega
  have h4 : hh ≤ xs.length := by omega
  have hlen := rowAt_len hi
  have HL := Lib.hid hlen
  have hsub : Hid (hh - lo = Q) := by show hh - lo = Q; omega
  have HLO := Lib.hid hlo
  clear hlen hlo hhi h1
  by_cases hcl : c = lo
  · go_enter Try.func66, Try.ntmps66
    go_wp2
    go_ret
    exact gotRow_none hi hsub.out (by omega) (by repeat' (first | (with_reducible exact Below.refl _ _) | (with_reducible assumption) | (with_reducible refine Ext.up _ ?_ ?_) | (with_reducible exact Nat.le_refl _) | (exact Below.size (by with_reducible assumption)) | (with_reducible refine Ext.le_size _ ?_) | (with_reducible refine le_alloc ?_ _) | (with_reducible refine le_setCell ?_ _ _) | (with_reducible refine le_drew ?_) | (with_reducible refine Below.alloc ?_ ?_ _) | (with_reducible refine Below.drew ?_) | (with_reducible refine Below.setCell ?_ ?_ _) | go_size | (simp [go_sem]; done) | omega))
  · go_enter Try.func66, Try.ntmps66
    go_wp2
    go_ret
    exact gotRow_cut hx hi hc HLO.out hsub.out (by repeat' (first | (with_reducible exact Below.refl _ _) | (with_reducible assumption) | (with_reducible refine Ext.up _ ?_ ?_) | (with_reducible exact Nat.le_refl _) | (exact Below.size (by with_reducible assumption)) | (with_reducible refine Ext.le_size _ ?_) | (with_reducible refine le_alloc ?_ _) | (with_reducible refine le_setCell ?_ _ _) | (with_reducible refine le_drew ?_) | (with_reducible refine Below.alloc ?_ ?_ _) | (with_reducible refine Below.drew ?_) | (with_reducible refine Below.setCell ?_ ?_ _) | go_size | (simp [go_sem]; done) | omega))
theorem dot_step {xs ys : List Int} {k : Nat} (h1 : k < xs.length) (h2 : k < ys.length) : wrap64 (wrap64 (dotTo xs ys k) + wrap64 (xs[k] * ys[k])) = wrap64 (dotTo xs ys (k + 1)) := by
  rw [wrap_add_wrap]; simp [dotTo, h1, h2]
set_option maxHeartbeats 1000000 in
theorem dot_any (A B : Option Addr) (c d : Nat) (xs ys : List Int) (w : World) (hx : RI w A xs) (hy : RI w B ys) (hl : xs.length ≤ ys.length) (hn : ys.length ≤ 1048576) :
    Gives Try.prog 65 #[.slice A xs.length c, .slice B ys.length d] w (.int .i64 (wrap64 (dotL xs ys))) := by
  refine Gives.of_below ?_
  go_enter Try.func65, Try.ntmps65
  go_wp2
  go_loopw [5, 9] (fun s i wr => ∃ k : Nat, k ≤ xs.length ∧ i = .int .i64 k ∧ s = .int .i64 (wrap64 (dotTo xs ys k)) ∧ Below w.heap.size w wr) (fun _ i _ => xs.length - (intOf i).toNat)
  case atStart => exact ⟨0, Nat.zero_le _, rfl, by simp [dotTo, wrap64], Below.refl _ _⟩
  case round =>
    obtain ⟨k, hk, rfl, rfl, hb⟩ := hrel
    by_cases hlt : k < xs.length
    · have hlt' : k < ys.length := by omega
      obtain ⟨b, off, rfl, hbl, hcell⟩ := (hx.up hb).at_ hlt
      obtain ⟨b', off', rfl, hbl', hcell'⟩ := (hy.up hb).at_ hlt'
      have HS := Lib.hid (dot_step hlt hlt')
      go_wp2
      (refine wp_region_ext (by kernel_rfl) (by kernel_rfl) ?_; (repeat (go_big_quiet_step (fail))); refine wpQuiet_nil ?_; intro _ hw'; obtain ⟨xq, hw''⟩ := hw'; subst hw'')
      go_wp2
      go_roundw
      case rel => exact ⟨k + 1, hlt, by go_num, by rw [← HS.out], (by repeat' (first | (with_reducible exact Below.refl _ _) | (with_reducible assumption) | (with_reducible refine Ext.up _ ?_ ?_) | (with_reducible exact Nat.le_refl _) | (exact Below.size (by with_reducible assumption)) | (with_reducible refine Ext.le_size _ ?_) | (with_reducible refine le_alloc ?_ _) | (with_reducible refine le_setCell ?_ _ _) | (with_reducible refine le_drew ?_) | (with_reducible refine Below.alloc ?_ ?_ _) | (with_reducible refine Below.drew ?_) | (with_reducible refine Below.setCell ?_ ?_ _) | go_size | (simp [go_sem]; done) | omega))⟩
      case measure => simp [intOf]; omega
    · go_wp2
      go_ret
      have : k = xs.length := by omega
      subst this
      exact ⟨rfl, hb⟩
end Go.Proofs.Ytbgeooalhoaemaa
