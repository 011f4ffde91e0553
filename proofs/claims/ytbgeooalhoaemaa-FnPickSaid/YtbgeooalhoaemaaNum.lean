/-
  WALKS: the number functions of both packages: what each call gives.
-/
import Derived.Test.YtbgeooalhoaemaaProg
import Derived.Test.YtbgeooalhoaemaaBase
import Derived.Lib.Hide
set_option linter.unusedVariables false
set_option linter.unusedSimpArgs false
namespace Go.Proofs.Ytbgeooalhoaemaa
open Go.RowKit

def inB (a b c : Int) : Bool := decide (b ≤ a ∧ a ≤ c)
def numB (a : Int) : Bool := decide (-400000000 ≤ a ∧ a ≤ 400000000)
def absW (a : Int) : Int := if a < 0 then wrap64 (-a) else a
theorem inB_true {a b c : Int} : inB a b c = true ↔ b ≤ a ∧ a ≤ c := by simp [inB]
theorem inB_false {a b c : Int} : inB a b c = false ↔ a < b ∨ c < a := by simp [inB]; omega
theorem numB_true {a : Int} : numB a = true ↔ -400000000 ≤ a ∧ a ≤ 400000000 := by simp [numB]
theorem numB_false {a : Int} : numB a = false ↔ a < -400000000 ∨ 400000000 < a := by simp [numB]; omega
theorem absW_eq {a : Int} (h : -9223372036854775807 ≤ a) (h' : a ≤ 9223372036854775807) : absW a = (a.natAbs : Int) := by
  unfold absW; split
  · rw [w64 (by omega) (by omega)]; omega
  · omega

set_option maxHeartbeats 400000 in
theorem l1In_any (a b c : Int) (w : World) :
    Calls Try.prog 57 #[.int .i64 a, .int .i64 b, .int .i64 c] w fun e w' => e = .returned (.bool (inB a b c)) ∧ w = w' := by
  go_enter Try.func57, Try.ntmps57
  go_wp2
  all_goals go_ret
  all_goals exact ⟨ret_bool (by simp [inB] <;> omega), rfl⟩
set_option maxHeartbeats 400000 in
theorem isNumberS_any (a : Int) (w : World) :
    Calls Try.prog 84 #[.int .i64 a] w fun e w' => e = .returned (.bool (numB a)) ∧ w = w' := by
  go_enter Try.func84, Try.ntmps84
  go_wp2_with (go_at_call 57; refine (l1In_any _ _ _ _).mono ?_; rintro e w' ⟨rfl, rfl⟩)
  go_ret
  exact ⟨rfl, rfl⟩
theorem isNumberS_of {a : Int} {t : Bool} (h : numB a = t) (w : World) :
    Calls Try.prog 84 #[.int .i64 a] w fun e w' => e = .returned (.bool t) ∧ w = w' := h ▸ isNumberS_any a w
set_option maxHeartbeats 400000 in
theorem isNumberI_any (a : Int) (w : World) :
    Calls Try.prog 85 #[.int .i64 a] w fun e w' => e = .returned (.bool (numB a)) ∧ w = w' := by
  go_enter Try.func85, Try.ntmps85
  go_wp2
  all_goals go_ret
  all_goals exact ⟨ret_bool (by simp [numB] <;> omega), rfl⟩
theorem isNumberI_of {a : Int} {t : Bool} (h : numB a = t) (w : World) :
    Calls Try.prog 85 #[.int .i64 a] w fun e w' => e = .returned (.bool t) ∧ w = w' := h ▸ isNumberI_any a w
set_option maxHeartbeats 400000 in
theorem absInt_any (a : Int) (w : World) :
    Calls Try.prog 87 #[.int .i64 a] w fun e w' => e = .returned (.int .i64 (absW a)) ∧ w = w' := by
  go_enter Try.func87, Try.ntmps87
  go_wp2
  all_goals go_ret
  all_goals exact ⟨ret_int (by unfold absW; first | rw [if_pos ‹_›]; done | rw [if_neg (by omega)]), rfl⟩
set_option maxHeartbeats 400000 in
theorem l1Abs_any (a : Int) (w : World) (h : -9223372036854775807 ≤ a) (h' : a ≤ 9223372036854775807) :
    Calls Try.prog 86 #[.int .i64 a] w fun e w' => e = .returned (.int .i64 a.natAbs) ∧ w = w' := by
  go_enter Try.func86, Try.ntmps86
  go_wp2
  all_goals go_ret
  all_goals exact ⟨ret_int (by omega), rfl⟩

theorem gcd_step (x y : Int) : Int.gcd y (x.tmod y) = Int.gcd x y := by
  unfold Int.gcd
  rw [Int.natAbs_tmod, Nat.gcd_comm y.natAbs, ← Nat.gcd_rec, Nat.gcd_comm]

set_option maxHeartbeats 400000 in
theorem gcd_any (a b : Int) (w : World) (ha : -9223372036854775807 ≤ a) (ha' : a ≤ 9223372036854775807) (hb : -9223372036854775807 ≤ b) (hb' : b ≤ 9223372036854775807) :
    Gives Try.prog 68 #[.int .i64 a, .int .i64 b] w (.int .i64 (Int.gcd a b)) := by
  unfold Gives
  go_enter Try.func68, Try.ntmps68
  go_wp2
  go_loopw [0, 1] (fun s t wr => ∃ x y : Int, s = .int .i64 x ∧ t = .int .i64 y ∧ -9223372036854775807 ≤ x ∧ x ≤ 9223372036854775807 ∧ -9223372036854775807 ≤ y ∧ y ≤ 9223372036854775807 ∧ Hid (Int.gcd x y = Int.gcd a b) ∧ Below w.heap.size w wr) (fun _ t _ => (intOf t).natAbs)
  case atStart => exact ⟨a, b, rfl, rfl, ha, ha', hb, hb', rfl, Below.refl _ _⟩
  case round =>
    obtain ⟨x, y, rfl, rfl, hx, hx', hy, hy', hg, hw⟩ := hrel
    by_cases h0 : y = 0
    · subst h0
      go_wp2_with (go_at_call 87; refine (absInt_any _ _).mono ?_; rintro e w' ⟨rfl, rfl⟩)
      go_ret
      refine ⟨ret_int ?_, Ext.some hw⟩
      rw [← hg.out, absW_eq hx hx']; simp
    · go_wp2
      go_region
      have hz : (x.tmod y).natAbs = x.natAbs % y.natAbs := Int.natAbs_tmod x y
      have hl : x.natAbs % y.natAbs < y.natAbs := Nat.mod_lt _ (by omega)
      go_wp2
      go_roundw
      case rel => exact ⟨y, x.tmod y, rfl, rfl, hy, hy', by omega, by omega, (gcd_step x y).trans hg.out, hw.drew⟩
      case measure => simp [intOf]; omega
def gcdOf (a b : Int) : Int := if numB a && numB b then (Int.gcd a b : Int) else 0
theorem gcdOf_eq {a b : Int} (ha : numB a = true) (hb : numB b = true) : gcdOf a b = (Int.gcd a b : Int) := by simp [gcdOf, ha, hb]
theorem gcd_le_left {a b M : Int} (h1 : -M ≤ a) (h2 : a ≤ M) (h3 : -M ≤ b) (h4 : b ≤ M) : (Int.gcd a b : Int) ≤ M := by
  by_cases h : a = 0
  · subst h; simp; omega
  · have := Nat.le_of_dvd (by omega) (Nat.gcd_dvd_left a.natAbs b.natAbs)
    have e : Int.gcd a b = Nat.gcd a.natAbs b.natAbs := rfl
    omega
set_option maxHeartbeats 400000 in
theorem gcdOf_any (a b : Int) (w : World) :
    Gives Try.prog 67 #[.int .i64 a, .int .i64 b] w (.int .i64 (gcdOf a b)) := by
  refine Gives.of_below ?_
  by_cases ha : numB a = true
  · by_cases hb : numB b = true
    · have he := gcdOf_eq ha hb
      have HE := Lib.hid he
      clear he
      have ⟨ha1, ha2⟩ := numB_true.1 ha
      have ⟨hb1, hb2⟩ := numB_true.1 hb
      go_enter Try.func67, Try.ntmps67
      go_wp2_with (go_at_call 84; refine (isNumberS_any _ _).mono ?_; rintro e w' ⟨rfl, rfl⟩)
      go_loopw [0, 1] (fun s t wr => ∃ x y : Int, s = .int .i64 x ∧ t = .int .i64 y ∧ -400000000 ≤ x ∧ x ≤ 400000000 ∧ -400000000 ≤ y ∧ y ≤ 400000000 ∧ Hid (Int.gcd x y = Int.gcd a b) ∧ Below w.heap.size w wr) (fun _ t _ => (intOf t).natAbs)
      case atStart => exact ⟨a, b, rfl, rfl, ha1, ha2, hb1, hb2, rfl, Below.refl _ _⟩
      case round =>
        obtain ⟨x, y, rfl, rfl, hx, hx', hy, hy', hg, hw⟩ := hrel
        by_cases h0 : y = 0
        · subst h0
          go_wp2_with (go_at_call 86; refine (l1Abs_any _ _ (by omega) (by omega)).mono ?_; rintro e w' ⟨rfl, rfl⟩)
          go_ret
          refine ⟨ret_int ?_, hw⟩
          rw [HE.out, ← hg.out]; simp
        · go_wp2
          go_region
          have hz : (x.tmod y).natAbs = x.natAbs % y.natAbs := Int.natAbs_tmod x y
          have hl : x.natAbs % y.natAbs < y.natAbs := Nat.mod_lt _ (by omega)
          go_wp2
          go_roundw
          case rel => exact ⟨y, x.tmod y, rfl, rfl, hy, hy', by omega, by omega, (gcd_step x y).trans hg.out, hw.drew⟩
          case measure => simp [intOf]; omega
    · have hb' : numB b = false := by simpa using hb
      clear hb
      go_enter Try.func67, Try.ntmps67
      go_wp2_with (go_at_call 84; refine (isNumberS_any _ _).mono ?_; rintro e w' ⟨rfl, rfl⟩)
      go_ret
      exact ⟨ret_int (by simp [gcdOf, hb']), Below.refl _ _⟩
  · have ha' : numB a = false := by simpa using ha
    clear ha
    go_enter Try.func67, Try.ntmps67
    go_wp2_with (go_at_call 84; refine (isNumberS_any _ _).mono ?_; rintro e w' ⟨rfl, rfl⟩)
    go_ret
    exact ⟨ret_int (by simp [gcdOf, ha']), Below.refl _ _⟩

theorem emod_unique {a p r q : Int} (h0 : 0 ≤ r) (h1 : r < p) (h : a = p * q + r) : a % p = r := by
  subst h; rw [Int.mul_add_emod_self_left, Int.emod_eq_of_lt h0 h1]
theorem tmod_bd {a p : Int} (hp : 0 < p) : -p < a.tmod p ∧ a.tmod p < p := by
  have h1 : (a.tmod p).natAbs = a.natAbs % p.natAbs := Int.natAbs_tmod a p
  have h2 : a.natAbs % p.natAbs < p.natAbs := Nat.mod_lt _ (by omega)
  omega
theorem tmod_neg_emod {a p : Int} (hp : 0 < p) (h : a.tmod p < 0) : a.tmod p + p = a % p := by
  have hb := tmod_bd (a := a) hp
  have := Int.mul_tdiv_add_tmod a p
  refine (emod_unique (q := a.tdiv p - 1) (by omega) (by omega) ?_).symm
  rw [Int.mul_sub, Int.mul_one]; omega
theorem tmod_nonneg_emod {a p : Int} (hp : 0 < p) (h : 0 ≤ a.tmod p) : a.tmod p = a % p := by
  have hb := tmod_bd (a := a) hp
  have := Int.mul_tdiv_add_tmod a p
  exact (emod_unique (q := a.tdiv p) (by omega) (by omega) (by omega)).symm

theorem tdiv_floor_neg {n d : Int} (hd : 0 < d) (h : n.tmod d < 0) : n.tdiv d - 1 = n / d := by
  have hb := tmod_bd (a := n) hd
  have := Int.mul_tdiv_add_tmod n d
  refine ((Int.ediv_emod_unique hd (r := n.tmod d + d)).2 ⟨?_, by omega, by omega⟩).1.symm
  rw [Int.mul_sub, Int.mul_one]; omega
theorem tdiv_floor_nonneg {n d : Int} (hd : 0 < d) (h : 0 ≤ n.tmod d) : n.tdiv d = n / d := by
  have hb := tmod_bd (a := n) hd
  have := Int.mul_tdiv_add_tmod n d
  exact ((Int.ediv_emod_unique hd (r := n.tmod d)).2 ⟨by omega, by omega, by omega⟩).1.symm
theorem tdiv_bd (n d : Int) : -(n.natAbs : Int) ≤ n.tdiv d ∧ n.tdiv d ≤ n.natAbs := by
  have h : (n.tdiv d).natAbs = n.natAbs / d.natAbs := Int.natAbs_tdiv n d
  have h2 := Nat.div_le_self n.natAbs d.natAbs
  generalize n.natAbs / d.natAbs = q at h h2
  omega
theorem tmod_sign_nonneg {n d : Int} (h : 0 ≤ n) : 0 ≤ n.tmod d := Int.tmod_nonneg d h
theorem tmod_sign_nonpos {n d : Int} (h : n ≤ 0) : n.tmod d ≤ 0 := by
  have := Int.tmod_nonneg d (show 0 ≤ -n by omega)
  rw [Int.neg_tmod] at this; omega

set_option maxHeartbeats 400000 in
theorem l1Floor_any (n d : Int) (w : World) (hn : -9223372036854775807 ≤ n) (hn' : n ≤ 9223372036854775807) (hd : 0 < d) (h2 : d ≤ 9223372036854775807) :
    Calls Try.prog 69 #[.int .i64 n, .int .i64 d] w fun e w' => e = .returned (.int .i64 (n / d)) ∧ w = w' := by
  have hb := tdiv_bd n d
  have hb1 : -9223372036854775807 ≤ n.tdiv d := by omega
  have hb2 : n.tdiv d ≤ 9223372036854775807 := by omega
  clear hb
  have H1 := Lib.hid (@tdiv_floor_neg n d hd)
  have H2 := Lib.hid (@tdiv_floor_nonneg n d hd)
  go_enter Try.func69, Try.ntmps69
  go_wp2
  all_goals go_ret
  all_goals refine ⟨ret_int ?_, rfl⟩
  · have := H1.out ‹_›
    have hw : wrap64 (n.tdiv d - 1) = n.tdiv d - 1 := by unfold wrap64; omega
    first | exact this | exact hw.trans this
  · exact H2.out ‹_›
end Go.Proofs.Ytbgeooalhoaemaa
