/-
  PLAIN LAW: the whole points of a polygon made k times as large, counted by columns and by rows.
-/
import Derived.Test.YtbgeooalhoaemaabPoly
set_option linter.unusedVariables false
set_option linter.unusedSimpArgs false
namespace Go.Proofs.Ytbgeooalhoaemaa

def nxP (ps : List (Int × Int)) (i : Nat) : Int × Int := ptP ps ((i + 1) % ps.length)
def sdX (ps : List (Int × Int)) (i : Nat) : Int := (nxP ps i).2 - (ptP ps i).2
def sdY (ps : List (Int × Int)) (i : Nat) : Int := (ptP ps i).1 - (nxP ps i).1
def sdB (ps : List (Int × Int)) (i : Nat) : Int := sdX ps i * (ptP ps i).1 + sdY ps i * (ptP ps i).2
def sidesA (ps : List (Int × Int)) : Nat → List Int
  | 0 => []
  | n + 1 => sidesA ps n ++ [sdX ps n, sdY ps n]
def sidesB (ps : List (Int × Int)) : Nat → List Int
  | 0 => []
  | n + 1 => sidesB ps n ++ [sdB ps n]
theorem sidesA_len {ps : List (Int × Int)} : ∀ {n : Nat}, (sidesA ps n).length = 2 * n
  | 0 => rfl
  | n + 1 => by simp [sidesA, sidesA_len]; omega
theorem sidesB_len {ps : List (Int × Int)} : ∀ {n : Nat}, (sidesB ps n).length = n
  | 0 => rfl
  | n + 1 => by simp [sidesB, sidesB_len]
theorem sidesA_at {ps : List (Int × Int)} {i : Nat} : ∀ {n : Nat}, i < n → (sidesA ps n).getD (i * 2) 0 = sdX ps i ∧ (sidesA ps n).getD (i * 2 + 1) 0 = sdY ps i
  | 0, h => by omega
  | n + 1, h => by
    have hl := sidesA_len (ps := ps) (n := n)
    simp only [sidesA, List.getD_eq_getElem?_getD]
    rcases Nat.lt_or_ge i n with e | e
    · have := sidesA_at (ps := ps) e
      simp only [List.getD_eq_getElem?_getD] at this
      rw [List.getElem?_append_left (by omega), List.getElem?_append_left (by omega)]
      exact this
    · obtain rfl : i = n := by omega
      rw [List.getElem?_append_right (by omega), List.getElem?_append_right (by omega), hl]
      simp [show i * 2 - 2 * i = 0 by omega, show i * 2 + 1 - 2 * i = 1 by omega]
theorem sidesB_at {ps : List (Int × Int)} {i : Nat} : ∀ {n : Nat}, i < n → (sidesB ps n).getD i 0 = sdB ps i
  | 0, h => by omega
  | n + 1, h => by
    have hl := sidesB_len (ps := ps) (n := n)
    simp only [sidesB, List.getD_eq_getElem?_getD]
    rcases Nat.lt_or_ge i n with e | e
    · have := sidesB_at (ps := ps) e
      simp only [List.getD_eq_getElem?_getD] at this
      rw [List.getElem?_append_left (by omega)]
      exact this
    · obtain rfl : i = n := by omega
      rw [List.getElem?_append_right (by omega), hl]
      simp
theorem sd_bd {ps : List (Int × Int)} (h : polyP ps = true) {i : Nat} (hi : i < ps.length) : (-20 ≤ sdX ps i ∧ sdX ps i ≤ 20) ∧ (-20 ≤ sdY ps i ∧ sdY ps i ≤ 20) ∧ (-400 ≤ sdB ps i ∧ sdB ps i ≤ 400) ∧ pOk (ptP ps i) = true ∧ pOk (nxP ps i) = true := by
  obtain ⟨h1, h2, -⟩ := polyP_no h
  have a := h2 i hi
  have b := h2 ((i + 1) % ps.length) (Nat.mod_lt _ (by omega))
  have a' := pOk_true.1 a
  have b' := pOk_true.1 b
  have c1 : -20 ≤ sdX ps i ∧ sdX ps i ≤ 20 := by unfold sdX nxP; omega
  have c2 : -20 ≤ sdY ps i ∧ sdY ps i ≤ 20 := by unfold sdY nxP; omega
  refine ⟨c1, c2, ?_, a, b⟩
  have p1 : -200 ≤ sdX ps i * (ptP ps i).1 ∧ sdX ps i * (ptP ps i).1 ≤ 200 := by
    have := Int.mul_nonneg (show 0 ≤ sdX ps i + 20 by omega) (show 0 ≤ (ptP ps i).1 + 10 by omega)
    have := Int.mul_nonneg (show 0 ≤ 20 - sdX ps i by omega) (show 0 ≤ 10 - (ptP ps i).1 by omega)
    have := Int.mul_nonneg (show 0 ≤ sdX ps i + 20 by omega) (show 0 ≤ 10 - (ptP ps i).1 by omega)
    have := Int.mul_nonneg (show 0 ≤ 20 - sdX ps i by omega) (show 0 ≤ (ptP ps i).1 + 10 by omega)
    constructor <;> grind
  have p2 : -200 ≤ sdY ps i * (ptP ps i).2 ∧ sdY ps i * (ptP ps i).2 ≤ 200 := by
    have := Int.mul_nonneg (show 0 ≤ sdY ps i + 20 by omega) (show 0 ≤ (ptP ps i).2 + 10 by omega)
    have := Int.mul_nonneg (show 0 ≤ 20 - sdY ps i by omega) (show 0 ≤ 10 - (ptP ps i).2 by omega)
    have := Int.mul_nonneg (show 0 ≤ sdY ps i + 20 by omega) (show 0 ≤ 10 - (ptP ps i).2 by omega)
    have := Int.mul_nonneg (show 0 ≤ 20 - sdY ps i by omega) (show 0 ≤ (ptP ps i).2 + 10 by omega)
    constructor <;> grind
  unfold sdB; omega

/-- the sides up to m leave the point inside -/
def inTk (ps : List (Int × Int)) (k : Int) (x y : Int) : Nat → Bool
  | 0 => true
  | m + 1 => inTk ps k x y m && decide (sdX ps m * x + sdY ps m * y ≤ k * sdB ps m)
def inPk (ps : List (Int × Int)) (k x y : Int) : Bool := inTk ps k x y ps.length
def bit (b : Bool) : Int := if b then 1 else 0
/-- the sum of f at the numbers from a on -/
def sumZ (f : Int → Int) (a : Int) : Nat → Int
  | 0 => 0
  | m + 1 => sumZ f a m + f (a + m)
def dilN (ps : List (Int × Int)) (k : Int) (n : Nat) : Int := sumZ (fun x => sumZ (fun y => bit (inPk ps k x y)) (-10 * k) n) (-10 * k) n
theorem sumZ_congr {f g : Int → Int} {a : Int} : ∀ {n : Nat}, (∀ i : Nat, i < n → f (a + i) = g (a + i)) → sumZ f a n = sumZ g a n
  | 0, _ => rfl
  | n + 1, h => by rw [sumZ, sumZ, sumZ_congr fun i hi => h i (by omega), h n (by omega)]
theorem sumZ_zero {a : Int} : ∀ n : Nat, sumZ (fun _ => 0) a n = 0
  | 0 => rfl
  | n + 1 => by rw [sumZ, sumZ_zero n]; rfl
theorem sumZ_add {f g : Int → Int} {a : Int} : ∀ n : Nat, sumZ (fun x => f x + g x) a n = sumZ f a n + sumZ g a n
  | 0 => rfl
  | n + 1 => by rw [sumZ, sumZ, sumZ, sumZ_add n]; omega
theorem sumZ_swap {F : Int → Int → Int} {a b : Int} {m : Nat} : ∀ n : Nat, sumZ (fun x => sumZ (fun y => F x y) b m) a n = sumZ (fun y => sumZ (fun x => F x y) a n) b m
  | 0 => (sumZ_zero m).symm
  | n + 1 => by rw [sumZ, sumZ_swap n, ← sumZ_add]; rfl
/-- from where to where the row at y goes, by the sides up to m -/
def loHi (ps : List (Int × Int)) (k y : Int) : Nat → Int × Int
  | 0 => (-10 * k, 10 * k)
  | m + 1 =>
    let right := k * sdB ps m - sdY ps m * y
    let p := loHi ps k y m
    if 0 < sdX ps m then (p.1, min p.2 (right / sdX ps m))
    else if sdX ps m < 0 then (max p.1 (-(right / -sdX ps m)), p.2)
    else if right < 0 then (p.1, p.1 - 1) else p
def rowN (p : Int × Int) : Int := max 0 (p.2 - p.1 + 1)
theorem loHi_in {ps : List (Int × Int)} {k y x : Int} : ∀ {m : Nat}, ((-10 * k ≤ x ∧ x ≤ 10 * k) ∧ inTk ps k x y m = true) ↔ (loHi ps k y m).1 ≤ x ∧ x ≤ (loHi ps k y m).2
  | 0 => by simp [inTk, loHi]
  | m + 1 => by
    have ih := loHi_in (ps := ps) (k := k) (y := y) (x := x) (m := m)
    have key : sdX ps m * x + sdY ps m * y ≤ k * sdB ps m ↔ sdX ps m * x ≤ k * sdB ps m - sdY ps m * y := by omega
    simp only [inTk, Bool.and_eq_true, decide_eq_true_eq, loHi, key]
    generalize k * sdB ps m - sdY ps m * y = R
    generalize sdX ps m = s
    rw [← and_assoc, ih]
    generalize loHi ps k y m = p
    split
    · rename_i h
      have e : s * x ≤ R ↔ x ≤ R / s := by rw [Int.le_ediv_iff_mul_le h, Int.mul_comm]
      rw [e]
      dsimp only
      omega
    · split
      · rename_i h1 h
        have e : s * x ≤ R ↔ -x ≤ R / -s := by
          rw [Int.le_ediv_iff_mul_le (by omega)]
          rw [show -x * -s = s * x by rw [Int.neg_mul_neg, Int.mul_comm]]
        rw [e]
        dsimp only
        omega
      · have h0 : s = 0 := by omega
        subst h0
        split
        · dsimp only; omega
        · rw [Int.zero_mul]; omega
theorem cnt_int {A B K : Int} {f : Int → Bool} (hf : ∀ x, -K ≤ x → (f x = true ↔ A ≤ x ∧ x ≤ B)) : ∀ n : Nat, sumZ (fun x => bit (f x)) (-K) n = max 0 (min B (-K + n - 1) - max A (-K) + 1)
  | 0 => by simp only [sumZ]; omega
  | n + 1 => by
    rw [sumZ, cnt_int hf n]
    have h := hf (-K + n) (by omega)
    cases hb : f (-K + n)
    · have : ¬ (A ≤ -K + n ∧ -K + n ≤ B) := fun q => by rw [h.2 q] at hb; cases hb
      simp only [bit, Bool.false_eq_true, if_false]
      omega
    · have := h.1 hb
      simp only [bit, if_true]
      omega
/-- a row's points -/
theorem row_cnt {ps : List (Int × Int)} {k y : Int} {n : Nat} (hn : (n : Int) = 20 * k + 1) : sumZ (fun x => bit (inPk ps k x y)) (-10 * k) n = rowN (loHi ps k y ps.length) := by
  have e : (-10 * k : Int) = -(10 * k) := by omega
  have h1 : sumZ (fun x => bit (inPk ps k x y)) (-10 * k) n = sumZ (fun x => bit (decide ((loHi ps k y ps.length).1 ≤ x ∧ x ≤ (loHi ps k y ps.length).2))) (-10 * k) n := by
    refine sumZ_congr fun i hi => congrArg bit ?_
    have := loHi_in (ps := ps) (k := k) (y := y) (x := -10 * k + i) (m := ps.length)
    rw [Bool.eq_iff_iff, decide_eq_true_eq, ← this]
    unfold inPk
    exact ⟨fun h => ⟨by omega, h⟩, fun h => h.2⟩
  rw [h1, e, cnt_int (A := (loHi ps k y ps.length).1) (B := (loHi ps k y ps.length).2) fun x _ => decide_eq_true_iff]
  have a := loHi_in (ps := ps) (k := k) (y := y) (x := (loHi ps k y ps.length).1) (m := ps.length)
  have b := loHi_in (ps := ps) (k := k) (y := y) (x := (loHi ps k y ps.length).2) (m := ps.length)
  unfold rowN
  by_cases c : (loHi ps k y ps.length).1 ≤ (loHi ps k y ps.length).2
  · have a' := (a.2 ⟨Int.le_refl _, c⟩).1
    have b' := (b.2 ⟨c, Int.le_refl _⟩).1
    omega
  · omega
/-- counted by columns and by rows: the same -/
theorem dil_rows {ps : List (Int × Int)} {k : Int} {n : Nat} (hn : (n : Int) = 20 * k + 1) : dilN ps k n = sumZ (fun y => rowN (loHi ps k y ps.length)) (-10 * k) n := by
  rw [dilN, sumZ_swap]
  exact sumZ_congr fun i hi => row_cnt hn
end Go.Proofs.Ytbgeooalhoaemaa
