/-
  PLAIN LAW: the whole points of a convex polygon, row by row: twice their number is the double area, the points of the border and 2.
-/
import Derived.Test.YtbgeooalhoaemaapFloor
set_option linter.unusedVariables false
set_option linter.unusedSimpArgs false
namespace Go.Proofs.Ytbgeooalhoaemaa

/-! Sums with windows. -/
theorem sumZ_sumN {f : Int → Int} {a : Int} : ∀ n : Nat, sumZ f a n = sumN (fun j => f (a + j)) n
  | 0 => rfl
  | n + 1 => by rw [sumZ, sumN, sumZ_sumN n]
theorem sumZ_win {f : Int → Int} {a lo : Int} {m : Nat} (h1 : a ≤ lo) : ∀ n : Nat, lo + m ≤ a + n → sumZ (fun y => if lo ≤ y ∧ y < lo + m then f y else 0) a n = sumZ f lo m := by
  induction m with
  | zero =>
    intro n _
    have : sumZ (fun y => if lo ≤ y ∧ y < lo + ((0 : Nat) : Int) then f y else 0) a n = sumZ (fun _ => 0) a n := sumZ_congr fun i hi => if_neg (by omega)
    rw [this, sumZ_zero]; rfl
  | succ k ih =>
    intro n h
    induction n with
    | zero => omega
    | succ n ihn =>
      rw [sumZ]
      by_cases c : lo + ((k + 1 : Nat) : Int) ≤ a + n
      · rw [ihn c, if_neg (by omega)]; omega
      · have e : a + n = lo + k := by omega
        have h2 : sumZ (fun y => if lo ≤ y ∧ y < lo + ((k + 1 : Nat) : Int) then f y else 0) a n = sumZ (fun y => if lo ≤ y ∧ y < lo + (k : Int) then f y else 0) a n := sumZ_congr fun i hi => by
          have : (lo ≤ a + i ∧ a + i < lo + ((k + 1 : Nat) : Int)) ↔ (lo ≤ a + i ∧ a + i < lo + (k : Int)) := by omega
          simp only [this]
        rw [h2, ih n (by omega), if_pos (by omega), e, sumZ]
theorem sumZ_N {F : Nat → Int → Int} {a : Int} {m : Nat} : ∀ n : Nat, sumZ (fun y => sumN (fun i => F i y) n) a m = sumN (fun i => sumZ (F i) a m) n
  | 0 => sumZ_zero m
  | n + 1 => by
    have : sumZ (fun y => sumN (fun i => F i y) (n + 1)) a m = sumZ (fun y => sumN (fun i => F i y) n + F n y) a m := rfl
    rw [this, sumZ_add, sumZ_N n, sumN]
theorem sumZ_sub {f g : Int → Int} {a : Int} : ∀ n : Nat, sumZ (fun x => f x - g x) a n = sumZ f a n - sumZ g a n
  | 0 => rfl
  | n + 1 => by rw [sumZ, sumZ, sumZ, sumZ_sub n]; omega
theorem sumN_zero : ∀ n : Nat, sumN (fun _ => 0) n = 0
  | 0 => rfl
  | n + 1 => by rw [sumN, sumN_zero n]; rfl
theorem sumN_one {f : Nat → Int} {n e : Nat} (he : e < n) (h : ∀ i, i < n → i ≠ e → f i = 0) : sumN f n = f e := by
  induction n with
  | zero => omega
  | succ n ih =>
    rw [sumN]
    rcases Nat.lt_or_ge e n with c | c
    · rw [ih c fun i hi => h i (by omega), h n (by omega) (by omega)]; omega
    · obtain rfl : e = n := by omega
      have : sumN f e = sumN (fun _ => 0) e := sumN_congr fun i hi => h i (by omega) (by omega)
      rw [this, sumN_zero]; omega
theorem sumN_tele {f : Nat → Int} : ∀ n : Nat, sumN (fun i => f (i + 1) - f i) n = f n - f 0
  | 0 => by simp [sumN]
  | n + 1 => by rw [sumN, sumN_tele n]; omega
/-- a way round: where it goes in and where it goes out -/
theorem round_trip {p : Nat → Bool} {n : Nat} (hp : p n = p 0) : (∃ i, i < n ∧ p i = true) → (∃ i, i < n ∧ p i = false) → (∃ i, i < n ∧ p i = true ∧ p (i + 1) = false) ∧ ∃ i, i < n ∧ p i = false ∧ p (i + 1) = true := by
  have key : ∀ (b : Bool), (∃ i, i < n ∧ p i = b) → (∃ i, i < n ∧ p i = !b) → ∃ i, i < n ∧ p i = b ∧ p (i + 1) = !b := fun b ⟨i, hi, h1⟩ ⟨j, hj, h2⟩ => by
    apply Classical.byContradiction
    intro hno
    have step : ∀ k, k < n → p k = b → p (k + 1) = b := fun k hk hb => by
      cases hq : p (k + 1) <;> cases b <;> first | rfl | exact absurd ⟨k, hk, hb, hq⟩ hno
    have up : ∀ d, i + d ≤ n → p (i + d) = b := fun d => by
      induction d with
      | zero => exact fun _ => h1
      | succ d ih => exact fun h => step (i + d) (by omega) (ih (by omega))
    have hn : p n = b := by
      have := up (n - i) (by omega)
      rwa [show i + (n - i) = n by omega] at this
    have up0 : ∀ d, d ≤ n → p d = b := fun d => by
      induction d with
      | zero => exact fun _ => hp ▸ hn
      | succ d ih => exact fun h => step d (by omega) (ih (by omega))
    rw [up0 j (by omega)] at h2
    cases b <;> cases h2
  exact fun h1 h2 => ⟨key true h1 h2, key false h2 h1⟩

/-! Convex polygons: their corners one after the other, the last one the first again. -/
section
variable (n : Nat) (X Y : Nat → Int)
def dX (i : Nat) : Int := X (i + 1) - X i
def dY (i : Nat) : Int := Y (i + 1) - Y i
/-- how far a point is inside of a side -/
def slk (i : Nat) (x y : Int) : Int := dY Y i * (X i - x) - dX X i * (Y i - y)
structure Conv : Prop where
  n3 : 3 ≤ n
  cx : X n = X 0
  cy : Y n = Y 0
  pos : ∀ i j, i < n → j < n → j ≠ i → j ≠ (i + 1) % n → 0 < slk X Y i (X j) (Y j)
end
variable {n : Nat} {X Y : Nat → Int}
theorem slk_self (i : Nat) : slk X Y i (X i) (Y i) = 0 := by simp [slk]
theorem slk_next (i : Nat) : slk X Y i (X (i + 1)) (Y (i + 1)) = 0 := by unfold slk dX dY; grind
theorem Conv.wrap (h : Conv n X Y) {i : Nat} (hi : i < n) : X ((i + 1) % n) = X (i + 1) ∧ Y ((i + 1) % n) = Y (i + 1) := by
  rcases Nat.lt_or_ge (i + 1) n with c | c
  · rw [Nat.mod_eq_of_lt c]; exact ⟨rfl, rfl⟩
  · have : i + 1 = n := by omega
    rw [this, Nat.mod_self]; exact ⟨h.cx.symm, h.cy.symm⟩
theorem Conv.nn (h : Conv n X Y) {i j : Nat} (hi : i < n) (hj : j < n) : 0 ≤ slk X Y i (X j) (Y j) := by
  by_cases c : j = i
  · subst c; rw [slk_self]; omega
  · by_cases d : j = (i + 1) % n
    · rw [d, (h.wrap hi).1, (h.wrap hi).2, slk_next]; omega
    · exact Int.le_of_lt (h.pos i j hi hj c d)
theorem Conv.nn' (h : Conv n X Y) {i j : Nat} (hi : i < n) (hj : j < n) : 0 ≤ slk X Y i (X (j + 1)) (Y (j + 1)) := by
  rw [← (h.wrap hj).1, ← (h.wrap hj).2]
  exact h.nn hi (Nat.mod_lt _ (by have := h.n3; omega))
/-- where a side stands in a row, times its height -/
def sR (X Y : Nat → Int) (i : Nat) (y : Int) : Int := dY Y i * X i + dX X i * (y - Y i)
theorem slk_R (i : Nat) (x y : Int) : slk X Y i x y = sR X Y i y - dY Y i * x := by unfold slk sR; grind
/-- the point of a side e in row y, seen from side i -/
theorem slk_mid (i e : Nat) (y : Int) : dY Y e * sR X Y i y - dY Y i * sR X Y e y = (Y (e + 1) - y) * slk X Y i (X e) (Y e) + (y - Y e) * slk X Y i (X (e + 1)) (Y (e + 1)) := by
  unfold slk sR dX dY; grind
/-- of two sides that go up (or down) through a row, one is the other -/
theorem Conv.uniq (h : Conv n X Y) {i e : Nat} {y : Int} (hi : i < n) (he : e < n) (hne : i ≠ e)
    (hc : (0 ≤ y - Y i ∧ 0 ≤ Y (i + 1) - y) ∧ (0 ≤ y - Y e ∧ 0 ≤ Y (e + 1) - y) ∧ ((0 < Y (i + 1) - y ∧ 0 < Y (e + 1) - y) ∨ (0 < y - Y i ∧ 0 < y - Y e))) : False := by
  have m1 := slk_mid (X := X) (Y := Y) i e y
  have m2 := slk_mid (X := X) (Y := Y) e i y
  have p1 := Int.mul_nonneg hc.2.1.2 (h.nn hi he)
  have p2 := Int.mul_nonneg hc.2.1.1 (h.nn' hi he)
  have p3 := Int.mul_nonneg hc.1.2 (h.nn he hi)
  have p4 := Int.mul_nonneg hc.1.1 (h.nn' he hi)
  have hn3 := h.n3
  rcases hc.2.2 with ⟨q1, q2⟩ | ⟨q1, q2⟩
  · have z1 : slk X Y i (X e) (Y e) = 0 := by
      rcases Int.mul_eq_zero.1 (show (Y (e + 1) - y) * slk X Y i (X e) (Y e) = 0 by omega) with c | c
      · omega
      · exact c
    have z2 : slk X Y e (X i) (Y i) = 0 := by
      rcases Int.mul_eq_zero.1 (show (Y (i + 1) - y) * slk X Y e (X i) (Y i) = 0 by omega) with c | c
      · omega
      · exact c
    have w1 : e = (i + 1) % n := Classical.byContradiction fun c => by have := h.pos i e hi he (Ne.symm hne) c; omega
    have w2 : i = (e + 1) % n := Classical.byContradiction fun c => by have := h.pos e i he hi hne c; omega
    rcases Nat.lt_or_ge (i + 1) n with c | c
    · rw [Nat.mod_eq_of_lt c] at w1
      rcases Nat.lt_or_ge (e + 1) n with d | d
      · rw [Nat.mod_eq_of_lt d] at w2; omega
      · have : e + 1 = n := by omega
        rw [this, Nat.mod_self] at w2; omega
    · have : i + 1 = n := by omega
      rw [this, Nat.mod_self] at w1
      subst w1
      rw [Nat.mod_eq_of_lt (by omega)] at w2; omega
  · have wr1 := h.wrap hi
    have wr2 := h.wrap he
    have z1 : slk X Y i (X ((e + 1) % n)) (Y ((e + 1) % n)) = 0 := by
      rw [wr2.1, wr2.2]
      rcases Int.mul_eq_zero.1 (show (y - Y e) * slk X Y i (X (e + 1)) (Y (e + 1)) = 0 by omega) with c | c
      · omega
      · exact c
    have z2 : slk X Y e (X ((i + 1) % n)) (Y ((i + 1) % n)) = 0 := by
      rw [wr1.1, wr1.2]
      rcases Int.mul_eq_zero.1 (show (y - Y i) * slk X Y e (X (i + 1)) (Y (i + 1)) = 0 by omega) with c | c
      · omega
      · exact c
    have hmi : (i + 1) % n < n := Nat.mod_lt _ (by omega)
    have hme : (e + 1) % n < n := Nat.mod_lt _ (by omega)
    have w1 : (e + 1) % n = i ∨ (e + 1) % n = (i + 1) % n := Classical.byContradiction fun c => by
      have := h.pos i _ hi hme (fun d => c (.inl d)) (fun d => c (.inr d)); omega
    have w2 : (i + 1) % n = e ∨ (i + 1) % n = (e + 1) % n := Classical.byContradiction fun c => by
      have := h.pos e _ he hmi (fun d => c (.inl d)) (fun d => c (.inr d)); omega
    have hm : ∀ a, a < n → (a + 1 = n ∧ (a + 1) % n = 0) ∨ (a + 1 < n ∧ (a + 1) % n = a + 1) := fun a ha => by
      rcases Nat.lt_or_ge (a + 1) n with c | c
      · exact .inr ⟨c, Nat.mod_eq_of_lt c⟩
      · have : a + 1 = n := by omega
        exact .inl ⟨this, by rw [this, Nat.mod_self]⟩
    have h1 := hm i hi
    have h2 := hm e he
    omega
end Go.Proofs.Ytbgeooalhoaemaa
