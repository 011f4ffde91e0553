/-
  PLAIN LAW: a form and its reduced form have the same values.
-/
import Derived.Test.YtbaaelampabhdaapRed
import Derived.Test.YtbaaelampabhdaabDet
set_option linter.unusedVariables false
set_option linter.unusedSimpArgs false
namespace Go.Proofs.Ytbaaelampabhdaa

theorem val_nn {f : F3} (hf : Small f) (x y : Int) : 0 ≤ formVal f.1 f.2.1 f.2.2 x y ∧ (formVal f.1 f.2.1 f.2.2 x y = 0 ↔ x = 0 ∧ y = 0) := by
  obtain ⟨a, b, c⟩ := f
  obtain ⟨h1, h2, h3, h4, h5, h6, h7⟩ := hf
  simp only [discF] at *
  have e1 : 4 * c * formVal a b c x y = (2 * c * y + b * x) * (2 * c * y + b * x) + (4 * a * c - b * b) * (x * x) := by simp only [formVal]; grind
  have e2 : 4 * a * formVal a b c x y = (2 * a * x + b * y) * (2 * a * x + b * y) + (4 * a * c - b * b) * (y * y) := by simp only [formVal]; grind
  have s1 := sq_nn (2 * c * y + b * x)
  have s2 := sq_nn (2 * a * x + b * y)
  have q1 : x * x ≤ (4 * a * c - b * b) * (x * x) := by
    have := Int.mul_le_mul_of_nonneg_right (show 1 ≤ 4 * a * c - b * b by omega) (sq_nn x)
    omega
  have q2 : y * y ≤ (4 * a * c - b * b) * (y * y) := by
    have := Int.mul_le_mul_of_nonneg_right (show 1 ≤ 4 * a * c - b * b by omega) (sq_nn y)
    omega
  have nn := sq_nn x
  have nn2 := sq_nn y
  have hv0 : 0 ≤ formVal a b c x y := by
    rcases Int.lt_or_le (formVal a b c x y) 0 with k | k
    · have := Int.mul_le_mul_of_nonneg_left (show formVal a b c x y ≤ -1 by omega) (show 0 ≤ 4 * c by omega)
      omega
    · exact k
  refine ⟨hv0, fun h0 => ?_, fun ⟨hx, hy⟩ => by subst hx hy; simp [formVal]⟩
  rw [h0] at e1 e2
  have hx : x * x = 0 := by omega
  have hy : y * y = 0 := by omega
  exact ⟨(Int.mul_eq_zero.1 hx).elim id id, (Int.mul_eq_zero.1 hy).elim id id⟩
theorem val_back {f : F3} {u : U4} (hu : detU u = 1) (x y : Int) : formVal (chgU f u).1 (chgU f u).2.1 (chgU f u).2.2 (u.2.2.2 * x + -u.2.1 * y) (-u.2.2.1 * x + u.1 * y) = formVal f.1 f.2.1 f.2.2 x y := by
  obtain ⟨a, b, c⟩ := f
  obtain ⟨p, q, r, s⟩ := u
  simp only [detU] at hu
  have e : ∀ A B : Int, formVal (chgU (a, b, c) (p, q, r, s)).1 (chgU (a, b, c) (p, q, r, s)).2.1 (chgU (a, b, c) (p, q, r, s)).2.2 A B = formVal a b c (p * A + q * B) (r * A + s * B) := fun A B => by
    simp only [chgU, chgF, formVal]; grind
  dsimp only
  rw [e]
  have e1 : p * (s * x + -q * y) + q * (-r * x + p * y) = x := by
    have : p * (s * x + -q * y) + q * (-r * x + p * y) = (p * s - q * r) * x := by grind
    rw [this, hu]; omega
  have e2 : r * (s * x + -q * y) + s * (-r * x + p * y) = y := by
    have : r * (s * x + -q * y) + s * (-r * x + p * y) = (p * s - q * r) * y := by grind
    rw [this, hu]; omega
  rw [e1, e2]
theorem det_one {v : Int} (h : numB v = true) : detZ 1 [v] = some v := by
  by_cases h0 : v = 0
  · subst h0; simp [detZ, detTo, fitO, h]
  · simp [detZ, detTo, fitO, h0, h]
theorem det_two {p q r s : Int} (hr : numB r = true) (hs : numB s = true) (h : numB (p * s - q * r) = true) : detZ 2 [p, q, r, s] = some (p * s - q * r) := by
  have m0 : minM [p, q, r, s] 2 0 0 2 = [s] := by simp [minM, minRow]
  have m1 : minM [p, q, r, s] 2 0 1 2 = [r] := by simp [minM, minRow]
  have e : detTo [p, q, r, s] (fun j => detZ 1 (minM [p, q, r, s] 2 0 j 2)) 2 = some (p * s - q * r) := by
    by_cases hp : p = 0
    · by_cases hq : q = 0
      · subst hp hq; simp [detTo]
      · subst hp; simp [detTo, hq, m1, det_one hr, Int.neg_mul]
    · by_cases hq : q = 0
      · subst hq; simp [detTo, hp, m0, det_one hs]
      · simp [detTo, hp, hq, m0, m1, det_one hs, det_one hr, Int.neg_mul]; omega
  rw [detZ, e]
  simp [fitO, h]
end Go.Proofs.Ytbaaelampabhdaa
