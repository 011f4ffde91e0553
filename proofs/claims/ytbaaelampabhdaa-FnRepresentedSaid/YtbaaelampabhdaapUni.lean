/-
  PLAIN LAW: proper equivalence of binary forms: a class has one reduced form.
-/
import Derived.Test.YtbaaelampabhdaapRed
set_option linter.unusedVariables false
set_option linter.unusedSimpArgs false
namespace Go.Proofs.Ytbaaelampabhdaa

/-- proper equivalence -/
def Eqv (f g : F3) : Prop := ∃ u : U4, detU u = 1 ∧ g = chgU f u
def invU (u : U4) : U4 := (u.2.2.2, -u.2.1, -u.2.2.1, u.1)
theorem mul_inv {u : U4} (h : detU u = 1) : mulU u (invU u) = (1, 0, 0, 1) := by
  obtain ⟨p, q, r, s⟩ := u
  simp only [detU] at h
  simp only [mulU, invU]
  refine Prod.ext ?_ (Prod.ext ?_ (Prod.ext ?_ ?_)) <;> dsimp only <;> grind
theorem chg_one (f : F3) : chgU f (1, 0, 0, 1) = f := by
  obtain ⟨a, b, c⟩ := f
  simp [chgU, chgF, formVal]
theorem Eqv.refl (f : F3) : Eqv f f := ⟨(1, 0, 0, 1), rfl, (chg_one f).symm⟩
theorem Eqv.trans {f g h : F3} (h1 : Eqv f g) (h2 : Eqv g h) : Eqv f h := by
  obtain ⟨u, hu, rfl⟩ := h1
  obtain ⟨v, hv, rfl⟩ := h2
  exact ⟨mulU u v, by rw [det_mul, hu, hv]; rfl, chg_mul f u v⟩
theorem det_inv {u : U4} : detU (invU u) = detU u := by
  obtain ⟨p, q, r, s⟩ := u
  simp only [detU, invU]; grind
theorem Eqv.symm {f g : F3} (h : Eqv f g) : Eqv g f := by
  obtain ⟨u, hu, rfl⟩ := h
  exact ⟨invU u, by rw [det_inv, hu], by rw [chg_mul, mul_inv hu, chg_one]⟩
theorem Eqv.disc {f g : F3} (h : Eqv f g) : discF g = discF f := by
  obtain ⟨u, hu, rfl⟩ := h
  rw [disc_chg, hu]; omega
/-- a shift of x -/
theorem Eqv.shift (a b c k : Int) : Eqv (a, b, c) (a, b + 2 * a * k, a * k * k + b * k + c) := ⟨(1, k, 0, 1), by simp [detU], by simp only [chgU, chgF, formVal]; refine Prod.ext ?_ (Prod.ext ?_ ?_) <;> dsimp only <;> grind⟩
/-- forms with the same A and discriminant, and B alike by 2A -/
theorem Eqv.of_B {a b c b' c' : Int} (ha : a ≠ 0) (h : ∃ k, b' = b + 2 * a * k) (hd : discF (a, b', c') = discF (a, b, c)) : Eqv (a, b, c) (a, b', c') := by
  obtain ⟨k, rfl⟩ := h
  have e := Eqv.shift a b c k
  have e2 : c' = a * k * k + b * k + c := by
    simp only [discF] at hd
    have : 4 * a * c' = 4 * a * (a * k * k + b * k + c) := by grind
    exact Int.eq_of_mul_eq_mul_left (by omega : 4 * a ≠ 0) this
  rw [e2]; exact e
theorem sq_le_one {x : Int} (h : x * x ≤ 1) : x = -1 ∨ x = 0 ∨ x = 1 := by
  rcases Int.lt_or_le 1 x with c | c
  · have := Int.mul_le_mul (a := 2) (b := 2) (c := x) (d := x) (by omega) (by omega) (by omega) (by omega)
    omega
  · rcases Int.lt_or_le x (-1) with c2 | c2
    · have := Int.mul_le_mul (a := 2) (b := 2) (c := -x) (d := -x) (by omega) (by omega) (by omega) (by omega)
      rw [Int.neg_mul_neg] at this
      omega
    · omega
theorem sq_abs_le {a b : Int} (h1 : -a ≤ b) (h2 : b ≤ a) : b * b ≤ a * a := by
  have := Int.mul_nonneg (show 0 ≤ a - b by omega) (show 0 ≤ a + b by omega)
  have e : (a - b) * (a + b) = a * a - b * b := by grind
  omega
theorem low3_true {a b c : Int} (h : low3 (a, b, c) = true) : -a ≤ b ∧ b ≤ a ∧ a ≤ c ∧ (b = -a → b = 0) ∧ (a = c → 0 ≤ b) := by
  simp only [low3, lowB, decide_eq_true_eq] at h
  refine ⟨by omega, by omega, by omega, fun e => ?_, fun e => by omega⟩
  omega
theorem uni_le {f g : F3} (hf : low3 f = true) (hg : low3 g = true) (ha : 1 ≤ f.1) (hga : 1 ≤ g.1) (h : Eqv f g) (hle : g.1 ≤ f.1) : f = g := by
  have hd := h.disc
  obtain ⟨⟨p, q, r, s⟩, hu, he⟩ := h
  obtain ⟨a, b, c⟩ := f
  obtain ⟨a', b', c'⟩ := g
  obtain ⟨f1, f2, f3, f4, f5⟩ := low3_true hf
  obtain ⟨g1, g2, g3, g4, g5⟩ := low3_true hg
  dsimp only at ha hga hle
  simp only [chgU, chgF, formVal, detU, Prod.mk.injEq, discF] at he hu hd
  obtain ⟨e1, e2, e3⟩ := he
  have bb := sq_abs_le f1 f2
  have ac := Int.mul_le_mul_of_nonneg_left f3 (show 0 ≤ a by omega)
  -- the first column is small
  have k1 : 4 * a * a' = (2 * a * p + b * r) * (2 * a * p + b * r) + (4 * a * c - b * b) * (r * r) := by rw [e1]; grind
  have k2 : 4 * c * a' = (2 * c * r + b * p) * (2 * c * r + b * p) + (4 * a * c - b * b) * (p * p) := by rw [e1]; grind
  have s1 := sq_nn (2 * a * p + b * r)
  have s2 := sq_nn (2 * c * r + b * p)
  have hD : 3 * (a * c) ≤ 4 * a * c - b * b := by have : 4 * a * c = 4 * (a * c) := Int.mul_assoc 4 a c; omega
  have ac0 : 1 ≤ a * c := by have := Int.mul_le_mul (a := 1) (b := 1) (c := a) (d := c) ha (by omega) (by omega) (by omega); omega
  have small : ∀ x : Int, (4 * a * c - b * b) * (x * x) ≤ 4 * (a * c) → x = -1 ∨ x = 0 ∨ x = 1 := fun x hx => by
    apply sq_le_one
    rcases Int.lt_or_le 1 (x * x) with k | k
    · have := Int.mul_le_mul (a := 3 * (a * c)) (b := 2) (c := 4 * a * c - b * b) (d := x * x) hD (by omega) (by omega) (by omega)
      omega
    · exact k
  have m1 : a * a' ≤ a * c := Int.mul_le_mul_of_nonneg_left (by omega) (by omega)
  have m2 : c * a' ≤ a * c := by rw [Int.mul_comm a c]; exact Int.mul_le_mul_of_nonneg_left hle (by omega)
  have hr := small r (by have : 4 * a * a' = 4 * (a * a') := Int.mul_assoc 4 a a'; omega)
  have hp := small p (by have : 4 * c * a' = 4 * (c * a') := Int.mul_assoc 4 c a'; omega)
  have fin : a = a' → b = b' → (a, b, c) = (a', b', c') := fun x y => by
    subst x y
    have : 4 * a * c = 4 * a * c' := by omega
    rw [Int.eq_of_mul_eq_mul_left (by omega : 4 * a ≠ 0) this]
  have qb : ∀ x : Int, -2 * a ≤ 2 * (a * x) → 2 * (a * x) ≤ 2 * a → x = -1 ∨ x = 0 ∨ x = 1 := fun x h1 h2 => by
    have u1 : x ≤ 1 := by
      rcases Int.lt_or_le 1 x with k | k
      · have := Int.mul_le_mul_of_nonneg_left (show 2 ≤ x by omega) (show 0 ≤ a by omega); omega
      · exact k
    have u2 : -1 ≤ x := by
      rcases Int.lt_or_le x (-1) with k | k
      · have := Int.mul_le_mul_of_nonneg_left (show 2 ≤ -x by omega) (show 0 ≤ a by omega); rw [Int.mul_neg] at this; omega
      · exact k
    omega
  clear small k1 k2 s1 s2 hD ac0 m1 m2 e3 ac bb
  rcases hp with rfl | rfl | rfl <;> rcases hr with rfl | rfl | rfl
  all_goals simp only [Int.mul_neg, Int.neg_mul, Int.mul_one, Int.one_mul, Int.mul_zero, Int.zero_mul, Int.neg_neg, Int.neg_zero, Int.add_zero, Int.zero_add] at e1 e2 hu
  · exfalso; omega
  · obtain rfl : s = -1 := by omega
    subst e1
    have e2' : b' = b - 2 * (a' * q) := by rw [e2]; grind
    clear e2 hd
    rcases qb q (by omega) (by omega) with rfl | rfl | rfl <;> exact fin rfl (by omega)
  · have hca : c = a := by omega
    have hba : b = a := by omega
    subst hca hba
    have hs : s = -1 - q := by omega
    have e2' : b' = -(2 * (b * q)) - b := by rw [e2, hs]; grind
    clear e2 hd
    rcases qb q (by omega) (by omega) with rfl | rfl | rfl <;> exact fin (by omega) (by omega)
  · have hca : c = a := by omega
    subst hca
    obtain rfl : q = 1 := by omega
    have e2' : b' = -b - 2 * (c * s) := by rw [e2]; grind
    clear e2
    rcases qb s (by omega) (by omega) with rfl | rfl | rfl
    · exact fin (by omega) (by omega)
    · have hb : b' = -b := by omega
      subst hb e1
      have : c' = a' := by
        have e : b * b = -b * -b := by grind
        have : 4 * a' * c' = 4 * a' * a' := by omega
        exact Int.eq_of_mul_eq_mul_left (by omega : 4 * a' ≠ 0) this
      exact fin rfl (by omega)
    · exact fin (by omega) (by omega)
  · exfalso; omega
  · have hca : c = a := by omega
    subst hca
    obtain rfl : q = -1 := by omega
    have e2' : b' = -b + 2 * (c * s) := by rw [e2]; grind
    clear e2
    rcases qb s (by omega) (by omega) with rfl | rfl | rfl
    · exact fin (by omega) (by omega)
    · have hb : b' = -b := by omega
      subst hb e1
      have : c' = a' := by
        have e : b * b = -b * -b := by grind
        have : 4 * a' * c' = 4 * a' * a' := by omega
        exact Int.eq_of_mul_eq_mul_left (by omega : 4 * a' ≠ 0) this
      exact fin rfl (by omega)
    · exact fin (by omega) (by omega)
  · have hca : c = a := by omega
    have hba : b = a := by omega
    subst hca hba
    have hs : s = 1 - q := by omega
    have e2' : b' = 2 * (b * q) - b := by rw [e2, hs]; grind
    clear e2 hd
    rcases qb q (by omega) (by omega) with rfl | rfl | rfl <;> exact fin (by omega) (by omega)
  · obtain rfl : s = 1 := by omega
    subst e1
    have e2' : b' = b + 2 * (a' * q) := by rw [e2]; grind
    clear e2 hd
    rcases qb q (by omega) (by omega) with rfl | rfl | rfl <;> exact fin rfl (by omega)
  · exfalso; omega
theorem uni {f g : F3} (hf : low3 f = true) (hg : low3 g = true) (ha : 1 ≤ f.1) (hga : 1 ≤ g.1) (h : Eqv f g) : f = g := by
  rcases Int.le_total g.1 f.1 with c | c
  · exact uni_le hf hg ha hga h c
  · exact (uni_le hg hf hga ha h.symm c).symm
end Go.Proofs.Ytbaaelampabhdaa
