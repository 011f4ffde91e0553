/-
  PLAIN LAW: Euclid's algorithm with its combinations.
-/
import Derived.Test.YtbaaelampabhdaapComp
set_option linter.unusedVariables false
set_option linter.unusedSimpArgs false
namespace Go.Proofs.Ytbaaelampabhdaa

/-- Euclid's algorithm with its combinations -/
structure ExtI (a b g x y h u v : Int) : Prop where
  e1 : a * x + b * y = g
  e2 : a * u + b * v = h
  gc : Int.gcd g h = Int.gcd a b
  px : x.natAbs * h.natAbs + u.natAbs * g.natAbs ≤ b.natAbs
  py : y.natAbs * h.natAbs + v.natAbs * g.natAbs ≤ a.natAbs
  bx : x.natAbs ≤ max 1 b.natAbs
  bu : u.natAbs ≤ max 1 b.natAbs
  b_y : y.natAbs ≤ max 1 a.natAbs
  bv : v.natAbs ≤ max 1 a.natAbs
  bg : g.natAbs ≤ max a.natAbs b.natAbs
  bh : h.natAbs ≤ max a.natAbs b.natAbs
theorem ExtI.zero (a b : Int) : ExtI a b a 1 0 b 0 1 := by
  refine ⟨by omega, by omega, rfl, by simp, by simp, by simp; omega, by simp, by simp, by simp; omega, by omega, by omega⟩
theorem ext_bd {q g h u x : Int} {B : Nat} (hq : q = g.tdiv h) (h0 : h ≠ 0) (hp : x.natAbs * h.natAbs + u.natAbs * g.natAbs ≤ B) :
    u.natAbs * (g - q * h).natAbs + (x - q * u).natAbs * h.natAbs ≤ B ∧ (x - q * u).natAbs ≤ B ∧ (g - q * h).natAbs < h.natAbs ∧ (q * h).natAbs ≤ g.natAbs := by
  have e1 : g - q * h = g.tmod h := by have := Int.tmod_add_mul_tdiv g h; rw [hq, Int.mul_comm]; omega
  have e2 : (g - q * h).natAbs = g.natAbs % h.natAbs := by rw [e1]; exact Int.natAbs_tmod g h
  have e3 : q.natAbs = g.natAbs / h.natAbs := by rw [hq]; exact Int.natAbs_tdiv g h
  have e4 := Nat.mod_add_div g.natAbs h.natAbs
  have e5 : (g - q * h).natAbs < h.natAbs := by rw [e2]; exact Nat.mod_lt _ (by omega)
  rw [← e3, ← e2] at e4
  have e6 : (x - q * u).natAbs ≤ x.natAbs + q.natAbs * u.natAbs := by
    have := Int.natAbs_sub_le x (q * u)
    rw [Int.natAbs_mul] at this; exact this
  have e7 : (q * h).natAbs ≤ g.natAbs := by rw [Int.natAbs_mul, Nat.mul_comm]; omega
  generalize (g - q * h).natAbs = r at *
  generalize hw : (x - q * u).natAbs = w at *
  generalize g.natAbs = G at *
  generalize hH : h.natAbs = H at *
  generalize x.natAbs = X at *
  generalize u.natAbs = U at *
  generalize q.natAbs = Q at *
  have e8 : u.natAbs * 0 = 0 := Nat.mul_zero _
  have k1 : w * H ≤ (X + Q * U) * H := Nat.mul_le_mul_right H e6
  have k2 : U * r + (X + Q * U) * H = X * H + U * (r + H * Q) := by grind
  rw [e4] at k2
  have k3 : w ≤ w * H := Nat.le_mul_of_pos_right w (by omega)
  refine ⟨by omega, by omega, e5, e7⟩
theorem two_bd {t x : Int} {B C : Nat} (h1 : (x - t).natAbs ≤ B) (h2 : x.natAbs ≤ max 1 B) : t.natAbs ≤ 2 * max 1 B := by omega
theorem le_one {x B : Nat} (h : x ≤ B) : x ≤ max 1 B := by omega
theorem ExtI.step {a b g x y h u v : Int} (i : ExtI a b g x y h u v) (h0 : h ≠ 0) : ExtI a b h u v (g - g.tdiv h * h) (x - g.tdiv h * u) (y - g.tdiv h * v) ∧ (g - g.tdiv h * h).natAbs < h.natAbs ∧ (g.tdiv h * h).natAbs ≤ g.natAbs ∧
    (g.tdiv h * u).natAbs ≤ 2 * max 1 b.natAbs ∧ (g.tdiv h * v).natAbs ≤ 2 * max 1 a.natAbs := by
  obtain ⟨i1, i2, i3, i4, i5, i6, i7, i8, i9, i10, i11⟩ := i
  obtain ⟨p1, p2, p3, p4⟩ := ext_bd (q := g.tdiv h) rfl h0 i4
  obtain ⟨q1, q2, _, _⟩ := ext_bd (q := g.tdiv h) rfl h0 i5
  refine ⟨⟨i2, ?_, ?_, p1, q1, i7, le_one p2, i9, le_one q2, i11, Nat.le_trans (Nat.le_of_lt p3) i11⟩, p3, p4, two_bd (C := 0) p2 i6, two_bd (C := 0) q2 i8⟩
  · rw [← i1, ← i2]; generalize (a * x + b * y).tdiv (a * u + b * v) = q; grind
  · rw [← i3, Int.gcd_comm g h]
    have := Int.gcd_add_mul_left_right h g (-(g.tdiv h))
    rw [← this]
    congr 1
    generalize g.tdiv h = q; grind
theorem ExtI.end_ {a b g x y u v : Int} (i : ExtI a b g x y 0 u v) : (g.natAbs : Int) = Int.gcd a b := by rw [← i.gc, Int.gcd_zero_right]
theorem abs_in {x : Int} {A B : Nat} (h : x.natAbs ≤ max A B) (hA : A ≤ 400000000) (hB : B ≤ 400000000) : -400000000 ≤ x ∧ x ≤ 400000000 := by omega
theorem ExtI.bds {a b g x y h u v : Int} (i : ExtI a b g x y h u v) (ha : a.natAbs ≤ 400000000) (hb : b.natAbs ≤ 400000000) :
    (-400000000 ≤ g ∧ g ≤ 400000000) ∧ (-400000000 ≤ x ∧ x ≤ 400000000) ∧ (-400000000 ≤ y ∧ y ≤ 400000000) ∧ (-400000000 ≤ h ∧ h ≤ 400000000) ∧ (-400000000 ≤ u ∧ u ≤ 400000000) ∧ (-400000000 ≤ v ∧ v ≤ 400000000) :=
  ⟨abs_in i.bg ha hb, abs_in i.bx (by omega) hb, abs_in i.b_y (by omega) ha, abs_in i.bh ha hb, abs_in i.bu (by omega) hb, abs_in i.bv (by omega) ha⟩
theorem diff_in {x t : Int} (h : -400000000 ≤ x - t ∧ x - t ≤ 400000000) (hx : -400000000 ≤ x ∧ x ≤ 400000000) : -800000000 ≤ t ∧ t ≤ 800000000 := by omega
theorem ExtI.next {a b g x y h u v : Int} (i : ExtI a b g x y h u v) (h0 : h ≠ 0) (ha : a.natAbs ≤ 400000000) (hb : b.natAbs ≤ 400000000) : ExtI a b h u v (g - g.tdiv h * h) (x - g.tdiv h * u) (y - g.tdiv h * v) ∧ (g - g.tdiv h * h).natAbs < h.natAbs ∧
    (-800000000 ≤ g.tdiv h * h ∧ g.tdiv h * h ≤ 800000000) ∧ (-800000000 ≤ g.tdiv h * u ∧ g.tdiv h * u ≤ 800000000) ∧ (-800000000 ≤ g.tdiv h * v ∧ g.tdiv h * v ≤ 800000000) := by
  obtain ⟨hs, k1, _⟩ := i.step h0
  have b1 := i.bds ha hb
  have b2 := hs.bds ha hb
  exact ⟨hs, k1, diff_in b2.2.2.2.1 b1.1, diff_in b2.2.2.2.2.1 b1.2.1, diff_in b2.2.2.2.2.2 b1.2.2.1⟩
end Go.Proofs.Ytbaaelampabhdaa
