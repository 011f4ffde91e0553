/-
  PLAIN LAW: bounds and values on the way of ComposeForms.
-/
import Derived.Test.YtbaaelampabhdaapCls
import Derived.Test.YtbaaelampabhdaapExt
set_option linter.unusedVariables false
set_option linter.unusedSimpArgs false
namespace Go.Proofs.Ytbaaelampabhdaa

def discV (a b c : Int) : Int := if isFormB a b c then b * b - 4 * a * c else 0
theorem discV_eq {f : F3} (h : isFormB f.1 f.2.1 f.2.2 = true) : discV f.1 f.2.1 f.2.2 = discF f := by simp [discV, h, discF]
def okC (f g : F3) : Bool := primB f.1 f.2.1 f.2.2 && primB g.1 g.2.1 g.2.2 && decide (discV f.1 f.2.1 f.2.2 = discV g.1 g.2.1 g.2.2) && discB (discV f.1 f.2.1 f.2.2)
noncomputable def compG (f g : F3) : F3 := if okC f g then compR f g else (0, 0, 0)
open Classical in
noncomputable def invZ (a m : Int) : Int := if h : ∃ x, 0 ≤ x ∧ x < m ∧ ∃ q, a * x = 1 + m * q then Classical.choose h else 0
theorem invZ_eq {a m x : Int} (h0 : 0 ≤ x) (h1 : x < m) (h2 : ∃ q, a * x = 1 + m * q) : invZ a m = x := by
  have hex : ∃ x, 0 ≤ x ∧ x < m ∧ ∃ q, a * x = 1 + m * q := ⟨x, h0, h1, h2⟩
  have hs := Classical.choose_spec hex
  unfold invZ
  rw [dif_pos hex]
  generalize Classical.choose hex = z at *
  obtain ⟨z0, z1, q', z2⟩ := hs
  obtain ⟨q, h2⟩ := h2
  have hd : m ∣ z - x := by
    have hc : Cop m a := ⟨-q, x, by rw [h2]; grind⟩
    refine hc.dvd ⟨q' - q, ?_⟩
    have e1 : (z - x) * a = a * z - a * x := by grind
    rw [e1, z2, h2]; grind
  obtain ⟨k, hk⟩ := hd
  have hk0 : k = 0 := by
    rcases Int.lt_trichotomy k 0 with c | c | c
    · have := Int.mul_le_mul_of_nonneg_left (show k ≤ -1 by omega) (show 0 ≤ m by omega); omega
    · exact c
    · have := Int.mul_le_mul_of_nonneg_left (show 1 ≤ k by omega) (show 0 ≤ m by omega); omega
  rw [hk0] at hk; omega
theorem inv_mod {a m x y : Int} (hm : 1 ≤ m) (h : (a % m) * x + m * y = 1) : invZ a m = x % m := by
  refine invZ_eq (Int.emod_nonneg x (by omega)) (Int.emod_lt_of_pos x (by omega)) ?_
  have e1 := Int.emod_add_mul_ediv a m
  have e2 := Int.emod_add_mul_ediv x m
  generalize a % m = r at *
  generalize x % m = s at *
  generalize a / m = k at *
  generalize x / m = l at *
  refine ⟨k * s - y - r * l, ?_⟩
  rw [← e1]
  rw [← e2] at h
  grind
theorem invZ_spec {a m : Int} (hm : 1 ≤ m) (hc : Cop a m) : (0 ≤ invZ a m ∧ invZ a m < m) ∧ ∃ q, a * invZ a m = 1 + m * q := by
  obtain ⟨x, y, e⟩ := hc
  have e1 := Int.emod_add_mul_ediv x m
  have h : ∃ q, a * (x % m) = 1 + m * q := ⟨-y - a * (x / m), by generalize x % m = s at *; generalize x / m = l at *; rw [← e1] at e; grind⟩
  have := invZ_eq (Int.emod_nonneg x (by omega)) (Int.emod_lt_of_pos x (by omega)) h
  rw [this]
  exact ⟨⟨Int.emod_nonneg x (by omega), Int.emod_lt_of_pos x (by omega)⟩, h⟩
theorem cop_mod {a m : Int} (hc : Cop a m) : Int.gcd (a % m) m = 1 := by
  obtain ⟨x, y, e⟩ := hc
  have e1 := Int.emod_add_mul_ediv a m
  refine Cop.gcd ⟨x, y + (a / m) * x, ?_⟩
  generalize a % m = r at *
  generalize a / m = k at *
  rw [← e1] at e
  grind
theorem prodAB {a b : Int} (A B : Int) (h1 : -A ≤ a) (h2 : a ≤ A) (h3 : -B ≤ b) (h4 : b ≤ B) : -(A * B) ≤ a * b ∧ a * b ≤ A * B := sq_in h1 h2 h3 h4
theorem val_in {f : F3} {d : Int} (h : Cls d f) (hd : -1000 ≤ d) {x y : Int} (hx : -343 ≤ x ∧ x ≤ 343) (hy : -342 ≤ y ∧ y ≤ 342) : -33500000 ≤ formVal f.1 f.2.1 f.2.2 x y ∧ formVal f.1 f.2.1 f.2.2 x y ≤ 33500000 := by
  obtain ⟨h1, h2, h3, h4, h5, h6⟩ := low_bd h hd
  have k1 := prodAB (a := f.1) (b := x) 18 343 (by omega) (by omega) hx.1 hx.2
  have k2 := prodAB (a := f.1 * x) (b := x) 6174 343 (by omega) (by omega) hx.1 hx.2
  have k3 := prodAB (a := f.2.1) (b := x) 18 343 (by omega) (by omega) hx.1 hx.2
  have k4 := prodAB (a := f.2.1 * x) (b := y) 6174 342 (by omega) (by omega) hy.1 hy.2
  have k5 := prodAB (a := f.2.2) (b := y) 250 342 (by omega) (by omega) hy.1 hy.2
  have k6 := prodAB (a := f.2.2 * y) (b := y) 85500 342 (by omega) (by omega) hy.1 hy.2
  unfold formVal; omega
theorem comp_small {n B C d : Int} (hn : 1 ≤ n) (hB : -(2 * n) ≤ B ∧ B ≤ 2 * n) (e : B * B - d = 4 * n * C) (hd : -1000 ≤ d) : C ≤ n + 250 := by
  have h1 := prodAB (a := B) (b := B) (2 * n) (2 * n) hB.1 hB.2 hB.1 hB.2
  have e2 : 2 * n * (2 * n) = 4 * (n * n) := by grind
  have e3 : 4 * n * C = 4 * (n * C) := Int.mul_assoc 4 n C
  rcases Int.lt_or_le (n + 250) C with c | c
  · have := Int.mul_le_mul_of_nonneg_left (show n + 251 ≤ C by omega) (show 0 ≤ n by omega)
    rw [Int.mul_add] at this
    omega
  · exact c
theorem val_in36 {f : F3} {d : Int} (h : Cls d f) (hd : -1000 ≤ d) {x y : Int} (hx : 0 ≤ x ∧ x ≤ 36) (hy : 0 ≤ y ∧ y ≤ 36) : -400000 ≤ formVal f.1 f.2.1 f.2.2 x y ∧ formVal f.1 f.2.1 f.2.2 x y ≤ 400000 := by
  obtain ⟨h1, h2, h3, h4, h5, h6⟩ := low_bd h hd
  have k1 := prodAB (a := f.1) (b := x) 18 36 (by omega) (by omega) (by omega) hx.2
  have k2 := prodAB (a := f.1 * x) (b := x) 648 36 (by omega) (by omega) (by omega) hx.2
  have k3 := prodAB (a := f.2.1) (b := x) 18 36 (by omega) (by omega) (by omega) hx.2
  have k4 := prodAB (a := f.2.1 * x) (b := y) 648 36 (by omega) (by omega) (by omega) hy.2
  have k5 := prodAB (a := f.2.2) (b := y) 250 36 (by omega) (by omega) (by omega) hy.2
  have k6 := prodAB (a := f.2.2 * y) (b := y) 9000 36 (by omega) (by omega) (by omega) hy.2
  unfold formVal; omega
/-- what a search hands back: a form of the class whose first coefficient has no common divisor with n -/
def ApartC (f : F3) (n L : Int) (g : F3) : Prop := Eqv f g ∧ Cop n g.1 ∧ g.1 ≤ L ∧ -500000000 ≤ g.2.1 ∧ g.2.1 ≤ 500000000
theorem apart_of {f : F3} {d n L x y s t : Int} (h : Cls d f) (hd : -1000 ≤ d) (hx : -343 ≤ x ∧ x ≤ 343) (hy : -342 ≤ y ∧ y ≤ 342) (hs : -343 ≤ s ∧ s ≤ 343) (ht : -343 ≤ t ∧ t ≤ 343) (e : x * s + y * t = 1) (hc : (Int.gcd (formVal f.1 f.2.1 f.2.2 x y) n : Int) = 1) (hL : formVal f.1 f.2.1 f.2.2 x y ≤ L) : ApartC f n L (chgF f x (-t) y s) := by
  obtain ⟨h1, h2, h3, h4, h5, h6⟩ := low_bd h hd
  refine ⟨⟨(x, -t, y, s), by simp only [detU]; grind, rfl⟩, (cop_gcd.2 hc).symm, hL, ?_⟩
  have k1 := prodAB (a := 2 * f.1) (b := x) 36 343 (by omega) (by omega) hx.1 hx.2
  have k2 := prodAB (a := 2 * f.1 * x) (b := -t) 12348 343 (by omega) (by omega) (by omega) (by omega)
  have k3 := prodAB (a := x) (b := s) 343 343 hx.1 hx.2 hs.1 hs.2
  have k4 := prodAB (a := -t) (b := y) 343 343 (by omega) (by omega) (by omega) (by omega)
  have k5 := prodAB (a := f.2.1) (b := x * s + -t * y) 18 235298 (by omega) (by omega) (by omega) (by omega)
  have k6 := prodAB (a := 2 * f.2.2) (b := y) 500 343 (by omega) (by omega) (by omega) (by omega)
  have k7 := prodAB (a := 2 * f.2.2 * y) (b := s) 171500 343 (by omega) (by omega) hs.1 hs.2
  simp only [chgF]
  omega
/-- the composition's first form, its size, and its reduction -/
theorem comp_fin {f g X h : F3} {d B M : Int} (hX : Cls d X) (hd : -1000 ≤ d) (hfX : Eqv f X) (hg : Pos g) (pg : Prim g) (hdg : discF g = d) (hgh : Eqv g h) (hcop : Cop X.1 h.1) (hB1 : ∃ k, B = X.2.1 + 2 * X.1 * k) (hB2 : ∃ k, B = h.2.1 + 2 * h.1 * k) (hBd : -(2 * (X.1 * h.1)) ≤ B ∧ B ≤ 2 * (X.1 * h.1)) (hM : 2 * (X.1 * h.1) + 250 ≤ M) :
    1 ≤ X.1 * h.1 ∧ SmallM M (X.1 * h.1, B, (B * B - d).tdiv (4 * (X.1 * h.1))) ∧ ∀ N, RedM M (X.1 * h.1, B, (B * B - d).tdiv (4 * (X.1 * h.1))) N → (rst (X.1 * h.1, B, (B * B - d).tdiv (4 * (X.1 * h.1))) N).1 = compR f g := by
  have hh := hg.eqv hgh
  have hdh : discF h = d := by rw [hgh.disc, hdg]
  obtain ⟨C, e1, e2, e3, e4⟩ := comp_step (a := X.1) (b := X.2.1) (c0 := X.2.2) (c := h.1) (B' := h.2.1) (C' := h.2.2) (B := B) (d := d) hX.pos.1 hh.1 hcop hX.disc hdh hB1 hB2
  rw [Int.mul_assoc 4 X.1 h.1] at e1
  have hpos : 1 ≤ X.1 * h.1 := by have := Int.mul_le_mul (a := 1) (b := 1) (c := X.1) (d := h.1) hX.pos.1 hh.1 (by omega) (by have := hX.pos.1; omega); omega
  have hC := comp_small hpos hBd e2 hd
  rw [e1]
  refine ⟨hpos, small_of hpos (by omega) (by omega) (by omega) e3 (by have := hX.pos.2; rw [hX.disc] at this; exact this) (by omega), fun N hN => ?_⟩
  have c1 : Comp f g (X.1 * h.1, B, C) := Comp.congr e4 hfX.symm hgh.symm (Eqv.refl _)
  exact (compR_eq hg pg (c1.congr (Eqv.refl _) (Eqv.refl _) hN.eqv) hN.at_ (Pos.eqv (SmallM.pos (hN.good 0 (Nat.zero_le _)).small) hN.eqv)).symm
end Go.Proofs.Ytbaaelampabhdaa
