/-
  PLAIN LAW: reduced primitive forms of one discriminant, their composition, and the numbers that the two packages meet on the way.
-/
import Derived.Test.YtbaaelampabhdaapBig
set_option linter.unusedVariables false
set_option linter.unusedSimpArgs false
namespace Go.Proofs.Ytbaaelampabhdaa

/-- a reduced primitive form of discriminant d -/
structure Cls (d : Int) (f : F3) : Prop where
  low : low3 f = true
  pos : Pos f
  prim : Prim f
  disc : discF f = d
theorem Prim_gcd {a b c : Int} : Prim (a, b, c) ↔ (Int.gcd (Int.gcd a b) c : Int) = 1 := by
  constructor
  · intro h
    have g1 := h (Int.gcd (Int.gcd a b) c) (Int.dvd_trans (Int.gcd_dvd_left _ _) (Int.gcd_dvd_left _ _)) (Int.dvd_trans (Int.gcd_dvd_left _ _) (Int.gcd_dvd_right _ _)) (Int.gcd_dvd_right _ _)
    exact Int.eq_one_of_dvd_one (by omega) g1
  · intro h e h1 h2 h3
    rw [← h]
    exact Int.dvd_coe_gcd (Int.dvd_coe_gcd h1 h2) h3
theorem low_bd {f : F3} {d : Int} (h : Cls d f) (hd : -1000 ≤ d) : 1 ≤ f.1 ∧ f.1 ≤ 18 ∧ -18 ≤ f.2.1 ∧ f.2.1 ≤ 18 ∧ 1 ≤ f.2.2 ∧ f.2.2 ≤ 250 := by
  obtain ⟨h1, ⟨h2, _⟩, _, h4⟩ := h
  obtain ⟨a, b, c⟩ := f
  obtain ⟨f1, f2, f3, f4, f5⟩ := low3_true h1
  simp only [discF] at h4
  dsimp only at h2 ⊢
  have bb := sq_abs_le f1 f2
  have ac := Int.mul_le_mul_of_nonneg_left f3 (show 0 ≤ a by omega)
  have e : 4 * a * c = 4 * (a * c) := Int.mul_assoc 4 a c
  have ha : a ≤ 18 := by
    rcases Int.lt_or_le 18 a with k | k
    · have := Int.mul_le_mul (a := 19) (b := 19) (c := a) (d := a) (by omega) (by omega) (by omega) (by omega)
      omega
    · exact k
  have hc : c ≤ 250 := by
    rcases Int.lt_or_le 250 c with k | k
    · have k1 := Int.mul_le_mul_of_nonneg_left (show 251 ≤ c by omega) (show 0 ≤ a by omega)
      have k2 := Int.mul_le_mul_of_nonneg_left ha (show 0 ≤ a by omega)
      have : a = 1 := by omega
      subst this
      omega
    · exact k
  omega
theorem Cls.form {f : F3} {d : Int} (h : Cls d f) (hd : -1000 ≤ d) : isFormB f.1 f.2.1 f.2.2 = true := by
  obtain ⟨h1, h2, h3, h4, h5, h6⟩ := low_bd h hd
  have h7 := h.pos.2
  simp only [discF] at h7
  exact isFormB_true.2 ⟨by omega, by omega, by omega, by omega, by omega, by omega, by omega⟩
theorem Cls.primB {f : F3} {d : Int} (h : Cls d f) (hd : -1000 ≤ d) : primB f.1 f.2.1 f.2.2 = true := by
  have h1 := h.form hd
  have h2 := Prim_gcd.1 h.prim
  simp [Go.Proofs.Ytbaaelampabhdaa.primB, h1, h2]
theorem Cls.one {f g : F3} {d : Int} (hf : Cls d f) (hg : Cls d g) (h : Eqv f g) : f = g := uni hf.low hg.low hf.pos.1 hg.pos.1 h
theorem disc_mod {f : F3} (hf : Pos f) : discF f % 4 ≤ 1 ∧ discF f ≤ -3 := by
  obtain ⟨a, b, c⟩ := f
  have h := hf.2
  simp only [discF] at *
  have e : 4 * a * c = 4 * (a * c) := Int.mul_assoc 4 a c
  have e1 := Int.emod_add_mul_ediv b 2
  have l1 := Int.emod_two_eq b
  generalize b / 2 = p at *
  rcases l1 with l1 | l1 <;> rw [l1] at e1
  · have : b * b = 4 * (p * p) := by rw [← e1]; grind
    omega
  · have : b * b = 4 * (p * p + p) + 1 := by rw [← e1]; grind
    omega
open Classical in
/-- the reduced form of the composition -/
noncomputable def compR (f g : F3) : F3 := if h : ∃ h, Comp f g h ∧ low3 h = true ∧ Pos h then Classical.choose h else (0, 0, 0)
theorem compR_eq {f g h : F3} (hg : Pos g) (pg : Prim g) (c : Comp f g h) (hl : low3 h = true) (hh : Pos h) : compR f g = h := by
  have hex : ∃ h, Comp f g h ∧ low3 h = true ∧ Pos h := ⟨h, c, hl, hh⟩
  have hs := Classical.choose_spec hex
  unfold compR
  rw [dif_pos hex]
  exact uni hs.2.1 hl hs.2.2.1 hh.1 (hs.1.uniq c pg hg)
/-- a form reduces -/
theorem red_any {f : F3} (hf : Pos f) : ∃ g, Eqv f g ∧ low3 g = true ∧ Pos g := by
  have hp := Pos.eqv hf (Eqv.turn f.1 f.2.1 f.2.2)
  have hs : SmallM (f.1 + f.2.1.natAbs + f.2.2) f := by
    have h1 := hf.1
    have h2 : 1 ≤ f.2.2 := hp.1
    exact ⟨h1, by omega, by omega, by omega, h2, by omega, by have := hf.2; omega⟩
  obtain ⟨N, hN⟩ := redM_ex hs
  exact ⟨_, hN.eqv, hN.at_, hf.eqv hN.eqv⟩
theorem compR_ok {f g : F3} (hf : Pos f) (hg : Pos g) (pf : Prim f) (pg : Prim g) (hd : discF f = discF g) : Comp f g (compR f g) ∧ Cls (discF f) (compR f g) := by
  obtain ⟨h, c⟩ := Comp.ex hf hg pg hd
  obtain ⟨k, e, hl, hk⟩ := red_any (c.pos hf)
  have c' := c.congr (Eqv.refl _) (Eqv.refl _) e
  have := compR_eq hg pg c' hl hk
  rw [this]
  exact ⟨c', hl, hk, c'.prim pf pg, c'.disc.2.symm⟩
/-- the composition, as both packages find it -/
theorem comp_step {a b c0 c B' C' B d : Int} (ha : 1 ≤ a) (hc : 1 ≤ c) (hcop : Cop a c) (h0 : discF (a, b, c0) = d) (h1 : discF (c, B', C') = d) (h2 : ∃ k, B = b + 2 * a * k) (h3 : ∃ k, B = B' + 2 * c * k) :
    ∃ C, (B * B - d).tdiv (4 * a * c) = C ∧ B * B - d = 4 * (a * c) * C ∧ discF (a * c, B, C) = d ∧ Comp (a, b, c0) (c, B', C') (a * c, B, C) := by
  obtain ⟨C, k1, k2, k3⟩ := of_united ha hc hcop (by rw [h0, h1]) h2 h3
  have e : B * B - d = 4 * (a * c) * C := by
    rw [h0] at k1; simp only [discF] at k1; rw [← k1]; grind
  have hpos : 1 ≤ a * c := by have := Int.mul_le_mul (a := 1) (b := 1) (c := a) (d := c) (by omega) (by omega) (by omega) (by omega); omega
  refine ⟨C, ?_, e, ?_, a, c, B, C, ha, hc, hcop, k2, k3, Eqv.refl _⟩
  · rw [e, Int.mul_assoc 4 a c, Int.mul_comm (4 * (a * c)) C, Int.mul_tdiv_cancel _ (by omega)]
  · simp only [discF]; rw [show B * B = 4 * (a * c) * C + d by omega]; omega
/-- a place to be found, row by row -/
theorem find_rows {f : F3} (hp : Prim f) {n : Int} (hn : 1 ≤ n) (hn' : n ≤ 18) : ∃ x y : Int, 1 ≤ x ∧ x ≤ y ∧ y ≤ 342 ∧ Cop x y ∧ Cop (formVal f.1 f.2.1 f.2.2 x y) n := by
  obtain ⟨x, y, h1, h2, h3, h4, h5, h6⟩ := value_ex hp hn
  have k1 := Int.mul_le_mul (a := n) (b := x) (c := 18) (d := 18) hn' (by omega) (by omega) (by omega)
  have k2 := Int.mul_le_mul_of_nonneg_right hn (show 0 ≤ x by omega)
  refine ⟨x, y + x * n, h1, by rw [Int.mul_comm x n]; omega, by rw [Int.mul_comm x n]; omega, h5.add n, ?_⟩
  have := h6.symm.add (f.2.1 * x * x + 2 * f.2.2 * y * x + f.2.2 * n * x * x)
  have e : formVal f.1 f.2.1 f.2.2 x y + n * (f.2.1 * x * x + 2 * f.2.2 * y * x + f.2.2 * n * x * x) = formVal f.1 f.2.1 f.2.2 x (y + x * n) := by simp only [formVal]; grind
  rw [e] at this
  exact this.symm
theorem find_sums {f : F3} (hp : Prim f) {n : Int} (hn : 1 ≤ n) (hn' : n ≤ 18) : ∃ s x : Int, 1 ≤ s ∧ s ≤ 36 ∧ 0 ≤ x ∧ x ≤ s ∧ Cop x (s - x) ∧ Cop (formVal f.1 f.2.1 f.2.2 x (s - x)) n := by
  obtain ⟨x, y, h1, h2, h3, h4, h5, h6⟩ := value_ex hp hn
  refine ⟨x + y, x, by omega, by omega, by omega, by omega, ?_, ?_⟩ <;> rw [show x + y - x = y by omega] <;> assumption
theorem cop_gcd {a b : Int} : Cop a b ↔ (Int.gcd a b : Int) = 1 := ⟨fun h => by rw [h.gcd]; rfl, fun h => Cop.of_gcd (by omega)⟩
/-- the middle coefficient by an inverse -/
theorem mid_inv {a c b B' inv e t : Int} (hc : 1 ≤ c) (he : B' = b + 2 * e) (hi : ∃ q, a * inv = 1 + c * q) (ht : t = (e.tmod c * inv) % c) : ∃ l, b + 2 * a * t = B' + 2 * c * l := by
  obtain ⟨q, hq⟩ := hi
  have h1 := Int.tmod_add_mul_tdiv e c
  have h2 := Int.emod_add_mul_ediv (e.tmod c * inv) c
  rw [← ht] at h2
  generalize e.tdiv c = q1 at *
  generalize (e.tmod c * inv) / c = q2 at *
  refine ⟨(e - c * q1) * q - q1 - a * q2, ?_⟩
  have h3 : t = (e - c * q1) * inv - c * q2 := by rw [← h1] at *; grind
  rw [he, h3]
  have h4 : a * ((e - c * q1) * inv) = (e - c * q1) * (1 + c * q) := by rw [← hq]; grind
  grind
/-- the middle coefficient by steps -/
theorem mid_steps {a c b B' : Int} (ha : 1 ≤ a) (hcop : Cop a c) (hpar : ∃ k, B' = b + 2 * k) : ∃ i : Nat, (i : Int) < a ∧ (B' + 2 * c * i - b) % (2 * a) = 0 := by
  obtain ⟨k, hk⟩ := hpar
  obtain ⟨x, y, e⟩ := hcop
  have h2 := Int.emod_add_mul_ediv (-(k * y)) a
  have h3 := Int.emod_nonneg (-(k * y)) (show a ≠ 0 by omega)
  have h4 := Int.emod_lt_of_pos (-(k * y)) (show 0 < a by omega)
  refine ⟨((-(k * y)) % a).toNat, by omega, ?_⟩
  rw [show (((-(k * y)) % a).toNat : Int) = (-(k * y)) % a by omega]
  apply Int.emod_eq_zero_of_dvd
  generalize (-(k * y)) % a = r at *
  generalize (-(k * y)) / a = q at *
  refine ⟨k * x - c * q, ?_⟩
  rw [hk]
  have : r = -(k * y) - a * q := by omega
  rw [this]
  grind
/-- the composition's first form is small -/
theorem small_of {A B C d M : Int} (hA : 1 ≤ A) (hA' : A ≤ M) (hB : -M ≤ B) (hB' : B ≤ M) (hd : discF (A, B, C) = d) (hd0 : d < 0) (hC : C ≤ M) : SmallM M (A, B, C) := by
  refine ⟨hA, hA', hB, hB', ?_, hC, by omega⟩
  simp only [discF] at hd
  rcases Int.lt_or_le 0 C with k | k
  · exact k
  · have := Int.mul_nonneg (show 0 ≤ 4 * A by omega) (show 0 ≤ -C by omega)
    rw [Int.mul_neg] at this
    have := sq_nn B
    omega
end Go.Proofs.Ytbaaelampabhdaa
