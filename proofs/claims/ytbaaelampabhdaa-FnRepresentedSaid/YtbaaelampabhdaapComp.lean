/-
  PLAIN LAW: the composition of classes of primitive binary forms: it depends on the classes alone, can be grouped in any way, and each class has its inverse.
-/
import Derived.Test.YtbaaelampabhdaapUni
set_option linter.unusedVariables false
set_option linter.unusedSimpArgs false
namespace Go.Proofs.Ytbaaelampabhdaa

/-- no common divisor, told by a combination that is 1 -/
def Cop (a b : Int) : Prop := ∃ x y : Int, a * x + b * y = 1
theorem bez_nat : ∀ (m : Nat) (a b : Int), b.natAbs ≤ m → ∃ x y : Int, a * x + b * y = (Int.gcd a b : Int) := fun m => by
  induction m using Nat.strongRecOn with
  | _ m ih =>
    intro a b hb
    by_cases h : b = 0
    · subst h
      refine ⟨a.sign, 0, ?_⟩
      rw [Int.mul_sign_self]; simp
    · have hlt : (a % b).natAbs < m := by
        have := Int.emod_lt_of_pos a (show 0 < (b.natAbs : Int) by omega)
        have h2 := Int.emod_nonneg a h
        have h3 : a % b = a % (b.natAbs : Int) := by rcases Int.natAbs_eq b with q | q <;> rw [q] <;> simp
        omega
      obtain ⟨x, y, e⟩ := ih (a % b).natAbs hlt b (a % b) (Nat.le_refl _)
      refine ⟨y, x - (a / b) * y, ?_⟩
      have e1 : Int.gcd b (a % b) = Int.gcd a b := by rw [Int.gcd_comm a b]; have := Int.gcd_add_mul_left_right b (a % b) (a / b); rw [← this, Int.emod_add_mul_ediv]
      rw [← e1, ← e]
      have := Int.emod_add_mul_ediv a b
      grind
theorem bez (a b : Int) : ∃ x y : Int, a * x + b * y = (Int.gcd a b : Int) := bez_nat _ a b (Nat.le_refl _)
theorem Cop.of_gcd {a b : Int} (h : Int.gcd a b = 1) : Cop a b := by
  obtain ⟨x, y, e⟩ := bez a b
  exact ⟨x, y, by rw [e, h]; rfl⟩
theorem Cop.gcd {a b : Int} (h : Cop a b) : Int.gcd a b = 1 := by
  obtain ⟨x, y, e⟩ := h
  have h1 : ((Int.gcd a b : Nat) : Int) ∣ 1 := by
    rw [← e]
    exact Int.dvd_add (Int.dvd_mul_of_dvd_left (Int.gcd_dvd_left a b) ) (Int.dvd_mul_of_dvd_left (Int.gcd_dvd_right a b))
  have := Int.eq_one_of_dvd_one (by omega) h1
  omega
theorem Cop.symm {a b : Int} (h : Cop a b) : Cop b a := by
  obtain ⟨x, y, e⟩ := h
  exact ⟨y, x, by omega⟩
theorem Cop.one (a : Int) : Cop a 1 := ⟨0, 1, by omega⟩
theorem Cop.mul {a b c : Int} (h : Cop a b) (h' : Cop a c) : Cop a (b * c) := by
  obtain ⟨x, y, e⟩ := h
  obtain ⟨z, t, e'⟩ := h'
  exact ⟨a * x * z + x * c * t + b * y * z, y * t, by grind⟩
theorem Cop.left {a b c : Int} (h : Cop a (b * c)) : Cop a b := by
  obtain ⟨x, y, e⟩ := h
  exact ⟨x, c * y, by grind⟩
theorem Cop.right {a b c : Int} (h : Cop a (b * c)) : Cop a c := by
  obtain ⟨x, y, e⟩ := h
  exact ⟨x, b * y, by grind⟩
theorem Cop.add {a b : Int} (k : Int) (h : Cop a b) : Cop a (b + a * k) := by
  obtain ⟨x, y, e⟩ := h
  exact ⟨x - k * y, y, by grind⟩
theorem Cop.neg {a b : Int} (h : Cop a b) : Cop a (-b) := by
  obtain ⟨x, y, e⟩ := h
  exact ⟨x, -y, by grind⟩
theorem Cop.dvd {a b c : Int} (h : Cop a c) (hd : a ∣ b * c) : a ∣ b := by
  obtain ⟨x, y, e⟩ := h
  obtain ⟨k, hk⟩ := hd
  exact ⟨b * x + k * y, by grind⟩
theorem Cop.of_dvd {a b c : Int} (h : Cop a b) (hd : c ∣ b) : Cop a c := by
  obtain ⟨k, rfl⟩ := hd
  exact h.left
theorem Cop.self {a : Int} (h : Cop a a) (h0 : 0 ≤ a) : a = 1 := by
  have := h.gcd
  rw [Int.gcd_self] at this
  omega
theorem Cop.pow {a b : Int} (h : Cop a b) : ∀ n : Nat, Cop a (b ^ n)
  | 0 => by simpa using Cop.one a
  | n + 1 => by rw [Int.pow_succ]; exact (Cop.pow h n).mul h
/-- The composition does not depend on the form that stands for the second class. -/
theorem wd {a A1 B1 C1 A2 B2 C2 : Int} (ha : a ≠ 0) (hc : Cop a A2) (h : Eqv (A1, B1, a * C1) (A2, B2, a * C2)) (hB : ∃ k, B2 = B1 + 2 * a * k) : Eqv (a * A1, B1, C1) (a * A2, B2, C2) := by
  obtain ⟨⟨p, q, r, s⟩, hu, he⟩ := h
  obtain ⟨k, hk⟩ := hB
  simp only [chgU, chgF, formVal, detU, Prod.mk.injEq] at he hu
  obtain ⟨e1, e2, e3⟩ := he
  have ht : Cop a (A1 * p + B1 * r) := by
    have h1 : Cop a (p * (A1 * p + B1 * r)) := by
      have := hc.add (-(C1 * r * r))
      have e : A2 + a * -(C1 * r * r) = p * (A1 * p + B1 * r) := by rw [e1]; grind
      rwa [e] at this
    exact h1.right
  have hq : a ∣ q := by
    refine ht.dvd ⟨k - C1 * r * s, ?_⟩
    have : 2 * (q * (A1 * p + B1 * r)) = 2 * (a * (k - C1 * r * s)) := by grind
    omega
  obtain ⟨q', rfl⟩ := hq
  refine ⟨(p, q', a * r, s), ?_, ?_⟩
  · simp only [detU]; grind
  · simp only [chgU, chgF, formVal, Prod.mk.injEq]
    refine ⟨by grind, by grind, ?_⟩
    apply Int.eq_of_mul_eq_mul_left ha
    grind
/-- The class of f composed with that of g is that of h. -/
def Comp (f g h : F3) : Prop := ∃ a A B C : Int, 1 ≤ a ∧ 1 ≤ A ∧ Cop a A ∧ Eqv f (a, B, A * C) ∧ Eqv g (A, B, a * C) ∧ Eqv (a * A, B, C) h
theorem Comp.comm {f g h : F3} (c : Comp f g h) : Comp g f h := by
  obtain ⟨a, A, B, C, h1, h2, h3, h4, h5, h6⟩ := c
  exact ⟨A, a, B, C, h2, h1, h3.symm, h5, h4, by rw [Int.mul_comm]; exact h6⟩
theorem Comp.congr {f g h f' g' h' : F3} (c : Comp f g h) (hf : Eqv f f') (hg : Eqv g g') (hh : Eqv h h') : Comp f' g' h' := by
  obtain ⟨a, A, B, C, h1, h2, h3, h4, h5, h6⟩ := c
  exact ⟨a, A, B, C, h1, h2, h3, hf.symm.trans h4, hg.symm.trans h5, h6.trans hh⟩
def Prim (f : F3) : Prop := ∀ e : Int, e ∣ f.1 → e ∣ f.2.1 → e ∣ f.2.2 → e ∣ 1
/-- n is a number without a common divisor with A, times one whose divisors are A's -/
theorem part_nat (A : Int) : ∀ (m : Nat) (n : Int), 1 ≤ n → n.toNat ≤ m → ∃ u v : Int, n = u * v ∧ 1 ≤ u ∧ 1 ≤ v ∧ Cop A u ∧ ∃ e : Nat, v ∣ A ^ e := fun m => by
  induction m using Nat.strongRecOn with
  | _ m ih =>
    intro n hn hm
    by_cases h : Int.gcd A n = 1
    · exact ⟨n, 1, by omega, hn, by omega, Cop.of_gcd h, 0, by simp⟩
    · obtain ⟨n', hn'⟩ := Int.gcd_dvd_right A n
      have hg : 1 ≤ Int.gcd A n := by
        rcases Nat.eq_zero_or_pos (Int.gcd A n) with c | c
        · rw [Int.gcd_eq_zero_iff] at c; omega
        · exact c
      have hg2 : 2 ≤ (Int.gcd A n : Int) := by omega
      generalize hG : (Int.gcd A n : Int) = G at *
      have hpos : 1 ≤ n' := by
        rcases Int.lt_or_le n' 1 with c | c
        · have := Int.mul_nonneg (show 0 ≤ G by omega) (show 0 ≤ -n' by omega); rw [Int.mul_neg] at this; omega
        · exact c
      have hlt : n' < n := by
        have := Int.mul_le_mul_of_nonneg_right hg2 (show 0 ≤ n' by omega)
        omega
      obtain ⟨u, v, e1, e2, e3, e4, e, e5⟩ := ih n'.toNat (by omega) n' hpos (Nat.le_refl _)
      refine ⟨u, G * v, by rw [hn', e1]; grind, e2, ?_, e4, e + 1, ?_⟩
      · have := Int.mul_le_mul (a := 1) (b := 1) (c := G) (d := v) (by omega) (by omega) (by omega) (by omega); omega
      · rw [Int.pow_succ, Int.mul_comm]
        exact Int.mul_dvd_mul e5 (hG ▸ Int.gcd_dvd_left A n)
theorem part_ex (A n : Int) (hn : 1 ≤ n) : ∃ u v : Int, n = u * v ∧ 1 ≤ u ∧ 1 ≤ v ∧ Cop A u ∧ ∃ e : Nat, v ∣ A ^ e := part_nat A _ n hn (Nat.le_refl _)
theorem dvd_pow_one {e A : Int} {n : Nat} (h0 : 0 ≤ e) (h : e ∣ A ^ n) (hc : Cop e A) : e = 1 := by
  have h1 := hc.pow n
  obtain ⟨k, hk⟩ := h
  rw [hk] at h1
  exact h1.left.self h0
theorem le_of_mul {u v n : Int} (h : n = u * v) (hu : 1 ≤ u) (hv : 1 ≤ v) : u ≤ n ∧ v ≤ n := by
  have h1 := Int.mul_le_mul_of_nonneg_left hv (show 0 ≤ u by omega)
  have h2 := Int.mul_le_mul_of_nonneg_right hu (show 0 ≤ v by omega)
  omega
/-- A primitive form has a value without a common divisor with n. -/
theorem value_ex {f : F3} (hp : Prim f) {n : Int} (hn : 1 ≤ n) : ∃ x y : Int, 1 ≤ x ∧ x ≤ n ∧ 1 ≤ y ∧ y ≤ n ∧ Cop x y ∧ Cop (formVal f.1 f.2.1 f.2.2 x y) n := by
  obtain ⟨A, B, C⟩ := f
  obtain ⟨u, v, e1, e2, e3, e4, s, e5⟩ := part_ex A n hn
  obtain ⟨x, z, d1, d2, d3, d4, t, d5⟩ := part_ex C v e3
  have l1 := le_of_mul e1 e2 e3
  have l2 := le_of_mul d1 d2 d3
  have hxu : Cop x u := (e4.symm.pow s).of_dvd (Int.dvd_trans ⟨z, d1⟩ e5) |>.symm
  refine ⟨x, u, d2, by omega, e2, by omega, hxu, ?_⟩
  dsimp only
  have c1 : Cop (formVal A B C x u) u := by
    have := ((e4.symm.mul hxu.symm).mul hxu.symm).add (B * x + C * u)
    have e : A * x * x + u * (B * x + C * u) = formVal A B C x u := by simp only [formVal]; grind
    rw [e] at this
    exact this.symm
  have c2 : Cop (formVal A B C x u) x := by
    have := ((d4.symm.mul hxu).mul hxu).add (A * x + B * u)
    have e : C * u * u + x * (A * x + B * u) = formVal A B C x u := by simp only [formVal]; grind
    rw [e] at this
    exact this.symm
  have c3 : Cop (formVal A B C x u) z := by
    refine Cop.of_gcd ?_
    have hz : z ∣ A ^ s := Int.dvd_trans ⟨x, by rw [d1, Int.mul_comm]⟩ e5
    generalize hw : formVal A B C x u = w at *
    have g1 := Int.gcd_dvd_left w z
    have g2 := Int.gcd_dvd_right w z
    generalize hE : (Int.gcd w z : Int) = E at *
    have hE0 : 0 ≤ E := by omega
    -- the part of it that divides A, and then C
    have k0 : (Int.gcd (Int.gcd E A) C : Int) ∣ 1 := by
      generalize hK : (Int.gcd (Int.gcd E A) C : Int) = K
      have kE : K ∣ E := hK ▸ Int.dvd_trans (Int.gcd_dvd_left _ _) (Int.gcd_dvd_left _ _)
      have kA : K ∣ A := hK ▸ Int.dvd_trans (Int.gcd_dvd_left _ _) (Int.gcd_dvd_right _ _)
      have kC : K ∣ C := hK ▸ Int.gcd_dvd_right _ _
      have kw : K ∣ w := Int.dvd_trans kE g1
      have kB : K ∣ B * x * u := by
        obtain ⟨i, hi⟩ := kA
        obtain ⟨j, hj⟩ := kC
        obtain ⟨l, hl⟩ := kw
        refine ⟨l - i * x * x - j * u * u, ?_⟩
        simp only [formVal] at hw
        grind
      have ku : Cop K u := by
        have := e4.symm.of_dvd kA
        exact this.symm
      have kx : Cop K x := (d4.symm.of_dvd kC).symm
      exact hp K kA (kx.dvd (ku.dvd kB)) kC
    have k1 : (Int.gcd (Int.gcd E A) C : Int) = 1 := Int.eq_one_of_dvd_one (by omega) k0
    have k2 : (Int.gcd E A : Int) = 1 := by
      refine dvd_pow_one (by omega) (Int.dvd_trans (Int.gcd_dvd_left E A) (Int.dvd_trans g2 d5)) (Cop.of_gcd (by omega))
    have k3 : E = 1 := dvd_pow_one hE0 (Int.dvd_trans g2 hz) (Cop.of_gcd (by omega))
    omega
  rw [e1, d1]
  exact c1.mul (c2.mul c3)
def Pos (f : F3) : Prop := 1 ≤ f.1 ∧ discF f < 0
theorem val_pos {f : F3} (hf : Pos f) {x y : Int} (h : Cop x y) : 1 ≤ formVal f.1 f.2.1 f.2.2 x y := by
  obtain ⟨a, b, c⟩ := f
  obtain ⟨h1, h2⟩ := hf
  dsimp only at *
  simp only [discF] at h2
  have e : 4 * a * formVal a b c x y = (2 * a * x + b * y) * (2 * a * x + b * y) + (4 * a * c - b * b) * (y * y) := by simp only [formVal]; grind
  have s1 := sq_nn (2 * a * x + b * y)
  have s2 := sq_nn y
  have s3 := Int.mul_nonneg (show 0 ≤ 4 * a * c - b * b by omega) s2
  rcases Int.lt_or_le (formVal a b c x y) 1 with k | k
  · exfalso
    have h4 : 4 * a * formVal a b c x y ≤ 0 := by
      have := Int.mul_nonneg (show 0 ≤ 4 * a by omega) (show 0 ≤ -formVal a b c x y by omega)
      rw [Int.mul_neg] at this; omega
    have z1 : (2 * a * x + b * y) * (2 * a * x + b * y) = 0 := by omega
    have z2 : (4 * a * c - b * b) * (y * y) = 0 := by omega
    have z3 : y = 0 := by
      rcases Int.mul_eq_zero.1 z2 with q | q
      · omega
      · rcases Int.mul_eq_zero.1 q with q | q <;> exact q
    subst z3
    have z4 : x = 0 := by
      have : 2 * a * x = 0 := by rcases Int.mul_eq_zero.1 z1 with q | q <;> simpa using q
      rcases Int.mul_eq_zero.1 this with q | q
      · omega
      · exact q
    subst z4
    obtain ⟨u, v, e⟩ := h
    simp at e
  · exact k
theorem Pos.eqv {f g : F3} (hf : Pos f) (h : Eqv f g) : Pos g := by
  have hd := h.disc
  obtain ⟨⟨p, q, r, s⟩, hu, rfl⟩ := h
  simp only [detU] at hu
  exact ⟨val_pos hf ⟨s, -q, by grind⟩, by rw [hd]; exact hf.2⟩
theorem Prim.eqv {f g : F3} (hf : Prim f) (h : Eqv f g) : Prim g := by
  obtain ⟨u, hu, e⟩ := h.symm
  intro k h1 h2 h3
  obtain ⟨p, q, r, s⟩ := u
  obtain ⟨a, b, c⟩ := f
  obtain ⟨a', b', c'⟩ := g
  simp only [chgU, chgF, formVal, Prod.mk.injEq] at e h1 h2 h3
  obtain ⟨e1, e2, e3⟩ := e
  obtain ⟨i, hi⟩ := h1
  obtain ⟨j, hj⟩ := h2
  obtain ⟨l, hl⟩ := h3
  have key := hf k
  clear h hf hu
  subst e1 e2 e3 hi hj hl
  refine key ?_ ?_ ?_
  · exact ⟨i * p * p + j * p * r + l * r * r, by dsimp only; clear key; grind⟩
  · exact ⟨2 * i * p * q + j * (p * s + q * r) + 2 * l * r * s, by dsimp only; clear key; grind⟩
  · exact ⟨i * q * q + j * q * s + l * s * s, by dsimp only; clear key; grind⟩
theorem rep_ex {g : F3} (hp : Prim g) (hg : Pos g) {n : Int} (hn : 1 ≤ n) : ∃ A B C : Int, 1 ≤ A ∧ Cop A n ∧ Eqv g (A, B, C) := by
  obtain ⟨x, y, _, _, _, _, hc, hv⟩ := value_ex hp hn
  have h1 := val_pos hg hc
  obtain ⟨s, t, e⟩ := hc
  exact ⟨_, _, _, h1, hv, (x, -t, y, s), by simp only [detU]; grind, rfl⟩
theorem parity {b1 b2 c1 c2 : Int} (h : b1 * b1 - 4 * c1 = b2 * b2 - 4 * c2) : ∃ k, b1 = b2 + 2 * k := by
  have e1 := Int.emod_add_mul_ediv b1 2
  have e2 := Int.emod_add_mul_ediv b2 2
  have l1 := Int.emod_two_eq b1
  have l2 := Int.emod_two_eq b2
  generalize b1 / 2 = p at *
  generalize b2 / 2 = q at *
  rcases l1 with l1 | l1 <;> rcases l2 with l2 | l2 <;> rw [l1] at e1 <;> rw [l2] at e2
  · exact ⟨p - q, by omega⟩
  · exfalso
    have k1 : b1 * b1 = 4 * (p * p) := by rw [← e1]; grind
    have k2 : b2 * b2 = 4 * (q * q + q) + 1 := by rw [← e2]; grind
    omega
  · exfalso
    have k1 : b1 * b1 = 4 * (p * p + p) + 1 := by rw [← e1]; grind
    have k2 : b2 * b2 = 4 * (q * q) := by rw [← e2]; grind
    omega
  · exact ⟨p - q, by omega⟩
/-- two forms with coprime first coefficients get one middle coefficient -/
theorem of_united {a A b1 b2 c1 c2 B : Int} (ha : 1 ≤ a) (hA : 1 ≤ A) (hc : Cop a A) (hd : discF (a, b1, c1) = discF (A, b2, c2)) (h1 : ∃ k, B = b1 + 2 * a * k) (h2 : ∃ k, B = b2 + 2 * A * k) :
    ∃ C, discF (a, B, A * C) = discF (a, b1, c1) ∧ Eqv (a, b1, c1) (a, B, A * C) ∧ Eqv (A, b2, c2) (A, B, a * C) := by
  obtain ⟨k, hk⟩ := h1
  obtain ⟨l, hl⟩ := h2
  simp only [discF] at hd
  have m1 : a * (a * k * k + b1 * k + c1) = A * (A * l * l + b2 * l + c2) := by
    have : 4 * (a * (a * k * k + b1 * k + c1)) = 4 * (A * (A * l * l + b2 * l + c2)) := by
      have e1 : 4 * (a * (a * k * k + b1 * k + c1)) = B * B - (b1 * b1 - 4 * a * c1) := by rw [hk]; grind
      have e2 : 4 * (A * (A * l * l + b2 * l + c2)) = B * B - (b2 * b2 - 4 * A * c2) := by rw [hl]; grind
      omega
    omega
  obtain ⟨C, hC⟩ : a ∣ A * l * l + b2 * l + c2 := hc.dvd ⟨a * k * k + b1 * k + c1, by rw [m1, Int.mul_comm]⟩
  have hAC : a * k * k + b1 * k + c1 = A * C := by
    apply Int.eq_of_mul_eq_mul_left (show a ≠ 0 by omega)
    rw [m1, hC]; grind
  refine ⟨C, ?_, ?_, ?_⟩
  · simp only [discF]; rw [hk]; grind
  · have := Eqv.shift a b1 c1 k
    rw [← hk, hAC] at this; exact this
  · have := Eqv.shift A b2 c2 l
    rw [← hl, hC] at this; exact this
theorem unite {a A b1 b2 c1 c2 : Int} (ha : 1 ≤ a) (hA : 1 ≤ A) (hc : Cop a A) (hd : discF (a, b1, c1) = discF (A, b2, c2)) :
    ∃ B C, (∃ k, B = b1 + 2 * a * k) ∧ (∃ l, B = b2 + 2 * A * l) ∧ discF (a, B, A * C) = discF (a, b1, c1) ∧ Eqv (a, b1, c1) (a, B, A * C) ∧ Eqv (A, b2, c2) (A, B, a * C) := by
  obtain ⟨k, hk⟩ := parity (b1 := b1) (b2 := b2) (c1 := a * c1) (c2 := A * c2) (by simp only [discF] at hd; grind)
  obtain ⟨x, y, e⟩ := hc
  have h1 : ∃ l, b1 - 2 * a * x * k = b1 + 2 * a * l := ⟨-(x * k), by grind⟩
  have h2 : ∃ l, b1 - 2 * a * x * k = b2 + 2 * A * l := ⟨y * k, by rw [hk]; grind⟩
  obtain ⟨C, h3, h4, h5⟩ := of_united ha hA ⟨x, y, e⟩ hd h1 h2
  exact ⟨_, C, h1, h2, h3, h4, h5⟩
theorem Comp.disc {f g h : F3} (c : Comp f g h) : discF f = discF g ∧ discF f = discF h := by
  obtain ⟨a, A, B, C, h1, h2, h3, h4, h5, h6⟩ := c
  have e1 := h4.disc
  have e2 := h5.disc
  have e3 := h6.disc
  rw [← e1, ← e2, e3]
  simp only [discF]
  constructor <;> grind
/-- One class for two classes. -/
theorem Comp.uniq {f g h h' : F3} (c : Comp f g h) (c' : Comp f g h') (hp : Prim g) (hg : Pos g) : Eqv h h' := by
  obtain ⟨a1, A1, B1, C1, p1, p2, p3, p4, p5, p6⟩ := c
  obtain ⟨a2, A2, B2, C2, q1, q2, q3, q4, q5, q6⟩ := c'
  have hn : 1 ≤ a1 * a2 := by have := Int.mul_le_mul (a := 1) (b := 1) (c := a1) (d := a2) (by omega) (by omega) (by omega) (by omega); omega
  obtain ⟨A3, b3, c3, r1, r2, r3⟩ := rep_ex hp hg hn
  have d1 : discF (a1, B1, A1 * C1) = discF (A3, b3, c3) := by
    have e1 := p5.disc; have e2 := r3.disc
    rw [e2, ← e1]; simp only [discF]; grind
  have d2 : discF (a2, B2, A2 * C2) = discF (A3, b3, c3) := by
    have e1 := q5.disc; have e2 := r3.disc
    rw [e2, ← e1]; simp only [discF]; grind
  obtain ⟨B3, C3, k1, ⟨l3, k2⟩, k3, k4, k5⟩ := unite p1 r1 r2.left.symm d1
  obtain ⟨B4, C4, j1, ⟨l4, j2⟩, j3, j4, j5⟩ := unite q1 r1 r2.right.symm d2
  have w1 : Eqv (a1 * A1, B1, C1) (a1 * A3, B3, C3) := wd (by omega) r2.left.symm (p5.symm.trans (r3.trans k5)) k1
  have w2 : Eqv (a2 * A2, B2, C2) (a2 * A3, B4, C4) := wd (by omega) r2.right.symm (q5.symm.trans (r3.trans j5)) j1
  have w3 : Eqv (A3 * a1, B3, C3) (A3 * a2, B4, C4) := wd (by omega) r2.right ((p4.trans k4).symm.trans (q4.trans j4)) ⟨l4 - l3, by grind⟩
  rw [Int.mul_comm A3 a1, Int.mul_comm A3 a2] at w3
  exact p6.symm.trans (w1.trans (w3.trans (w2.symm.trans q6)))
theorem Comp.prim {f g h : F3} (c : Comp f g h) (hf : Prim f) (hg : Prim g) : Prim h := by
  obtain ⟨a, A, B, C, h1, h2, h3, h4, h5, h6⟩ := c
  refine Prim.eqv ?_ h6
  have f1 := hf.eqv h4
  have f2 := hg.eqv h5
  intro e e1 e2 e3
  dsimp only at e1 e2 e3
  have c1 : Cop a e := Cop.of_gcd (by
    have g1 : ((Int.gcd a e : Nat) : Int) ∣ 1 := f1 _ (Int.gcd_dvd_left a e) (Int.dvd_trans (Int.gcd_dvd_right a e) e2) (Int.dvd_trans (Int.dvd_trans (Int.gcd_dvd_right a e) e3) ⟨A, by dsimp only; rw [Int.mul_comm]⟩)
    have := Int.eq_one_of_dvd_one (by omega) g1
    omega)
  have c2 : Cop A e := Cop.of_gcd (by
    have g1 : ((Int.gcd A e : Nat) : Int) ∣ 1 := f2 _ (Int.gcd_dvd_left A e) (Int.dvd_trans (Int.gcd_dvd_right A e) e2) (Int.dvd_trans (Int.dvd_trans (Int.gcd_dvd_right A e) e3) ⟨a, by dsimp only; rw [Int.mul_comm]⟩)
    have := Int.eq_one_of_dvd_one (by omega) g1
    omega)
  obtain ⟨x, y, hx⟩ := c1.symm.mul c2.symm
  obtain ⟨k, hk⟩ := e1
  exact ⟨x + k * y, by rw [← hx, hk]; grind⟩
theorem Comp.ex {f g : F3} (hf : Pos f) (hg : Pos g) (hp : Prim g) (hd : discF f = discF g) : ∃ h, Comp f g h := by
  obtain ⟨a, b, c⟩ := f
  obtain ⟨A, b2, c2, h1, h2, h3⟩ := rep_ex hp hg hf.1
  obtain ⟨B, C, _, _, _, k4, k5⟩ := unite hf.1 h1 h2.symm (by rw [hd, ← h3.disc])
  exact ⟨_, a, A, B, C, hf.1, h1, h2.symm, k4, h3.trans k5, Eqv.refl _⟩
theorem Comp.pos {f g h : F3} (c : Comp f g h) (hf : Pos f) : Pos h := by
  have hd := c.disc
  obtain ⟨a, A, B, C, h1, h2, h3, h4, h5, h6⟩ := c
  refine Pos.eqv ⟨?_, ?_⟩ h6
  · have := Int.mul_le_mul (a := 1) (b := 1) (c := a) (d := A) (by omega) (by omega) (by omega) (by omega)
    dsimp only; omega
  · rw [← h6.disc, ← hd.2]; exact hf.2
theorem Comp.assoc_ex {f g h : F3} (hf : Pos f) (hg : Pos g) (hh : Pos h) (pg : Prim g) (ph : Prim h) (hd : discF f = discF g) (hd' : discF f = discF h) : ∃ x y z, Comp f g x ∧ Comp x h y ∧ Comp g h z ∧ Comp f z y := by
  obtain ⟨a1, b1, c1⟩ := f
  obtain ⟨a2, b2, c2, h1, h2, h3⟩ := rep_ex pg hg hf.1
  dsimp only at h2
  have p1 : 1 ≤ a1 := hf.1
  have hn : 1 ≤ a1 * a2 := by have := Int.mul_le_mul (a := 1) (b := 1) (c := a1) (d := a2) (by omega) (by omega) (by omega) (by omega); omega
  obtain ⟨a3, b3, c3, i1, i2, i3⟩ := rep_ex ph hh hn
  obtain ⟨B, C, ⟨k1, hk1⟩, ⟨k2, hk2⟩, k3, k4, k5⟩ := unite p1 h1 h2.symm (by rw [hd, ← h3.disc])
  obtain ⟨B', C', ⟨l1, hl1⟩, ⟨l2, hl2⟩, l3, l4, l5⟩ := unite hn i1 i2.symm (b1 := B) (c1 := C) (b2 := b3) (c2 := c3) (by rw [i3.disc, ← hd', ← k3]; simp only [discF]; grind)
  have e1 : Eqv (a1, b1, c1) (a1, B', a2 * (a3 * C')) := by
    refine Eqv.of_B (by omega) ⟨k1 + a2 * l1, by rw [hl1, hk1]; grind⟩ ?_
    rw [← k3]; simp only [discF] at l3 ⊢; grind
  have e2 : Eqv (a2, b2, c2) (a2, B', a1 * (a3 * C')) := by
    refine Eqv.of_B (by omega) ⟨k2 + a1 * l1, by rw [hl1, hk2]; grind⟩ ?_
    rw [h3.disc, ← hd, ← k3]; simp only [discF] at l3 ⊢; grind
  refine ⟨(a1 * a2, B', a3 * C'), (a1 * a2 * a3, B', C'), (a2 * a3, B', a1 * C'), ?_, ?_, ?_, ?_⟩
  · exact ⟨a1, a2, B', a3 * C', p1, h1, h2.symm, e1, h3.trans e2, Eqv.refl _⟩
  · exact ⟨a1 * a2, a3, B', C', hn, i1, i2.symm, Eqv.refl _, i3.trans l5, Eqv.refl _⟩
  · refine ⟨a2, a3, B', a1 * C', h1, i1, i2.right.symm, ?_, ?_, Eqv.refl _⟩
    · have : a3 * (a1 * C') = a1 * (a3 * C') := by grind
      rw [this]; exact h3.trans e2
    · have : a2 * (a1 * C') = a1 * a2 * C' := by grind
      rw [this]; exact i3.trans l5
  · have hn2 : 1 ≤ a2 * a3 := by have := Int.mul_le_mul (a := 1) (b := 1) (c := a2) (d := a3) (by omega) (by omega) (by omega) (by omega); omega
    refine ⟨a1, a2 * a3, B', C', p1, hn2, h2.symm.mul i2.left.symm, ?_, Eqv.refl _, ?_⟩
    · have : a2 * a3 * C' = a2 * (a3 * C') := by grind
      rw [this]; exact e1
    · have : a1 * (a2 * a3) = a1 * a2 * a3 := by grind
      rw [this]; exact Eqv.refl _
theorem Comp.assoc {f g h x y z w : F3} (hf : Pos f) (hg : Pos g) (hh : Pos h) (pf : Prim f) (pg : Prim g) (ph : Prim h) (c1 : Comp f g x) (c2 : Comp x h y) (c3 : Comp g h z) (c4 : Comp f z w) : Eqv y w := by
  have hd := c1.disc.1
  have hd' : discF f = discF h := by rw [c1.disc.2]; exact c2.disc.1
  obtain ⟨x', y', z', k1, k2, k3, k4⟩ := Comp.assoc_ex hf hg hh pg ph hd hd'
  have e1 := c1.uniq k1 pg hg
  have e2 := (c2.congr e1 (Eqv.refl _) (Eqv.refl _)).uniq k2 ph hh
  have e3 := c3.uniq k3 ph hh
  have pz := k3.prim pg ph
  have hz := k3.pos hg
  have e4 := (c4.congr (Eqv.refl _) e3 (Eqv.refl _)).uniq k4 pz hz
  exact e2.trans e4.symm
theorem Comp.id_ex {a b c p q : Int} (ha : 1 ≤ a) (hd : discF (1, p, q) = discF (a, b, c)) : Comp (a, b, c) (1, p, q) (a, b, c) := by
  obtain ⟨k, hk⟩ := parity (b1 := b) (b2 := p) (c1 := a * c) (c2 := q) (by simp only [discF] at hd; grind)
  refine ⟨a, 1, b, c, ha, by omega, Cop.one a, ?_, ?_, ?_⟩
  · rw [Int.one_mul]; exact Eqv.refl _
  · exact Eqv.of_B (by omega) ⟨k, by omega⟩ (by rw [hd]; simp only [discF]; grind)
  · rw [Int.mul_one]; exact Eqv.refl _
def conjF (f : F3) : F3 := (f.1, -f.2.1, f.2.2)
theorem Eqv.conj {f g : F3} (h : Eqv f g) : Eqv (conjF f) (conjF g) := by
  obtain ⟨⟨p, q, r, s⟩, hu, rfl⟩ := h
  obtain ⟨a, b, c⟩ := f
  simp only [detU] at hu
  refine ⟨(p, -q, -r, s), by simp only [detU]; grind, ?_⟩
  simp only [conjF, chgU, chgF, formVal, Prod.mk.injEq]
  refine ⟨by grind, by grind, by grind⟩
theorem Eqv.turn (a b c : Int) : Eqv (a, b, c) (c, -b, a) := ⟨(0, -1, 1, 0), rfl, by simp [chgU, chgF, formVal]⟩
theorem Comp.inv_ex {f : F3} (hf : Pos f) (pf : Prim f) : ∃ b c, Comp f (conjF f) (1, b, c) := by
  obtain ⟨A, B, C, h1, h2, h3⟩ := rep_ex pf hf (n := -discF f) (by have := hf.2; omega)
  have hAB : Cop A B := by
    have e : -discF f = 4 * A * C - B * B := by rw [← h3.disc]; simp only [discF]; omega
    rw [e] at h2
    have := h2.add (-(4 * C))
    have e2 : 4 * A * C - B * B + A * -(4 * C) = B * (-B) := by grind
    rw [e2] at this
    exact this.left
  obtain ⟨x, y, e⟩ := hAB
  -- a shift after which the last coefficient is 1 more than a multiple of the first one
  have s := Eqv.shift A B C (y * (1 - C))
  have hc : Cop (A * (y * (1 - C)) * (y * (1 - C)) + B * (y * (1 - C)) + C) A := by
    refine ⟨1, x * (1 - C) - (y * (1 - C)) * (y * (1 - C)), ?_⟩
    grind
  have hpos := (hf.eqv (h3.trans (s.trans (Eqv.turn _ _ _)))).1
  dsimp only at hpos
  generalize A * (y * (1 - C)) * (y * (1 - C)) + B * (y * (1 - C)) + C = C' at *
  generalize B + 2 * A * (y * (1 - C)) = B' at *
  refine ⟨B', C' * A, C', A, -B', 1, hpos, h1, hc, ?_, ?_, ?_⟩
  · rw [Int.mul_one]; exact (h3.trans s).trans (Eqv.turn _ _ _)
  · rw [Int.mul_one]; exact (h3.trans s).conj
  · have := Eqv.turn (C' * A) (-B') 1
    rw [Int.neg_neg] at this; exact this
/-- principal forms of one discriminant are one class -/
theorem princ_one {p q p' q' : Int} (h : discF (1, p, q) = discF (1, p', q')) : Eqv (1, p, q) (1, p', q') := by
  obtain ⟨k, hk⟩ := parity (b1 := p') (b2 := p) (c1 := q') (c2 := q) (by simp only [discF] at h; omega)
  exact Eqv.of_B (by omega) ⟨k, by omega⟩ h.symm
theorem prim_one {p q : Int} : Prim (1, p, q) := fun _ h _ _ => h
theorem Prim.conj {f : F3} (h : Prim f) : Prim (conjF f) := fun e h1 h2 h3 => h e h1 (by simpa [conjF] using h2) h3
theorem disc_conj (f : F3) : discF (conjF f) = discF f := by simp only [discF, conjF, Int.neg_mul_neg]
theorem Pos.conj {f : F3} (h : Pos f) : Pos (conjF f) := ⟨h.1, by rw [disc_conj]; exact h.2⟩
theorem Comp.cancel {x x' f y : F3} (hx : Pos x) (hx' : Pos x') (hf : Pos f) (px : Prim x) (px' : Prim x') (pf : Prim f) (c : Comp x f y) (c' : Comp x' f y) : Eqv x x' := by
  obtain ⟨p, q, ci⟩ := Comp.inv_ex hf pf
  have hy := c.pos hx
  have py := c.prim px pf
  obtain ⟨w, cw⟩ := Comp.ex hy hf.conj pf.conj (by rw [disc_conj, ← c.disc.2, c.disc.1])
  have key : ∀ {z : F3}, Pos z → Prim z → Comp z f y → Eqv w z := fun {z} hz pz cz => by
    obtain ⟨a, b, cc⟩ := z
    have hid := Comp.id_ex (a := a) (b := b) (c := cc) (p := p) (q := q) hz.1 (by rw [← ci.disc.2, ← cz.disc.1])
    exact Comp.assoc hz hf hf.conj pz pf pf.conj cz cw ci hid
  exact (key hx px c).symm.trans (key hx' px' c')
end Go.Proofs.Ytbaaelampabhdaa
