/-
  PLAIN LAW: the reduction of a positive definite binary form ends, in small numbers.
-/
import Derived.Test.YtbaaelampabhdaapForm
set_option linter.unusedVariables false
set_option linter.unusedSimpArgs false
namespace Go.Proofs.Ytbaaelampabhdaa

abbrev U4 := Int × Int × Int × Int
def chgF (f : F3) (p q r s : Int) : F3 := (formVal f.1 f.2.1 f.2.2 p r, 2 * f.1 * p * q + f.2.1 * (p * s + q * r) + 2 * f.2.2 * r * s, formVal f.1 f.2.1 f.2.2 q s)
def chgU (f : F3) (u : U4) : F3 := chgF f u.1 u.2.1 u.2.2.1 u.2.2.2
def kF (f : F3) : Int := (f.1 - f.2.1) / (2 * f.1)
def cF (k : Int) : U4 := if k = 0 then (0, -1, 1, 0) else (1, k, 0, 1)
def mulU (u c : U4) : U4 := (u.1 * c.1 + u.2.1 * c.2.2.1, u.1 * c.2.1 + u.2.1 * c.2.2.2, u.2.2.1 * c.1 + u.2.2.2 * c.2.2.1, u.2.2.1 * c.2.1 + u.2.2.2 * c.2.2.2)
def rstep (s : F3 × U4) : F3 × U4 := (chgU s.1 (cF (kF s.1)), mulU s.2 (cF (kF s.1)))
def rst (f : F3) : Nat → F3 × U4
  | 0 => (f, (1, 0, 0, 1))
  | n + 1 => rstep (rst f n)
def low3 (f : F3) : Bool := lowB f.1 f.2.1 f.2.2
def discF (f : F3) : Int := f.2.1 * f.2.1 - 4 * f.1 * f.2.2
def detU (u : U4) : Int := u.1 * u.2.2.2 - u.2.1 * u.2.2.1
theorem chg_mul (f : F3) (u c : U4) : chgU (chgU f u) c = chgU f (mulU u c) := by
  obtain ⟨a, b, g⟩ := f
  obtain ⟨p, q, r, s⟩ := u
  obtain ⟨x, y, z, t⟩ := c
  simp only [chgU, chgF, mulU, formVal]
  refine Prod.ext ?_ (Prod.ext ?_ ?_) <;> dsimp only <;> grind
theorem disc_chg (f : F3) (u : U4) : discF (chgU f u) = detU u * detU u * discF f := by
  obtain ⟨a, b, g⟩ := f
  obtain ⟨p, q, r, s⟩ := u
  simp only [chgU, chgF, discF, detU, formVal]
  grind
theorem det_mul (u c : U4) : detU (mulU u c) = detU u * detU c := by
  obtain ⟨p, q, r, s⟩ := u
  obtain ⟨x, y, z, t⟩ := c
  simp only [mulU, detU]
  grind
structure Small (g : F3) : Prop where
  a1 : 1 ≤ g.1
  a2 : g.1 ≤ 5000
  b1 : -5000 ≤ g.2.1
  b2 : g.2.1 ≤ 5000
  c1 : 1 ≤ g.2.2
  c2 : g.2.2 ≤ 5000
  d : discF g ≤ -1
structure Good (f : F3) (s : F3 × U4) : Prop where
  small : Small s.1
  chg : s.1 = chgU f s.2
  det : detU s.2 = 1
theorem sq_nn (a : Int) : 0 ≤ a * a := by
  rcases Int.lt_or_le a 0 with c | c
  · have := Int.mul_nonneg (show 0 ≤ -a by omega) (show 0 ≤ -a by omega); rwa [Int.neg_mul_neg] at this
  · exact Int.mul_nonneg c c
theorem sq_up {a : Int} (h : a * a ≤ 100000000) : -10000 ≤ a ∧ a ≤ 10000 := by
  rcases Int.lt_or_le 10000 a with c | c
  · have := Int.mul_le_mul (a := 10001) (b := 10001) (c := a) (d := a) (by omega) (by omega) (by omega) (by omega)
    omega
  · rcases Int.lt_or_le a (-10000) with c2 | c2
    · have := Int.mul_le_mul (a := 10001) (b := 10001) (c := -a) (d := -a) (by omega) (by omega) (by omega) (by omega)
      rw [Int.neg_mul_neg] at this
      omega
    · exact ⟨c2, c⟩
theorem val_bd {f : F3} (hf : Small f) {x y : Int} (h : formVal f.1 f.2.1 f.2.2 x y ≤ 5000) : (-10000 ≤ x ∧ x ≤ 10000) ∧ (-10000 ≤ y ∧ y ≤ 10000) := by
  obtain ⟨a, b, c⟩ := f
  obtain ⟨h1, h2, h3, h4, h5, h6, h7⟩ := hf
  simp only [discF] at *
  have e1 : 4 * c * formVal a b c x y = (2 * c * y + b * x) * (2 * c * y + b * x) + (4 * a * c - b * b) * (x * x) := by simp only [formVal]; grind
  have e2 : 4 * a * formVal a b c x y = (2 * a * x + b * y) * (2 * a * x + b * y) + (4 * a * c - b * b) * (y * y) := by simp only [formVal]; grind
  have s1 := sq_nn (2 * c * y + b * x)
  have s2 := sq_nn (2 * a * x + b * y)
  have q1 : x * x ≤ (4 * a * c - b * b) * (x * x) := by
    have := Int.mul_le_mul_of_nonneg_right (show 1 ≤ 4 * a * c - b * b by omega) (sq_nn x)
    omega
  have q2 : y * y ≤ (4 * a * c - b * b) * (y * y) := by
    have := Int.mul_le_mul_of_nonneg_right (show 1 ≤ 4 * a * c - b * b by omega) (sq_nn y)
    omega
  have nn := sq_nn x
  have nn2 := sq_nn y
  have hv0 : 0 ≤ formVal a b c x y := by
    rcases Int.lt_or_le (formVal a b c x y) 0 with k | k
    · have := Int.mul_le_mul_of_nonneg_left (show formVal a b c x y ≤ -1 by omega) (show 0 ≤ 4 * c by omega)
      omega
    · exact k
  have r1 := Int.mul_le_mul (a := 4 * c) (b := formVal a b c x y) (c := 20000) (d := 5000) (by omega) h hv0 (by omega)
  have r2 := Int.mul_le_mul (a := 4 * a) (b := formVal a b c x y) (c := 20000) (d := 5000) (by omega) h hv0 (by omega)
  exact ⟨sq_up (by omega), sq_up (by omega)⟩
theorem Good.in_ {f : F3} {s : F3 × U4} (h : Good f s) (hf : Small f) : ((-10000 ≤ s.2.1 ∧ s.2.1 ≤ 10000) ∧ (-10000 ≤ s.2.2.1 ∧ s.2.2.1 ≤ 10000)) ∧ (-10000 ≤ s.2.2.2.1 ∧ s.2.2.2.1 ≤ 10000) ∧ (-10000 ≤ s.2.2.2.2 ∧ s.2.2.2.2 ≤ 10000) := by
  have e1 : formVal f.1 f.2.1 f.2.2 s.2.1 s.2.2.2.1 = s.1.1 := (congrArg Prod.fst h.chg).symm
  have e2 : formVal f.1 f.2.1 f.2.2 s.2.2.1 s.2.2.2.2 = s.1.2.2 := (congrArg (fun x => x.2.2) h.chg).symm
  have h1 := val_bd hf (x := s.2.1) (y := s.2.2.2.1) (by rw [e1]; exact h.small.a2)
  have h2 := val_bd hf (x := s.2.2.1) (y := s.2.2.2.2) (by rw [e2]; exact h.small.c2)
  omega
def mu3 (g : F3) : Nat := 3 * g.1.toNat + (if -g.1 < g.2.1 ∧ g.2.1 ≤ g.1 then (if low3 g then 0 else 1) else 2)
theorem k_in {a b : Int} (ha : 1 ≤ a) : 2 * a * ((a - b) / (2 * a)) ≤ a - b ∧ a - b < 2 * a * ((a - b) / (2 * a)) + 2 * a := by
  have h1 := Int.mul_ediv_add_emod (a - b) (2 * a)
  have h2 := Int.emod_nonneg (a - b) (show 2 * a ≠ 0 by omega)
  have h3 := Int.emod_lt_of_pos (a - b) (show 0 < 2 * a by omega)
  omega
theorem small_step {g : F3} (h : Small g) (hl : low3 g = false) : Small (chgU g (cF (kF g))) ∧ mu3 (chgU g (cF (kF g))) < mu3 g ∧ detU (cF (kF g)) = 1 := by
  obtain ⟨a, b, c⟩ := g
  obtain ⟨h1, h2, h3, h4, h5, h6, h7⟩ := h
  have hk := k_in (a := a) (b := b) h1
  have hkf : kF (a, b, c) = (a - b) / (2 * a) := rfl
  rw [hkf]
  generalize (a - b) / (2 * a) = k at *
  dsimp only at h1 h2 h3 h4 h5 h6
  simp only [discF] at h7
  have hl0 := hl
  simp only [low3, lowB, decide_eq_false_iff_not] at hl
  by_cases hk0 : k = 0
  · subst hk0
    have e : chgU (a, b, c) (cF 0) = (c, -b, a) := by simp [cF, chgU, chgF, formVal]
    rw [e]
    simp only [Int.mul_zero] at hk
    refine ⟨⟨h5, h6, by dsimp only; omega, by dsimp only; omega, h1, h2, ?_⟩, ?_, rfl⟩
    · simp only [discF]; rw [Int.neg_mul_neg]; have : 4 * c * a = 4 * a * c := by rw [Int.mul_assoc, Int.mul_comm c a, ← Int.mul_assoc]
      omega
    · simp only [mu3]
      rw [if_pos (show -a < b ∧ b ≤ a by omega), hl0]
      rcases Int.lt_or_le c a with q | q
      · split
        · split <;> omega
        · omega
      · have hca : c = a := by omega
        subst hca
        have hl3 : low3 (c, -b, c) = true := by simp [low3, lowB]; omega
        rw [if_pos (show -c < -b ∧ -b ≤ c by omega), hl3]
        simp
  · have e : chgU (a, b, c) (cF k) = (a, b + 2 * (a * k), c + k * (a * k + b)) := by
      simp only [cF, if_neg hk0, chgU, chgF, formVal]
      refine Prod.ext ?_ (Prod.ext ?_ ?_) <;> dsimp only <;> grind
    rw [e]
    have e2 : 2 * a * k = 2 * (a * k) := Int.mul_assoc 2 a k
    rw [e2] at hk
    have hP : (1 ≤ k → a ≤ a * k) ∧ (k ≤ -1 → a * k ≤ -a) := by
      refine ⟨fun hh => ?_, fun hh => ?_⟩
      · have := Int.mul_le_mul_of_nonneg_left hh (show 0 ≤ a by omega); omega
      · have := Int.mul_le_mul_of_nonneg_left hh (show 0 ≤ a by omega); omega
    have hX : k * (a * k + b) ≤ 0 := by
      rcases Int.lt_or_le k 0 with q | q
      · have := Int.mul_nonneg (show 0 ≤ -k by omega) (show 0 ≤ a * k + b by have := hP.2 (by omega); omega)
        rw [Int.neg_mul] at this; omega
      · have := Int.mul_nonneg q (show 0 ≤ -(a * k + b) by have := hP.1 (by omega); omega)
        rw [Int.mul_neg] at this; omega
    have hd : discF (a, b + 2 * (a * k), c + k * (a * k + b)) = b * b - 4 * a * c := by simp only [discF]; grind
    refine ⟨⟨h1, h2, by dsimp only; omega, by dsimp only; omega, ?_, by dsimp only; omega, by rw [hd]; exact h7⟩, ?_, by simp [cF, hk0, detU]⟩
    · dsimp only
      simp only [discF] at hd
      rcases Int.lt_or_le 0 (c + k * (a * k + b)) with q | q
      · omega
      · have := Int.mul_nonneg (show 0 ≤ 4 * a by omega) (show 0 ≤ -(c + k * (a * k + b)) by omega)
        rw [Int.mul_neg] at this
        have := sq_nn (b + 2 * (a * k))
        omega
    · have hnot : ¬(-a < b ∧ b ≤ a) := by
        rcases Int.lt_or_le k 0 with q | q
        · have := hP.2 (by omega); omega
        · have := hP.1 (by omega); omega
      simp only [mu3]
      rw [if_neg hnot, if_pos (show -a < b + 2 * (a * k) ∧ b + 2 * (a * k) ≤ a by omega)]
      split <;> omega
theorem Small.of {a b c : Int} (h : isFormB a b c = true) : Small (a, b, c) := by
  obtain ⟨h1, h2, h3, h4, h5, h6, h7⟩ := isFormB_true.1 h
  exact ⟨h1, h2, h5, h6, h3, h4, by simp only [discF]; omega⟩
theorem good_zero {f : F3} (h : Small f) : Good f (rst f 0) := by
  refine ⟨h, ?_, rfl⟩
  obtain ⟨a, b, c⟩ := f
  simp [rst, chgU, chgF, formVal]
theorem good_step {f : F3} {s : F3 × U4} (h : Good f s) (hl : low3 s.1 = false) : Good f (rstep s) ∧ mu3 (rstep s).1 < mu3 s.1 := by
  obtain ⟨h1, h2, h3⟩ := small_step h.small hl
  refine ⟨⟨h1, ?_, ?_⟩, h2⟩
  · show chgU s.1 _ = chgU f (mulU s.2 _)
    rw [← chg_mul, ← h.chg]
  · show detU (mulU s.2 _) = 1
    rw [det_mul, h.det, h3]; rfl
/-- how far the reduction goes -/
structure RedTo (f : F3) (N : Nat) : Prop where
  good : ∀ n, n ≤ N → Good f (rst f n)
  below : ∀ n, n < N → low3 (rst f n).1 = false
  at_ : low3 (rst f N).1 = true
theorem red_ex {f : F3} (h : Small f) : ∃ N, RedTo f N := by
  have key : ∀ m n, mu3 (rst f n).1 ≤ m → (∀ i, i ≤ n → Good f (rst f i)) → (∀ i, i < n → low3 (rst f i).1 = false) → ∃ N, RedTo f N := fun m => by
    induction m with
    | zero =>
      intro n hm hg hb
      have := (hg n (Nat.le_refl _)).small.a1
      unfold mu3 at hm; omega
    | succ m ih =>
      intro n hm hg hb
      cases hl : low3 (rst f n).1
      · obtain ⟨g1, g2⟩ := good_step (hg n (Nat.le_refl _)) hl
        refine ih (n + 1) (by show mu3 (rstep (rst f n)).1 ≤ m; omega) (fun i hi => ?_) (fun i hi => ?_)
        · rcases Nat.lt_or_ge i (n + 1) with c | c
          · exact hg i (by omega)
          · have : i = n + 1 := by omega
            subst this; exact g1
        · rcases Nat.lt_or_ge i n with c | c
          · exact hb i c
          · have : i = n := by omega
            subst this; exact hl
      · exact ⟨n, hg, hb, hl⟩
  refine key _ 0 (Nat.le_refl _) (fun i hi => ?_) (fun i hi => by omega)
  have : i = 0 := by omega
  subst this; exact good_zero h
end Go.Proofs.Ytbaaelampabhdaa
