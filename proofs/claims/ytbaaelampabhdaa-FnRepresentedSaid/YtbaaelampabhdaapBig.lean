/-
  PLAIN LAW: the reduction of a form in numbers up to any limit.
-/
import Derived.Test.YtbaaelampabhdaapOrd
set_option linter.unusedVariables false
set_option linter.unusedSimpArgs false
namespace Go.Proofs.Ytbaaelampabhdaa

/-! Reduction in numbers up to M -/
structure SmallM (M : Int) (g : F3) : Prop where
  a1 : 1 ≤ g.1
  a2 : g.1 ≤ M
  b1 : -M ≤ g.2.1
  b2 : g.2.1 ≤ M
  c1 : 1 ≤ g.2.2
  c2 : g.2.2 ≤ M
  d : discF g ≤ -1
structure GoodM (M : Int) (f : F3) (s : F3 × U4) : Prop where
  small : SmallM M s.1
  chg : s.1 = chgU f s.2
  det : detU s.2 = 1
theorem sq_upM {a M : Int} (hM : 0 ≤ M) (h : a * a ≤ 2 * M * (2 * M)) : -(2 * M) ≤ a ∧ a ≤ 2 * M := by
  rcases Int.lt_or_le (2 * M) a with c | c
  · have := Int.mul_le_mul (a := 2 * M + 1) (b := 2 * M + 1) (c := a) (d := a) (by omega) (by omega) (by omega) (by omega)
    have e : (2 * M + 1) * (2 * M + 1) = 2 * M * (2 * M) + 4 * M + 1 := by grind
    omega
  · rcases Int.lt_or_le a (-(2 * M)) with c2 | c2
    · have := Int.mul_le_mul (a := 2 * M + 1) (b := 2 * M + 1) (c := -a) (d := -a) (by omega) (by omega) (by omega) (by omega)
      rw [Int.neg_mul_neg] at this
      have e : (2 * M + 1) * (2 * M + 1) = 2 * M * (2 * M) + 4 * M + 1 := by grind
      omega
    · exact ⟨c2, c⟩
theorem val_bdM {M : Int} {f : F3} (hf : SmallM M f) {x y : Int} (h : formVal f.1 f.2.1 f.2.2 x y ≤ M) : (-(2 * M) ≤ x ∧ x ≤ 2 * M) ∧ (-(2 * M) ≤ y ∧ y ≤ 2 * M) := by
  obtain ⟨a, b, c⟩ := f
  obtain ⟨h1, h2, h3, h4, h5, h6, h7⟩ := hf
  simp only [discF] at *
  have e1 : 4 * c * formVal a b c x y = (2 * c * y + b * x) * (2 * c * y + b * x) + (4 * a * c - b * b) * (x * x) := by simp only [formVal]; grind
  have e2 : 4 * a * formVal a b c x y = (2 * a * x + b * y) * (2 * a * x + b * y) + (4 * a * c - b * b) * (y * y) := by simp only [formVal]; grind
  have s1 := sq_nn (2 * c * y + b * x)
  have s2 := sq_nn (2 * a * x + b * y)
  have q1 : x * x ≤ (4 * a * c - b * b) * (x * x) := by
    have := Int.mul_le_mul_of_nonneg_right (show 1 ≤ 4 * a * c - b * b by omega) (sq_nn x)
    omega
  have q2 : y * y ≤ (4 * a * c - b * b) * (y * y) := by
    have := Int.mul_le_mul_of_nonneg_right (show 1 ≤ 4 * a * c - b * b by omega) (sq_nn y)
    omega
  have nn := sq_nn x
  have nn2 := sq_nn y
  have hv0 : 0 ≤ formVal a b c x y := by
    rcases Int.lt_or_le (formVal a b c x y) 0 with k | k
    · have := Int.mul_le_mul_of_nonneg_left (show formVal a b c x y ≤ -1 by omega) (show 0 ≤ 4 * c by omega)
      omega
    · exact k
  have r1 := Int.mul_le_mul (a := 4 * c) (b := formVal a b c x y) (c := 4 * M) (d := M) (by omega) h hv0 (by omega)
  have r2 := Int.mul_le_mul (a := 4 * a) (b := formVal a b c x y) (c := 4 * M) (d := M) (by omega) h hv0 (by omega)
  have e3 : 2 * M * (2 * M) = 4 * M * M := by grind
  exact ⟨sq_upM (by omega) (by omega), sq_upM (by omega) (by omega)⟩
theorem GoodM.in_ {M : Int} {f : F3} {s : F3 × U4} (h : GoodM M f s) (hf : SmallM M f) : ((-(2 * M) ≤ s.2.1 ∧ s.2.1 ≤ 2 * M) ∧ (-(2 * M) ≤ s.2.2.1 ∧ s.2.2.1 ≤ 2 * M)) ∧ (-(2 * M) ≤ s.2.2.2.1 ∧ s.2.2.2.1 ≤ 2 * M) ∧ (-(2 * M) ≤ s.2.2.2.2 ∧ s.2.2.2.2 ≤ 2 * M) := by
  have e1 : formVal f.1 f.2.1 f.2.2 s.2.1 s.2.2.2.1 = s.1.1 := (congrArg Prod.fst h.chg).symm
  have e2 : formVal f.1 f.2.1 f.2.2 s.2.2.1 s.2.2.2.2 = s.1.2.2 := (congrArg (fun x => x.2.2) h.chg).symm
  have h1 := val_bdM hf (x := s.2.1) (y := s.2.2.2.1) (by rw [e1]; exact h.small.a2)
  have h2 := val_bdM hf (x := s.2.2.1) (y := s.2.2.2.2) (by rw [e2]; exact h.small.c2)
  omega
theorem small_stepM {M : Int} {g : F3} (h : SmallM M g) (hl : low3 g = false) : SmallM M (chgU g (cF (kF g))) ∧ mu3 (chgU g (cF (kF g))) < mu3 g ∧ detU (cF (kF g)) = 1 := by
  obtain ⟨a, b, c⟩ := g
  obtain ⟨h1, h2, h3, h4, h5, h6, h7⟩ := h
  have hk := k_in (a := a) (b := b) h1
  have hkf : kF (a, b, c) = (a - b) / (2 * a) := rfl
  rw [hkf]
  generalize (a - b) / (2 * a) = k at *
  dsimp only at h1 h2 h3 h4 h5 h6
  simp only [discF] at h7
  have hl0 := hl
  simp only [low3, lowB, decide_eq_false_iff_not] at hl
  by_cases hk0 : k = 0
  · subst hk0
    have e : chgU (a, b, c) (cF 0) = (c, -b, a) := by simp [cF, chgU, chgF, formVal]
    rw [e]
    simp only [Int.mul_zero] at hk
    refine ⟨⟨h5, h6, by dsimp only; omega, by dsimp only; omega, h1, h2, ?_⟩, ?_, rfl⟩
    · simp only [discF]; rw [Int.neg_mul_neg]; have : 4 * c * a = 4 * a * c := by rw [Int.mul_assoc, Int.mul_comm c a, ← Int.mul_assoc]
      omega
    · simp only [mu3]
      rw [if_pos (show -a < b ∧ b ≤ a by omega), hl0]
      rcases Int.lt_or_le c a with q | q
      · split
        · split <;> omega
        · omega
      · have hca : c = a := by omega
        subst hca
        have hl3 : low3 (c, -b, c) = true := by simp [low3, lowB]; omega
        rw [if_pos (show -c < -b ∧ -b ≤ c by omega), hl3]
        simp
  · have e : chgU (a, b, c) (cF k) = (a, b + 2 * (a * k), c + k * (a * k + b)) := by
      simp only [cF, if_neg hk0, chgU, chgF, formVal]
      refine Prod.ext ?_ (Prod.ext ?_ ?_) <;> dsimp only <;> grind
    rw [e]
    have e2 : 2 * a * k = 2 * (a * k) := Int.mul_assoc 2 a k
    rw [e2] at hk
    have hP : (1 ≤ k → a ≤ a * k) ∧ (k ≤ -1 → a * k ≤ -a) := by
      refine ⟨fun hh => ?_, fun hh => ?_⟩
      · have := Int.mul_le_mul_of_nonneg_left hh (show 0 ≤ a by omega); omega
      · have := Int.mul_le_mul_of_nonneg_left hh (show 0 ≤ a by omega); omega
    have hX : k * (a * k + b) ≤ 0 := by
      rcases Int.lt_or_le k 0 with q | q
      · have := Int.mul_nonneg (show 0 ≤ -k by omega) (show 0 ≤ a * k + b by have := hP.2 (by omega); omega)
        rw [Int.neg_mul] at this; omega
      · have := Int.mul_nonneg q (show 0 ≤ -(a * k + b) by have := hP.1 (by omega); omega)
        rw [Int.mul_neg] at this; omega
    have hd : discF (a, b + 2 * (a * k), c + k * (a * k + b)) = b * b - 4 * a * c := by simp only [discF]; grind
    refine ⟨⟨h1, h2, by dsimp only; omega, by dsimp only; omega, ?_, by dsimp only; omega, by rw [hd]; exact h7⟩, ?_, by simp [cF, hk0, detU]⟩
    · dsimp only
      simp only [discF] at hd
      rcases Int.lt_or_le 0 (c + k * (a * k + b)) with q | q
      · omega
      · have := Int.mul_nonneg (show 0 ≤ 4 * a by omega) (show 0 ≤ -(c + k * (a * k + b)) by omega)
        rw [Int.mul_neg] at this
        have := sq_nn (b + 2 * (a * k))
        omega
    · have hnot : ¬(-a < b ∧ b ≤ a) := by
        rcases Int.lt_or_le k 0 with q | q
        · have := hP.2 (by omega); omega
        · have := hP.1 (by omega); omega
      simp only [mu3]
      rw [if_neg hnot, if_pos (show -a < b + 2 * (a * k) ∧ b + 2 * (a * k) ≤ a by omega)]
      split <;> omega
theorem good_zeroM {M : Int} {f : F3} (h : SmallM M f) : GoodM M f (rst f 0) := by
  refine ⟨h, ?_, rfl⟩
  obtain ⟨a, b, c⟩ := f
  simp [rst, chgU, chgF, formVal]
theorem good_stepM {M : Int} {f : F3} {s : F3 × U4} (h : GoodM M f s) (hl : low3 s.1 = false) : GoodM M f (rstep s) ∧ mu3 (rstep s).1 < mu3 s.1 := by
  obtain ⟨h1, h2, h3⟩ := small_stepM h.small hl
  refine ⟨⟨h1, ?_, ?_⟩, h2⟩
  · show chgU s.1 _ = chgU f (mulU s.2 _)
    rw [← chg_mul, ← h.chg]
  · show detU (mulU s.2 _) = 1
    rw [det_mul, h.det, h3]; rfl
structure RedM (M : Int) (f : F3) (N : Nat) : Prop where
  good : ∀ n, n ≤ N → GoodM M f (rst f n)
  below : ∀ n, n < N → low3 (rst f n).1 = false
  at_ : low3 (rst f N).1 = true
theorem redM_ex {M : Int} {f : F3} (h : SmallM M f) : ∃ N, RedM M f N := by
  have key : ∀ m n, mu3 (rst f n).1 ≤ m → (∀ i, i ≤ n → GoodM M f (rst f i)) → (∀ i, i < n → low3 (rst f i).1 = false) → ∃ N, RedM M f N := fun m => by
    induction m with
    | zero =>
      intro n hm hg hb
      have := (hg n (Nat.le_refl _)).small.a1
      unfold mu3 at hm; omega
    | succ m ih =>
      intro n hm hg hb
      cases hl : low3 (rst f n).1
      · obtain ⟨g1, g2⟩ := good_stepM (hg n (Nat.le_refl _)) hl
        refine ih (n + 1) (by show mu3 (rstep (rst f n)).1 ≤ m; omega) (fun i hi => ?_) (fun i hi => ?_)
        · rcases Nat.lt_or_ge i (n + 1) with c | c
          · exact hg i (by omega)
          · have : i = n + 1 := by omega
            subst this; exact g1
        · rcases Nat.lt_or_ge i n with c | c
          · exact hb i c
          · have : i = n := by omega
            subst this; exact hl
      · exact ⟨n, hg, hb, hl⟩
  refine key _ 0 (Nat.le_refl _) (fun i hi => ?_) (fun i hi => by omega)
  have : i = 0 := by omega
  subst this; exact good_zeroM h
theorem RedM.lt {M : Int} {f : F3} {N n : Nat} (h : RedM M f N) (hn : n ≤ N) (hl : low3 (rst f n).1 = false) : n < N := by
  rcases Nat.lt_or_ge n N with c | c
  · exact c
  · obtain rfl : n = N := by omega
    rw [h.at_] at hl; cases hl
theorem RedM.eq {M : Int} {f : F3} {N n : Nat} (h : RedM M f N) (hn : n ≤ N) (hl : low3 (rst f n).1 = true) : n = N := by
  rcases Nat.lt_or_ge n N with c | c
  · rw [h.below n c] at hl; cases hl
  · omega
theorem RedM.eqv {M : Int} {f : F3} {N : Nat} (h : RedM M f N) : Eqv f (rst f N).1 := ⟨(rst f N).2, (h.good N (Nat.le_refl _)).det, (h.good N (Nat.le_refl _)).chg⟩
theorem SmallM.pos {M : Int} {f : F3} (h : SmallM M f) : Pos f := ⟨h.a1, by have := h.d; omega⟩
theorem kM {M : Int} {g : F3} (h : SmallM M g) (hM : 1 ≤ M) : (-M ≤ kF g ∧ kF g ≤ M) ∧ -(2 * M) ≤ g.1 * kF g ∧ g.1 * kF g ≤ 2 * M := by
  obtain ⟨a, b, c⟩ := g
  obtain ⟨h1, h2, h3, h4, h5, h6, h7⟩ := h
  have hk := k_in (a := a) (b := b) h1
  have hkf : kF (a, b, c) = (a - b) / (2 * a) := rfl
  rw [hkf]
  generalize (a - b) / (2 * a) = k at *
  dsimp only at *
  have e2 : 2 * a * k = 2 * (a * k) := Int.mul_assoc 2 a k
  rw [e2] at hk
  refine ⟨⟨?_, ?_⟩, by omega, by omega⟩
  · rcases Int.lt_or_le k (-1) with q | q
    · have := Int.mul_le_mul_of_nonneg_right h1 (show 0 ≤ -k - 1 by omega)
      have e : a * (-k - 1) = -(a * k) - a := by grind
      omega
    · omega
  · rcases Int.lt_or_le 1 k with q | q
    · have := Int.mul_le_mul_of_nonneg_right h1 (show 0 ≤ k - 1 by omega)
      have e : a * (k - 1) = a * k - a := by grind
      omega
    · omega
end Go.Proofs.Ytbaaelampabhdaa
