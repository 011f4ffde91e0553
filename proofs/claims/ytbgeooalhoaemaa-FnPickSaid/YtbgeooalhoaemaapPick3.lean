/-
  PLAIN LAW: the rows of a convex polygon, added up side by side.
-/
import Derived.Test.YtbgeooalhoaemaapPick2
set_option linter.unusedVariables false
set_option linter.unusedSimpArgs false
namespace Go.Proofs.Ytbgeooalhoaemaa
variable {n : Nat} {X Y : Nat → Int}

theorem slk_refl (i : Nat) (x y : Int) : slk (fun i => -X i) (fun i => -Y i) i (-x) (-y) = slk X Y i x y := by unfold slk dX dY; grind
theorem Conv.refl (h : Conv n X Y) : Conv n (fun i => -X i) (fun i => -Y i) :=
  ⟨h.n3, by simp only [h.cx], by simp only [h.cy], fun i j hi hj h1 h2 => by rw [slk_refl]; exact h.pos i j hi hj h1 h2⟩
theorem ins_slk {x y : Int} : Ins n X Y x y ↔ ∀ i, i < n → 0 ≤ slk X Y i x y := by
  unfold Ins
  constructor
  · intro h i hi
    have := h i hi
    rw [slk_R]; omega
  · intro h i hi
    have := h i hi
    rw [slk_R] at this; omega
theorem Conv.below (h : Conv n X Y) {x y : Int} (hy : ∀ i, i < n → y < Y i) : ¬ Ins n X Y x y := fun hin => by
  refine h.refl.above (x := -x) (y := -y) (fun i hi => by have := hy i hi; omega) ?_
  rw [ins_slk] at hin ⊢
  intro i hi
  rw [slk_refl]
  exact hin i hi
theorem row_zero {K : Nat} {y : Int} (h : ∀ x, ¬ Ins n X Y x y) : rowC n X Y K y = 0 := by
  unfold rowC
  have : sumZ (fun x => bit (decide (Ins n X Y x y))) (-(K : Int)) (2 * K + 1) = sumZ (fun _ => 0) (-(K : Int)) (2 * K + 1) := sumZ_congr fun i hi => by rw [decide_eq_false (h _)]; rfl
  rw [this, sumZ_zero]
/-- a row that corners lie on both sides of -/
theorem Conv.line (h : Conv n X Y) {K : Nat} (hX : ∀ i, i ≤ n → -(K : Int) ≤ X i ∧ X i ≤ K) {y : Int} {p : Nat → Bool} (pn : p n = p 0) (p1 : ∀ i, i ≤ n → p i = true → Y i ≤ y) (p2 : ∀ i, i ≤ n → p i = false → y ≤ Y i)
    (ps : (∀ i, i ≤ n → p i = false → y < Y i) ∨ (∀ i, i ≤ n → p i = true → Y i < y)) (h1 : ∃ i, i < n ∧ p i = true) (h2 : ∃ i, i < n ∧ p i = false) :
    Go.Proofs.Ytbgeooalhoaemaa.rowC n X Y K y = sumN (fun i => if (p i && !p (i + 1)) = true then sA X Y i y + 1 else 0) n - sumN (fun i => if (!p i && p (i + 1)) = true then sC X Y i y else 0) n := by
  obtain ⟨⟨e, he, e1, e2⟩, f, hf, f1, f2⟩ := round_trip pn h1 h2
  have ye : Y e ≤ y ∧ y ≤ Y (e + 1) := ⟨p1 e (by omega) e1, p2 _ (by omega) e2⟩
  have yf : Y (f + 1) ≤ y ∧ y ≤ Y f := ⟨p1 _ (by omega) f2, p2 f (by omega) f1⟩
  have ue : 0 < dY Y e := by
    unfold dY
    rcases ps with ps | ps
    · have := ps (e + 1) (by omega) e2; omega
    · have := ps e (by omega) e1; omega
  have df : dY Y f < 0 := by
    unfold dY
    rcases ps with ps | ps
    · have := ps f (by omega) f1; omega
    · have := ps (f + 1) (by omega) f2; omega
  rw [h.rowC hX he hf ue df ye yf, sumN_one he, sumN_one hf]
  · simp [e1, e2, f1, f2]; omega
  · intro i hi hne
    rw [if_neg]
    intro hc
    simp only [Bool.and_eq_true, Bool.not_eq_true'] at hc
    refine h.refl.uniq (i := i) (e := f) (y := -y) hi hf hne ⟨⟨?_, ?_⟩, ⟨?_, ?_⟩, ?_⟩
    · have := p2 i (by omega) hc.1; omega
    · have := p1 (i + 1) (by omega) hc.2; omega
    · omega
    · omega
    · rcases ps with ps | ps
      · right
        have a1 := ps i (by omega) hc.1
        have a2 := ps f (by omega) f1
        omega
      · left
        have a1 := ps (i + 1) (by omega) hc.2
        have a2 := ps (f + 1) (by omega) f2
        omega
  · intro i hi hne
    rw [if_neg]
    intro hc
    simp only [Bool.and_eq_true, Bool.not_eq_true'] at hc
    refine h.uniq (i := i) (e := e) (y := y) hi he hne ⟨⟨?_, ?_⟩, ⟨?_, ?_⟩, ?_⟩
    · have := p1 i (by omega) hc.1; omega
    · have := p2 (i + 1) (by omega) hc.2; omega
    · omega
    · omega
    · rcases ps with ps | ps
      · left
        have a1 := ps (i + 1) (by omega) hc.2
        have a2 := ps (e + 1) (by omega) e2
        omega
      · right
        have a1 := ps i (by omega) hc.1
        have a2 := ps e (by omega) e1
        omega
def U1 (X Y : Nat → Int) (i : Nat) (y : Int) : Int := if Y i ≤ y ∧ y < Y (i + 1) then sA X Y i y + 1 else 0
def D1 (X Y : Nat → Int) (i : Nat) (y : Int) : Int := if Y (i + 1) ≤ y ∧ y < Y i then sC X Y i y else 0
def U2 (X Y : Nat → Int) (i : Nat) (y : Int) : Int := if Y i < y ∧ y ≤ Y (i + 1) then sA X Y i y + 1 else 0
def D2 (X Y : Nat → Int) (i : Nat) (y : Int) : Int := if Y (i + 1) < y ∧ y ≤ Y i then sC X Y i y else 0
theorem Conv.all_n {Q : Int → Prop} (h : Conv n X Y) (hq : ∀ i, i < n → Q (Y i)) : ∀ i, i ≤ n → Q (Y i) := fun i hi => by
  rcases Nat.lt_or_ge i n with c | c
  · exact hq i c
  · have : i = n := by omega
    rw [this, h.cy]; exact hq 0 (by have := h.n3; omega)
theorem Conv.line1 (h : Conv n X Y) {K : Nat} (hX : ∀ i, i ≤ n → -(K : Int) ≤ X i ∧ X i ≤ K) (y : Int) :
    Go.Proofs.Ytbgeooalhoaemaa.rowC n X Y K y = sumN (fun i => U1 X Y i y) n - sumN (fun i => D1 X Y i y) n + (if ∀ i, i < n → Y i ≤ y then Go.Proofs.Ytbgeooalhoaemaa.rowC n X Y K y else 0) := by
  by_cases ha : ∀ i, i < n → Y i ≤ y
  · have ha' := h.all_n (Q := fun v => v ≤ y) ha
    have u0 : sumN (fun i => U1 X Y i y) n = sumN (fun _ => 0) n := sumN_congr fun i hi => if_neg fun hc => by have := ha' (i + 1) (by omega); omega
    have d0 : sumN (fun i => D1 X Y i y) n = sumN (fun _ => 0) n := sumN_congr fun i hi => if_neg fun hc => by have := ha i hi; omega
    rw [if_pos ha, u0, d0, sumN_zero]; omega
  · rw [if_neg ha]
    obtain ⟨k, hk⟩ := Classical.not_forall.1 ha
    have hk2 : k < n := Classical.byContradiction fun c => hk fun hh => absurd hh c
    have hk3 : y < Y k := Int.lt_of_not_ge fun c => hk fun _ => c
    by_cases hb : ∃ i, i < n ∧ Y i ≤ y
    · obtain ⟨m, hm, hm2⟩ := hb
      rw [h.line hX (y := y) (p := fun i => decide (Y i ≤ y)) (by simp only [h.cy]) (fun i _ hp => of_decide_eq_true hp) (fun i _ hp => by have := of_decide_eq_false hp; omega) (.inl fun i _ hp => by have := of_decide_eq_false hp; omega) ⟨m, hm, decide_eq_true hm2⟩ ⟨k, hk2, decide_eq_false (by omega)⟩]
      have e1 : sumN (fun i => if (decide (Y i ≤ y) && !decide (Y (i + 1) ≤ y)) = true then sA X Y i y + 1 else 0) n = sumN (fun i => U1 X Y i y) n := sumN_congr fun i hi => by
        unfold U1
        have : ((decide (Y i ≤ y) && !decide (Y (i + 1) ≤ y)) = true) ↔ (Y i ≤ y ∧ y < Y (i + 1)) := by simp
        simp only [this]
      have e2 : sumN (fun i => if (!decide (Y i ≤ y) && decide (Y (i + 1) ≤ y)) = true then sC X Y i y else 0) n = sumN (fun i => D1 X Y i y) n := sumN_congr fun i hi => by
        unfold D1
        have : ((!decide (Y i ≤ y) && decide (Y (i + 1) ≤ y)) = true) ↔ (Y (i + 1) ≤ y ∧ y < Y i) := by
          simp only [Bool.and_eq_true, Bool.not_eq_true', decide_eq_false_iff_not, decide_eq_true_eq]; omega
        simp only [this]
      rw [e1, e2]; omega
    · have hall : ∀ i, i < n → y < Y i := fun i hi => Int.lt_of_not_ge fun c => hb ⟨i, hi, c⟩
      have hall' := h.all_n (Q := fun v => y < v) hall
      have u0 : sumN (fun i => U1 X Y i y) n = sumN (fun _ => 0) n := sumN_congr fun i hi => if_neg fun hc => by have := hall i hi; omega
      have d0 : sumN (fun i => D1 X Y i y) n = sumN (fun _ => 0) n := sumN_congr fun i hi => if_neg fun hc => by have := hall' (i + 1) (by omega); omega
      rw [row_zero fun x => h.below hall, u0, d0, sumN_zero]; omega
theorem Conv.line2 (h : Conv n X Y) {K : Nat} (hX : ∀ i, i ≤ n → -(K : Int) ≤ X i ∧ X i ≤ K) (y : Int) :
    Go.Proofs.Ytbgeooalhoaemaa.rowC n X Y K y = sumN (fun i => U2 X Y i y) n - sumN (fun i => D2 X Y i y) n + (if ∀ i, i < n → y ≤ Y i then Go.Proofs.Ytbgeooalhoaemaa.rowC n X Y K y else 0) := by
  by_cases ha : ∀ i, i < n → y ≤ Y i
  · have ha' := h.all_n (Q := fun v => y ≤ v) ha
    have u0 : sumN (fun i => U2 X Y i y) n = sumN (fun _ => 0) n := sumN_congr fun i hi => if_neg fun hc => by have := ha i hi; omega
    have d0 : sumN (fun i => D2 X Y i y) n = sumN (fun _ => 0) n := sumN_congr fun i hi => if_neg fun hc => by have := ha' (i + 1) (by omega); omega
    rw [if_pos ha, u0, d0, sumN_zero]; omega
  · rw [if_neg ha]
    obtain ⟨k, hk⟩ := Classical.not_forall.1 ha
    have hk2 : k < n := Classical.byContradiction fun c => hk fun hh => absurd hh c
    have hk3 : Y k < y := Int.lt_of_not_ge fun c => hk fun _ => c
    by_cases hb : ∃ i, i < n ∧ y ≤ Y i
    · obtain ⟨m, hm, hm2⟩ := hb
      rw [h.line hX (y := y) (p := fun i => decide (Y i < y)) (by simp only [h.cy]) (fun i _ hp => by have := of_decide_eq_true hp; omega) (fun i _ hp => by have := of_decide_eq_false hp; omega) (.inr fun i _ hp => of_decide_eq_true hp) ⟨k, hk2, decide_eq_true hk3⟩ ⟨m, hm, decide_eq_false (by omega)⟩]
      have e1 : sumN (fun i => if (decide (Y i < y) && !decide (Y (i + 1) < y)) = true then sA X Y i y + 1 else 0) n = sumN (fun i => U2 X Y i y) n := sumN_congr fun i hi => by
        unfold U2
        have : ((decide (Y i < y) && !decide (Y (i + 1) < y)) = true) ↔ (Y i < y ∧ y ≤ Y (i + 1)) := by simp
        simp only [this]
      have e2 : sumN (fun i => if (!decide (Y i < y) && decide (Y (i + 1) < y)) = true then sC X Y i y else 0) n = sumN (fun i => D2 X Y i y) n := sumN_congr fun i hi => by
        unfold D2
        have : ((!decide (Y i < y) && decide (Y (i + 1) < y)) = true) ↔ (Y (i + 1) < y ∧ y ≤ Y i) := by
          simp only [Bool.and_eq_true, Bool.not_eq_true', decide_eq_false_iff_not, decide_eq_true_eq]; omega
        simp only [this]
      rw [e1, e2]; omega
    · have hall : ∀ i, i < n → Y i < y := fun i hi => Int.lt_of_not_ge fun c => hb ⟨i, hi, c⟩
      have hall' := h.all_n (Q := fun v => v < y) hall
      have u0 : sumN (fun i => U2 X Y i y) n = sumN (fun _ => 0) n := sumN_congr fun i hi => if_neg fun hc => by have := hall' (i + 1) (by omega); omega
      have d0 : sumN (fun i => D2 X Y i y) n = sumN (fun _ => 0) n := sumN_congr fun i hi => if_neg fun hc => by have := hall i hi; omega
      rw [row_zero fun x => h.above hall, u0, d0, sumN_zero]; omega

/-! A side's rows. -/
theorem sA_at {i j : Nat} (h : 0 < dY Y i) : sA X Y i (Y i + j) = X i + dX X i * j / dY Y i := by
  have e : sR X Y i (Y i + j) = dX X i * j + dY Y i * X i := by unfold sR; rw [show Y i + (j : Int) - Y i = j by omega]; omega
  rw [sA, e, Int.add_mul_ediv_left _ _ (by omega)]; omega
theorem sC_at {i j : Nat} (h : dY Y i < 0) : sC X Y i (Y (i + 1) + j) = X (i + 1) - dX X i * j / -dY Y i := by
  have e : sR X Y i (Y (i + 1) + j) = dX X i * j + -dY Y i * -X (i + 1) := by unfold sR dX dY; grind
  rw [sC, e, Int.add_mul_ediv_left _ _ (by omega)]; omega
theorem sumN_shift {f : Nat → Int} (n : Nat) : sumN (fun j => f (j + 1)) n = sumN f n + f n - f 0 := by
  have := sumN_front (f := f) n
  rw [sumN] at this
  omega
/-- what a side gives, in both countings -/
theorem side_sum {K : Nat} (i : Nat) (hY : (-(K : Int) ≤ Y i ∧ Y i ≤ K) ∧ -(K : Int) ≤ Y (i + 1) ∧ Y (i + 1) ≤ K) :
    sumZ (U1 X Y i) (-(K : Int)) (2 * K + 1) + sumZ (U2 X Y i) (-(K : Int)) (2 * K + 1) - sumZ (D1 X Y i) (-(K : Int)) (2 * K + 1) - sumZ (D2 X Y i) (-(K : Int)) (2 * K + 1) = dY Y i * (X i + X (i + 1)) + dY Y i + (if dY Y i = 0 then 0 else (Int.gcd (dX X i) (dY Y i) : Int)) := by
  have zz : ∀ {f : Int → Int}, (∀ y, f y = 0) → sumZ f (-(K : Int)) (2 * K + 1) = 0 := fun {f} hf => by
    have : sumZ f (-(K : Int)) (2 * K + 1) = sumZ (fun _ => 0) (-(K : Int)) (2 * K + 1) := sumZ_congr fun i _ => hf _
    rw [this, sumZ_zero]
  rcases Int.lt_trichotomy (dY Y i) 0 with c | c | c
  · obtain ⟨h, hh⟩ : ∃ h : Nat, -dY Y i = h := ⟨(-dY Y i).toNat, by omega⟩
    have hpos : 0 < h := by omega
    have hyi : Y i = Y (i + 1) + h := by unfold dY at hh; omega
    have u1 := zz (f := U1 X Y i) fun y => if_neg (by omega)
    have u2 := zz (f := U2 X Y i) fun y => if_neg (by omega)
    have d1 : sumZ (D1 X Y i) (-(K : Int)) (2 * K + 1) = sumN (fun j => X (i + 1) - dX X i * j / h) h := by
      have w := sumZ_win (f := sC X Y i) (a := -(K : Int)) (lo := Y (i + 1)) (m := h) (by omega) (2 * K + 1) (by omega)
      have e : sumZ (D1 X Y i) (-(K : Int)) (2 * K + 1) = sumZ (fun y => if Y (i + 1) ≤ y ∧ y < Y (i + 1) + h then sC X Y i y else 0) (-(K : Int)) (2 * K + 1) := sumZ_congr fun j _ => by unfold D1; rw [hyi]
      rw [e, w, sumZ_sumN]
      exact sumN_congr fun j hj => by rw [sC_at c, hh]
    have d2 : sumZ (D2 X Y i) (-(K : Int)) (2 * K + 1) = sumN (fun j => X (i + 1) - dX X i * ((j + 1 : Nat) : Int) / h) h := by
      have w := sumZ_win (f := sC X Y i) (a := -(K : Int)) (lo := Y (i + 1) + 1) (m := h) (by omega) (2 * K + 1) (by omega)
      have e : sumZ (D2 X Y i) (-(K : Int)) (2 * K + 1) = sumZ (fun y => if Y (i + 1) + 1 ≤ y ∧ y < Y (i + 1) + 1 + h then sC X Y i y else 0) (-(K : Int)) (2 * K + 1) := sumZ_congr fun j _ => by
        unfold D2
        have : (Y (i + 1) < -(K : Int) + j ∧ -(K : Int) + j ≤ Y i) ↔ (Y (i + 1) + 1 ≤ -(K : Int) + j ∧ -(K : Int) + j < Y (i + 1) + 1 + h) := by omega
        simp only [this]
      rw [e, w, sumZ_sumN]
      exact sumN_congr fun j hj => by rw [show Y (i + 1) + 1 + (j : Int) = Y (i + 1) + ((j + 1 : Nat) : Int) by omega, sC_at c, hh]
    have d2' := sumN_shift (f := fun j => X (i + 1) - dX X i * (j : Int) / h) h
    rw [← d2] at d2'
    have fl := floor_sum (D := dX X i) (h := h) hpos
    have e3 : dX X i * (h : Int) / h = dX X i := Int.mul_ediv_cancel _ (by omega)
    have e4 : dX X i * ((0 : Nat) : Int) / h = 0 := by simp
    rw [e3, e4] at d2'
    rw [sumN_sub, sumN_const] at d1 d2'
    have eg : Int.gcd (dX X i) (dY Y i) = Int.gcd (dX X i) h := by rw [← hh, Int.gcd_neg]
    rw [if_neg (by omega), u1, u2, d1, d2', eg]
    have ed : dY Y i = -h := by omega
    have ex : X (i + 1) = X i + dX X i := by unfold dX; omega
    rw [ed, ex]
    grind
  · have u1 := zz (f := U1 X Y i) fun y => if_neg (by unfold dY at c; omega)
    have u2 := zz (f := U2 X Y i) fun y => if_neg (by unfold dY at c; omega)
    have d1 := zz (f := D1 X Y i) fun y => if_neg (by unfold dY at c; omega)
    have d2 := zz (f := D2 X Y i) fun y => if_neg (by unfold dY at c; omega)
    rw [u1, u2, d1, d2, c]; simp
  · obtain ⟨h, hh⟩ : ∃ h : Nat, dY Y i = h := ⟨(dY Y i).toNat, by omega⟩
    have hpos : 0 < h := by omega
    have hyi : Y (i + 1) = Y i + h := by unfold dY at hh; omega
    have d1 := zz (f := D1 X Y i) fun y => if_neg (by omega)
    have d2 := zz (f := D2 X Y i) fun y => if_neg (by omega)
    have u1 : sumZ (U1 X Y i) (-(K : Int)) (2 * K + 1) = sumN (fun j => X i + 1 + dX X i * j / h) h := by
      have w := sumZ_win (f := fun y => sA X Y i y + 1) (a := -(K : Int)) (lo := Y i) (m := h) (by omega) (2 * K + 1) (by omega)
      have e : sumZ (U1 X Y i) (-(K : Int)) (2 * K + 1) = sumZ (fun y => if Y i ≤ y ∧ y < Y i + h then sA X Y i y + 1 else 0) (-(K : Int)) (2 * K + 1) := sumZ_congr fun j _ => by unfold U1; rw [hyi]
      rw [e, w, sumZ_sumN]
      exact sumN_congr fun j hj => by rw [sA_at c, hh]; omega
    have u2 : sumZ (U2 X Y i) (-(K : Int)) (2 * K + 1) = sumN (fun j => X i + 1 + dX X i * ((j + 1 : Nat) : Int) / h) h := by
      have w := sumZ_win (f := fun y => sA X Y i y + 1) (a := -(K : Int)) (lo := Y i + 1) (m := h) (by omega) (2 * K + 1) (by omega)
      have e : sumZ (U2 X Y i) (-(K : Int)) (2 * K + 1) = sumZ (fun y => if Y i + 1 ≤ y ∧ y < Y i + 1 + h then sA X Y i y + 1 else 0) (-(K : Int)) (2 * K + 1) := sumZ_congr fun j _ => by
        unfold U2
        have : (Y i < -(K : Int) + j ∧ -(K : Int) + j ≤ Y (i + 1)) ↔ (Y i + 1 ≤ -(K : Int) + j ∧ -(K : Int) + j < Y i + 1 + h) := by omega
        simp only [this]
      rw [e, w, sumZ_sumN]
      exact sumN_congr fun j hj => by rw [show Y i + 1 + (j : Int) = Y i + ((j + 1 : Nat) : Int) by omega, sA_at c, hh]; omega
    have u2' := sumN_shift (f := fun j => X i + 1 + dX X i * (j : Int) / h) h
    rw [← u2] at u2'
    have fl := floor_sum (D := dX X i) (h := h) hpos
    have e3 : dX X i * (h : Int) / h = dX X i := Int.mul_ediv_cancel _ (by omega)
    have e4 : dX X i * ((0 : Nat) : Int) / h = 0 := by simp
    rw [e3, e4] at u2'
    rw [sumN_add, sumN_const] at u1 u2'
    rw [if_neg (by omega), u1, u2', d1, d2, hh]
    have ex : X (i + 1) = X i + dX X i := by unfold dX; omega
    rw [ex]
    grind
end Go.Proofs.Ytbgeooalhoaemaa
