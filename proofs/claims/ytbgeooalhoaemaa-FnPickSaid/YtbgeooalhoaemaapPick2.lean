/-
  PLAIN LAW: the rows of a convex polygon.
-/
import Derived.Test.YtbgeooalhoaemaapPick
set_option linter.unusedVariables false
set_option linter.unusedSimpArgs false
namespace Go.Proofs.Ytbgeooalhoaemaa
variable {n : Nat} {X Y : Nat → Int}

def sA (X Y : Nat → Int) (i : Nat) (y : Int) : Int := sR X Y i y / dY Y i
def sC (X Y : Nat → Int) (i : Nat) (y : Int) : Int := -(sR X Y i y / -dY Y i)
/-- inside of all sides -/
def Ins (n : Nat) (X Y : Nat → Int) (x y : Int) : Prop := ∀ i, i < n → dY Y i * x ≤ sR X Y i y
instance {x y : Int} : Decidable (Ins n X Y x y) := by unfold Ins; infer_instance
def rowC (n : Nat) (X Y : Nat → Int) (K : Nat) (y : Int) : Int := sumZ (fun x => bit (decide (Ins n X Y x y))) (-(K : Int)) (2 * K + 1)
theorem sA_le {i : Nat} {x y : Int} (h : 0 < dY Y i) : x ≤ sA X Y i y ↔ dY Y i * x ≤ sR X Y i y := by
  rw [sA, Int.le_ediv_iff_mul_le h, Int.mul_comm]
theorem sC_le {i : Nat} {x y : Int} (h : dY Y i < 0) : sC X Y i y ≤ x ↔ dY Y i * x ≤ sR X Y i y := by
  have e : -x * -dY Y i = dY Y i * x := by rw [Int.neg_mul_neg, Int.mul_comm]
  have := Int.le_ediv_iff_mul_le (a := -x) (b := sR X Y i y) (c := -dY Y i) (by omega)
  rw [e] at this
  rw [← this, sC]
  omega
theorem sR_mix (i : Nat) (y : Int) : sR X Y i y = (Y (i + 1) - y) * X i + (y - Y i) * X (i + 1) := by unfold sR dX dY; grind
theorem mul_le_l {a b c : Int} (h : 0 ≤ c) (hab : a ≤ b) : c * a ≤ c * b := Int.mul_le_mul_of_nonneg_left hab h
/-- a row between a side that goes up and one that goes down -/
theorem Conv.row (h : Conv n X Y) {e f : Nat} {y : Int} (he : e < n) (hf : f < n) (ue : 0 < dY Y e) (df : dY Y f < 0) (ye : Y e ≤ y ∧ y ≤ Y (e + 1)) (yf : Y (f + 1) ≤ y ∧ y ≤ Y f) :
    (∀ x, Ins n X Y x y ↔ sC X Y f y ≤ x ∧ x ≤ sA X Y e y) ∧ sC X Y f y ≤ sA X Y e y + 1 := by
  have key : ∀ i, i < n → 0 ≤ dY Y e * sR X Y i y - dY Y i * sR X Y e y ∧ dY Y f * sR X Y i y - dY Y i * sR X Y f y ≤ 0 := fun i hi => by
    have m1 := slk_mid (X := X) (Y := Y) i e y
    have m2 := slk_mid (X := X) (Y := Y) i f y
    have p1 := Int.mul_nonneg (show 0 ≤ Y (e + 1) - y by omega) (h.nn hi he)
    have p2 := Int.mul_nonneg (show 0 ≤ y - Y e by omega) (h.nn' hi he)
    have p3 := Int.mul_nonneg (show 0 ≤ y - Y (f + 1) by omega) (h.nn hi hf)
    have p4 := Int.mul_nonneg (show 0 ≤ Y f - y by omega) (h.nn' hi hf)
    have e3 : (Y (f + 1) - y) * slk X Y i (X f) (Y f) = -((y - Y (f + 1)) * slk X Y i (X f) (Y f)) := by rw [← Int.neg_mul]; congr 1; omega
    have e4 : (y - Y f) * slk X Y i (X (f + 1)) (Y (f + 1)) = -((Y f - y) * slk X Y i (X (f + 1)) (Y (f + 1))) := by rw [← Int.neg_mul]; congr 1; omega
    omega
  refine ⟨fun x => ⟨fun hin => ⟨(sC_le df).2 (hin f hf), (sA_le ue).2 (hin e he)⟩, fun ⟨h1, h2⟩ i hi => ?_⟩, ?_⟩
  · rw [sC_le df] at h1
    rw [sA_le ue] at h2
    obtain ⟨k1, k2⟩ := key i hi
    rcases Int.lt_trichotomy (dY Y i) 0 with c | c | c
    · have q := mul_le_l (show 0 ≤ -dY Y i by omega) h1
      have e1 : -dY Y i * (dY Y f * x) = -dY Y f * (dY Y i * x) := by grind
      have e2 : -dY Y i * sR X Y f y = -(dY Y i * sR X Y f y) := Int.neg_mul _ _
      have e3 : -dY Y f * sR X Y i y = -(dY Y f * sR X Y i y) := Int.neg_mul _ _
      exact Int.le_of_mul_le_mul_left (a := -dY Y f) (by omega) (by omega)
    · rw [c, Int.zero_mul]
      rw [c, Int.zero_mul] at k1
      exact Int.le_of_mul_le_mul_left (a := dY Y e) (by omega) ue
    · have q := mul_le_l (Int.le_of_lt c) h2
      have e1 : dY Y i * (dY Y e * x) = dY Y e * (dY Y i * x) := by grind
      exact Int.le_of_mul_le_mul_left (a := dY Y e) (by omega) ue
  · rcases Int.lt_or_le (sA X Y e y + 1) (sC X Y f y) with c | c
    · exfalso
      have h1 : ¬ dY Y e * (sA X Y e y + 1) ≤ sR X Y e y := fun hh => by have := (sA_le ue).2 hh; omega
      have h2 : ¬ dY Y f * (sA X Y e y + 1) ≤ sR X Y f y := fun hh => by have := (sC_le df).2 hh; omega
      obtain ⟨-, k2⟩ := key e he
      generalize sA X Y e y + 1 = x at *
      have q1 := Int.mul_lt_mul_of_pos_left (show sR X Y e y < dY Y e * x by omega) (show 0 < -dY Y f by omega)
      have q2 := Int.mul_lt_mul_of_pos_left (show sR X Y f y < dY Y f * x by omega) ue
      have e1 : -dY Y f * (dY Y e * x) = -(dY Y e * (dY Y f * x)) := by grind
      have e2 : -dY Y f * sR X Y e y = -(dY Y f * sR X Y e y) := Int.neg_mul _ _
      omega
    · omega
theorem Conv.bnd {K : Int} (hX : ∀ i, i ≤ n → -K ≤ X i ∧ X i ≤ K) {e f : Nat} {y : Int} (he : e < n) (hf : f < n) (ue : 0 < dY Y e) (df : dY Y f < 0) (ye : Y e ≤ y ∧ y ≤ Y (e + 1)) (yf : Y (f + 1) ≤ y ∧ y ≤ Y f) : sA X Y e y ≤ K ∧ -K ≤ sC X Y f y := by
  constructor
  · rw [sA]
    refine Int.ediv_le_of_le_mul ue ?_
    rw [sR_mix]
    have a1 := mul_le_l (show 0 ≤ Y (e + 1) - y by omega) (hX e (by omega)).2
    have a2 := mul_le_l (show 0 ≤ y - Y e by omega) (hX (e + 1) (by omega)).2
    have : K * dY Y e = (Y (e + 1) - y) * K + (y - Y e) * K := by unfold dY; grind
    omega
  · rw [sC]
    have : sR X Y f y / -dY Y f ≤ K := by
      refine Int.ediv_le_of_le_mul (by omega) ?_
      rw [sR_mix]
      have a1 := mul_le_l (show 0 ≤ y - Y (f + 1) by omega) (hX f (by omega)).1
      have a2 := mul_le_l (show 0 ≤ Y f - y by omega) (hX (f + 1) (by omega)).1
      have e1 : K * -dY Y f = -((y - Y (f + 1)) * -K) - (Y f - y) * -K := by unfold dY; grind
      have e2 : (Y (f + 1) - y) * X f = -((y - Y (f + 1)) * X f) := by rw [← Int.neg_mul]; congr 1; omega
      have e3 : (y - Y f) * X (f + 1) = -((Y f - y) * X (f + 1)) := by rw [← Int.neg_mul]; congr 1; omega
      omega
    omega
theorem Conv.rowC (h : Conv n X Y) {K : Nat} (hX : ∀ i, i ≤ n → -(K : Int) ≤ X i ∧ X i ≤ K) {e f : Nat} {y : Int} (he : e < n) (hf : f < n) (ue : 0 < dY Y e) (df : dY Y f < 0) (ye : Y e ≤ y ∧ y ≤ Y (e + 1)) (yf : Y (f + 1) ≤ y ∧ y ≤ Y f) :
    Go.Proofs.Ytbgeooalhoaemaa.rowC n X Y K y = sA X Y e y - sC X Y f y + 1 := by
  obtain ⟨r1, r2⟩ := h.row he hf ue df ye yf
  obtain ⟨b1, b2⟩ := Conv.bnd hX he hf ue df ye yf
  unfold Go.Proofs.Ytbgeooalhoaemaa.rowC
  rw [cnt_int (A := sC X Y f y) (B := sA X Y e y) fun x _ => by rw [decide_eq_true_iff]; exact r1 x]
  omega
/-- above the highest corner there is nothing -/
theorem Conv.above (h : Conv n X Y) {x y : Int} (hy : ∀ i, i < n → Y i < y) : ¬ Ins n X Y x y := by
  intro hin
  have hn3 := h.n3
  -- a highest corner
  obtain ⟨T, hT, hmax⟩ : ∃ T, T < n ∧ ∀ i, i < n → Y i ≤ Y T := by
    have : ∀ m, 0 < m → m ≤ n → ∃ T, T < m ∧ ∀ i, i < m → Y i ≤ Y T := fun m => by
      induction m with
      | zero => intro h0; omega
      | succ m ih =>
        intro _ hm
        rcases Nat.eq_zero_or_pos m with h0 | h0
        · subst h0; exact ⟨0, by omega, fun i hi => by have : i = 0 := by omega
                                                       subst this; exact Int.le_refl _⟩
        · obtain ⟨T, t1, t2⟩ := ih h0 (by omega)
          rcases Int.lt_or_le (Y T) (Y m) with c | c
          · exact ⟨m, by omega, fun i hi => by
              rcases Nat.lt_or_ge i m with d | d
              · have := t2 i d; omega
              · have : i = m := by omega
                subst this; exact Int.le_refl _⟩
          · exact ⟨T, by omega, fun i hi => by
              rcases Nat.lt_or_ge i m with d | d
              · exact t2 i d
              · have : i = m := by omega
                subst this; exact c⟩
    exact this n (by omega) (Nat.le_refl _)
  have hmax' : ∀ i, i ≤ n → Y i ≤ Y T := fun i hi => by
    rcases Nat.lt_or_ge i n with c | c
    · exact hmax i c
    · have : i = n := by omega
      rw [this, h.cy]; exact hmax 0 (by omega)
  -- one that is lower
  have hlow : ∃ i, i < n ∧ decide (Y i < Y T) = true := by
    apply Classical.byContradiction
    intro hno
    have hall : ∀ i, i < n → Y i = Y T := fun i hi => by
      have := hmax i hi
      have h2 : ¬ Y i < Y T := fun c => hno ⟨i, hi, decide_eq_true c⟩
      omega
    have w := h.pos 0 2 (by omega) (by omega) (by omega) (by rw [Nat.mod_eq_of_lt (by omega)]; omega)
    have y0 := hall 0 (by omega)
    have y1 := hall 1 (by omega)
    have y2 := hall 2 (by omega)
    simp only [slk, dY, Nat.zero_add, y0, y1, y2, Int.sub_self, Int.zero_mul, Int.mul_zero] at w
    omega
  obtain ⟨⟨e, he, e1, e2⟩, -⟩ := round_trip (p := fun i => decide (Y i < Y T)) (n := n) (by simp only [h.cy]) hlow ⟨T, hT, decide_eq_false (by omega)⟩
  have e1 := of_decide_eq_true e1
  have e2 := of_decide_eq_false e2
  have eT : Y (e + 1) = Y T := by have := hmax' (e + 1) (by omega); omega
  have hyT : Y T < y := hy T hT
  -- the next side
  obtain ⟨g, hg⟩ : ∃ g, g = (e + 1) % n := ⟨_, rfl⟩
  have hgn : g < n := by rw [hg]; exact Nat.mod_lt _ (by omega)
  have wx : X g = X (e + 1) := by rw [hg]; exact (h.wrap he).1
  have wy : Y g = Y T := by rw [hg, (h.wrap he).2, eT]
  have hge : e ≠ g := fun c => by rw [← c] at wy; omega
  have hgm : (e + 1 = n ∧ g = 0) ∨ (e + 1 < n ∧ g = e + 1) := by
    rcases Nat.lt_or_ge (e + 1) n with c | c
    · exact .inr ⟨c, by rw [hg, Nat.mod_eq_of_lt c]⟩
    · have : e + 1 = n := by omega
      exact .inl ⟨this, by rw [hg, this, Nat.mod_self]⟩
  have hg2 : (g + 1) % n ≠ e ∧ (g + 1) % n ≠ g := by
    rcases Nat.lt_or_ge (g + 1) n with c | c
    · rw [Nat.mod_eq_of_lt c]; omega
    · have : g + 1 = n := by omega
      rw [this, Nat.mod_self]; omega
  have hgl : (g + 1) % n < n := Nat.mod_lt _ (by omega)
  have s1 := h.pos g e hgn he hge (fun c => hg2.1 c.symm)
  have s2 := h.pos e _ he hgl hg2.1 (by rw [← hg]; exact hg2.2)
  rw [(h.wrap hgn).1, (h.wrap hgn).2] at s2
  have t1 := hin e he
  have t2 := hin g hgn
  have hd : dY Y g ≤ 0 := by have := hmax' (g + 1) (by omega); unfold dY; omega
  have q1 : slk X Y e x y = dX X e * (y - Y T) - dY Y e * (x - X (e + 1)) := by
    rw [← eT]; unfold slk dX dY; grind
  have q2 : slk X Y g x y = dX X g * (y - Y T) - dY Y g * (x - X (e + 1)) := by
    rw [← wy, ← wx]; unfold slk; grind
  have z1 : 0 ≤ slk X Y e x y := by rw [slk_R]; omega
  have z2 : 0 ≤ slk X Y g x y := by rw [slk_R]; omega
  rcases Int.lt_or_eq_of_le hd with c | c
  · have p1 := Int.mul_nonneg (show 0 ≤ -dY Y g by omega) z1
    have p2 := Int.mul_nonneg (show 0 ≤ dY Y e by unfold dY; omega) z2
    rw [q1] at p1
    rw [q2] at p2
    have r : slk X Y e (X (g + 1)) (Y (g + 1)) = dX X e * dY Y g - dY Y e * dX X g := by
      have : slk X Y e (X (g + 1)) (Y (g + 1)) = dX X e * (Y (g + 1) - Y T) - dY Y e * (X (g + 1) - X (e + 1)) := by rw [← eT]; unfold slk dX dY; grind
      rw [this, ← wx, ← wy]; rfl
    rw [r] at s2
    have p3 := Int.mul_pos (show 0 < y - Y T by omega) s2
    have : -dY Y g * (dX X e * (y - Y T) - dY Y e * (x - X (e + 1))) + dY Y e * (dX X g * (y - Y T) - dY Y g * (x - X (e + 1))) = -((y - Y T) * (dX X e * dY Y g - dY Y e * dX X g)) := by grind
    omega
  · have r1 : slk X Y g (X e) (Y e) = -(dX X g * (Y T - Y e)) := by unfold slk; rw [c, wy]; grind
    rw [c, Int.zero_mul, Int.sub_zero] at q2
    rw [q2] at z2
    rw [r1] at s1
    have hneg : dX X g < 0 := by
      rcases Int.lt_or_le (dX X g) 0 with d | d
      · exact d
      · have := Int.mul_nonneg d (show 0 ≤ Y T - Y e by omega); omega
    have := Int.mul_pos (show 0 < -dX X g by omega) (show 0 < y - Y T by omega)
    rw [Int.neg_mul] at this
    omega
end Go.Proofs.Ytbgeooalhoaemaa
