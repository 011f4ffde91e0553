/-
  PLAIN LAW: Pick's formula for a convex polygon.
-/
import Derived.Test.YtbgeooalhoaemaapPick3
set_option linter.unusedVariables false
set_option linter.unusedSimpArgs false
namespace Go.Proofs.Ytbgeooalhoaemaa
variable {n : Nat} {X Y : Nat → Int}

theorem max_ex (Y : Nat → Int) : ∀ m, 0 < m → ∃ T, T < m ∧ ∀ i, i < m → Y i ≤ Y T := fun m => by
  induction m with
  | zero => intro h0; omega
  | succ m ih =>
    intro _
    rcases Nat.eq_zero_or_pos m with h0 | h0
    · subst h0
      refine ⟨0, by omega, fun i hi => ?_⟩
      have : i = 0 := by omega
      subst this; exact Int.le_refl _
    · obtain ⟨T, t1, t2⟩ := ih h0
      rcases Int.lt_or_le (Y T) (Y m) with c | c
      · refine ⟨m, by omega, fun i hi => ?_⟩
        rcases Nat.lt_or_ge i m with d | d
        · have := t2 i d; omega
        · have : i = m := by omega
          subst this; exact Int.le_refl _
      · refine ⟨T, by omega, fun i hi => ?_⟩
        rcases Nat.lt_or_ge i m with d | d
        · exact t2 i d
        · have : i = m := by omega
          subst this; exact c
/-- not all corners lie in one row -/
theorem Conv.two (h : Conv n X Y) (y : Int) : ¬ ∀ i, i < n → Y i = y := fun hall => by
  have hn3 := h.n3
  have w := h.pos 0 2 (by omega) (by omega) (by omega) (by rw [Nat.mod_eq_of_lt (by omega)]; omega)
  simp only [slk, dY, Nat.zero_add, hall 0 (by omega), hall 1 (by omega), hall 2 (by omega), Int.sub_self, Int.zero_mul, Int.mul_zero] at w
  omega
/-- the two sides that pass the row's threshold, and no others -/
theorem Conv.covers (h : Conv n X Y) {y : Int} {p : Nat → Bool} (pn : p n = p 0) (p1 : ∀ i, i ≤ n → p i = true → Y i ≤ y) (p2 : ∀ i, i ≤ n → p i = false → y ≤ Y i)
    (ps : (∀ i, i ≤ n → p i = false → y < Y i) ∨ (∀ i, i ≤ n → p i = true → Y i < y)) (h1 : ∃ i, i < n ∧ p i = true) (h2 : ∃ i, i < n ∧ p i = false) :
    ∃ e f, (e < n ∧ p e = true ∧ p (e + 1) = false) ∧ (f < n ∧ p f = false ∧ p (f + 1) = true) ∧ (0 < dY Y e ∧ dY Y f < 0) ∧ (∀ i, i < n → i ≠ e → ¬ (p i = true ∧ p (i + 1) = false)) ∧ ∀ i, i < n → i ≠ f → ¬ (p i = false ∧ p (i + 1) = true) := by
  obtain ⟨⟨e, he, e1, e2⟩, f, hf, f1, f2⟩ := round_trip pn h1 h2
  refine ⟨e, f, ⟨he, e1, e2⟩, ⟨hf, f1, f2⟩, ⟨?_, ?_⟩, fun i hi hne hc => ?_, fun i hi hne hc => ?_⟩
  · have a1 := p1 e (by omega) e1
    have a2 := p2 _ (by omega) e2
    unfold dY
    rcases ps with ps | ps
    · have := ps (e + 1) (by omega) e2; omega
    · have := ps e (by omega) e1; omega
  · have a1 := p1 _ (by omega) f2
    have a2 := p2 f (by omega) f1
    unfold dY
    rcases ps with ps | ps
    · have := ps f (by omega) f1; omega
    · have := ps (f + 1) (by omega) f2; omega
  · have a1 := p1 i (by omega) hc.1
    have a2 := p2 (i + 1) (by omega) hc.2
    have a3 := p1 e (by omega) e1
    have a4 := p2 (e + 1) (by omega) e2
    refine h.uniq (i := i) (e := e) (y := y) hi he hne ⟨⟨by omega, by omega⟩, ⟨by omega, by omega⟩, ?_⟩
    rcases ps with ps | ps
    · left
      have b1 := ps (i + 1) (by omega) hc.2
      have b2 := ps (e + 1) (by omega) e2
      omega
    · right
      have b1 := ps i (by omega) hc.1
      have b2 := ps e (by omega) e1
      omega
  · have a1 := p2 i (by omega) hc.1
    have a2 := p1 (i + 1) (by omega) hc.2
    have a3 := p2 f (by omega) f1
    have a4 := p1 (f + 1) (by omega) f2
    refine h.refl.uniq (i := i) (e := f) (y := -y) hi hf hne ⟨⟨by omega, by omega⟩, ⟨by omega, by omega⟩, ?_⟩
    rcases ps with ps | ps
    · right
      have b1 := ps i (by omega) hc.1
      have b2 := ps f (by omega) f1
      omega
    · left
      have b1 := ps (i + 1) (by omega) hc.2
      have b2 := ps (f + 1) (by omega) f2
      omega
theorem sA_top {i : Nat} (h : 0 < dY Y i) : sA X Y i (Y (i + 1)) = X (i + 1) := by
  have e : sR X Y i (Y (i + 1)) = dY Y i * X (i + 1) := by rw [sR_mix]; unfold dY; grind
  rw [sA, e, Int.mul_ediv_cancel_left _ (by omega)]
theorem sA_bot {i : Nat} (h : 0 < dY Y i) : sA X Y i (Y i) = X i := by
  have e : sR X Y i (Y i) = dY Y i * X i := by rw [sR_mix]; unfold dY; grind
  rw [sA, e, Int.mul_ediv_cancel_left _ (by omega)]
theorem sC_top {i : Nat} (h : dY Y i < 0) : sC X Y i (Y i) = X i := by
  have e : sR X Y i (Y i) = -dY Y i * -X i := by rw [sR_mix]; unfold dY; grind
  rw [sC, e, Int.mul_ediv_cancel_left _ (by omega)]; omega
theorem sC_bot {i : Nat} (h : dY Y i < 0) : sC X Y i (Y (i + 1)) = X (i + 1) := by
  have e : sR X Y i (Y (i + 1)) = -dY Y i * -X (i + 1) := by rw [sR_mix]; unfold dY; grind
  rw [sC, e, Int.mul_ediv_cancel_left _ (by omega)]; omega
/-- the highest row -/
theorem Conv.top (h : Conv n X Y) {K : Nat} (hX : ∀ i, i ≤ n → -(K : Int) ≤ X i ∧ X i ≤ K) {T : Nat} (hT : T < n) (hm : ∀ i, i < n → Y i ≤ Y T) :
    Go.Proofs.Ytbgeooalhoaemaa.rowC n X Y K (Y T) = 1 - sumN (fun i => if Y i = Y T ∧ Y (i + 1) = Y T then dX X i else 0) n := by
  have hm' := h.all_n (Q := fun v => v ≤ Y T) hm
  have hlow : ∃ i, i < n ∧ decide (Y i < Y T) = true := Classical.byContradiction fun hno => h.two (Y T) fun i hi => by
    have := hm i hi
    have : ¬ Y i < Y T := fun c => hno ⟨i, hi, decide_eq_true c⟩
    omega
  obtain ⟨e, f, ⟨he, e1, e2⟩, ⟨hf, f1, f2⟩, ⟨ue, df⟩, uq, dq⟩ := h.covers (y := Y T) (p := fun i => decide (Y i < Y T)) (by simp only [h.cy]) (fun i _ hp => by have := of_decide_eq_true hp; omega) (fun i _ hp => by have := of_decide_eq_false hp; omega) (.inr fun i _ hp => of_decide_eq_true hp) hlow ⟨T, hT, decide_eq_false (by omega)⟩
  have e1 := of_decide_eq_true e1
  have e2 := of_decide_eq_false e2
  have f1 := of_decide_eq_false f1
  have f2 := of_decide_eq_true f2
  have ye : Y (e + 1) = Y T := by have := hm' (e + 1) (by omega); omega
  have yf : Y f = Y T := by have := hm f hf; omega
  have r := h.rowC hX he hf ue df (y := Y T) ⟨by omega, by omega⟩ ⟨by omega, by omega⟩
  have a := sA_top (X := X) ue
  have c := sC_top (X := X) df
  rw [ye] at a
  rw [yf] at c
  rw [r, a, c]
  have tl := sumN_tele (f := fun i => if Y i = Y T then X i else 0) n
  have hz : (if Y n = Y T then X n else 0) - (if Y 0 = Y T then X 0 else 0) = 0 := by rw [h.cx, h.cy]; omega
  rw [hz] at tl
  have s1 : sumN (fun i => if Y i < Y T ∧ ¬ Y (i + 1) < Y T then X (i + 1) else 0) n = X (e + 1) := by
    rw [sumN_one he]
    · rw [if_pos ⟨e1, e2⟩]
    · intro i hi hne
      exact if_neg fun hc => uq i hi hne ⟨decide_eq_true hc.1, decide_eq_false hc.2⟩
  have s2 : sumN (fun i => if ¬ Y i < Y T ∧ Y (i + 1) < Y T then X i else 0) n = X f := by
    rw [sumN_one hf]
    · rw [if_pos ⟨f1, f2⟩]
    · intro i hi hne
      exact if_neg fun hc => dq i hi hne ⟨decide_eq_false hc.1, decide_eq_true hc.2⟩
  have split : sumN (fun i => (if Y (i + 1) = Y T then X (i + 1) else 0) - (if Y i = Y T then X i else 0)) n = sumN (fun i => ((if Y i < Y T ∧ ¬ Y (i + 1) < Y T then X (i + 1) else 0) - (if ¬ Y i < Y T ∧ Y (i + 1) < Y T then X i else 0)) + (if Y i = Y T ∧ Y (i + 1) = Y T then dX X i else 0)) n := sumN_congr fun i hi => by
    have b1 := hm i hi
    have b2 := hm' (i + 1) (by omega)
    unfold dX
    by_cases q1 : Y i = Y T <;> by_cases q2 : Y (i + 1) = Y T
    · rw [if_pos q2, if_pos q1, if_neg (by omega), if_neg (by omega), if_pos ⟨q1, q2⟩]; omega
    · rw [if_neg q2, if_pos q1, if_neg (by omega), if_pos (by omega), if_neg (fun hc => q2 hc.2)]; omega
    · rw [if_pos q2, if_neg q1, if_pos (by omega), if_neg (by omega), if_neg (fun hc => q1 hc.1)]; omega
    · rw [if_neg q2, if_neg q1, if_neg (by omega), if_neg (by omega), if_neg (fun hc => q1 hc.1)]; omega
  rw [split, sumN_add, sumN_sub, s1, s2] at tl
  omega
/-- the lowest row -/
theorem Conv.bot (h : Conv n X Y) {K : Nat} (hX : ∀ i, i ≤ n → -(K : Int) ≤ X i ∧ X i ≤ K) {B : Nat} (hB : B < n) (hm : ∀ i, i < n → Y B ≤ Y i) :
    Go.Proofs.Ytbgeooalhoaemaa.rowC n X Y K (Y B) = 1 + sumN (fun i => if Y i = Y B ∧ Y (i + 1) = Y B then dX X i else 0) n := by
  have hm' := h.all_n (Q := fun v => Y B ≤ v) hm
  have hhi : ∃ i, i < n ∧ decide (Y i ≤ Y B) = false := Classical.byContradiction fun hno => h.two (Y B) fun i hi => by
    have := hm i hi
    have : ¬ ¬ Y i ≤ Y B := fun c => hno ⟨i, hi, decide_eq_false c⟩
    omega
  obtain ⟨e, f, ⟨he, e1, e2⟩, ⟨hf, f1, f2⟩, ⟨ue, df⟩, uq, dq⟩ := h.covers (y := Y B) (p := fun i => decide (Y i ≤ Y B)) (by simp only [h.cy]) (fun i _ hp => of_decide_eq_true hp) (fun i _ hp => by have := of_decide_eq_false hp; omega) (.inl fun i _ hp => by have := of_decide_eq_false hp; omega) ⟨B, hB, decide_eq_true (Int.le_refl _)⟩ hhi
  have e1 := of_decide_eq_true e1
  have e2 := of_decide_eq_false e2
  have f1 := of_decide_eq_false f1
  have f2 := of_decide_eq_true f2
  have ye : Y e = Y B := by have := hm e he; omega
  have yf : Y (f + 1) = Y B := by have := hm' (f + 1) (by omega); omega
  have r := h.rowC hX he hf ue df (y := Y B) ⟨by omega, by omega⟩ ⟨by omega, by omega⟩
  have a := sA_bot (X := X) ue
  have c := sC_bot (X := X) df
  rw [ye] at a
  rw [yf] at c
  rw [r, a, c]
  have tl := sumN_tele (f := fun i => if Y i = Y B then X i else 0) n
  have hz : (if Y n = Y B then X n else 0) - (if Y 0 = Y B then X 0 else 0) = 0 := by rw [h.cx, h.cy]; omega
  rw [hz] at tl
  have s1 : sumN (fun i => if Y i ≤ Y B ∧ ¬ Y (i + 1) ≤ Y B then X i else 0) n = X e := by
    rw [sumN_one he]
    · rw [if_pos ⟨e1, e2⟩]
    · intro i hi hne
      exact if_neg fun hc => uq i hi hne ⟨decide_eq_true hc.1, decide_eq_false hc.2⟩
  have s2 : sumN (fun i => if ¬ Y i ≤ Y B ∧ Y (i + 1) ≤ Y B then X (i + 1) else 0) n = X (f + 1) := by
    rw [sumN_one hf]
    · rw [if_pos ⟨f1, f2⟩]
    · intro i hi hne
      exact if_neg fun hc => dq i hi hne ⟨decide_eq_false hc.1, decide_eq_true hc.2⟩
  have split : sumN (fun i => (if Y (i + 1) = Y B then X (i + 1) else 0) - (if Y i = Y B then X i else 0)) n = sumN (fun i => ((if ¬ Y i ≤ Y B ∧ Y (i + 1) ≤ Y B then X (i + 1) else 0) - (if Y i ≤ Y B ∧ ¬ Y (i + 1) ≤ Y B then X i else 0)) + (if Y i = Y B ∧ Y (i + 1) = Y B then dX X i else 0)) n := sumN_congr fun i hi => by
    have b1 := hm i hi
    have b2 := hm' (i + 1) (by omega)
    unfold dX
    by_cases q1 : Y i = Y B <;> by_cases q2 : Y (i + 1) = Y B
    · rw [if_pos q2, if_pos q1, if_neg (by omega), if_neg (by omega), if_pos ⟨q1, q2⟩]; omega
    · rw [if_neg q2, if_pos q1, if_neg (by omega), if_pos (by omega), if_neg (fun hc => q2 hc.2)]; omega
    · rw [if_pos q2, if_neg q1, if_pos (by omega), if_neg (by omega), if_neg (fun hc => q1 hc.1)]; omega
    · rw [if_neg q2, if_neg q1, if_neg (by omega), if_neg (by omega), if_neg (fun hc => q1 hc.1)]; omega
  rw [split, sumN_add, sumN_sub, s1, s2] at tl
  omega
/-- a level side lies at the top or at the bottom -/
theorem Conv.level (h : Conv n X Y) {T B : Nat} (hT : T < n) (hm : ∀ i, i < n → Y i ≤ Y T) (hB : B < n) (hb : ∀ i, i < n → Y B ≤ Y i) {i : Nat} (hi : i < n) :
    (if Y i = Y B ∧ Y (i + 1) = Y B then dX X i else 0) - (if Y i = Y T ∧ Y (i + 1) = Y T then dX X i else 0) = if dY Y i = 0 then (Int.gcd (dX X i) (dY Y i) : Int) else 0 := by
  have hn3 := h.n3
  have hBT : Y B < Y T := by
    rcases Int.lt_or_le (Y B) (Y T) with c | c
    · exact c
    · exact absurd (fun i hi => by have := hm i hi; have := hb i hi; omega) (h.two (Y T))
  have hoth : ∃ j, j < n ∧ j ≠ i ∧ j ≠ (i + 1) % n := by
    have hmi : (i + 1 = n ∧ (i + 1) % n = 0) ∨ (i + 1 < n ∧ (i + 1) % n = i + 1) := by
      rcases Nat.lt_or_ge (i + 1) n with c | c
      · exact .inr ⟨c, Nat.mod_eq_of_lt c⟩
      · have : i + 1 = n := by omega
        exact .inl ⟨this, by rw [this, Nat.mod_self]⟩
    rcases hmi with ⟨a, b⟩ | ⟨a, b⟩
    · exact ⟨1, by omega, by omega, by omega⟩
    · rcases Nat.eq_zero_or_pos i with c | c
      · exact ⟨2, by omega, by omega, by omega⟩
      · exact ⟨0, by omega, by omega, by omega⟩
  have hy1 : Y B ≤ Y (i + 1) ∧ Y (i + 1) ≤ Y T := ⟨h.all_n (Q := fun v => Y B ≤ v) hb (i + 1) (by omega), h.all_n (Q := fun v => v ≤ Y T) hm (i + 1) (by omega)⟩
  by_cases c : dY Y i = 0
  · have e1 : Y (i + 1) = Y i := by unfold dY at c; omega
    rw [if_pos c, c, Int.gcd_zero_right, e1]
    have key : ∀ j, j < n → j ≠ i → j ≠ (i + 1) % n → 0 < dX X i * (Y j - Y i) := fun j hj h1 h2 => by
      have := h.pos i j hi hj h1 h2
      rw [slk, c, Int.zero_mul] at this
      have e : dX X i * (Y j - Y i) = -(dX X i * (Y i - Y j)) := by grind
      omega
    obtain ⟨j, hj, j1, j2⟩ := hoth
    have kj := key j hj j1 j2
    rcases Int.lt_trichotomy (dX X i) 0 with d | d | d
    · have hall : ∀ j, j < n → Y j ≤ Y i := fun j hj => by
        by_cases h1 : j = i
        · rw [h1]; exact Int.le_refl _
        · by_cases h2 : j = (i + 1) % n
          · rw [h2, (h.wrap hi).2, e1]; exact Int.le_refl _
          · have k := key j hj h1 h2
            rcases Int.lt_or_le (Y i) (Y j) with q | q
            · have := Int.mul_pos (show 0 < -dX X i by omega) (show 0 < Y j - Y i by omega)
              rw [Int.neg_mul] at this; omega
            · exact q
      have eT : Y i = Y T := by have := hall T hT; have := hm i hi; omega
      rw [if_neg (by omega), if_pos ⟨eT, eT⟩]; omega
    · rw [d, Int.zero_mul] at kj; omega
    · have hall : ∀ j, j < n → Y i ≤ Y j := fun j hj => by
        by_cases h1 : j = i
        · rw [h1]; exact Int.le_refl _
        · by_cases h2 : j = (i + 1) % n
          · rw [h2, (h.wrap hi).2, e1]; exact Int.le_refl _
          · have k := key j hj h1 h2
            rcases Int.lt_or_le (Y j) (Y i) with q | q
            · have := Int.mul_pos d (show 0 < Y i - Y j by omega)
              have e : dX X i * (Y j - Y i) = -(dX X i * (Y i - Y j)) := by grind
              omega
            · exact q
      have eB : Y i = Y B := by have := hall B hB; have := hb i hi; omega
      rw [if_pos ⟨eB, eB⟩, if_neg (by omega)]; omega
  · rw [if_neg c]
    unfold dY at c
    rw [if_neg (by omega), if_neg (by omega)]; omega
theorem Conv.pick (h : Conv n X Y) {K : Nat} (hX : ∀ i, i ≤ n → -(K : Int) ≤ X i ∧ X i ≤ K) (hY : ∀ i, i ≤ n → -(K : Int) ≤ Y i ∧ Y i ≤ K) :
    2 * sumZ (Go.Proofs.Ytbgeooalhoaemaa.rowC n X Y K) (-(K : Int)) (2 * K + 1) = sumN (fun i => X i * Y (i + 1) - X (i + 1) * Y i) n + sumN (fun i => (Int.gcd (dX X i) (dY Y i) : Int)) n + 2 := by
  have hn3 := h.n3
  obtain ⟨T, hT, hm⟩ := max_ex Y n (by omega)
  obtain ⟨B, hB, hb0⟩ := max_ex (fun i => -Y i) n (by omega)
  have hb : ∀ i, i < n → Y B ≤ Y i := fun i hi => by have := hb0 i hi; omega
  have t1 : sumZ (Go.Proofs.Ytbgeooalhoaemaa.rowC n X Y K) (-(K : Int)) (2 * K + 1) = sumN (fun i => sumZ (U1 X Y i) (-(K : Int)) (2 * K + 1)) n - sumN (fun i => sumZ (D1 X Y i) (-(K : Int)) (2 * K + 1)) n + sumZ (fun y => if ∀ i, i < n → Y i ≤ y then Go.Proofs.Ytbgeooalhoaemaa.rowC n X Y K y else 0) (-(K : Int)) (2 * K + 1) := by
    have e : sumZ (Go.Proofs.Ytbgeooalhoaemaa.rowC n X Y K) (-(K : Int)) (2 * K + 1) = sumZ (fun y => sumN (fun i => U1 X Y i y) n - sumN (fun i => D1 X Y i y) n + (if ∀ i, i < n → Y i ≤ y then Go.Proofs.Ytbgeooalhoaemaa.rowC n X Y K y else 0)) (-(K : Int)) (2 * K + 1) := sumZ_congr fun j _ => h.line1 hX _
    rw [e, sumZ_add, sumZ_sub, sumZ_N, sumZ_N]
  have t2 : sumZ (Go.Proofs.Ytbgeooalhoaemaa.rowC n X Y K) (-(K : Int)) (2 * K + 1) = sumN (fun i => sumZ (U2 X Y i) (-(K : Int)) (2 * K + 1)) n - sumN (fun i => sumZ (D2 X Y i) (-(K : Int)) (2 * K + 1)) n + sumZ (fun y => if ∀ i, i < n → y ≤ Y i then Go.Proofs.Ytbgeooalhoaemaa.rowC n X Y K y else 0) (-(K : Int)) (2 * K + 1) := by
    have e : sumZ (Go.Proofs.Ytbgeooalhoaemaa.rowC n X Y K) (-(K : Int)) (2 * K + 1) = sumZ (fun y => sumN (fun i => U2 X Y i y) n - sumN (fun i => D2 X Y i y) n + (if ∀ i, i < n → y ≤ Y i then Go.Proofs.Ytbgeooalhoaemaa.rowC n X Y K y else 0)) (-(K : Int)) (2 * K + 1) := sumZ_congr fun j _ => h.line2 hX _
    rw [e, sumZ_add, sumZ_sub, sumZ_N, sumZ_N]
  have hYT := hY T (by omega)
  have hYB := hY B (by omega)
  have top : sumZ (fun y => if ∀ i, i < n → Y i ≤ y then Go.Proofs.Ytbgeooalhoaemaa.rowC n X Y K y else 0) (-(K : Int)) (2 * K + 1) = Go.Proofs.Ytbgeooalhoaemaa.rowC n X Y K (Y T) := by
    have w := sumZ_win (f := Go.Proofs.Ytbgeooalhoaemaa.rowC n X Y K) (a := -(K : Int)) (lo := Y T) (m := 1) (by omega) (2 * K + 1) (by omega)
    have e : sumZ (fun y => if ∀ i, i < n → Y i ≤ y then Go.Proofs.Ytbgeooalhoaemaa.rowC n X Y K y else 0) (-(K : Int)) (2 * K + 1) = sumZ (fun y => if Y T ≤ y ∧ y < Y T + ((1 : Nat) : Int) then Go.Proofs.Ytbgeooalhoaemaa.rowC n X Y K y else 0) (-(K : Int)) (2 * K + 1) := sumZ_congr fun j _ => by
      generalize -(K : Int) + (j : Int) = y
      by_cases c : Y T ≤ y
      · rw [if_pos fun i hi => by have := hm i hi; omega]
        by_cases d : y < Y T + 1
        · rw [if_pos ⟨c, by omega⟩]
        · rw [if_neg (by omega)]
          exact row_zero fun x => h.above fun i hi => by have := hm i hi; omega
      · rw [if_neg fun hh => c (hh T hT), if_neg (by omega)]
    rw [e, w]
    show 0 + Go.Proofs.Ytbgeooalhoaemaa.rowC n X Y K (Y T + ((0 : Nat) : Int)) = _
    rw [Int.zero_add]; simp
  have bot : sumZ (fun y => if ∀ i, i < n → y ≤ Y i then Go.Proofs.Ytbgeooalhoaemaa.rowC n X Y K y else 0) (-(K : Int)) (2 * K + 1) = Go.Proofs.Ytbgeooalhoaemaa.rowC n X Y K (Y B) := by
    have w := sumZ_win (f := Go.Proofs.Ytbgeooalhoaemaa.rowC n X Y K) (a := -(K : Int)) (lo := Y B) (m := 1) (by omega) (2 * K + 1) (by omega)
    have e : sumZ (fun y => if ∀ i, i < n → y ≤ Y i then Go.Proofs.Ytbgeooalhoaemaa.rowC n X Y K y else 0) (-(K : Int)) (2 * K + 1) = sumZ (fun y => if Y B ≤ y ∧ y < Y B + ((1 : Nat) : Int) then Go.Proofs.Ytbgeooalhoaemaa.rowC n X Y K y else 0) (-(K : Int)) (2 * K + 1) := sumZ_congr fun j _ => by
      generalize -(K : Int) + (j : Int) = y
      by_cases c : y ≤ Y B
      · rw [if_pos fun i hi => by have := hb i hi; omega]
        by_cases d : Y B ≤ y
        · rw [if_pos ⟨d, by omega⟩]
        · rw [if_neg (by omega)]
          exact row_zero fun x => h.below fun i hi => by have := hb i hi; omega
      · rw [if_neg fun hh => c (hh B hB), if_neg (by omega)]
    rw [e, w]
    show 0 + Go.Proofs.Ytbgeooalhoaemaa.rowC n X Y K (Y B + ((0 : Nat) : Int)) = _
    rw [Int.zero_add]; simp
  rw [top, h.top hX hT hm] at t1
  rw [bot, h.bot hX hB hb] at t2
  have sides : sumN (fun i => sumZ (U1 X Y i) (-(K : Int)) (2 * K + 1)) n + sumN (fun i => sumZ (U2 X Y i) (-(K : Int)) (2 * K + 1)) n - sumN (fun i => sumZ (D1 X Y i) (-(K : Int)) (2 * K + 1)) n - sumN (fun i => sumZ (D2 X Y i) (-(K : Int)) (2 * K + 1)) n = sumN (fun i => dY Y i * (X i + X (i + 1)) + dY Y i + (if dY Y i = 0 then 0 else (Int.gcd (dX X i) (dY Y i) : Int))) n := by
    rw [← sumN_add, ← sumN_sub, ← sumN_sub]
    exact sumN_congr fun i hi => side_sum i ⟨hY i (by omega), hY (i + 1) (by omega)⟩
  have lev : sumN (fun i => if Y i = Y B ∧ Y (i + 1) = Y B then dX X i else 0) n - sumN (fun i => if Y i = Y T ∧ Y (i + 1) = Y T then dX X i else 0) n = sumN (fun i => if dY Y i = 0 then (Int.gcd (dX X i) (dY Y i) : Int) else 0) n := by
    rw [← sumN_sub]
    exact sumN_congr fun i hi => h.level hT hm hB hb hi
  have fin : sumN (fun i => dY Y i * (X i + X (i + 1)) + dY Y i + (if dY Y i = 0 then 0 else (Int.gcd (dX X i) (dY Y i) : Int))) n + sumN (fun i => if dY Y i = 0 then (Int.gcd (dX X i) (dY Y i) : Int) else 0) n = sumN (fun i => X i * Y (i + 1) - X (i + 1) * Y i) n + sumN (fun i => (Int.gcd (dX X i) (dY Y i) : Int)) n := by
    have tl1 := sumN_tele (f := fun i => X i * Y i) n
    have tl2 := sumN_tele (f := Y) n
    have z1 : X n * Y n - X 0 * Y 0 = 0 := by rw [h.cx, h.cy]; omega
    have z2 : Y n - Y 0 = 0 := by rw [h.cy]; omega
    rw [z1] at tl1
    rw [z2] at tl2
    rw [← sumN_add, ← sumN_add]
    have e : sumN (fun i => dY Y i * (X i + X (i + 1)) + dY Y i + (if dY Y i = 0 then 0 else (Int.gcd (dX X i) (dY Y i) : Int)) + (if dY Y i = 0 then (Int.gcd (dX X i) (dY Y i) : Int) else 0)) n = sumN (fun i => (X i * Y (i + 1) - X (i + 1) * Y i + (Int.gcd (dX X i) (dY Y i) : Int)) + ((X (i + 1) * Y (i + 1) - X i * Y i) + (Y (i + 1) - Y i))) n := sumN_congr fun i _ => by
      have e1 : dY Y i * (X i + X (i + 1)) = (X i * Y (i + 1) - X (i + 1) * Y i) + (X (i + 1) * Y (i + 1) - X i * Y i) := by unfold dY; grind
      rw [e1]
      have e2 : dY Y i = Y (i + 1) - Y i := rfl
      split <;> omega
    rw [e, sumN_add, sumN_add (f := fun i => X (i + 1) * Y (i + 1) - X i * Y i), tl1, tl2]
    omega
  omega
end Go.Proofs.Ytbgeooalhoaemaa
