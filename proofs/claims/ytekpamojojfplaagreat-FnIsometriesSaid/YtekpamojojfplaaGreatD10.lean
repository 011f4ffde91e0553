/-
  TEXTS OF THE PROOF, put together: pHerm.
-/
import Derived.Test.YtekpamojojfplaaGreatD09
set_option linter.unusedVariables false
set_option linter.unusedSimpArgs false
namespace Go.Proofs.YtekpamojojfplaaGreat
def addF (xs : List Int) (c j : Nat) (q : Int) (k : Nat) (v : Int) : Int := v + xs.getD (j * c + k) 0 * q
def addX (xs : List Int) (c i j : Nat) (q : Int) : List Int := updTo xs (i * c) (addF xs c j q) c
def addOK (xs : List Int) (c i j : Nat) (q : Int) : Nat → Bool
  | 0 => true
  | k + 1 => addOK xs c i j q k && (numB (xs.getD (j * c + k) 0 * q) && numB (addF xs c j q k (xs.getD (i * c + k) 0)))
def negX (xs : List Int) (c i : Nat) : List Int := updTo xs (i * c) (fun _ v => -v) c
abbrev TwoL := List Int × List Int
def addS (c r i j : Nat) (q : Int) (s : TwoL) : Option TwoL := if addOK s.1 c i j q c = true ∧ addOK s.2 r i j q r = true then some (addX s.1 c i j q, addX s.2 r i j q) else none
def rndAt (r c p j i : Nat) (s : TwoL) : Option TwoL := if i ≠ p ∧ s.1.getD (i * c + j) 0 ≠ 0 then addS c r i p (-(s.1.getD (i * c + j) 0 / s.1.getD (p * c + j) 0)) s else some s
def rndTo (r c t p j : Nat) (s : TwoL) : Nat → Option TwoL
  | 0 => some s
  | n + 1 => (rndTo r c t p j s n).bind (rndAt r c p j (t + n))
def leastTo (xs : List Int) (c t j : Nat) : Nat → Option Nat
  | 0 => none
  | n + 1 => match leastTo xs c t j n with
    | none => if xs.getD ((t + n) * c + j) 0 ≠ 0 then some (t + n) else none
    | some b => if xs.getD ((t + n) * c + j) 0 ≠ 0 ∧ (xs.getD ((t + n) * c + j) 0).natAbs < (xs.getD (b * c + j) 0).natAbs then some (t + n) else some b
def alone (xs : List Int) (c t j p n : Nat) : Prop := ∀ i, i < n → t + i ≠ p → xs.getD ((t + i) * c + j) 0 = 0
instance {xs : List Int} {c t j p n : Nat} : Decidable (alone xs c t j p n) := by unfold alone; infer_instance
def redCol (r c t j : Nat) (s : TwoL) (p : Nat) : Option (TwoL × Nat) :=
  if alone s.1 c t j p (r - t) then some (s, p)
  else match rndTo r c t p j s (r - t) with
    | none => none
    | some s' => match leastTo s'.1 c t j (r - t) with
      | none => some (s', p)
      | some p' => if (s'.1.getD (p' * c + j) 0).natAbs < (s.1.getD (p * c + j) 0).natAbs then redCol r c t j s' p' else some (s', p')
  termination_by (s.1.getD (p * c + j) 0).natAbs
def swS (r c p t : Nat) (s : TwoL) : TwoL := if p = t then s else (swapTo s.1 (p * c) (t * c) c, swapTo s.2 (p * r) (t * r) r)
def ngS (r c t j : Nat) (s : TwoL) : TwoL := if s.1.getD (t * c + j) 0 < 0 then (negX s.1 c t, negX s.2 r t) else s
def topAt (r c t j i : Nat) (s : TwoL) : Option TwoL := addS c r i t (-(s.1.getD (i * c + j) 0 / s.1.getD (t * c + j) 0)) s
def topTo (r c t j : Nat) (s : TwoL) : Nat → Option TwoL
  | 0 => some s
  | n + 1 => (topTo r c t j s n).bind (topAt r c t j n)
def hCol (r c j : Nat) (st : TwoL × Nat) : Option (TwoL × Nat) :=
  if st.2 < r then match leastTo st.1.1 c st.2 j (r - st.2) with
    | none => some st
    | some p => match redCol r c st.2 j st.1 p with
      | none => none
      | some (s, p') => (topTo r c st.2 j (ngS r c st.2 j (swS r c p' st.2 s)) st.2).map fun s' => (s', st.2 + 1)
  else some st
def hTo (r c : Nat) (s : TwoL) : Nat → Option (TwoL × Nat)
  | 0 => some (s, 0)
  | j + 1 => (hTo r c s j).bind (hCol r c j)
def OKs (r c : Nat) (s : TwoL) : Prop := s.1.length = r * c ∧ s.2.length = r * r ∧ s.1.all numB = true ∧ s.2.all numB = true
theorem addOK_at {xs : List Int} {c i j : Nat} {q : Int} : ∀ {n : Nat}, addOK xs c i j q n = true → ∀ k, k < n → numB (xs.getD (j * c + k) 0 * q) = true ∧ numB (addF xs c j q k (xs.getD (i * c + k) 0)) = true
  | 0, _, k, hk => by omega
  | n + 1, h, k, hk => by
    simp only [addOK, Bool.and_eq_true] at h
    rcases Nat.lt_or_ge k n with e | e
    · exact addOK_at h.1 k e
    · obtain rfl : k = n := by omega
      exact h.2
theorem addX_num {xs : List Int} {c i j : Nat} {q : Int} (h : xs.all numB = true) (hk : addOK xs c i j q c = true) : (addX xs c i j q).all numB = true := updTo_num h fun k hk' => (addOK_at hk k hk').2
theorem addX_len {xs : List Int} {c i j : Nat} {q : Int} : (addX xs c i j q).length = xs.length := updTo_len
theorem addS_ok {r c i j : Nat} {q : Int} {s s' : TwoL} (h : OKs r c s) (he : addS c r i j q s = some s') : OKs r c s' := by
  unfold addS at he
  split at he
  · rename_i hc
    cases he
    exact ⟨addX_len.trans h.1, addX_len.trans h.2.1, addX_num h.2.2.1 hc.1, addX_num h.2.2.2 hc.2⟩
  · cases he
theorem rndAt_ok {r c p j i : Nat} {s s' : TwoL} (h : OKs r c s) (he : rndAt r c p j i s = some s') : OKs r c s' := by
  unfold rndAt at he
  split at he
  · exact addS_ok h he
  · cases he; exact h
theorem rndTo_ok {r c t p j : Nat} {s : TwoL} (h : OKs r c s) : ∀ {n : Nat} {s' : TwoL}, rndTo r c t p j s n = some s' → OKs r c s'
  | 0, s', he => by cases he; exact h
  | n + 1, s', he => by
    simp only [rndTo, Option.bind_eq_some_iff] at he
    obtain ⟨x, h1, h2⟩ := he
    exact rndAt_ok (rndTo_ok h h1) h2
theorem topTo_ok {r c t j : Nat} {s : TwoL} (h : OKs r c s) : ∀ {n : Nat} {s' : TwoL}, topTo r c t j s n = some s' → OKs r c s'
  | 0, s', he => by cases he; exact h
  | n + 1, s', he => by
    simp only [topTo, Option.bind_eq_some_iff] at he
    obtain ⟨x, h1, h2⟩ := he
    exact addS_ok (topTo_ok h h1) h2
theorem swS_ok {r c p t : Nat} {s : TwoL} (h : OKs r c s) : OKs r c (swS r c p t s) := by
  unfold swS
  split
  · exact h
  · exact ⟨swapTo_len.trans h.1, swapTo_len.trans h.2.1, swapTo_num h.2.2.1, swapTo_num h.2.2.2⟩
theorem numB_neg {v : Int} (h : numB v = true) : numB (-v) = true := by
  have := numB_true.1 h
  exact numB_true.2 (by omega)
theorem num_at {xs : List Int} (h : xs.all numB = true) (p : Nat) : numB (xs.getD p 0) = true := numB_true.2 (num_getD h p)
theorem negX_num {xs : List Int} {c i : Nat} (h : xs.all numB = true) : (negX xs c i).all numB = true := updTo_num h fun k _ => numB_neg (num_at h _)
theorem ngS_ok {r c t j : Nat} {s : TwoL} (h : OKs r c s) : OKs r c (ngS r c t j s) := by
  unfold ngS
  split
  · exact ⟨updTo_len.trans h.1, updTo_len.trans h.2.1, negX_num h.2.2.1, negX_num h.2.2.2⟩
  · exact h
theorem leastTo_some {xs : List Int} {c t j : Nat} : ∀ {n p : Nat}, leastTo xs c t j n = some p → (t ≤ p ∧ p < t + n) ∧ xs.getD (p * c + j) 0 ≠ 0
  | 0, _, h => by cases h
  | n + 1, p, h => by
    simp only [leastTo] at h
    split at h
    · split at h
      · rename_i h0
        cases h; exact ⟨⟨by omega, by omega⟩, h0⟩
      · cases h
    · rename_i b hb
      obtain ⟨h1, h2⟩ := leastTo_some hb
      split at h
      · rename_i h0
        cases h; exact ⟨⟨by omega, by omega⟩, h0.1⟩
      · cases h; exact ⟨⟨by omega, by omega⟩, h2⟩
theorem leastTo_none {xs : List Int} {c t j : Nat} : ∀ {n : Nat}, leastTo xs c t j n = none → ∀ i, i < n → xs.getD ((t + i) * c + j) 0 = 0
  | 0, _, i, hi => by omega
  | n + 1, h, i, hi => by
    simp only [leastTo] at h
    split at h
    · rename_i hn
      split at h
      · cases h
      · rename_i h0
        rcases Nat.lt_or_ge i n with e | e
        · exact leastTo_none hn i e
        · obtain rfl : i = n := by omega
          exact Decidable.not_not.1 h0
    · split at h <;> cases h
theorem leastTo_le {xs : List Int} {c t j : Nat} : ∀ {n p : Nat}, leastTo xs c t j n = some p → ∀ i, i < n → xs.getD ((t + i) * c + j) 0 ≠ 0 → (xs.getD (p * c + j) 0).natAbs ≤ (xs.getD ((t + i) * c + j) 0).natAbs
  | 0, _, h, _, _, _ => by cases h
  | n + 1, p, h, i, hi, h0 => by
    simp only [leastTo] at h
    split at h
    · rename_i hn
      split at h
      · cases h
        rcases Nat.lt_or_ge i n with e | e
        · exact absurd (leastTo_none hn i e) h0
        · obtain rfl : i = n := by omega
          exact Nat.le_refl _
      · cases h
    · rename_i b hb
      have ih := fun i hi => leastTo_le hb i hi
      split at h
      · rename_i hc
        cases h
        rcases Nat.lt_or_ge i n with e | e
        · exact Nat.le_trans (Nat.le_of_lt hc.2) (ih i e h0)
        · obtain rfl : i = n := by omega
          exact Nat.le_refl _
      · rename_i hc
        cases h
        rcases Nat.lt_or_ge i n with e | e
        · exact ih i e h0
        · obtain rfl : i = n := by omega
          exact Nat.le_of_not_lt fun hlt => hc ⟨h0, hlt⟩
theorem redCol_ok {r c t j : Nat} {s : TwoL} {p : Nat} {s' : TwoL} {p' : Nat} (h : OKs r c s) (he : redCol r c t j s p = some (s', p')) : OKs r c s' := by
  rw [redCol] at he
  split at he
  · cases he; exact h
  · split at he
    · cases he
    · rename_i s1 h1
      have o1 := rndTo_ok h h1
      split at he
      · cases he; exact o1
      · split at he
        · exact redCol_ok o1 he
        · cases he; exact o1
  termination_by (s.1.getD (p * c + j) 0).natAbs
theorem hCol_ok {r c j : Nat} {st st' : TwoL × Nat} (h : OKs r c st.1) (ht : st.2 ≤ r) (he : hCol r c j st = some st') : OKs r c st'.1 ∧ st'.2 ≤ r ∧ st'.2 ≤ st.2 + 1 := by
  unfold hCol at he
  split at he
  · split at he
    · cases he; exact ⟨h, ht, by omega⟩
    · split at he
      · cases he
      · rename_i s1 p1 h1
        simp only [Option.map_eq_some_iff] at he
        obtain ⟨s2, h2, rfl⟩ := he
        exact ⟨topTo_ok (ngS_ok (swS_ok (redCol_ok h h1))) h2, by dsimp only; omega, by dsimp only; omega⟩
  · cases he; exact ⟨h, ht, by omega⟩
theorem hTo_ok {r c : Nat} {s : TwoL} (h : OKs r c s) : ∀ {j : Nat} {st : TwoL × Nat}, hTo r c s j = some st → OKs r c st.1 ∧ st.2 ≤ r ∧ st.2 ≤ j
  | 0, _, he => by cases he; exact ⟨h, Nat.zero_le _, Nat.le_refl _⟩
  | j + 1, _, he => by
    simp only [hTo, Option.bind_eq_some_iff] at he
    obtain ⟨x, h1, h2⟩ := he
    obtain ⟨o1, o2, o3⟩ := hTo_ok h h1
    obtain ⟨q1, q2, q3⟩ := hCol_ok o1 o2 h2
    exact ⟨q1, q2, by omega⟩
theorem hTo_none {r c : Nat} {s : TwoL} {j : Nat} (h : hTo r c s j = none) : ∀ m, hTo r c s (j + m) = none
  | 0 => h
  | m + 1 => by rw [← Nat.add_assoc, hTo, hTo_none h m]; rfl
theorem rndTo_none {r c t p j : Nat} {s : TwoL} {n : Nat} (h : rndTo r c t p j s n = none) : ∀ m, rndTo r c t p j s (n + m) = none
  | 0 => h
  | m + 1 => by rw [← Nat.add_assoc, rndTo, rndTo_none h m]; rfl
theorem topTo_none {r c t j : Nat} {s : TwoL} {n : Nat} (h : topTo r c t j s n = none) : ∀ m, topTo r c t j s (n + m) = none
  | 0 => h
  | m + 1 => by rw [← Nat.add_assoc, topTo, topTo_none h m]; rfl
theorem none_le {α : Type} {f : Nat → Option α} (hf : ∀ n, f n = none → ∀ m, f (n + m) = none) {n N : Nat} (hn : n ≤ N) (h : f n = none) : f N = none := by
  have := hf n h (N - n)
  rwa [show n + (N - n) = N by omega] at this
theorem hTo_full {r c : Nat} {s : TwoL} {j : Nat} {st : TwoL × Nat} (he : hTo r c s j = some st) (ht : r ≤ st.2) : ∀ m, hTo r c s (j + m) = some st
  | 0 => he
  | m + 1 => by rw [← Nat.add_assoc, hTo, hTo_full he ht m, Option.bind_some, hCol, if_neg (by omega)]
theorem updTo_in {xs : List Int} {off : Nat} {f : Nat → Int → Int} {p : Nat} : ∀ {k : Nat}, p < k → off + k ≤ xs.length → (updTo xs off f k).getD (off + p) 0 = f p (xs.getD (off + p) 0)
  | 0, h, _ => by omega
  | k + 1, h, hl => by
    rcases Nat.lt_or_ge p k with e | e
    · rw [updTo, List.getD_eq_getElem?_getD, List.getElem?_set_ne (by omega), ← List.getD_eq_getElem?_getD]
      exact updTo_in e (by omega)
    · obtain rfl : p = k := by omega
      rw [updTo, List.getD_eq_getElem?_getD, List.getElem?_set_self (by rw [updTo_len]; omega)]
      rfl
theorem cell_in {r c i j : Nat} (hi : i < r) (hj : j < c) : i * c + j < r * c := by
  have := row_in (c := c) hi
  omega
theorem addX_row {xs : List Int} {r c i j k : Nat} {q : Int} (hl : xs.length = r * c) (hi : i < r) (hk : k < c) : (addX xs c i j q).getD (i * c + k) 0 = xs.getD (i * c + k) 0 + xs.getD (j * c + k) 0 * q :=
  updTo_in hk (by have := row_in (c := c) hi; omega)
theorem addX_other {xs : List Int} {c i i' j k : Nat} {q : Int} (hi : i' ≠ i) (hk : k < c) : (addX xs c i j q).getD (i' * c + k) 0 = xs.getD (i' * c + k) 0 :=
  updTo_at (by have := row_apart (c := c) hi; omega)
theorem rndAt_cells {r c p j i : Nat} {s s' : TwoL} (h : OKs r c s) (hi : i < r) (hj : j < c) (hp : s.1.getD (p * c + j) 0 ≠ 0) (he : rndAt r c p j i s = some s') :
    (∀ i', i' ≠ i → s'.1.getD (i' * c + j) 0 = s.1.getD (i' * c + j) 0) ∧ (i ≠ p → (s'.1.getD (i * c + j) 0).natAbs < (s.1.getD (p * c + j) 0).natAbs) ∧ (i = p → s'.1.getD (i * c + j) 0 = s.1.getD (i * c + j) 0) := by
  unfold rndAt addS at he
  split at he
  · rename_i hc
    split at he
    · cases he
      refine ⟨fun i' hi' => addX_other hi' hj, fun _ => ?_, fun e => absurd e hc.1⟩
      dsimp only
      rw [addX_row h.1 hi hj]
      generalize s.1.getD (i * c + j) 0 = a
      generalize s.1.getD (p * c + j) 0 = d at *
      have e : a + d * -(a / d) = a % d := by rw [Int.emod_def, Int.mul_neg]; omega
      rw [e]
      have h1 := Int.emod_nonneg a hp
      have h2 := Int.emod_lt a hp
      omega
    · cases he
  · rename_i hc
    cases he
    refine ⟨fun _ _ => rfl, fun e => ?_, fun _ => rfl⟩
    have h0 : s.1.getD (i * c + j) 0 = 0 := by
      by_cases h0 : s.1.getD (i * c + j) 0 = 0
      · exact h0
      · exact absurd ⟨e, h0⟩ hc
    rw [h0]
    omega
theorem rndTo_cells {r c t p j : Nat} {s : TwoL} (h : OKs r c s) (hj : j < c) (hp : s.1.getD (p * c + j) 0 ≠ 0) : ∀ {n : Nat} {s' : TwoL}, t + n ≤ r → rndTo r c t p j s n = some s' →
    s'.1.getD (p * c + j) 0 = s.1.getD (p * c + j) 0 ∧ ∀ i, i < n → t + i ≠ p → (s'.1.getD ((t + i) * c + j) 0).natAbs < (s.1.getD (p * c + j) 0).natAbs
  | 0, s', _, he => by cases he; exact ⟨rfl, fun i hi => by omega⟩
  | n + 1, s', hn, he => by
    simp only [rndTo, Option.bind_eq_some_iff] at he
    obtain ⟨x, h1, h2⟩ := he
    obtain ⟨i1, i2⟩ := rndTo_cells h hj hp (by omega) h1
    obtain ⟨k1, k2, k3⟩ := rndAt_cells (rndTo_ok h h1) (by omega) hj (by rw [i1]; exact hp) h2
    refine ⟨?_, fun i hi hip => ?_⟩
    · by_cases e : t + n = p
      · rw [← i1, ← e]; exact k3 e
      · rw [← i1]; exact k1 p (Ne.symm e)
    · rcases Nat.lt_or_ge i n with e | e
      · rw [k1 (t + i) (by omega)]; exact i2 i e hip
      · obtain rfl : i = n := by omega
        rw [← i1]; exact k2 hip
theorem rnd_less {r c t p j : Nat} {s s' : TwoL} (h : OKs r c s) (hj : j < c) (hp : s.1.getD (p * c + j) 0 ≠ 0) (ht : t ≤ r) (htp : t ≤ p ∧ p < r) (he : rndTo r c t p j s (r - t) = some s') (hna : ¬ alone s'.1 c t j p (r - t)) :
    ∃ p', leastTo s'.1 c t j (r - t) = some p' ∧ (s'.1.getD (p' * c + j) 0).natAbs < (s.1.getD (p * c + j) 0).natAbs := by
  obtain ⟨h1, h2⟩ := rndTo_cells h hj hp (by omega) he
  simp only [alone, Classical.not_forall] at hna
  obtain ⟨i, hi, hip, h0⟩ := hna
  cases hl : leastTo s'.1 c t j (r - t) with
  | none => exact absurd (leastTo_none hl i hi) h0
  | some p' => exact ⟨p', rfl, Nat.lt_of_le_of_lt (leastTo_le hl i hi h0) (h2 i hi hip)⟩
theorem least_alone {xs : List Int} {c t j p n : Nat} (h : alone xs c t j p n) (hp : t ≤ p ∧ p < t + n) (h0 : xs.getD (p * c + j) 0 ≠ 0) : leastTo xs c t j n = some p := by
  cases hl : leastTo xs c t j n with
  | none =>
    have := leastTo_none hl (p - t) (by omega)
    rw [show t + (p - t) = p by omega] at this
    exact absurd this h0
  | some b =>
    obtain ⟨⟨h1, h2⟩, h3⟩ := leastTo_some hl
    by_cases e : b = p
    · rw [e]
    · have := h (b - t) (by omega) (by omega)
      rw [show t + (b - t) = b by omega] at this
      exact absurd this h3
def colM (r c t j : Nat) (s : TwoL) (p : Nat) : Nat := 2 * (s.1.getD (p * c + j) 0).natAbs + if alone s.1 c t j p (r - t) then 0 else 1
theorem red_step {r c t p j : Nat} {s s' : TwoL} (h : OKs r c s) (hj : j < c) (hp : s.1.getD (p * c + j) 0 ≠ 0) (htp : t ≤ p ∧ p < r) (hna : ¬ alone s.1 c t j p (r - t)) (he : rndTo r c t p j s (r - t) = some s') :
    ∃ p', leastTo s'.1 c t j (r - t) = some p' ∧ redCol r c t j s p = redCol r c t j s' p' ∧ colM r c t j s' p' < colM r c t j s p := by
  have hcell := (rndTo_cells h hj hp (show t + (r - t) ≤ r by omega) he).1
  by_cases ha : alone s'.1 c t j p (r - t)
  · have hl := least_alone ha (by omega) (by rw [hcell]; exact hp)
    refine ⟨p, hl, ?_, ?_⟩
    · rw [redCol, if_neg hna, he]
      dsimp only
      rw [hl]
      dsimp only
      rw [if_neg (by rw [hcell]; omega), redCol, if_pos ha]
    · unfold colM
      rw [if_pos ha, if_neg hna, hcell]; omega
  · obtain ⟨p', hl, hlt⟩ := rnd_less h hj hp (by omega) htp he ha
    refine ⟨p', hl, ?_, ?_⟩
    · conv => lhs; rw [redCol]
      rw [if_neg hna, he]
      dsimp only
      rw [hl]
      dsimp only
      rw [if_pos hlt]
    · unfold colM
      rw [if_neg hna]
      split <;> omega
theorem red_bad {r c t p j : Nat} {s : TwoL} (hna : ¬ alone s.1 c t j p (r - t)) (he : rndTo r c t p j s (r - t) = none) : redCol r c t j s p = none := by
  rw [redCol, if_neg hna, he]
theorem red_done {r c t p j : Nat} {s : TwoL} (ha : alone s.1 c t j p (r - t)) : redCol r c t j s p = some (s, p) := by rw [redCol, if_pos ha]
def hermO (r c : Int) (xs : List Int) : Option TwoL := if isM r c xs then (hTo r.toNat c.toNat (xs, idTo r.toNat r.toNat) c.toNat).map (·.1) else none
def badN : Int := -4611686018427387904
def fitV (n : Int) : Int := if numB n then n else badN
def mulV (a b : Int) : Int := if a = badN ∨ b = badN then badN else fitV (a * b)
def addV (a b : Int) : Int := if a = badN ∨ b = badN then badN else fitV (a + b)
def GB (n : Int) : Prop := (-400000000 ≤ n ∧ n ≤ 400000000) ∨ n = badN
theorem GB.fit (n : Int) : GB (fitV n) := by
  unfold fitV
  split
  · rename_i h; exact .inl (numB_true.1 h)
  · exact .inr rfl
theorem GB.mul (a b : Int) : GB (mulV a b) := by
  unfold mulV
  split
  · exact .inr rfl
  · exact GB.fit _
theorem GB.add (a b : Int) : GB (addV a b) := by
  unfold addV
  split
  · exact .inr rfl
  · exact GB.fit _
def GBs (xs : List Int) : Prop := ∀ p : Nat, GB (xs.getD p 0)
theorem getD_set {xs : List Int} {p i : Nat} {v : Int} : (xs.set i v).getD p 0 = if p = i ∧ i < xs.length then v else xs.getD p 0 := by
  simp only [List.getD_eq_getElem?_getD, List.getElem?_set]
  by_cases h : i = p
  · subst h
    by_cases h2 : i < xs.length
    · simp [h2]
    · simp [h2]
  · simp [h, Ne.symm h]
theorem GBs.set {xs : List Int} {i : Nat} {v : Int} (h : GBs xs) (hv : GB v) : GBs (xs.set i v) := fun p => by
  rw [getD_set]
  split
  · exact hv
  · exact h p
theorem GBs.upd {xs : List Int} {off : Nat} {f : Nat → Int → Int} (h : GBs xs) (hf : ∀ k v, GB (f k v)) : ∀ n, GBs (updTo xs off f n)
  | 0 => h
  | n + 1 => (GBs.upd h hf n).set (hf _ _)
theorem GBs.swap {xs : List Int} {o1 o2 : Nat} (h : GBs xs) : ∀ n, GBs (swapTo xs o1 o2 n)
  | 0 => h
  | n + 1 => ((GBs.swap h n).set (h _)).set (h _)
theorem GBs.num {xs : List Int} (h : xs.all numB = true) : GBs xs := fun p => .inl (num_getD h p)
def doF (xs : List Int) (c j : Nat) (q : Int) (k : Nat) (v : Int) : Int := addV v (mulV (xs.getD (j * c + k) 0) q)
def doX (xs : List Int) (c i j : Nat) (q : Int) : List Int := updTo xs (i * c) (doF xs c j q) c
def ngX (xs : List Int) (c i : Nat) : List Int := updTo xs (i * c) (fun _ v => mulV v (-1)) c
def dfQ (n d : Int) : Int := if numB n = true ∧ numB d = true ∧ d ≠ 0 then n / d else 0
theorem updTo_congr {xs : List Int} {off : Nat} {f g : Nat → Int → Int} : ∀ {n : Nat}, (∀ k, k < n → f k (xs.getD (off + k) 0) = g k (xs.getD (off + k) 0)) → updTo xs off f n = updTo xs off g n
  | 0, _ => rfl
  | n + 1, h => by rw [updTo, updTo, updTo_congr fun k hk => h k (by omega), h n (by omega)]
theorem numB_bad : numB badN = false := by rfl
theorem num_ne {v : Int} (h : numB v = true) : v ≠ badN := fun e => by rw [e, numB_bad] at h; cases h
theorem doF_ok {xs : List Int} {c i j k : Nat} {q : Int} (hx : xs.all numB = true) (hq : q ≠ badN) (h1 : numB (xs.getD (j * c + k) 0 * q) = true) (h2 : numB (addF xs c j q k (xs.getD (i * c + k) 0)) = true) : doF xs c j q k (xs.getD (i * c + k) 0) = addF xs c j q k (xs.getD (i * c + k) 0) := by
  have n1 := num_ne (num_at hx (j * c + k))
  have n2 := num_ne (num_at hx (i * c + k))
  have n3 := num_ne h1
  unfold addF at h2
  unfold doF addF
  generalize xs.getD (j * c + k) 0 = b at *
  generalize xs.getD (i * c + k) 0 = a at *
  simp [mulV, addV, fitV, n1, n2, n3, hq, h1, h2]
theorem doX_ok {xs : List Int} {c i j : Nat} {q : Int} (hx : xs.all numB = true) (hq : q ≠ badN) (h : addOK xs c i j q c = true) : doX xs c i j q = addX xs c i j q :=
  updTo_congr fun k hk => doF_ok hx hq (addOK_at h k hk).1 (addOK_at h k hk).2
theorem addOK_no {xs : List Int} {c i j : Nat} {q : Int} : ∀ {n : Nat}, addOK xs c i j q n = false → ∃ k, k < n ∧ ¬ (numB (xs.getD (j * c + k) 0 * q) = true ∧ numB (addF xs c j q k (xs.getD (i * c + k) 0)) = true)
  | 0, h => by cases h
  | n + 1, h => by
    cases h0 : addOK xs c i j q n
    · obtain ⟨k, h1, h2⟩ := addOK_no h0
      exact ⟨k, by omega, h2⟩
    · refine ⟨n, by omega, fun hb => ?_⟩
      rw [addOK, h0, hb.1, hb.2] at h
      cases h
theorem doX_at {xs : List Int} {r c i j k : Nat} {q : Int} (hl : xs.length = r * c) (hi : i < r) (hk : k < c) : (doX xs c i j q).getD (i * c + k) 0 = doF xs c j q k (xs.getD (i * c + k) 0) :=
  updTo_in hk (by have := row_in (c := c) hi; omega)
def hasB (xs : List Int) : Prop := ∃ p : Nat, xs.getD p 0 = badN
theorem hasB_mem {xs : List Int} : hasB xs ↔ badN ∈ xs := by
  constructor
  · rintro ⟨p, hp⟩
    rw [List.getD_eq_getElem?_getD] at hp
    rcases Nat.lt_or_ge p xs.length with h | h
    · rw [List.getElem?_eq_getElem h] at hp
      have hp' : xs[p] = badN := hp
      rw [← hp']; exact List.getElem_mem h
    · rw [List.getElem?_eq_none h] at hp; cases hp
  · intro h
    obtain ⟨p, hp, he⟩ := List.getElem_of_mem h
    exact ⟨p, by simp [hp, he]⟩
theorem num_hasB {xs : List Int} (h : xs.all numB = true) : ¬ hasB xs := fun ⟨p, hp⟩ => num_ne (num_at h p) hp
theorem doX_bad {xs : List Int} {r c i j : Nat} {q : Int} (hl : xs.length = r * c) (hi : i < r) (hx : xs.all numB = true) (hq : q ≠ badN) (h : ¬ addOK xs c i j q c = true) : hasB (doX xs c i j q) := by
  obtain ⟨k, hk, hb⟩ := addOK_no (by simpa using h)
  refine ⟨i * c + k, ?_⟩
  rw [doX_at hl hi hk]
  have n1 := num_ne (num_at hx (j * c + k))
  have n2 := num_ne (num_at hx (i * c + k))
  unfold addF at hb
  unfold doF addV
  generalize xs.getD (j * c + k) 0 = b at *
  generalize xs.getD (i * c + k) 0 = a at *
  by_cases h1 : numB (b * q) = true
  · have h2 : ¬ numB (a + b * q) = true := fun h2 => hb ⟨h1, h2⟩
    have n3 := num_ne h1
    simp [mulV, fitV, n1, n2, n3, hq, h1, h2]
  · simp [mulV, fitV, n1, n2, hq, h1]
theorem upd_keep {xs : List Int} {off : Nat} {f : Nat → Int → Int} (hf : ∀ k, f k badN = badN) : ∀ {n : Nat}, off + n ≤ xs.length → hasB xs → hasB (updTo xs off f n) := fun {n} hn ⟨p, hp⟩ => by
  refine ⟨p, ?_⟩
  by_cases h : p < off ∨ off + n ≤ p
  · rw [updTo_at h, hp]
  · have e : p = off + (p - off) := by omega
    rw [e, updTo_in (by omega) hn, ← e, hp, hf]
theorem doX_keep {xs : List Int} {r c i j : Nat} {q : Int} (hl : xs.length = r * c) (hi : i < r) (h : hasB xs) : hasB (doX xs c i j q) :=
  upd_keep (fun k => by simp [doF, addV]) (by have := row_in (c := c) hi; omega) h
def SpS (r c : Nat) (o : Option TwoL) (s : TwoL) : Prop := s.1.length = r * c ∧ s.2.length = r * r ∧ GBs s.1 ∧ GBs s.2 ∧ match o with
  | some x => s = x ∧ s.1.all numB = true ∧ s.2.all numB = true
  | none => hasB s.1 ∨ hasB s.2
theorem SpS.of {r c : Nat} {s : TwoL} (h : OKs r c s) : SpS r c (some s) s := ⟨h.1, h.2.1, GBs.num h.2.2.1, GBs.num h.2.2.2, rfl, h.2.2.1, h.2.2.2⟩
theorem SpS.ok {r c : Nat} {o : Option TwoL} {s : TwoL} (h : SpS r c o s) (hb : ¬ (hasB s.1 ∨ hasB s.2)) : o = some s ∧ OKs r c s := by
  obtain ⟨h1, h2, h3, h4, h5⟩ := h
  cases o with
  | none => exact absurd h5 hb
  | some x => exact ⟨congrArg some h5.1.symm, h1, h2, h5.2.1, h5.2.2⟩
theorem SpS.bad {r c : Nat} {o : Option TwoL} {s : TwoL} (h : SpS r c o s) (hb : hasB s.1 ∨ hasB s.2) : o = none := by
  obtain ⟨h1, h2, h3, h4, h5⟩ := h
  cases o with
  | none => rfl
  | some x => rcases hb with b | b
              · exact absurd b (num_hasB h5.2.1)
              · exact absurd b (num_hasB h5.2.2)
theorem SpS.add {r c i j : Nat} {q : Int} {o : Option TwoL} {s : TwoL} (h : SpS r c o s) (hi : i < r) (hq : q ≠ badN) : SpS r c (o.bind (addS c r i j q)) (doX s.1 c i j q, doX s.2 r i j q) := by
  obtain ⟨h1, h2, h3, h4, h5⟩ := h
  refine ⟨updTo_len.trans h1, updTo_len.trans h2, h3.upd (fun _ _ => GB.add _ _) _, h4.upd (fun _ _ => GB.add _ _) _, ?_⟩
  cases o with
  | none =>
    rcases h5 with b | b
    · exact .inl (doX_keep h1 hi b)
    · exact .inr (doX_keep h2 hi b)
  | some x =>
    obtain ⟨rfl, n1, n2⟩ := h5
    simp only [Option.bind_some, addS]
    by_cases k1 : addOK s.1 c i j q c = true
    · by_cases k2 : addOK s.2 r i j q r = true
      · rw [if_pos ⟨k1, k2⟩]
        dsimp only
        rw [doX_ok n1 hq k1, doX_ok n2 hq k2]
        exact ⟨rfl, addX_num n1 k1, addX_num n2 k2⟩
      · rw [if_neg fun h => k2 h.2]
        exact .inr (doX_bad h2 hi n2 hq k2)
    · rw [if_neg fun h => k1 h.1]
      exact .inl (doX_bad h1 hi n1 hq k1)
theorem dfQ_ne (n d : Int) : dfQ n d ≠ badN ∧ -dfQ n d ≠ badN := by
  unfold dfQ badN
  split
  · rename_i h
    have h1 := numB_true.1 h.1
    have h2 := Int.ediv_mul_le n h.2.2
    have h3 := Int.natAbs_ediv_le_natAbs n d
    omega
  · constructor <;> decide
theorem SpS.rnd {r c t p j n : Nat} {s0 s : TwoL} (h0 : OKs r c s0) (hj : j < c) (hp : s0.1.getD (p * c + j) 0 ≠ 0) (hn : t + n < r) (h : SpS r c (rndTo r c t p j s0 n) s) :
    (¬ (t + n ≠ p ∧ s.1.getD ((t + n) * c + j) 0 ≠ 0) → SpS r c (rndTo r c t p j s0 (n + 1)) s) ∧ (t + n ≠ p ∧ s.1.getD ((t + n) * c + j) 0 ≠ 0 → SpS r c (rndTo r c t p j s0 (n + 1)) (doX s.1 c (t + n) p (-dfQ (s.1.getD ((t + n) * c + j) 0) (s.1.getD (p * c + j) 0)), doX s.2 r (t + n) p (-dfQ (s.1.getD ((t + n) * c + j) 0) (s.1.getD (p * c + j) 0)))) := by
  cases ho : rndTo r c t p j s0 n with
  | none =>
    rw [ho] at h
    have e : rndTo r c t p j s0 (n + 1) = none := by rw [rndTo, ho]; rfl
    rw [e]
    exact ⟨fun _ => h, fun _ => SpS.add (o := none) h hn (dfQ_ne _ _).2⟩
  | some x =>
    have hc := (rndTo_cells h0 hj hp (by omega) ho).1
    have e : rndTo r c t p j s0 (n + 1) = rndAt r c p j (t + n) x := by rw [rndTo, ho]; rfl
    rw [ho] at h
    obtain ⟨h1, h2, h3, h4, rfl, n1, n2⟩ := h
    rw [e]
    refine ⟨fun hk => ?_, fun hk => ?_⟩
    · rw [rndAt, if_neg hk]
      exact ⟨h1, h2, h3, h4, rfl, n1, n2⟩
    · rw [rndAt, if_pos hk]
      have eq : dfQ (s.1.getD ((t + n) * c + j) 0) (s.1.getD (p * c + j) 0) = s.1.getD ((t + n) * c + j) 0 / s.1.getD (p * c + j) 0 := if_pos ⟨num_at n1 _, num_at n1 _, by rw [hc]; exact hp⟩
      have := SpS.add (o := some s) (i := t + n) (j := p) (q := -dfQ (s.1.getD ((t + n) * c + j) 0) (s.1.getD (p * c + j) 0)) ⟨h1, h2, h3, h4, rfl, n1, n2⟩ hn (dfQ_ne _ _).2
      rw [Option.bind_some] at this
      rw [← eq]
      exact this
theorem topTo_cells {r c t j : Nat} {s : TwoL} (h : OKs r c s) (hj : j < c) (ht : t < r) : ∀ {n : Nat} {s' : TwoL}, n ≤ t → topTo r c t j s n = some s' → s'.1.getD (t * c + j) 0 = s.1.getD (t * c + j) 0
  | 0, s', _, he => by cases he; rfl
  | n + 1, s', hn, he => by
    simp only [topTo, Option.bind_eq_some_iff] at he
    obtain ⟨x, h1, h2⟩ := he
    have ih := topTo_cells h hj ht (by omega) h1
    unfold topAt addS at h2
    split at h2
    · cases h2
      rw [← ih]
      exact addX_other (by omega) hj
    · cases h2
theorem SpS.top {r c t j n : Nat} {s0 s : TwoL} (h0 : OKs r c s0) (hj : j < c) (ht : t < r) (hp : s0.1.getD (t * c + j) 0 ≠ 0) (hn : n < t) (h : SpS r c (topTo r c t j s0 n) s) :
    SpS r c (topTo r c t j s0 (n + 1)) (doX s.1 c n t (-dfQ (s.1.getD (n * c + j) 0) (s.1.getD (t * c + j) 0)), doX s.2 r n t (-dfQ (s.1.getD (n * c + j) 0) (s.1.getD (t * c + j) 0))) := by
  cases ho : topTo r c t j s0 n with
  | none =>
    rw [ho] at h
    have e : topTo r c t j s0 (n + 1) = none := by rw [topTo, ho]; rfl
    rw [e]
    exact SpS.add (o := none) h (by omega) (dfQ_ne _ _).2
  | some x =>
    have hc := topTo_cells h0 hj ht (by omega) ho
    have e : topTo r c t j s0 (n + 1) = topAt r c t j n x := by rw [topTo, ho]; rfl
    rw [ho] at h
    obtain ⟨h1, h2, h3, h4, rfl, n1, n2⟩ := h
    rw [e, topAt]
    have eq : dfQ (s.1.getD (n * c + j) 0) (s.1.getD (t * c + j) 0) = s.1.getD (n * c + j) 0 / s.1.getD (t * c + j) 0 := if_pos ⟨num_at n1 _, num_at n1 _, by rw [hc]; exact hp⟩
    have := SpS.add (o := some s) (i := n) (j := t) (q := -dfQ (s.1.getD (n * c + j) 0) (s.1.getD (t * c + j) 0)) ⟨h1, h2, h3, h4, rfl, n1, n2⟩ (by omega) (dfQ_ne _ _).2
    rw [Option.bind_some] at this
    rw [← eq]
    exact this
theorem mulV_neg {v : Int} (h : numB v = true) : mulV v (-1) = -v := by
  have := numB_neg h
  have e : v * -1 = -v := by omega
  simp only [mulV, fitV, num_ne h, false_or]
  rw [if_neg (by decide), e, if_pos this]
theorem ngX_ok {xs : List Int} {c i : Nat} (h : xs.all numB = true) : ngX xs c i = negX xs c i := updTo_congr fun k _ => mulV_neg (num_at h _)
end Go.Proofs.YtekpamojojfplaaGreat
