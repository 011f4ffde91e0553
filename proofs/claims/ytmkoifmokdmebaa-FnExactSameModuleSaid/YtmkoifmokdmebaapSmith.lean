/-
  PLAIN LAW: the Smith form of a matrix, as both packages make it; numbers beyond the limit end it.
-/
import Derived.Test.YtmkoifmokdmebaapHerm2
import Derived.Test.YtmkoifmokdmebaabTurn
set_option linter.unusedVariables false
set_option linter.unusedSimpArgs false
namespace Go.Proofs.Ytmkoifmokdmebaa

/-! Rows and columns changed for each other. -/
theorem trX_at {xs : List Int} {r c i j : Nat} (hi : i < r) (hj : j < c) : (turnM xs r c).getD (j * r + i) 0 = xs.getD (i * c + j) 0 := by
  have h1 : j * r + i < c * r := cell_in hj hi
  have h2 : (j * r + i) % r = i := by rw [Nat.add_comm, Nat.add_mul_mod_self_right, Nat.mod_eq_of_lt hi]
  have h3 : (j * r + i) / r = j := by rw [Nat.add_comm, Nat.add_mul_div_right _ _ (by omega), Nat.div_eq_of_lt hi, Nat.zero_add]
  unfold turnM
  rw [List.getD_eq_getElem?_getD, List.getElem?_map, List.getElem?_range h1]
  simp only [Option.map_some, Option.getD_some, h2, h3]
theorem cells_ext {r c : Nat} {xs ys : List Int} (hx : xs.length = r * c) (hy : ys.length = r * c) (h : ∀ i j, i < r → j < c → xs.getD (i * c + j) 0 = ys.getD (i * c + j) 0) : xs = ys := by
  apply List.ext_getElem (hx.trans hy.symm)
  intro p h1 h2
  have hp : p < r * c := by omega
  have hc : 0 < c := by
    rcases Nat.eq_zero_or_pos c with h0 | h0
    · rw [h0, Nat.mul_zero] at hp; omega
    · exact h0
  have e : p / c * c + p % c = p := Nat.div_add_mod' p c
  have := h (p / c) (p % c) ((Nat.div_lt_iff_lt_mul hc).2 hp) (Nat.mod_lt _ hc)
  rw [e] at this
  simpa [List.getD_eq_getElem?_getD, h1, h2] using this
theorem trX_tr {xs : List Int} {r c : Nat} (h : xs.length = r * c) : turnM (turnM xs r c) c r = xs :=
  cells_ext turnM_len h fun i j hi hj => by rw [trX_at hj hi, trX_at hi hj]
theorem trX_num {xs : List Int} {r c : Nat} (h : xs.all numB = true) : (turnM xs r c).all numB = true := by
  unfold turnM
  rw [List.all_map, List.all_eq_true]
  exact fun p _ => num_at h _

/-! Operations. -/
abbrev S3 := List Int × List Int × List Int
structure OK3 (r c : Nat) (s : S3) : Prop where
  x : s.1.length = r * c
  u : s.2.1.length = r * r
  v : s.2.2.length = c * c
  nx : s.1.all numB = true
  nu : s.2.1.all numB = true
  nv : s.2.2.all numB = true
theorem OK3.row {r c : Nat} {s : S3} (h : OK3 r c s) : OKs r c (s.1, s.2.1) := ⟨h.x, h.u, h.nx, h.nu⟩
theorem OK3.col {r c : Nat} {s : S3} (h : OK3 r c s) : turnM (turnM s.1 r c) c r = s.1 := trX_tr h.x
def row3 (r c i j : Nat) (q : Int) (s : S3) : Option S3 := (addS c r i j q (s.1, s.2.1)).map fun y => (y.1, y.2, s.2.2)
def colOK (r c i j : Nat) (q : Int) (s : S3) : Prop := addOK (turnM s.1 r c) r i j q r = true ∧ addOK (turnM s.2.2 c c) c i j q c = true
instance {r c i j : Nat} {q : Int} {s : S3} : Decidable (colOK r c i j q s) := by unfold colOK; infer_instance
def col3 (r c i j : Nat) (q : Int) (s : S3) : Option S3 := if colOK r c i j q s then some (turnM (addX (turnM s.1 r c) r i j q) c r, s.2.1, turnM (addX (turnM s.2.2 c c) c i j q) c c) else none
theorem row3_cells {r c i j : Nat} {q : Int} {s s' : S3} (h : OK3 r c s) (hi : i < r) (he : row3 r c i j q s = some s') :
    OK3 r c s' ∧ (∀ k, k < c → s'.1.getD (i * c + k) 0 = s.1.getD (i * c + k) 0 + s.1.getD (j * c + k) 0 * q) ∧ ∀ i' k, i' ≠ i → k < c → s'.1.getD (i' * c + k) 0 = s.1.getD (i' * c + k) 0 := by
  simp only [row3, Option.map_eq_some_iff] at he
  obtain ⟨y, hy, rfl⟩ := he
  have o := addS_ok h.row hy
  refine ⟨⟨o.1, o.2.1, h.v, o.2.2.1, o.2.2.2, h.nv⟩, ?_⟩
  unfold addS at hy
  split at hy
  · cases hy
    exact ⟨fun k hk => addX_row h.x hi hk, fun i' k hi' hk => addX_other hi' hk⟩
  · cases hy
theorem colX_cells {r c i j k l : Nat} {q : Int} {xs : List Int} (hi : i < c) (hj : j < c) (hk : k < r) (hl : l < c) :
    (turnM (addX (turnM xs r c) r i j q) c r).getD (k * c + l) 0 = if l = i then xs.getD (k * c + i) 0 + xs.getD (k * c + j) 0 * q else xs.getD (k * c + l) 0 := by
  rw [trX_at hl hk]
  split
  · rename_i e
    rw [e, addX_row turnM_len hi hk, trX_at hk hi, trX_at hk hj]
  · rename_i e
    rw [addX_other e hk, trX_at hk hl]
theorem col3_cells {r c i j : Nat} {q : Int} {s s' : S3} (h : OK3 r c s) (hi : i < c) (hj : j < c) (he : col3 r c i j q s = some s') :
    OK3 r c s' ∧ (∀ k, k < r → s'.1.getD (k * c + i) 0 = s.1.getD (k * c + i) 0 + s.1.getD (k * c + j) 0 * q) ∧ ∀ i' k, i' ≠ i → i' < c → k < r → s'.1.getD (k * c + i') 0 = s.1.getD (k * c + i') 0 := by
  unfold col3 at he
  split at he
  · rename_i hc
    cases he
    refine ⟨⟨turnM_len, h.u, turnM_len, trX_num (addX_num (trX_num h.nx) hc.1), h.nu, trX_num (addX_num (trX_num h.nv) hc.2)⟩, fun k hk => ?_, fun i' k hi' hc' hk => ?_⟩
    · dsimp only
      rw [colX_cells hi hj hk hi, if_pos rfl]
    · dsimp only
      rw [colX_cells hi hj hk hc', if_neg hi']
  · cases he
def rAt (r c t i : Nat) (s : S3) : Option S3 := if s.1.getD (i * c + t) 0 ≠ 0 then row3 r c i t (-(s.1.getD (i * c + t) 0 / s.1.getD (t * c + t) 0)) s else some s
def cAt (r c t j : Nat) (s : S3) : Option S3 := if s.1.getD (t * c + j) 0 ≠ 0 then col3 r c j t (-(s.1.getD (t * c + j) 0 / s.1.getD (t * c + t) 0)) s else some s
def rTo (r c t : Nat) (s : S3) : Nat → Option S3
  | 0 => some s
  | n + 1 => (rTo r c t s n).bind (rAt r c t (t + 1 + n))
def cTo (r c t : Nat) (s : S3) : Nat → Option S3
  | 0 => some s
  | n + 1 => (cTo r c t s n).bind (cAt r c t (t + 1 + n))
theorem rTo_none {r c t : Nat} {s : S3} {n : Nat} (h : rTo r c t s n = none) : ∀ m, rTo r c t s (n + m) = none
  | 0 => h
  | m + 1 => by rw [← Nat.add_assoc, rTo, rTo_none h m]; rfl
theorem cTo_none {r c t : Nat} {s : S3} {n : Nat} (h : cTo r c t s n = none) : ∀ m, cTo r c t s (n + m) = none
  | 0 => h
  | m + 1 => by rw [← Nat.add_assoc, cTo, cTo_none h m]; rfl
theorem rem_eq (a d : Int) : a + d * -(a / d) = a % d := by rw [Int.emod_def, Int.mul_neg]; omega
theorem rAt_cells {r c t i : Nat} {s s' : S3} (h : OK3 r c s) (hi : i < r) (hit : i ≠ t) (ht : t < c) (he : rAt r c t i s = some s') :
    OK3 r c s' ∧ s'.1.getD (i * c + t) 0 = s.1.getD (i * c + t) 0 % s.1.getD (t * c + t) 0 ∧ ∀ i' k, i' ≠ i → k < c → s'.1.getD (i' * c + k) 0 = s.1.getD (i' * c + k) 0 := by
  unfold rAt at he
  split at he
  · obtain ⟨o, c1, c2⟩ := row3_cells h hi he
    exact ⟨o, by rw [c1 t ht, rem_eq], c2⟩
  · rename_i h0
    cases he
    have h0 := Decidable.not_not.1 h0
    exact ⟨h, by rw [h0, Int.zero_emod], fun _ _ _ _ => rfl⟩
theorem cAt_cells {r c t j : Nat} {s s' : S3} (h : OK3 r c s) (hj : j < c) (hit : j ≠ t) (ht : t < c) (htr : t < r) (he : cAt r c t j s = some s') :
    OK3 r c s' ∧ s'.1.getD (t * c + j) 0 = s.1.getD (t * c + j) 0 % s.1.getD (t * c + t) 0 ∧ ∀ i' k, i' ≠ j → i' < c → k < r → s'.1.getD (k * c + i') 0 = s.1.getD (k * c + i') 0 := by
  unfold cAt at he
  split at he
  · obtain ⟨o, c1, c2⟩ := col3_cells h hj ht he
    exact ⟨o, by rw [c1 t htr, rem_eq], c2⟩
  · rename_i h0
    cases he
    have h0 := Decidable.not_not.1 h0
    exact ⟨h, by rw [h0, Int.zero_emod], fun _ _ _ _ _ => rfl⟩
theorem rTo_cells {r c t : Nat} {s : S3} (h : OK3 r c s) (ht : t < c) : ∀ {n : Nat} {s' : S3}, t + 1 + n ≤ r → rTo r c t s n = some s' →
    OK3 r c s' ∧ (∀ k, k < c → s'.1.getD (t * c + k) 0 = s.1.getD (t * c + k) 0) ∧ (∀ i, i < n → s'.1.getD ((t + 1 + i) * c + t) 0 = s.1.getD ((t + 1 + i) * c + t) 0 % s.1.getD (t * c + t) 0) ∧ ∀ i k, n ≤ i → k < c → s'.1.getD ((t + 1 + i) * c + k) 0 = s.1.getD ((t + 1 + i) * c + k) 0
  | 0, s', _, he => by cases he; exact ⟨h, fun _ _ => rfl, fun i hi => by omega, fun _ _ _ _ => rfl⟩
  | n + 1, s', hn, he => by
    simp only [rTo, Option.bind_eq_some_iff] at he
    obtain ⟨x, h1, h2⟩ := he
    obtain ⟨o, c1, c2, c3⟩ := rTo_cells h ht (by omega) h1
    obtain ⟨o', d1, d2⟩ := rAt_cells o (by omega) (by omega) ht h2
    refine ⟨o', fun k hk => by rw [d2 t k (by omega) hk, c1 k hk], fun i hi => ?_, fun i k hi hk => by rw [d2 _ k (by omega) hk, c3 i k (by omega) hk]⟩
    rcases Nat.lt_or_ge i n with e | e
    · rw [d2 _ t (by omega) ht, c2 i e]
    · obtain rfl : i = n := by omega
      rw [d1, c1 t ht, c3 i t (Nat.le_refl _) ht]
theorem cTo_cells {r c t : Nat} {s : S3} (h : OK3 r c s) (ht : t < c) (htr : t < r) : ∀ {n : Nat} {s' : S3}, t + 1 + n ≤ c → cTo r c t s n = some s' →
    OK3 r c s' ∧ (∀ k, k < r → s'.1.getD (k * c + t) 0 = s.1.getD (k * c + t) 0) ∧ (∀ j, j < n → s'.1.getD (t * c + (t + 1 + j)) 0 = s.1.getD (t * c + (t + 1 + j)) 0 % s.1.getD (t * c + t) 0) ∧ ∀ j k, n ≤ j → t + 1 + j < c → k < r → s'.1.getD (k * c + (t + 1 + j)) 0 = s.1.getD (k * c + (t + 1 + j)) 0
  | 0, s', _, he => by cases he; exact ⟨h, fun _ _ => rfl, fun i hi => by omega, fun _ _ _ _ _ => rfl⟩
  | n + 1, s', hn, he => by
    simp only [cTo, Option.bind_eq_some_iff] at he
    obtain ⟨x, h1, h2⟩ := he
    obtain ⟨o, c1, c2, c3⟩ := cTo_cells h ht htr (by omega) h1
    obtain ⟨o', d1, d2⟩ := cAt_cells o (by omega) (by omega) ht htr h2
    refine ⟨o', fun k hk => by rw [d2 t k (by omega) ht hk, c1 k hk], fun i hi => ?_, fun i k hi hc hk => by rw [d2 _ k (by omega) hc hk, c3 i k (by omega) hc hk]⟩
    rcases Nat.lt_or_ge i n with e | e
    · rw [d2 _ t (by omega) (by omega) htr, c2 i e]
    · obtain rfl : i = n := by omega
      rw [d1, c1 t htr, c3 i t (Nat.le_refl _) (by omega) htr]

/-! The least cell. -/
def lpAt (xs : List Int) (c i j : Nat) : Option (Nat × Nat) → Option (Nat × Nat)
  | none => if xs.getD (i * c + j) 0 ≠ 0 then some (i, j) else none
  | some p => if xs.getD (i * c + j) 0 ≠ 0 ∧ (xs.getD (i * c + j) 0).natAbs < (xs.getD (p.1 * c + p.2) 0).natAbs then some (i, j) else some p
def lpR (xs : List Int) (c t i : Nat) (o : Option (Nat × Nat)) : Nat → Option (Nat × Nat)
  | 0 => o
  | m + 1 => lpAt xs c i (t + m) (lpR xs c t i o m)
def lpTo (xs : List Int) (c t w : Nat) : Nat → Option (Nat × Nat)
  | 0 => none
  | n + 1 => lpR xs c t (t + n) (lpTo xs c t w n) w
def lp (xs : List Int) (r c t : Nat) : Option (Nat × Nat) := lpTo xs c t (c - t) (r - t)
/-- what is known of the least cell among those seen -/
def LP (xs : List Int) (c t : Nat) (S : Nat → Nat → Prop) : Option (Nat × Nat) → Prop
  | none => ∀ i j, S i j → xs.getD (i * c + j) 0 = 0
  | some p => S p.1 p.2 ∧ xs.getD (p.1 * c + p.2) 0 ≠ 0 ∧ (∀ i j, S i j → xs.getD (i * c + j) 0 ≠ 0 → (xs.getD (p.1 * c + p.2) 0).natAbs ≤ (xs.getD (i * c + j) 0).natAbs) ∧ (xs.getD (t * c + t) 0 ≠ 0 → p = (t, t) ∨ (xs.getD (p.1 * c + p.2) 0).natAbs < (xs.getD (t * c + t) 0).natAbs)
theorem LP.mono {xs : List Int} {c t : Nat} {S S' : Nat → Nat → Prop} (h : ∀ i j, S i j ↔ S' i j) {o : Option (Nat × Nat)} (hl : LP xs c t S o) : LP xs c t S' o := by
  have : S = S' := funext fun i => funext fun j => propext (h i j)
  rwa [← this]
theorem LP.step {xs : List Int} {c t i j : Nat} {S : Nat → Nat → Prop} {o : Option (Nat × Nat)} (hl : LP xs c t S o) (hs : o = none → S t t ∨ (i = t ∧ j = t)) : LP xs c t (fun a b => S a b ∨ (a = i ∧ b = j)) (lpAt xs c i j o) := by
  cases o with
  | none =>
    have hl : ∀ i j, S i j → xs.getD (i * c + j) 0 = 0 := hl
    unfold lpAt
    dsimp only
    split
    · rename_i h0
      refine ⟨.inr ⟨rfl, rfl⟩, h0, fun a b hab h1 => ?_, fun h1 => ?_⟩
      · rcases hab with hab | ⟨rfl, rfl⟩
        · exact absurd (hl a b hab) h1
        · exact Nat.le_refl _
      · rcases hs rfl with h2 | ⟨rfl, rfl⟩
        · exact absurd (hl t t h2) h1
        · exact .inl rfl
    · rename_i h0
      have h0 := Decidable.not_not.1 h0
      intro a b hab
      rcases hab with hab | ⟨rfl, rfl⟩
      · exact hl a b hab
      · exact h0
  | some p =>
    obtain ⟨q1, q2, q3, q4⟩ := hl
    unfold lpAt
    dsimp only
    split
    · rename_i h0
      refine ⟨.inr ⟨rfl, rfl⟩, h0.1, fun a b hab h1 => ?_, fun h1 => ?_⟩
      · rcases hab with hab | ⟨rfl, rfl⟩
        · exact Nat.le_trans (Nat.le_of_lt h0.2) (q3 a b hab h1)
        · exact Nat.le_refl _
      · rcases q4 h1 with e | e
        · right
          have h2 := h0.2
          rw [e] at h2
          exact h2
        · exact .inr (Nat.lt_trans h0.2 e)
    · rename_i h0
      refine ⟨.inl q1, q2, fun a b hab h1 => ?_, q4⟩
      rcases hab with hab | ⟨rfl, rfl⟩
      · exact q3 a b hab h1
      · exact Nat.le_of_not_lt fun h => h0 ⟨h1, h⟩
theorem LP.row {xs : List Int} {c t i : Nat} {S : Nat → Nat → Prop} {o : Option (Nat × Nat)} (hl : LP xs c t S o) (hs : o = none → S t t ∨ i = t) : ∀ m, LP xs c t (fun a b => S a b ∨ (a = i ∧ t ≤ b ∧ b < t + m)) (lpR xs c t i o m)
  | 0 => hl.mono fun a b => ⟨.inl, fun h => h.elim id fun h => by omega⟩
  | m + 1 => by
    refine (LP.step (LP.row hl hs m) fun h => ?_).mono fun a b => ?_
    · rcases Nat.eq_zero_or_pos m with rfl | hm
      · rcases hs h with h | h
        · exact .inl (.inl h)
        · exact .inr ⟨h, rfl⟩
      · have ho : o = none ∨ S t t := by
          cases o with
          | none => exact .inl rfl
          | some p =>
            have : ∀ m, lpR xs c t i (some p) m ≠ none := fun m => by
              induction m with
              | zero => exact fun h => by cases h
              | succ m ih =>
                rw [lpR]
                cases hq : lpR xs c t i (some p) m with
                | none => exact absurd hq ih
                | some q => unfold lpAt; dsimp only; split <;> exact fun h => by cases h
            exact absurd h (this m)
        rcases ho with ho | ho
        · rcases hs ho with h | h
          · exact .inl (.inl h)
          · exact .inl (.inr ⟨h.symm, by omega, by omega⟩)
        · exact .inl (.inl ho)
    · constructor
      · rintro ((h | h) | h)
        · exact .inl h
        · exact .inr ⟨h.1, h.2.1, by omega⟩
        · exact .inr ⟨h.1, by omega, by omega⟩
      · rintro (h | ⟨h1, h2, h3⟩)
        · exact .inl (.inl h)
        · rcases Nat.lt_or_ge b (t + m) with e | e
          · exact .inl (.inr ⟨h1, h2, e⟩)
          · exact .inr ⟨h1, by omega⟩
theorem LP.to {xs : List Int} {c t w : Nat} : ∀ n, LP xs c t (fun a b => (t ≤ a ∧ a < t + n) ∧ t ≤ b ∧ b < t + w) (lpTo xs c t w n)
  | 0 => fun i j h => by omega
  | n + 1 => by
    rcases Nat.eq_zero_or_pos w with rfl | hw
    · have h0 : ∀ n, lpTo xs c t 0 n = none := fun n => by
        induction n with
        | zero => rfl
        | succ n ih => rw [lpTo, ih]; rfl
      rw [h0]
      intro i j h; omega
    · refine (LP.row (LP.to n) (i := t + n) (fun _ => ?_) w).mono fun a b => ?_
      · rcases Nat.eq_zero_or_pos n with rfl | hn
        · exact .inr rfl
        · exact .inl ⟨⟨by omega, by omega⟩, by omega, by omega⟩
      · constructor
        · rintro (h | h)
          · exact ⟨⟨h.1.1, by omega⟩, h.2⟩
          · exact ⟨⟨by omega, by omega⟩, h.2⟩
        · rintro ⟨⟨h1, h2⟩, h3⟩
          rcases Nat.lt_or_ge a (t + n) with e | e
          · exact .inl ⟨⟨h1, e⟩, h3⟩
          · exact .inr ⟨by omega, h3⟩
theorem lp_spec {xs : List Int} {r c t : Nat} (hr : t ≤ r) (hc : t ≤ c) : LP xs c t (fun a b => (t ≤ a ∧ a < r) ∧ t ≤ b ∧ b < c) (lp xs r c t) :=
  (LP.to (r - t)).mono fun a b => by omega
theorem lp_none {xs : List Int} {r c t : Nat} (hr : t ≤ r) (hc : t ≤ c) (h : lp xs r c t = none) {i j : Nat} (hi : t ≤ i ∧ i < r) (hj : t ≤ j ∧ j < c) : xs.getD (i * c + j) 0 = 0 := by
  have := lp_spec (xs := xs) hr hc
  rw [h] at this
  exact this i j ⟨hi, hj⟩
theorem lp_some {xs : List Int} {r c t a b : Nat} (hr : t ≤ r) (hc : t ≤ c) (h : lp xs r c t = some (a, b)) : ((t ≤ a ∧ a < r) ∧ t ≤ b ∧ b < c) ∧ xs.getD (a * c + b) 0 ≠ 0 ∧ (∀ i j, (t ≤ i ∧ i < r) → (t ≤ j ∧ j < c) → xs.getD (i * c + j) 0 ≠ 0 → (xs.getD (a * c + b) 0).natAbs ≤ (xs.getD (i * c + j) 0).natAbs) ∧ (xs.getD (t * c + t) 0 ≠ 0 → (a, b) = (t, t) ∨ (xs.getD (a * c + b) 0).natAbs < (xs.getD (t * c + t) 0).natAbs) := by
  have := lp_spec (xs := xs) hr hc
  rw [h] at this
  obtain ⟨q1, q2, q3, q4⟩ := this
  exact ⟨q1, q2, fun i j hi hj => q3 i j ⟨hi, hj⟩, q4⟩
theorem lp_ne {xs : List Int} {r c t i j : Nat} (hi : t ≤ i ∧ i < r) (hj : t ≤ j ∧ j < c) (h0 : xs.getD (i * c + j) 0 ≠ 0) : ∃ p, lp xs r c t = some p := by
  cases h : lp xs r c t with
  | none => exact absurd (lp_none (by omega) (by omega) h hi hj) h0
  | some p => exact ⟨p, rfl⟩

/-! A round. -/
def swR (r c a t : Nat) (s : S3) : S3 := if a = t then s else (swapTo s.1 (a * c) (t * c) c, swapTo s.2.1 (a * r) (t * r) r, s.2.2)
def swC (r c b t : Nat) (s : S3) : S3 := if b = t then s else (turnM (swapTo (turnM s.1 r c) (b * r) (t * r) r) c r, s.2.1, turnM (swapTo (turnM s.2.2 c c) (b * c) (t * c) c) c c)
theorem swR_ok {r c a t : Nat} {s : S3} (h : OK3 r c s) : OK3 r c (swR r c a t s) := by
  unfold swR
  split
  · exact h
  · exact ⟨swapTo_len.trans h.x, swapTo_len.trans h.u, h.v, swapTo_num h.nx, swapTo_num h.nu, h.nv⟩
theorem swC_ok {r c b t : Nat} {s : S3} (h : OK3 r c s) : OK3 r c (swC r c b t s) := by
  unfold swC
  split
  · exact h
  · exact ⟨turnM_len, h.u, turnM_len, trX_num (swapTo_num (trX_num h.nx)), h.nu, trX_num (swapTo_num (trX_num h.nv))⟩
theorem swR_piv {r c a t k : Nat} {s : S3} (h : OK3 r c s) (ha : a < r) (ht : t < r) (hk : k < c) : (swR r c a t s).1.getD (t * c + k) 0 = s.1.getD (a * c + k) 0 := by
  unfold swR
  split
  · rename_i e; rw [e]
  · rename_i e
    dsimp only
    rw [swap_cell h.x ha ht e hk, if_neg (fun h => e h.symm), if_pos rfl]
theorem swC_piv {r c b t : Nat} {s : S3} (h : OK3 r c s) (hb : b < c) (ht : t < c) (htr : t < r) : (swC r c b t s).1.getD (t * c + t) 0 = s.1.getD (t * c + b) 0 := by
  unfold swC
  split
  · rename_i e; rw [e]
  · rename_i e
    dsimp only
    rw [trX_at ht htr, swap_cell turnM_len hb ht e htr, if_neg (fun h => e h.symm), if_pos rfl, trX_at htr hb]
def zr (xs : List Int) (c t n : Nat) : Prop := ∀ i, i < n → xs.getD ((t + 1 + i) * c + t) 0 = 0
def zc (xs : List Int) (c t n : Nat) : Prop := ∀ j, j < n → xs.getD (t * c + (t + 1 + j)) 0 = 0
def dv (xs : List Int) (c t : Nat) (p : Int) (i n : Nat) : Prop := ∀ j, j < n → Int.tmod (xs.getD (i * c + (t + 1 + j)) 0) p = 0
instance {xs : List Int} {c t n : Nat} : Decidable (zr xs c t n) := by unfold zr; infer_instance
instance {xs : List Int} {c t n : Nat} : Decidable (zc xs c t n) := by unfold zc; infer_instance
instance {xs : List Int} {c t i n : Nat} {p : Int} : Decidable (dv xs c t p i n) := by unfold dv; infer_instance
def ndTo (xs : List Int) (c t : Nat) (p : Int) (w : Nat) : Nat → Option Nat
  | 0 => none
  | n + 1 => match ndTo xs c t p w n with
    | some i => some i
    | none => if dv xs c t p (t + 1 + n) w then none else some (t + 1 + n)
theorem ndTo_some {xs : List Int} {c t w i : Nat} {p : Int} : ∀ {n : Nat}, ndTo xs c t p w n = some i → (t + 1 ≤ i ∧ i < t + 1 + n) ∧ ∃ j, j < w ∧ Int.tmod (xs.getD (i * c + (t + 1 + j)) 0) p ≠ 0
  | 0, h => by cases h
  | n + 1, h => by
    rw [ndTo] at h
    split at h
    · rename_i k hk
      cases h
      obtain ⟨h1, h2⟩ := ndTo_some hk
      exact ⟨by omega, h2⟩
    · split at h
      · cases h
      · rename_i hd
        cases h
        simp only [dv, Classical.not_forall] at hd
        obtain ⟨j, hj, h0⟩ := hd
        exact ⟨by omega, j, hj, h0⟩
/-- a round from the swaps on: whether another one follows -/
def endR (r c t : Nat) (s : S3) : Option (S3 × Bool) :=
  if zr s.1 c t (r - (t + 1)) ∧ zc s.1 c t (c - (t + 1)) then match ndTo s.1 c t (s.1.getD (t * c + t) 0) (c - (t + 1)) (r - (t + 1)) with
    | none => some (s, false)
    | some i => (row3 r c t i 1 s).map fun x => (x, true)
  else some (s, true)
def rcTo (r c t : Nat) (s : S3) : Option S3 := (rTo r c t s (r - (t + 1))).bind fun x => cTo r c t x (c - (t + 1))
def rndS (r c t : Nat) (s : S3) : Option (S3 × Bool) := (rcTo r c t s).bind (endR r c t)
def rndP (r c t : Nat) (p : Nat × Nat) (s : S3) : Option (S3 × Bool) := rndS r c t (swC r c p.2 t (swR r c p.1 t s))
def zm (xs : List Int) (c t n : Nat) : Prop := ∀ j, j < n → xs.getD (t * c + (t + 1 + j)) 0 % xs.getD (t * c + t) 0 = 0
instance {xs : List Int} {c t n : Nat} : Decidable (zm xs c t n) := by unfold zm; infer_instance
def muD (r c t : Nat) (s : S3) : Nat := if lp s.1 r c t = some (t, t) ∧ ¬ zm s.1 c t (c - (t + 1)) then 0 else 1
theorem muD_le {r c t : Nat} {s : S3} : muD r c t s ≤ 1 := by unfold muD; split <;> omega
def muS (r c t : Nat) (s : S3) : Nat := (match lp s.1 r c t with | some p => 2 * (s.1.getD (p.1 * c + p.2) 0).natAbs | none => 0) + muD r c t s
theorem muS_of {r c t : Nat} {s : S3} {p : Nat × Nat} (h : lp s.1 r c t = some p) : muS r c t s = 2 * (s.1.getD (p.1 * c + p.2) 0).natAbs + muD r c t s := by unfold muS; rw [h]
theorem rc_cells {r c t : Nat} {s x : S3} (h : OK3 r c s) (htr : t < r) (ht : t < c) (he : rcTo r c t s = some x) :
    OK3 r c x ∧ x.1.getD (t * c + t) 0 = s.1.getD (t * c + t) 0 ∧ (∀ i, i < r - (t + 1) → x.1.getD ((t + 1 + i) * c + t) 0 = s.1.getD ((t + 1 + i) * c + t) 0 % s.1.getD (t * c + t) 0) ∧ ∀ j, j < c - (t + 1) → x.1.getD (t * c + (t + 1 + j)) 0 = s.1.getD (t * c + (t + 1 + j)) 0 % s.1.getD (t * c + t) 0 := by
  simp only [rcTo, Option.bind_eq_some_iff] at he
  obtain ⟨y, h1, h2⟩ := he
  obtain ⟨o1, a1, a2, a3⟩ := rTo_cells h ht (by omega) h1
  obtain ⟨o2, b1, b2, b3⟩ := cTo_cells o1 ht htr (by omega) h2
  refine ⟨o2, by rw [b1 t htr, a1 t ht], fun i hi => by rw [b1 _ (by omega), a2 i hi], fun j hj => by rw [b2 j hj, a1 _ (by omega), a1 t ht]⟩
theorem rndP_cells {r c t a b : Nat} {s x : S3} {again : Bool} (h : OK3 r c s) (htr : t < r) (ht : t < c) (hl : lp s.1 r c t = some (a, b)) (he : rndP r c t (a, b) s = some (x, again)) : OK3 r c x ∧ (again = true → (∃ p', lp x.1 r c t = some p') ∧ muS r c t x < muS r c t s) := by
  obtain ⟨⟨ha, hb⟩, h0, -, -⟩ := lp_some (by omega) (by omega) hl
  have hp : (swC r c b t (swR r c a t s)).1.getD (t * c + t) 0 = s.1.getD (a * c + b) 0 := by rw [swC_piv (swR_ok h) hb.2 ht htr, swR_piv h ha.2 htr hb.2]
  have o0 : OK3 r c (swC r c b t (swR r c a t s)) := swC_ok (swR_ok h)
  have hsw : (a, b) = (t, t) → swC r c b t (swR r c a t s) = s := fun e => by
    cases e
    rw [swR, if_pos rfl, swC, if_pos rfl]
  rw [rndP, rndS] at he
  dsimp only at he
  generalize swC r c b t (swR r c a t s) = s0 at *
  simp only [Option.bind_eq_some_iff] at he
  obtain ⟨s2, h1, h2⟩ := he
  obtain ⟨o2, c1, c2, c3⟩ := rc_cells o0 htr ht h1
  rw [hp] at c1 c2 c3
  have hms : muS r c t s = 2 * (s.1.getD (a * c + b) 0).natAbs + muD r c t s := muS_of hl
  have hless : ∀ v : Int, v % s.1.getD (a * c + b) 0 ≠ 0 → (v % s.1.getD (a * c + b) 0).natAbs < (s.1.getD (a * c + b) 0).natAbs := fun v _ => by
    have h1 := Int.emod_nonneg v h0
    have h2 := Int.emod_lt v h0
    omega
  have hdown : ∀ (x : S3) (i j : Nat), (t ≤ i ∧ i < r) → (t ≤ j ∧ j < c) → x.1.getD (i * c + j) 0 ≠ 0 → (x.1.getD (i * c + j) 0).natAbs < (s.1.getD (a * c + b) 0).natAbs → (∃ p', lp x.1 r c t = some p') ∧ muS r c t x < muS r c t s := fun x i j hi hj hn hlt => by
    obtain ⟨⟨a', b'⟩, hp'⟩ := lp_ne (r := r) hi hj hn
    refine ⟨⟨_, hp'⟩, ?_⟩
    obtain ⟨-, -, q3, -⟩ := lp_some (by omega) (by omega) hp'
    have := q3 i j hi hj hn
    rw [muS_of hp', hms]
    have := muD_le (r := r) (c := c) (t := t) (s := x)
    dsimp only at *
    omega
  unfold endR at h2
  split at h2
  · rename_i hz
    split at h2
    · cases h2
      exact ⟨o2, fun h => by cases h⟩
    · rename_i i hi
      simp only [Option.map_eq_some_iff] at h2
      obtain ⟨y, h3, h4⟩ := h2
      cases h4
      obtain ⟨hin, j, hj, hnd⟩ := ndTo_some hi
      obtain ⟨o3, d1, d2⟩ := row3_cells o2 htr h3
      refine ⟨o3, fun _ => ?_⟩
      have hi0 : s2.1.getD (i * c + t) 0 = 0 := by
        have := hz.1 (i - (t + 1)) (by omega)
        rwa [show t + 1 + (i - (t + 1)) = i by omega] at this
      have ht0 : s2.1.getD (t * c + (t + 1 + j)) 0 = 0 := hz.2 j hj
      have e1 : x.1.getD (t * c + t) 0 = s.1.getD (a * c + b) 0 := by rw [d1 t ht, hi0, c1]; omega
      have e2 : x.1.getD (t * c + (t + 1 + j)) 0 = s2.1.getD (i * c + (t + 1 + j)) 0 := by rw [d1 _ (by omega), ht0]; omega
      have hne : x.1.getD (t * c + t) 0 ≠ 0 := by rw [e1]; exact h0
      obtain ⟨⟨a', b'⟩, hp'⟩ := lp_ne (r := r) (t := t) ⟨Nat.le_refl _, htr⟩ ⟨Nat.le_refl _, ht⟩ hne
      refine ⟨⟨_, hp'⟩, ?_⟩
      obtain ⟨-, -, q3, q4⟩ := lp_some (by omega) (by omega) hp'
      rw [muS_of hp', hms]
      dsimp only
      rcases q4 hne with e | e
      · have hD : muD r c t x = 0 := by
          refine if_pos ⟨by rw [hp', e], fun hzm => ?_⟩
          have := hzm j hj
          rw [e2, e1] at this
          rw [c1] at hnd
          exact hnd (Int.tmod_eq_zero_of_dvd (Int.dvd_of_emod_eq_zero this))
        have hS : muD r c t s = 1 := by
          unfold muD
          rw [if_neg]
          rintro ⟨e5, e6⟩
          rw [hl] at e5
          have e5 := Option.some.inj e5
          have es := hsw e5
          cases e5
          apply e6
          intro k hk
          rw [← es, hp, ← c3 k hk]
          exact hz.2 k hk
        cases e
        rw [hD, hS, e1]; omega
      · rw [e1] at e
        have := muD_le (r := r) (c := c) (t := t) (s := x)
        omega
  · rename_i hz
    cases h2
    refine ⟨o2, fun _ => ?_⟩
    by_cases hz1 : zr x.1 c t (r - (t + 1))
    · have hz2 : ¬ zc x.1 c t (c - (t + 1)) := fun h => hz ⟨hz1, h⟩
      simp only [zc, Classical.not_forall] at hz2
      obtain ⟨j, hj, hn⟩ := hz2
      refine hdown x t (t + 1 + j) ⟨by omega, by omega⟩ ⟨by omega, by omega⟩ hn ?_
      rw [c3 j hj] at hn ⊢
      exact hless _ hn
    · simp only [zr, Classical.not_forall] at hz1
      obtain ⟨i, hi, hn⟩ := hz1
      refine hdown x (t + 1 + i) t ⟨by omega, by omega⟩ ⟨by omega, by omega⟩ hn ?_
      rw [c2 i hi] at hn ⊢
      exact hless _ hn

/-! All rounds, all places of the diagonal. -/
def itS (r c t : Nat) (s : S3) : Option S3 := match lp s.1 r c t with
  | none => some s
  | some p => match rndP r c t p s with
    | none => none
    | some (x, false) => some x
    | some (x, true) => if muS r c t x < muS r c t s then itS r c t x else some x
  termination_by muS r c t s
theorem itS_bad {r c t : Nat} {s : S3} {p : Nat × Nat} (hl : lp s.1 r c t = some p) (he : rndP r c t p s = none) : itS r c t s = none := by rw [itS, hl]; dsimp only; rw [he]
theorem itS_done {r c t : Nat} {s x : S3} {p : Nat × Nat} (hl : lp s.1 r c t = some p) (he : rndP r c t p s = some (x, false)) : itS r c t s = some x := by rw [itS, hl]; dsimp only; rw [he]
theorem itS_more {r c t : Nat} {s x : S3} {p : Nat × Nat} (h : OK3 r c s) (htr : t < r) (ht : t < c) (hl : lp s.1 r c t = some p) (he : rndP r c t p s = some (x, true)) : itS r c t s = itS r c t x ∧ muS r c t x < muS r c t s ∧ (∃ p', lp x.1 r c t = some p') ∧ OK3 r c x := by
  obtain ⟨o, h2⟩ := rndP_cells (a := p.1) (b := p.2) h htr ht hl he
  obtain ⟨h3, h4⟩ := h2 rfl
  refine ⟨?_, h4, h3, o⟩
  conv => lhs; rw [itS, hl]
  dsimp only
  rw [he]
  dsimp only
  rw [if_pos h4]
theorem itS_ok {r c t : Nat} {s x : S3} (h : OK3 r c s) (htr : t < r) (ht : t < c) (he : itS r c t s = some x) : OK3 r c x := by
  cases hl : lp s.1 r c t with
  | none => rw [itS, hl] at he; cases he; exact h
  | some p => cases hr : rndP r c t p s with
    | none => rw [itS_bad hl hr] at he; cases he
    | some y =>
      obtain ⟨y, again⟩ := y
      cases again
      · rw [itS_done hl hr] at he
        cases he
        exact (rndP_cells (a := p.1) (b := p.2) h htr ht hl hr).1
      · obtain ⟨h1, h2, -, h4⟩ := itS_more h htr ht hl hr
        rw [h1] at he
        exact itS_ok h4 htr ht he
  termination_by muS r c t s
def ng3 (r c t : Nat) (s : S3) : S3 := if s.1.getD (t * c + t) 0 < 0 then (negX s.1 c t, negX s.2.1 r t, s.2.2) else s
theorem ng3_ok {r c t : Nat} {s : S3} (h : OK3 r c s) : OK3 r c (ng3 r c t s) := by
  unfold ng3
  split
  · exact ⟨updTo_len.trans h.x, updTo_len.trans h.u, h.v, negX_num h.nx, negX_num h.nu, h.nv⟩
  · exact h
def dgS (r c t : Nat) (s : S3) : Option S3 := (itS r c t s).map (ng3 r c t)
def sTo (r c : Nat) (s : S3) : Nat → Option S3
  | 0 => some s
  | n + 1 => (sTo r c s n).bind (dgS r c n)
theorem sTo_none {r c : Nat} {s : S3} {n : Nat} (h : sTo r c s n = none) : ∀ m, sTo r c s (n + m) = none
  | 0 => h
  | m + 1 => by rw [← Nat.add_assoc, sTo, sTo_none h m]; rfl
theorem sTo_ok {r c : Nat} {s : S3} (h : OK3 r c s) : ∀ {n : Nat} {x : S3}, n ≤ min r c → sTo r c s n = some x → OK3 r c x
  | 0, x, _, he => by cases he; exact h
  | n + 1, x, hn, he => by
    simp only [sTo, dgS, Option.bind_eq_some_iff, Option.map_eq_some_iff] at he
    obtain ⟨y, h1, z, h2, rfl⟩ := he
    exact ng3_ok (itS_ok (sTo_ok h (by omega) h1) (by omega) (by omega) h2)
theorem dg_stop {r c t t' : Nat} {s : S3} (hr : t' < r) (hc : t' < c) (htt : t ≤ t') (hl : lp s.1 r c t = none) : dgS r c t' s = some s := by
  have hl' : lp s.1 r c t' = none := by
    cases h : lp s.1 r c t' with
    | none => rfl
    | some p =>
      obtain ⟨⟨h1, h2⟩, h3, -, -⟩ := lp_some (a := p.1) (b := p.2) (by omega) (by omega) h
      exact absurd (lp_none (by omega) (by omega) hl ⟨by omega, h1.2⟩ ⟨by omega, h2.2⟩) h3
  have h0 := lp_none (by omega) (by omega) hl' (i := t') (j := t') ⟨Nat.le_refl _, hr⟩ ⟨Nat.le_refl _, hc⟩
  rw [dgS, itS, hl']
  dsimp only [Option.map_some]
  rw [ng3, if_neg (by rw [h0]; omega)]
theorem sTo_stop {r c t : Nat} {s x : S3} (h : sTo r c s t = some x) (hl : lp x.1 r c t = none) : ∀ m, t + m ≤ min r c → sTo r c s (t + m) = some x
  | 0, _ => h
  | m + 1, hm => by rw [← Nat.add_assoc, sTo, sTo_stop h hl m (by omega), Option.bind_some, dg_stop (t := t) (by omega) (by omega) (by omega) hl]
def smO (r c : Int) (xs : List Int) : Option S3 := if isM r c xs then sTo r.toNat c.toNat (xs, idTo r.toNat r.toNat, idTo c.toNat c.toNat) (min r.toNat c.toNat) else none
end Go.Proofs.Ytmkoifmokdmebaa
