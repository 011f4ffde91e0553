/-
  TEXTS OF THE PROOF, put together: pSmith, pSmith2, pBox, pChoose.
-/
import Derived.Test.YtekpamojojfplaaGreatD11
import Derived.Test.YtekpamojojfplaaGreatD15
import Derived.Test.YtekpamojojfplaaGreatD12
import Derived.Test.YtekpamojojfplaaGreatD08
set_option linter.unusedVariables false
set_option linter.unusedSimpArgs false
namespace Go.Proofs.YtekpamojojfplaaGreat
theorem trX_at {xs : List Int} {r c i j : Nat} (hi : i < r) (hj : j < c) : (turnM xs r c).getD (j * r + i) 0 = xs.getD (i * c + j) 0 := by
  have h1 : j * r + i < c * r := cell_in hj hi
  have h2 : (j * r + i) % r = i := by rw [Nat.add_comm, Nat.add_mul_mod_self_right, Nat.mod_eq_of_lt hi]
  have h3 : (j * r + i) / r = j := by rw [Nat.add_comm, Nat.add_mul_div_right _ _ (by omega), Nat.div_eq_of_lt hi, Nat.zero_add]
  unfold turnM
  rw [List.getD_eq_getElem?_getD, List.getElem?_map, List.getElem?_range h1]
  simp only [Option.map_some, Option.getD_some, h2, h3]
theorem cells_ext {r c : Nat} {xs ys : List Int} (hx : xs.length = r * c) (hy : ys.length = r * c) (h : ∀ i j, i < r → j < c → xs.getD (i * c + j) 0 = ys.getD (i * c + j) 0) : xs = ys := by
  apply List.ext_getElem (hx.trans hy.symm)
  intro p h1 h2
  have hp : p < r * c := by omega
  have hc : 0 < c := by
    rcases Nat.eq_zero_or_pos c with h0 | h0
    · rw [h0, Nat.mul_zero] at hp; omega
    · exact h0
  have e : p / c * c + p % c = p := Nat.div_add_mod' p c
  have := h (p / c) (p % c) ((Nat.div_lt_iff_lt_mul hc).2 hp) (Nat.mod_lt _ hc)
  rw [e] at this
  simpa [List.getD_eq_getElem?_getD, h1, h2] using this
theorem trX_tr {xs : List Int} {r c : Nat} (h : xs.length = r * c) : turnM (turnM xs r c) c r = xs :=
  cells_ext turnM_len h fun i j hi hj => by rw [trX_at hj hi, trX_at hi hj]
theorem trX_num {xs : List Int} {r c : Nat} (h : xs.all numB = true) : (turnM xs r c).all numB = true := by
  unfold turnM
  rw [List.all_map, List.all_eq_true]
  exact fun p _ => num_at h _
abbrev S3 := List Int × List Int × List Int
structure OK3 (r c : Nat) (s : S3) : Prop where
  x : s.1.length = r * c
  u : s.2.1.length = r * r
  v : s.2.2.length = c * c
  nx : s.1.all numB = true
  nu : s.2.1.all numB = true
  nv : s.2.2.all numB = true
theorem OK3.row {r c : Nat} {s : S3} (h : OK3 r c s) : OKs r c (s.1, s.2.1) := ⟨h.x, h.u, h.nx, h.nu⟩
theorem OK3.col {r c : Nat} {s : S3} (h : OK3 r c s) : turnM (turnM s.1 r c) c r = s.1 := trX_tr h.x
def row3 (r c i j : Nat) (q : Int) (s : S3) : Option S3 := (addS c r i j q (s.1, s.2.1)).map fun y => (y.1, y.2, s.2.2)
def colOK (r c i j : Nat) (q : Int) (s : S3) : Prop := addOK (turnM s.1 r c) r i j q r = true ∧ addOK (turnM s.2.2 c c) c i j q c = true
instance {r c i j : Nat} {q : Int} {s : S3} : Decidable (colOK r c i j q s) := by unfold colOK; infer_instance
def col3 (r c i j : Nat) (q : Int) (s : S3) : Option S3 := if colOK r c i j q s then some (turnM (addX (turnM s.1 r c) r i j q) c r, s.2.1, turnM (addX (turnM s.2.2 c c) c i j q) c c) else none
theorem row3_cells {r c i j : Nat} {q : Int} {s s' : S3} (h : OK3 r c s) (hi : i < r) (he : row3 r c i j q s = some s') :
    OK3 r c s' ∧ (∀ k, k < c → s'.1.getD (i * c + k) 0 = s.1.getD (i * c + k) 0 + s.1.getD (j * c + k) 0 * q) ∧ ∀ i' k, i' ≠ i → k < c → s'.1.getD (i' * c + k) 0 = s.1.getD (i' * c + k) 0 := by
  simp only [row3, Option.map_eq_some_iff] at he
  obtain ⟨y, hy, rfl⟩ := he
  have o := addS_ok h.row hy
  refine ⟨⟨o.1, o.2.1, h.v, o.2.2.1, o.2.2.2, h.nv⟩, ?_⟩
  unfold addS at hy
  split at hy
  · cases hy
    exact ⟨fun k hk => addX_row h.x hi hk, fun i' k hi' hk => addX_other hi' hk⟩
  · cases hy
theorem colX_cells {r c i j k l : Nat} {q : Int} {xs : List Int} (hi : i < c) (hj : j < c) (hk : k < r) (hl : l < c) :
    (turnM (addX (turnM xs r c) r i j q) c r).getD (k * c + l) 0 = if l = i then xs.getD (k * c + i) 0 + xs.getD (k * c + j) 0 * q else xs.getD (k * c + l) 0 := by
  rw [trX_at hl hk]
  split
  · rename_i e
    rw [e, addX_row turnM_len hi hk, trX_at hk hi, trX_at hk hj]
  · rename_i e
    rw [addX_other e hk, trX_at hk hl]
theorem col3_cells {r c i j : Nat} {q : Int} {s s' : S3} (h : OK3 r c s) (hi : i < c) (hj : j < c) (he : col3 r c i j q s = some s') :
    OK3 r c s' ∧ (∀ k, k < r → s'.1.getD (k * c + i) 0 = s.1.getD (k * c + i) 0 + s.1.getD (k * c + j) 0 * q) ∧ ∀ i' k, i' ≠ i → i' < c → k < r → s'.1.getD (k * c + i') 0 = s.1.getD (k * c + i') 0 := by
  unfold col3 at he
  split at he
  · rename_i hc
    cases he
    refine ⟨⟨turnM_len, h.u, turnM_len, trX_num (addX_num (trX_num h.nx) hc.1), h.nu, trX_num (addX_num (trX_num h.nv) hc.2)⟩, fun k hk => ?_, fun i' k hi' hc' hk => ?_⟩
    · dsimp only
      rw [colX_cells hi hj hk hi, if_pos rfl]
    · dsimp only
      rw [colX_cells hi hj hk hc', if_neg hi']
  · cases he
def rAt (r c t i : Nat) (s : S3) : Option S3 := if s.1.getD (i * c + t) 0 ≠ 0 then row3 r c i t (-(s.1.getD (i * c + t) 0 / s.1.getD (t * c + t) 0)) s else some s
def cAt (r c t j : Nat) (s : S3) : Option S3 := if s.1.getD (t * c + j) 0 ≠ 0 then col3 r c j t (-(s.1.getD (t * c + j) 0 / s.1.getD (t * c + t) 0)) s else some s
def rTo (r c t : Nat) (s : S3) : Nat → Option S3
  | 0 => some s
  | n + 1 => (rTo r c t s n).bind (rAt r c t (t + 1 + n))
def cTo (r c t : Nat) (s : S3) : Nat → Option S3
  | 0 => some s
  | n + 1 => (cTo r c t s n).bind (cAt r c t (t + 1 + n))
theorem rem_eq (a d : Int) : a + d * -(a / d) = a % d := by rw [Int.emod_def, Int.mul_neg]; omega
theorem rAt_cells {r c t i : Nat} {s s' : S3} (h : OK3 r c s) (hi : i < r) (hit : i ≠ t) (ht : t < c) (he : rAt r c t i s = some s') :
    OK3 r c s' ∧ s'.1.getD (i * c + t) 0 = s.1.getD (i * c + t) 0 % s.1.getD (t * c + t) 0 ∧ ∀ i' k, i' ≠ i → k < c → s'.1.getD (i' * c + k) 0 = s.1.getD (i' * c + k) 0 := by
  unfold rAt at he
  split at he
  · obtain ⟨o, c1, c2⟩ := row3_cells h hi he
    exact ⟨o, by rw [c1 t ht, rem_eq], c2⟩
  · rename_i h0
    cases he
    have h0 := Decidable.not_not.1 h0
    exact ⟨h, by rw [h0, Int.zero_emod], fun _ _ _ _ => rfl⟩
theorem cAt_cells {r c t j : Nat} {s s' : S3} (h : OK3 r c s) (hj : j < c) (hit : j ≠ t) (ht : t < c) (htr : t < r) (he : cAt r c t j s = some s') :
    OK3 r c s' ∧ s'.1.getD (t * c + j) 0 = s.1.getD (t * c + j) 0 % s.1.getD (t * c + t) 0 ∧ ∀ i' k, i' ≠ j → i' < c → k < r → s'.1.getD (k * c + i') 0 = s.1.getD (k * c + i') 0 := by
  unfold cAt at he
  split at he
  · obtain ⟨o, c1, c2⟩ := col3_cells h hj ht he
    exact ⟨o, by rw [c1 t htr, rem_eq], c2⟩
  · rename_i h0
    cases he
    have h0 := Decidable.not_not.1 h0
    exact ⟨h, by rw [h0, Int.zero_emod], fun _ _ _ _ _ => rfl⟩
theorem rTo_cells {r c t : Nat} {s : S3} (h : OK3 r c s) (ht : t < c) : ∀ {n : Nat} {s' : S3}, t + 1 + n ≤ r → rTo r c t s n = some s' →
    OK3 r c s' ∧ (∀ k, k < c → s'.1.getD (t * c + k) 0 = s.1.getD (t * c + k) 0) ∧ (∀ i, i < n → s'.1.getD ((t + 1 + i) * c + t) 0 = s.1.getD ((t + 1 + i) * c + t) 0 % s.1.getD (t * c + t) 0) ∧ ∀ i k, n ≤ i → k < c → s'.1.getD ((t + 1 + i) * c + k) 0 = s.1.getD ((t + 1 + i) * c + k) 0
  | 0, s', _, he => by cases he; exact ⟨h, fun _ _ => rfl, fun i hi => by omega, fun _ _ _ _ => rfl⟩
  | n + 1, s', hn, he => by
    simp only [rTo, Option.bind_eq_some_iff] at he
    obtain ⟨x, h1, h2⟩ := he
    obtain ⟨o, c1, c2, c3⟩ := rTo_cells h ht (by omega) h1
    obtain ⟨o', d1, d2⟩ := rAt_cells o (by omega) (by omega) ht h2
    refine ⟨o', fun k hk => by rw [d2 t k (by omega) hk, c1 k hk], fun i hi => ?_, fun i k hi hk => by rw [d2 _ k (by omega) hk, c3 i k (by omega) hk]⟩
    rcases Nat.lt_or_ge i n with e | e
    · rw [d2 _ t (by omega) ht, c2 i e]
    · obtain rfl : i = n := by omega
      rw [d1, c1 t ht, c3 i t (Nat.le_refl _) ht]
theorem cTo_cells {r c t : Nat} {s : S3} (h : OK3 r c s) (ht : t < c) (htr : t < r) : ∀ {n : Nat} {s' : S3}, t + 1 + n ≤ c → cTo r c t s n = some s' →
    OK3 r c s' ∧ (∀ k, k < r → s'.1.getD (k * c + t) 0 = s.1.getD (k * c + t) 0) ∧ (∀ j, j < n → s'.1.getD (t * c + (t + 1 + j)) 0 = s.1.getD (t * c + (t + 1 + j)) 0 % s.1.getD (t * c + t) 0) ∧ ∀ j k, n ≤ j → t + 1 + j < c → k < r → s'.1.getD (k * c + (t + 1 + j)) 0 = s.1.getD (k * c + (t + 1 + j)) 0
  | 0, s', _, he => by cases he; exact ⟨h, fun _ _ => rfl, fun i hi => by omega, fun _ _ _ _ _ => rfl⟩
  | n + 1, s', hn, he => by
    simp only [cTo, Option.bind_eq_some_iff] at he
    obtain ⟨x, h1, h2⟩ := he
    obtain ⟨o, c1, c2, c3⟩ := cTo_cells h ht htr (by omega) h1
    obtain ⟨o', d1, d2⟩ := cAt_cells o (by omega) (by omega) ht htr h2
    refine ⟨o', fun k hk => by rw [d2 t k (by omega) ht hk, c1 k hk], fun i hi => ?_, fun i k hi hc hk => by rw [d2 _ k (by omega) hc hk, c3 i k (by omega) hc hk]⟩
    rcases Nat.lt_or_ge i n with e | e
    · rw [d2 _ t (by omega) (by omega) htr, c2 i e]
    · obtain rfl : i = n := by omega
      rw [d1, c1 t htr, c3 i t (Nat.le_refl _) (by omega) htr]
def lpAt (xs : List Int) (c i j : Nat) : Option (Nat × Nat) → Option (Nat × Nat)
  | none => if xs.getD (i * c + j) 0 ≠ 0 then some (i, j) else none
  | some p => if xs.getD (i * c + j) 0 ≠ 0 ∧ (xs.getD (i * c + j) 0).natAbs < (xs.getD (p.1 * c + p.2) 0).natAbs then some (i, j) else some p
def lpR (xs : List Int) (c t i : Nat) (o : Option (Nat × Nat)) : Nat → Option (Nat × Nat)
  | 0 => o
  | m + 1 => lpAt xs c i (t + m) (lpR xs c t i o m)
def lpTo (xs : List Int) (c t w : Nat) : Nat → Option (Nat × Nat)
  | 0 => none
  | n + 1 => lpR xs c t (t + n) (lpTo xs c t w n) w
def lp (xs : List Int) (r c t : Nat) : Option (Nat × Nat) := lpTo xs c t (c - t) (r - t)
def LP (xs : List Int) (c t : Nat) (S : Nat → Nat → Prop) : Option (Nat × Nat) → Prop
  | none => ∀ i j, S i j → xs.getD (i * c + j) 0 = 0
  | some p => S p.1 p.2 ∧ xs.getD (p.1 * c + p.2) 0 ≠ 0 ∧ (∀ i j, S i j → xs.getD (i * c + j) 0 ≠ 0 → (xs.getD (p.1 * c + p.2) 0).natAbs ≤ (xs.getD (i * c + j) 0).natAbs) ∧ (xs.getD (t * c + t) 0 ≠ 0 → p = (t, t) ∨ (xs.getD (p.1 * c + p.2) 0).natAbs < (xs.getD (t * c + t) 0).natAbs)
theorem LP.mono {xs : List Int} {c t : Nat} {S S' : Nat → Nat → Prop} (h : ∀ i j, S i j ↔ S' i j) {o : Option (Nat × Nat)} (hl : LP xs c t S o) : LP xs c t S' o := by
  have : S = S' := funext fun i => funext fun j => propext (h i j)
  rwa [← this]
theorem LP.step {xs : List Int} {c t i j : Nat} {S : Nat → Nat → Prop} {o : Option (Nat × Nat)} (hl : LP xs c t S o) (hs : o = none → S t t ∨ (i = t ∧ j = t)) : LP xs c t (fun a b => S a b ∨ (a = i ∧ b = j)) (lpAt xs c i j o) := by
  cases o with
  | none =>
    have hl : ∀ i j, S i j → xs.getD (i * c + j) 0 = 0 := hl
    unfold lpAt
    dsimp only
    split
    · rename_i h0
      refine ⟨.inr ⟨rfl, rfl⟩, h0, fun a b hab h1 => ?_, fun h1 => ?_⟩
      · rcases hab with hab | ⟨rfl, rfl⟩
        · exact absurd (hl a b hab) h1
        · exact Nat.le_refl _
      · rcases hs rfl with h2 | ⟨rfl, rfl⟩
        · exact absurd (hl t t h2) h1
        · exact .inl rfl
    · rename_i h0
      have h0 := Decidable.not_not.1 h0
      intro a b hab
      rcases hab with hab | ⟨rfl, rfl⟩
      · exact hl a b hab
      · exact h0
  | some p =>
    obtain ⟨q1, q2, q3, q4⟩ := hl
    unfold lpAt
    dsimp only
    split
    · rename_i h0
      refine ⟨.inr ⟨rfl, rfl⟩, h0.1, fun a b hab h1 => ?_, fun h1 => ?_⟩
      · rcases hab with hab | ⟨rfl, rfl⟩
        · exact Nat.le_trans (Nat.le_of_lt h0.2) (q3 a b hab h1)
        · exact Nat.le_refl _
      · rcases q4 h1 with e | e
        · right
          have h2 := h0.2
          rw [e] at h2
          exact h2
        · exact .inr (Nat.lt_trans h0.2 e)
    · rename_i h0
      refine ⟨.inl q1, q2, fun a b hab h1 => ?_, q4⟩
      rcases hab with hab | ⟨rfl, rfl⟩
      · exact q3 a b hab h1
      · exact Nat.le_of_not_lt fun h => h0 ⟨h1, h⟩
theorem LP.row {xs : List Int} {c t i : Nat} {S : Nat → Nat → Prop} {o : Option (Nat × Nat)} (hl : LP xs c t S o) (hs : o = none → S t t ∨ i = t) : ∀ m, LP xs c t (fun a b => S a b ∨ (a = i ∧ t ≤ b ∧ b < t + m)) (lpR xs c t i o m)
  | 0 => hl.mono fun a b => ⟨.inl, fun h => h.elim id fun h => by omega⟩
  | m + 1 => by
    refine (LP.step (LP.row hl hs m) fun h => ?_).mono fun a b => ?_
    · rcases Nat.eq_zero_or_pos m with rfl | hm
      · rcases hs h with h | h
        · exact .inl (.inl h)
        · exact .inr ⟨h, rfl⟩
      · have ho : o = none ∨ S t t := by
          cases o with
          | none => exact .inl rfl
          | some p =>
            have : ∀ m, lpR xs c t i (some p) m ≠ none := fun m => by
              induction m with
              | zero => exact fun h => by cases h
              | succ m ih =>
                rw [lpR]
                cases hq : lpR xs c t i (some p) m with
                | none => exact absurd hq ih
                | some q => unfold lpAt; dsimp only; split <;> exact fun h => by cases h
            exact absurd h (this m)
        rcases ho with ho | ho
        · rcases hs ho with h | h
          · exact .inl (.inl h)
          · exact .inl (.inr ⟨h.symm, by omega, by omega⟩)
        · exact .inl (.inl ho)
    · constructor
      · rintro ((h | h) | h)
        · exact .inl h
        · exact .inr ⟨h.1, h.2.1, by omega⟩
        · exact .inr ⟨h.1, by omega, by omega⟩
      · rintro (h | ⟨h1, h2, h3⟩)
        · exact .inl (.inl h)
        · rcases Nat.lt_or_ge b (t + m) with e | e
          · exact .inl (.inr ⟨h1, h2, e⟩)
          · exact .inr ⟨h1, by omega⟩
theorem LP.to {xs : List Int} {c t w : Nat} : ∀ n, LP xs c t (fun a b => (t ≤ a ∧ a < t + n) ∧ t ≤ b ∧ b < t + w) (lpTo xs c t w n)
  | 0 => fun i j h => by omega
  | n + 1 => by
    rcases Nat.eq_zero_or_pos w with rfl | hw
    · have h0 : ∀ n, lpTo xs c t 0 n = none := fun n => by
        induction n with
        | zero => rfl
        | succ n ih => rw [lpTo, ih]; rfl
      rw [h0]
      intro i j h; omega
    · refine (LP.row (LP.to n) (i := t + n) (fun _ => ?_) w).mono fun a b => ?_
      · rcases Nat.eq_zero_or_pos n with rfl | hn
        · exact .inr rfl
        · exact .inl ⟨⟨by omega, by omega⟩, by omega, by omega⟩
      · constructor
        · rintro (h | h)
          · exact ⟨⟨h.1.1, by omega⟩, h.2⟩
          · exact ⟨⟨by omega, by omega⟩, h.2⟩
        · rintro ⟨⟨h1, h2⟩, h3⟩
          rcases Nat.lt_or_ge a (t + n) with e | e
          · exact .inl ⟨⟨h1, e⟩, h3⟩
          · exact .inr ⟨by omega, h3⟩
def swR (r c a t : Nat) (s : S3) : S3 := if a = t then s else (swapTo s.1 (a * c) (t * c) c, swapTo s.2.1 (a * r) (t * r) r, s.2.2)
def swC (r c b t : Nat) (s : S3) : S3 := if b = t then s else (turnM (swapTo (turnM s.1 r c) (b * r) (t * r) r) c r, s.2.1, turnM (swapTo (turnM s.2.2 c c) (b * c) (t * c) c) c c)
def zr (xs : List Int) (c t n : Nat) : Prop := ∀ i, i < n → xs.getD ((t + 1 + i) * c + t) 0 = 0
def zc (xs : List Int) (c t n : Nat) : Prop := ∀ j, j < n → xs.getD (t * c + (t + 1 + j)) 0 = 0
def dv (xs : List Int) (c t : Nat) (p : Int) (i n : Nat) : Prop := ∀ j, j < n → Int.tmod (xs.getD (i * c + (t + 1 + j)) 0) p = 0
instance {xs : List Int} {c t n : Nat} : Decidable (zr xs c t n) := by unfold zr; infer_instance
instance {xs : List Int} {c t n : Nat} : Decidable (zc xs c t n) := by unfold zc; infer_instance
instance {xs : List Int} {c t i n : Nat} {p : Int} : Decidable (dv xs c t p i n) := by unfold dv; infer_instance
def ndTo (xs : List Int) (c t : Nat) (p : Int) (w : Nat) : Nat → Option Nat
  | 0 => none
  | n + 1 => match ndTo xs c t p w n with
    | some i => some i
    | none => if dv xs c t p (t + 1 + n) w then none else some (t + 1 + n)
def endR (r c t : Nat) (s : S3) : Option (S3 × Bool) :=
  if zr s.1 c t (r - (t + 1)) ∧ zc s.1 c t (c - (t + 1)) then match ndTo s.1 c t (s.1.getD (t * c + t) 0) (c - (t + 1)) (r - (t + 1)) with
    | none => some (s, false)
    | some i => (row3 r c t i 1 s).map fun x => (x, true)
  else some (s, true)
def rcTo (r c t : Nat) (s : S3) : Option S3 := (rTo r c t s (r - (t + 1))).bind fun x => cTo r c t x (c - (t + 1))
def rndS (r c t : Nat) (s : S3) : Option (S3 × Bool) := (rcTo r c t s).bind (endR r c t)
def rndP (r c t : Nat) (p : Nat × Nat) (s : S3) : Option (S3 × Bool) := rndS r c t (swC r c p.2 t (swR r c p.1 t s))
def zm (xs : List Int) (c t n : Nat) : Prop := ∀ j, j < n → xs.getD (t * c + (t + 1 + j)) 0 % xs.getD (t * c + t) 0 = 0
instance {xs : List Int} {c t n : Nat} : Decidable (zm xs c t n) := by unfold zm; infer_instance
def muD (r c t : Nat) (s : S3) : Nat := if lp s.1 r c t = some (t, t) ∧ ¬ zm s.1 c t (c - (t + 1)) then 0 else 1
def muS (r c t : Nat) (s : S3) : Nat := (match lp s.1 r c t with | some p => 2 * (s.1.getD (p.1 * c + p.2) 0).natAbs | none => 0) + muD r c t s
def itS (r c t : Nat) (s : S3) : Option S3 := match lp s.1 r c t with
  | none => some s
  | some p => match rndP r c t p s with
    | none => none
    | some (x, false) => some x
    | some (x, true) => if muS r c t x < muS r c t s then itS r c t x else some x
  termination_by muS r c t s
def ng3 (r c t : Nat) (s : S3) : S3 := if s.1.getD (t * c + t) 0 < 0 then (negX s.1 c t, negX s.2.1 r t, s.2.2) else s
def dgS (r c t : Nat) (s : S3) : Option S3 := (itS r c t s).map (ng3 r c t)
def sTo (r c : Nat) (s : S3) : Nat → Option S3
  | 0 => some s
  | n + 1 => (sTo r c s n).bind (dgS r c n)
def smO (r c : Int) (xs : List Int) : Option S3 := if isM r c xs then sTo r.toNat c.toNat (xs, idTo r.toNat r.toNat, idTo c.toNat c.toNat) (min r.toNat c.toNat) else none
end Go.Proofs.YtekpamojojfplaaGreat
namespace Go.Proofs.YtekpamojojfplaaGreat
theorem gb_zero : GB 0 := .inl ⟨by decide, by decide⟩
theorem turnM_gb {xs : List Int} {r c : Nat} (h : GBs xs) : GBs (turnM xs r c) := fun p => by
  unfold turnM
  rw [List.getD_eq_getElem?_getD, List.getElem?_map]
  cases he : (List.range (c * r))[p]? with
  | none => exact gb_zero
  | some k => exact h _
theorem turnM_bad {xs : List Int} {r c : Nat} (hl : xs.length = r * c) (h : hasB xs) : hasB (turnM xs r c) := by
  obtain ⟨p, hp⟩ := h
  have hlt : p < r * c := by
    rcases Nat.lt_or_ge p xs.length with e | e
    · omega
    · rw [List.getD_eq_getElem?_getD, List.getElem?_eq_none e] at hp; cases hp
  have hc : 0 < c := by
    rcases Nat.eq_zero_or_pos c with h0 | h0
    · rw [h0, Nat.mul_zero] at hlt; omega
    · exact h0
  have e : p / c * c + p % c = p := Nat.div_add_mod' p c
  refine ⟨p % c * r + p / c, ?_⟩
  rw [trX_at ((Nat.div_lt_iff_lt_mul hc).2 hlt) (Nat.mod_lt _ hc), e, hp]
def dcX (xs : List Int) (r c i j : Nat) (q : Int) : List Int := turnM (doX (turnM xs r c) r i j q) c r
theorem dcX_len {xs : List Int} {r c i j : Nat} {q : Int} : (dcX xs r c i j q).length = r * c := turnM_len
theorem dcX_gb {xs : List Int} {r c i j : Nat} {q : Int} (h : GBs xs) : GBs (dcX xs r c i j q) := turnM_gb ((turnM_gb h).upd (fun _ _ => GB.add _ _) _)
theorem dcX_keep {xs : List Int} {r c i j : Nat} {q : Int} (hl : xs.length = r * c) (hi : i < c) (h : hasB xs) : hasB (dcX xs r c i j q) :=
  turnM_bad (updTo_len.trans turnM_len) (doX_keep turnM_len hi (turnM_bad hl h))
structure Sp3 (r c : Nat) (o : Option S3) (s : S3) : Prop where
  x : s.1.length = r * c
  u : s.2.1.length = r * r
  v : s.2.2.length = c * c
  gx : GBs s.1
  gu : GBs s.2.1
  gv : GBs s.2.2
  m : match o with
    | some y => s = y ∧ OK3 r c s
    | none => hasB s.1 ∨ hasB s.2.1 ∨ hasB s.2.2
theorem Sp3.of {r c : Nat} {s : S3} (h : OK3 r c s) : Sp3 r c (some s) s := ⟨h.x, h.u, h.v, GBs.num h.nx, GBs.num h.nu, GBs.num h.nv, rfl, h⟩
theorem Sp3.ok {r c : Nat} {o : Option S3} {s : S3} (h : Sp3 r c o s) (hb : ¬ (hasB s.1 ∨ hasB s.2.1 ∨ hasB s.2.2)) : o = some s ∧ OK3 r c s := by
  have h5 := h.m
  cases o with
  | none => exact absurd h5 hb
  | some x => exact ⟨congrArg some h5.1.symm, h5.2⟩
theorem Sp3.bad {r c : Nat} {o : Option S3} {s : S3} (h : Sp3 r c o s) (hb : hasB s.1 ∨ hasB s.2.1 ∨ hasB s.2.2) : o = none := by
  have h5 := h.m
  cases o with
  | none => rfl
  | some x => rcases hb with b | b | b
              · exact absurd b (num_hasB h5.2.nx)
              · exact absurd b (num_hasB h5.2.nu)
              · exact absurd b (num_hasB h5.2.nv)
theorem Sp3.row {r c i j : Nat} {q : Int} {o : Option S3} {s : S3} (h : Sp3 r c o s) (hi : i < r) (hq : q ≠ badN) : Sp3 r c (o.bind (row3 r c i j q)) (doX s.1 c i j q, doX s.2.1 r i j q, s.2.2) := by
  refine ⟨updTo_len.trans h.x, updTo_len.trans h.u, h.v, h.gx.upd (fun _ _ => GB.add _ _) _, h.gu.upd (fun _ _ => GB.add _ _) _, h.gv, ?_⟩
  have hm := h.m
  cases o with
  | none =>
    rcases hm with b | b | b
    · exact .inl (doX_keep h.x hi b)
    · exact .inr (.inl (doX_keep h.u hi b))
    · exact .inr (.inr b)
  | some y =>
    obtain ⟨rfl, o3⟩ := hm
    have hS := (SpS.of o3.row).add (j := j) hi hq
    rw [Option.bind_some] at hS
    generalize ho : addS c r i j q (s.1, s.2.1) = oo at hS
    rw [Option.bind_some, row3]
    have ho' : addS c r i j q (s.1, s.2.1) = oo := ho
    rw [ho']
    obtain ⟨-, -, -, -, hm2⟩ := hS
    cases oo with
    | none =>
      rcases hm2 with b | b
      · exact .inl b
      · exact .inr (.inl b)
    | some y =>
      obtain ⟨he, n1, n2⟩ := hm2
      rw [Option.map_some]
      have e1 := congrArg Prod.fst he
      have e2 := congrArg Prod.snd he
      dsimp only at e1 e2 n1 n2
      refine ⟨by rw [← e1, ← e2], ⟨updTo_len.trans h.x, updTo_len.trans h.u, h.v, n1, n2, o3.nv⟩⟩
theorem Sp3.col {r c i j : Nat} {q : Int} {o : Option S3} {s : S3} (h : Sp3 r c o s) (hi : i < c) (hq : q ≠ badN) : Sp3 r c (o.bind (col3 r c i j q)) (dcX s.1 r c i j q, s.2.1, dcX s.2.2 c c i j q) := by
  refine ⟨dcX_len, h.u, dcX_len, dcX_gb h.gx, h.gu, dcX_gb h.gv, ?_⟩
  have hm := h.m
  cases o with
  | none =>
    rcases hm with b | b | b
    · exact .inl (dcX_keep h.x hi b)
    · exact .inr (.inl b)
    · exact .inr (.inr (dcX_keep h.v hi b))
  | some y =>
    obtain ⟨rfl, o3⟩ := hm
    rw [Option.bind_some, col3]
    by_cases hc : colOK r c i j q s
    · rw [if_pos hc]
      have e1 : dcX s.1 r c i j q = turnM (addX (turnM s.1 r c) r i j q) c r := by rw [dcX, doX_ok (trX_num o3.nx) hq hc.1]
      have e2 : dcX s.2.2 c c i j q = turnM (addX (turnM s.2.2 c c) c i j q) c c := by rw [dcX, doX_ok (trX_num o3.nv) hq hc.2]
      rw [e1, e2]
      exact ⟨rfl, ⟨turnM_len, o3.u, turnM_len, trX_num (addX_num (trX_num o3.nx) hc.1), o3.nu, trX_num (addX_num (trX_num o3.nv) hc.2)⟩⟩
    · rw [if_neg hc]
      by_cases k1 : addOK (turnM s.1 r c) r i j q r = true
      · have k2 : ¬ addOK (turnM s.2.2 c c) c i j q c = true := fun h2 => hc ⟨k1, h2⟩
        exact .inr (.inr (turnM_bad (updTo_len.trans turnM_len) (doX_bad turnM_len hi (trX_num o3.nv) hq k2)))
      · exact .inl (turnM_bad (updTo_len.trans turnM_len) (doX_bad turnM_len hi (trX_num o3.nx) hq k1))
theorem Sp3.rAt {r c t n : Nat} {s0 s : S3} {p : Int} (h0 : OK3 r c s0) (ht : t < c) (hp : s0.1.getD (t * c + t) 0 = p) (hp0 : p ≠ 0) (hn : t + 1 + n < r) (h : Sp3 r c (rTo r c t s0 n) s) :
    (s.1.getD ((t + 1 + n) * c + t) 0 = 0 → Sp3 r c (rTo r c t s0 (n + 1)) s) ∧ (s.1.getD ((t + 1 + n) * c + t) 0 ≠ 0 → Sp3 r c (rTo r c t s0 (n + 1)) (doX s.1 c (t + 1 + n) t (-dfQ (s.1.getD ((t + 1 + n) * c + t) 0) p), doX s.2.1 r (t + 1 + n) t (-dfQ (s.1.getD ((t + 1 + n) * c + t) 0) p), s.2.2)) := by
  cases ho : rTo r c t s0 n with
  | none =>
    rw [ho] at h
    have e : rTo r c t s0 (n + 1) = none := by rw [rTo, ho]; rfl
    rw [e]
    exact ⟨fun _ => h, fun _ => Sp3.row (o := none) h hn (dfQ_ne _ _).2⟩
  | some x =>
    obtain ⟨-, hc, -, -⟩ := rTo_cells h0 ht (by omega) ho
    have e : rTo r c t s0 (n + 1) = Go.Proofs.YtekpamojojfplaaGreat.rAt r c t (t + 1 + n) x := by rw [rTo, ho]; rfl
    rw [ho] at h
    have hm := h.m
    obtain ⟨rfl, o3⟩ := hm
    rw [e]
    refine ⟨fun hk => ?_, fun hk => ?_⟩
    · rw [Go.Proofs.YtekpamojojfplaaGreat.rAt, if_neg (fun h => h hk)]
      exact h
    · rw [Go.Proofs.YtekpamojojfplaaGreat.rAt, if_pos hk]
      have hpp : s.1.getD (t * c + t) 0 = p := (hc t ht).trans hp
      have eq : dfQ (s.1.getD ((t + 1 + n) * c + t) 0) p = s.1.getD ((t + 1 + n) * c + t) 0 / s.1.getD (t * c + t) 0 := by
        rw [hpp]
        exact if_pos ⟨num_at o3.nx _, by rw [← hpp]; exact num_at o3.nx _, hp0⟩
      have := Sp3.row (o := some s) (i := t + 1 + n) (j := t) (q := -dfQ (s.1.getD ((t + 1 + n) * c + t) 0) p) h hn (dfQ_ne _ _).2
      rw [Option.bind_some] at this
      rw [← eq]
      exact this
theorem Sp3.cAt {r c t n : Nat} {s0 s : S3} {p : Int} (h0 : OK3 r c s0) (htr : t < r) (ht : t < c) (hp : s0.1.getD (t * c + t) 0 = p) (hp0 : p ≠ 0) (hn : t + 1 + n < c) (h : Sp3 r c ((rTo r c t s0 (r - (t + 1))).bind fun x => cTo r c t x n) s) :
    (s.1.getD (t * c + (t + 1 + n)) 0 = 0 ∨ s.1.getD (t * c + (t + 1 + n)) 0 = badN → Sp3 r c ((rTo r c t s0 (r - (t + 1))).bind fun x => cTo r c t x (n + 1)) s) ∧ (s.1.getD (t * c + (t + 1 + n)) 0 ≠ 0 → Sp3 r c ((rTo r c t s0 (r - (t + 1))).bind fun x => cTo r c t x (n + 1)) (dcX s.1 r c (t + 1 + n) t (-dfQ (s.1.getD (t * c + (t + 1 + n)) 0) p), s.2.1, dcX s.2.2 c c (t + 1 + n) t (-dfQ (s.1.getD (t * c + (t + 1 + n)) 0) p))) := by
  cases ho : rTo r c t s0 (r - (t + 1)) with
  | none =>
    rw [ho] at h
    exact ⟨fun _ => h, fun _ => Sp3.col (o := none) h hn (dfQ_ne _ _).2⟩
  | some y =>
    rw [ho, Option.bind_some] at h
    rw [Option.bind_some]
    obtain ⟨oy, hc, -, -⟩ := rTo_cells h0 ht (by omega) ho
    cases hx : cTo r c t y n with
    | none =>
      rw [hx] at h
      have e : cTo r c t y (n + 1) = none := by rw [cTo, hx]; rfl
      rw [e]
      exact ⟨fun _ => h, fun _ => Sp3.col (o := none) h hn (dfQ_ne _ _).2⟩
    | some x =>
      obtain ⟨-, hd, -, -⟩ := cTo_cells oy ht htr (by omega) hx
      have e : cTo r c t y (n + 1) = Go.Proofs.YtekpamojojfplaaGreat.cAt r c t (t + 1 + n) x := by rw [cTo, hx]; rfl
      rw [hx] at h
      have hm := h.m
      obtain ⟨rfl, o3⟩ := hm
      rw [e]
      refine ⟨fun hk => ?_, fun hk => ?_⟩
      · have hk0 : s.1.getD (t * c + (t + 1 + n)) 0 = 0 := hk.resolve_right (num_ne (num_at o3.nx _))
        rw [Go.Proofs.YtekpamojojfplaaGreat.cAt, if_neg (fun h => h hk0)]
        exact h
      · rw [Go.Proofs.YtekpamojojfplaaGreat.cAt, if_pos hk]
        have hpp : s.1.getD (t * c + t) 0 = p := (hd t htr).trans ((hc t ht).trans hp)
        have eq : dfQ (s.1.getD (t * c + (t + 1 + n)) 0) p = s.1.getD (t * c + (t + 1 + n)) 0 / s.1.getD (t * c + t) 0 := by
          rw [hpp]
          exact if_pos ⟨num_at o3.nx _, by rw [← hpp]; exact num_at o3.nx _, hp0⟩
        have := Sp3.col (o := some s) (i := t + 1 + n) (j := t) (q := -dfQ (s.1.getD (t * c + (t + 1 + n)) 0) p) h hn (dfQ_ne _ _).2
        rw [Option.bind_some] at this
        rw [← eq]
        exact this
def cupTo (xs : List Int) (c i : Nat) (F : Nat → Int → Int) : Nat → List Int
  | 0 => xs
  | k + 1 => (cupTo xs c i F k).set (k * c + i) (F k (xs.getD (k * c + i) 0))
def dcF (xs : List Int) (c j : Nat) (q : Int) (k : Nat) (v : Int) : Int := addV v (mulV (xs.getD (k * c + j) 0) q)
def cswTo (xs : List Int) (c i j : Nat) : Nat → List Int
  | 0 => xs
  | k + 1 => ((cswTo xs c i j k).set (k * c + i) (xs.getD (k * c + j) 0)).set (k * c + j) (xs.getD (k * c + i) 0)
end Go.Proofs.YtekpamojojfplaaGreat
namespace Go.Proofs.YtekpamojojfplaaGreat
open Go.RowKit
def widW (lo hi : List Int) (k : Nat) : Int := hi.getD k 0 - lo.getD k 0 + 1
def cntW (lo hi : List Int) : Nat → Int
  | 0 => 1
  | k + 1 => cntW lo hi k * widW lo hi k
def spanL (a : Int) (n : Nat) : List Int := (List.range n).map fun m : Nat => a + (m : Int)
def extL (lo hi : List Int) (k : Nat) (v : List Int) : List (List Int) := (spanL (lo.getD k 0) (widW lo hi k).toNat).map fun n => v ++ [n]
def boxTo (lo hi : List Int) : Nat → List (List Int)
  | 0 => [[]]
  | k + 1 => (boxTo lo hi k).flatMap (extL lo hi k)
def okTo (lo hi : List Int) : Nat → Bool
  | 0 => true
  | k + 1 => okTo lo hi k && decide (cntW lo hi (k + 1) ≤ 4000)
def boxO (lo hi : List Int) : Option (List (List Int)) := if okTo lo hi lo.length then some (boxTo lo hi lo.length) else none
theorem extL_len {lo hi : List Int} {k : Nat} {v : List Int} : (extL lo hi k v).length = (widW lo hi k).toNat := by simp [extL, spanL]
theorem flat_const {α β : Type} {f : α → List β} {n : Nat} (h : ∀ x, (f x).length = n) : ∀ (l : List α), (l.flatMap f).length = l.length * n
  | [] => by simp
  | x :: l => by rw [List.flatMap_cons, List.length_append, h, flat_const h l, List.length_cons, Nat.succ_mul]; omega
theorem box_len {lo hi : List Int} (hw : ∀ k, k < lo.length → 1 ≤ widW lo hi k) : ∀ k, k ≤ lo.length → ((boxTo lo hi k).length : Int) = cntW lo hi k ∧ 1 ≤ cntW lo hi k
  | 0, _ => by simp [boxTo, cntW]
  | k + 1, h => by
    obtain ⟨h1, h2⟩ := box_len hw k (by omega)
    have h3 := hw k (by omega)
    have e : ((widW lo hi k).toNat : Int) = widW lo hi k := by omega
    refine ⟨?_, ?_⟩
    · rw [boxTo, flat_const fun v => extL_len, cntW, ← h1, Int.natCast_mul, e]
    · rw [cntW]
      have := Int.mul_le_mul h2 h3 (by omega) (by omega)
      omega
theorem okTo_mono {lo hi : List Int} {k : Nat} (h : okTo lo hi k = false) : ∀ m, okTo lo hi (k + m) = false
  | 0 => h
  | m + 1 => by rw [← Nat.add_assoc, okTo, okTo_mono h m]; rfl
theorem boxO_no {lo hi : List Int} {k : Nat} (hk : k ≤ lo.length) (h : okTo lo hi k = false) : boxO lo hi = none := by
  have := okTo_mono h (lo.length - k)
  rw [show k + (lo.length - k) = lo.length by omega] at this
  simp [boxO, this]
theorem okTo_cnt {lo hi : List Int} : ∀ {k : Nat}, okTo lo hi k = true → cntW lo hi k ≤ 4000
  | 0, _ => by simp [cntW]
  | k + 1, h => by simp only [okTo, Bool.and_eq_true, decide_eq_true_eq] at h; exact h.2
def rowsX (l : List Row) : List (List Int) := l.map Row.xs
def BoxR (th t : TypeId) (L : List (List Int)) (k : Nat) (v : AV) (Hout : List (Nat × Blk)) (n1 : Nat) : Prop := ∃ l cap, rowsX l = L ∧ v = .tup [.one (.sl k 1 0 l.length cap), .one (.bool true)] ∧ Hout = [(k, .own th cap (.rows false true l)), (k + 1, .tok t false l)] ∧ n1 = k + 2
theorem span_bd {lo hi : List Int} {k : Nat} (h : ∀ n ∈ lo, numB n = true) (h' : ∀ n ∈ hi, numB n = true) (hk : k < lo.length) (hl : lo.length = hi.length) : (-400000000 ≤ lo[k] ∧ lo[k] ≤ 400000000) ∧ (-400000000 ≤ hi[k] ∧ hi[k] ≤ 400000000) :=
  ⟨numB_true.1 (h _ (List.getElem_mem hk)), numB_true.1 (h' _ (List.getElem_mem (by omega)))⟩
theorem widW_at {lo hi : List Int} {k : Nat} (hk : k < lo.length) (hk' : k < hi.length) : widW lo hi k = hi[k] - lo[k] + 1 := by simp [widW, hk, hk']
theorem box_row {lo hi : List Int} : ∀ {k : Nat}, ∀ v ∈ boxTo lo hi k, v.length = k
  | 0, v, h => by simp [boxTo] at h; simp [h]
  | k + 1, v, h => by
    simp only [boxTo, extL, List.mem_flatMap, List.mem_map] at h
    obtain ⟨u, hu, n, _, rfl⟩ := h
    simp [box_row u hu]
theorem spanL_next {a : Int} {m : Nat} : spanL a (m + 1) = spanL a m ++ [a + (m : Int)] := by simp [spanL, List.range_succ]
def midL (lo hi : List Int) (i j m : Nat) : List (List Int) := ((boxTo lo hi i).take j).flatMap (extL lo hi i) ++ (spanL (lo.getD i 0) m).map fun n => (boxTo lo hi i).getD j [] ++ [n]
theorem midL_zero {lo hi : List Int} {i j : Nat} : midL lo hi i j 0 = ((boxTo lo hi i).take j).flatMap (extL lo hi i) := by simp [midL, spanL]
theorem midL_next {lo hi : List Int} {i j m : Nat} : midL lo hi i j (m + 1) = midL lo hi i j m ++ [(boxTo lo hi i).getD j [] ++ [lo.getD i 0 + (m : Int)]] := by
  simp [midL, spanL_next]
theorem midL_row {lo hi : List Int} {i j : Nat} (hj : j < (boxTo lo hi i).length) : midL lo hi i j (widW lo hi i).toNat = midL lo hi i (j + 1) 0 := by
  rw [midL_zero, List.take_succ_eq_append_getElem hj, List.flatMap_append]
  simp [midL, extL, hj]
theorem midL_full {lo hi : List Int} {i : Nat} : midL lo hi i (boxTo lo hi i).length 0 = boxTo lo hi (i + 1) := by rw [midL_zero, List.take_length, boxTo]
theorem midL_len {lo hi : List Int} {i j m : Nat} (hj : j < (boxTo lo hi i).length) (hm : m ≤ (widW lo hi i).toNat) : (midL lo hi i j m).length ≤ (boxTo lo hi i).length * (widW lo hi i).toNat := by
  have h1 : (midL lo hi i j m).length = j * (widW lo hi i).toNat + m := by
    rw [midL, List.length_append, flat_const fun v => extL_len, List.length_take, Nat.min_eq_left (by omega)]
    simp [spanL]
  have h2 : (j + 1) * (widW lo hi i).toNat ≤ (boxTo lo hi i).length * (widW lo hi i).toNat := Nat.mul_le_mul_right _ hj
  rw [Nat.succ_mul] at h2
  omega
theorem rowsX_len {l : List Row} {L : List (List Int)} (h : rowsX l = L) : l.length = L.length := by rw [← h]; simp [rowsX]
theorem rowsX_at {l : List Row} {L : List (List Int)} (h : rowsX l = L) {j : Nat} (hj : j < l.length) : (l.getD (0 + (j : Int).toNat) rowD).xs = L.getD j [] := by
  rw [← h]; simp [rowsX, hj]
theorem midL_eq {lo hi : List Int} {i j m : Nat} (hj : j < (boxTo lo hi i).length) : (midL lo hi i j m).length = j * (widW lo hi i).toNat + m := by
  rw [midL, List.length_append, flat_const fun v => extL_len, List.length_take, Nat.min_eq_left (by omega)]
  simp [spanL]
end Go.Proofs.YtekpamojojfplaaGreat
namespace Go.Proofs.YtekpamojojfplaaGreat
theorem getD_in {α : Type} {l : List α} {i : Nat} {d : α} (h : i < l.length) : l.getD i d = l[i] := by simp [h]
theorem getD_appL {α : Type} {l m : List α} {i : Nat} {d : α} (h : i < l.length) : (l ++ m).getD i d = l.getD i d := by
  rw [List.getD_eq_getElem?_getD, List.getElem?_append_left h, ← List.getD_eq_getElem?_getD]
theorem getD_appR {α : Type} {l m : List α} {i : Nat} {d : α} (h : l.length ≤ i) : (l ++ m).getD i d = m.getD (i - l.length) d := by
  rw [List.getD_eq_getElem?_getD, List.getElem?_append_right h, ← List.getD_eq_getElem?_getD]
def fromI (v : List Int) (k : Nat) : Int := if 0 < k then v.getD (k - 1) 0 + 1 else 0
def extC (n k : Nat) (v : List Int) : List (List Int) := (spanL (fromI v k) ((n : Int) - fromI v k).toNat).map fun x => v ++ [x]
def chTo (n : Nat) : Nat → List (List Int)
  | 0 => [[]]
  | k + 1 => (chTo n k).flatMap (extC n k)
def midC (n k j m : Nat) : List (List Int) := ((chTo n k).take j).flatMap (extC n k) ++ (spanL (fromI ((chTo n k).getD j []) k) m).map fun x => (chTo n k).getD j [] ++ [x]
end Go.Proofs.YtekpamojojfplaaGreat
