/-
  TEXTS OF THE PROOF, put together: pSmith, pSmith2.
-/
import Derived.Test.YtekpamojojfplaaGreatB18
import Derived.Test.YtekpamojojfplaaGreatB23
set_option linter.unusedVariables false
set_option linter.unusedSimpArgs false
namespace Go.Proofs.YtekpamojojfplaaGreat
theorem trX_at {xs : List Int} {r c i j : Nat} (hi : i < r) (hj : j < c) : (turnM xs r c).getD (j * r + i) 0 = xs.getD (i * c + j) 0 := by
  have h1 : j * r + i < c * r := cell_in hj hi
  have h2 : (j * r + i) % r = i := by rw [Nat.add_comm, Nat.add_mul_mod_self_right, Nat.mod_eq_of_lt hi]
  have h3 : (j * r + i) / r = j := by rw [Nat.add_comm, Nat.add_mul_div_right _ _ (by omega), Nat.div_eq_of_lt hi, Nat.zero_add]
  unfold turnM
  rw [List.getD_eq_getElem?_getD, List.getElem?_map, List.getElem?_range h1]
  simp only [Option.map_some, Option.getD_some, h2, h3]
theorem cells_ext {r c : Nat} {xs ys : List Int} (hx : xs.length = r * c) (hy : ys.length = r * c) (h : ∀ i j, i < r → j < c → xs.getD (i * c + j) 0 = ys.getD (i * c + j) 0) : xs = ys := by
  apply List.ext_getElem (hx.trans hy.symm)
  intro p h1 h2
  have hp : p < r * c := by omega
  have hc : 0 < c := by
    rcases Nat.eq_zero_or_pos c with h0 | h0
    · rw [h0, Nat.mul_zero] at hp; omega
    · exact h0
  have e : p / c * c + p % c = p := Nat.div_add_mod' p c
  have := h (p / c) (p % c) ((Nat.div_lt_iff_lt_mul hc).2 hp) (Nat.mod_lt _ hc)
  rw [e] at this
  simpa [List.getD_eq_getElem?_getD, h1, h2] using this
theorem trX_tr {xs : List Int} {r c : Nat} (h : xs.length = r * c) : turnM (turnM xs r c) c r = xs :=
  cells_ext turnM_len h fun i j hi hj => by rw [trX_at hj hi, trX_at hi hj]
theorem trX_num {xs : List Int} {r c : Nat} (h : xs.all numB = true) : (turnM xs r c).all numB = true := by
  unfold turnM
  rw [List.all_map, List.all_eq_true]
  exact fun p _ => num_at h _
abbrev S3 := List Int × List Int × List Int
structure OK3 (r c : Nat) (s : S3) : Prop where
  x : s.1.length = r * c
  u : s.2.1.length = r * r
  v : s.2.2.length = c * c
  nx : s.1.all numB = true
  nu : s.2.1.all numB = true
  nv : s.2.2.all numB = true
theorem OK3.row {r c : Nat} {s : S3} (h : OK3 r c s) : OKs r c (s.1, s.2.1) := ⟨h.x, h.u, h.nx, h.nu⟩
theorem OK3.col {r c : Nat} {s : S3} (h : OK3 r c s) : turnM (turnM s.1 r c) c r = s.1 := trX_tr h.x
def row3 (r c i j : Nat) (q : Int) (s : S3) : Option S3 := (addS c r i j q (s.1, s.2.1)).map fun y => (y.1, y.2, s.2.2)
def colOK (r c i j : Nat) (q : Int) (s : S3) : Prop := addOK (turnM s.1 r c) r i j q r = true ∧ addOK (turnM s.2.2 c c) c i j q c = true
instance {r c i j : Nat} {q : Int} {s : S3} : Decidable (colOK r c i j q s) := by unfold colOK; infer_instance
def col3 (r c i j : Nat) (q : Int) (s : S3) : Option S3 := if colOK r c i j q s then some (turnM (addX (turnM s.1 r c) r i j q) c r, s.2.1, turnM (addX (turnM s.2.2 c c) c i j q) c c) else none
theorem row3_cells {r c i j : Nat} {q : Int} {s s' : S3} (h : OK3 r c s) (hi : i < r) (he : row3 r c i j q s = some s') :
    OK3 r c s' ∧ (∀ k, k < c → s'.1.getD (i * c + k) 0 = s.1.getD (i * c + k) 0 + s.1.getD (j * c + k) 0 * q) ∧ ∀ i' k, i' ≠ i → k < c → s'.1.getD (i' * c + k) 0 = s.1.getD (i' * c + k) 0 := by
  simp only [row3, Option.map_eq_some_iff] at he
  obtain ⟨y, hy, rfl⟩ := he
  have o := addS_ok h.row hy
  refine ⟨⟨o.1, o.2.1, h.v, o.2.2.1, o.2.2.2, h.nv⟩, ?_⟩
  unfold addS at hy
  split at hy
  · cases hy
    exact ⟨fun k hk => addX_row h.x hi hk, fun i' k hi' hk => addX_other hi' hk⟩
  · cases hy
theorem colX_cells {r c i j k l : Nat} {q : Int} {xs : List Int} (hi : i < c) (hj : j < c) (hk : k < r) (hl : l < c) :
    (turnM (addX (turnM xs r c) r i j q) c r).getD (k * c + l) 0 = if l = i then xs.getD (k * c + i) 0 + xs.getD (k * c + j) 0 * q else xs.getD (k * c + l) 0 := by
  rw [trX_at hl hk]
  split
  · rename_i e
    rw [e, addX_row turnM_len hi hk, trX_at hk hi, trX_at hk hj]
  · rename_i e
    rw [addX_other e hk, trX_at hk hl]
theorem col3_cells {r c i j : Nat} {q : Int} {s s' : S3} (h : OK3 r c s) (hi : i < c) (hj : j < c) (he : col3 r c i j q s = some s') :
    OK3 r c s' ∧ (∀ k, k < r → s'.1.getD (k * c + i) 0 = s.1.getD (k * c + i) 0 + s.1.getD (k * c + j) 0 * q) ∧ ∀ i' k, i' ≠ i → i' < c → k < r → s'.1.getD (k * c + i') 0 = s.1.getD (k * c + i') 0 := by
  unfold col3 at he
  split at he
  · rename_i hc
    cases he
    refine ⟨⟨turnM_len, h.u, turnM_len, trX_num (addX_num (trX_num h.nx) hc.1), h.nu, trX_num (addX_num (trX_num h.nv) hc.2)⟩, fun k hk => ?_, fun i' k hi' hc' hk => ?_⟩
    · dsimp only
      rw [colX_cells hi hj hk hi, if_pos rfl]
    · dsimp only
      rw [colX_cells hi hj hk hc', if_neg hi']
  · cases he
def rAt (r c t i : Nat) (s : S3) : Option S3 := if s.1.getD (i * c + t) 0 ≠ 0 then row3 r c i t (-(s.1.getD (i * c + t) 0 / s.1.getD (t * c + t) 0)) s else some s
def cAt (r c t j : Nat) (s : S3) : Option S3 := if s.1.getD (t * c + j) 0 ≠ 0 then col3 r c j t (-(s.1.getD (t * c + j) 0 / s.1.getD (t * c + t) 0)) s else some s
def rTo (r c t : Nat) (s : S3) : Nat → Option S3
  | 0 => some s
  | n + 1 => (rTo r c t s n).bind (rAt r c t (t + 1 + n))
def cTo (r c t : Nat) (s : S3) : Nat → Option S3
  | 0 => some s
  | n + 1 => (cTo r c t s n).bind (cAt r c t (t + 1 + n))
theorem rem_eq (a d : Int) : a + d * -(a / d) = a % d := by rw [Int.emod_def, Int.mul_neg]; omega
theorem rAt_cells {r c t i : Nat} {s s' : S3} (h : OK3 r c s) (hi : i < r) (hit : i ≠ t) (ht : t < c) (he : rAt r c t i s = some s') :
    OK3 r c s' ∧ s'.1.getD (i * c + t) 0 = s.1.getD (i * c + t) 0 % s.1.getD (t * c + t) 0 ∧ ∀ i' k, i' ≠ i → k < c → s'.1.getD (i' * c + k) 0 = s.1.getD (i' * c + k) 0 := by
  unfold rAt at he
  split at he
  · obtain ⟨o, c1, c2⟩ := row3_cells h hi he
    exact ⟨o, by rw [c1 t ht, rem_eq], c2⟩
  · rename_i h0
    cases he
    have h0 := Decidable.not_not.1 h0
    exact ⟨h, by rw [h0, Int.zero_emod], fun _ _ _ _ => rfl⟩
theorem cAt_cells {r c t j : Nat} {s s' : S3} (h : OK3 r c s) (hj : j < c) (hit : j ≠ t) (ht : t < c) (htr : t < r) (he : cAt r c t j s = some s') :
    OK3 r c s' ∧ s'.1.getD (t * c + j) 0 = s.1.getD (t * c + j) 0 % s.1.getD (t * c + t) 0 ∧ ∀ i' k, i' ≠ j → i' < c → k < r → s'.1.getD (k * c + i') 0 = s.1.getD (k * c + i') 0 := by
  unfold cAt at he
  split at he
  · obtain ⟨o, c1, c2⟩ := col3_cells h hj ht he
    exact ⟨o, by rw [c1 t htr, rem_eq], c2⟩
  · rename_i h0
    cases he
    have h0 := Decidable.not_not.1 h0
    exact ⟨h, by rw [h0, Int.zero_emod], fun _ _ _ _ _ => rfl⟩
theorem rTo_cells {r c t : Nat} {s : S3} (h : OK3 r c s) (ht : t < c) : ∀ {n : Nat} {s' : S3}, t + 1 + n ≤ r → rTo r c t s n = some s' →
    OK3 r c s' ∧ (∀ k, k < c → s'.1.getD (t * c + k) 0 = s.1.getD (t * c + k) 0) ∧ (∀ i, i < n → s'.1.getD ((t + 1 + i) * c + t) 0 = s.1.getD ((t + 1 + i) * c + t) 0 % s.1.getD (t * c + t) 0) ∧ ∀ i k, n ≤ i → k < c → s'.1.getD ((t + 1 + i) * c + k) 0 = s.1.getD ((t + 1 + i) * c + k) 0
  | 0, s', _, he => by cases he; exact ⟨h, fun _ _ => rfl, fun i hi => by omega, fun _ _ _ _ => rfl⟩
  | n + 1, s', hn, he => by
    simp only [rTo, Option.bind_eq_some_iff] at he
    obtain ⟨x, h1, h2⟩ := he
    obtain ⟨o, c1, c2, c3⟩ := rTo_cells h ht (by omega) h1
    obtain ⟨o', d1, d2⟩ := rAt_cells o (by omega) (by omega) ht h2
    refine ⟨o', fun k hk => by rw [d2 t k (by omega) hk, c1 k hk], fun i hi => ?_, fun i k hi hk => by rw [d2 _ k (by omega) hk, c3 i k (by omega) hk]⟩
    rcases Nat.lt_or_ge i n with e | e
    · rw [d2 _ t (by omega) ht, c2 i e]
    · obtain rfl : i = n := by omega
      rw [d1, c1 t ht, c3 i t (Nat.le_refl _) ht]
theorem cTo_cells {r c t : Nat} {s : S3} (h : OK3 r c s) (ht : t < c) (htr : t < r) : ∀ {n : Nat} {s' : S3}, t + 1 + n ≤ c → cTo r c t s n = some s' →
    OK3 r c s' ∧ (∀ k, k < r → s'.1.getD (k * c + t) 0 = s.1.getD (k * c + t) 0) ∧ (∀ j, j < n → s'.1.getD (t * c + (t + 1 + j)) 0 = s.1.getD (t * c + (t + 1 + j)) 0 % s.1.getD (t * c + t) 0) ∧ ∀ j k, n ≤ j → t + 1 + j < c → k < r → s'.1.getD (k * c + (t + 1 + j)) 0 = s.1.getD (k * c + (t + 1 + j)) 0
  | 0, s', _, he => by cases he; exact ⟨h, fun _ _ => rfl, fun i hi => by omega, fun _ _ _ _ _ => rfl⟩
  | n + 1, s', hn, he => by
    simp only [cTo, Option.bind_eq_some_iff] at he
    obtain ⟨x, h1, h2⟩ := he
    obtain ⟨o, c1, c2, c3⟩ := cTo_cells h ht htr (by omega) h1
    obtain ⟨o', d1, d2⟩ := cAt_cells o (by omega) (by omega) ht htr h2
    refine ⟨o', fun k hk => by rw [d2 t k (by omega) ht hk, c1 k hk], fun i hi => ?_, fun i k hi hc hk => by rw [d2 _ k (by omega) hc hk, c3 i k (by omega) hc hk]⟩
    rcases Nat.lt_or_ge i n with e | e
    · rw [d2 _ t (by omega) (by omega) htr, c2 i e]
    · obtain rfl : i = n := by omega
      rw [d1, c1 t htr, c3 i t (Nat.le_refl _) (by omega) htr]
def lpAt (xs : List Int) (c i j : Nat) : Option (Nat × Nat) → Option (Nat × Nat)
  | none => if xs.getD (i * c + j) 0 ≠ 0 then some (i, j) else none
  | some p => if xs.getD (i * c + j) 0 ≠ 0 ∧ (xs.getD (i * c + j) 0).natAbs < (xs.getD (p.1 * c + p.2) 0).natAbs then some (i, j) else some p
def lpR (xs : List Int) (c t i : Nat) (o : Option (Nat × Nat)) : Nat → Option (Nat × Nat)
  | 0 => o
  | m + 1 => lpAt xs c i (t + m) (lpR xs c t i o m)
def lpTo (xs : List Int) (c t w : Nat) : Nat → Option (Nat × Nat)
  | 0 => none
  | n + 1 => lpR xs c t (t + n) (lpTo xs c t w n) w
def lp (xs : List Int) (r c t : Nat) : Option (Nat × Nat) := lpTo xs c t (c - t) (r - t)
def LP (xs : List Int) (c t : Nat) (S : Nat → Nat → Prop) : Option (Nat × Nat) → Prop
  | none => ∀ i j, S i j → xs.getD (i * c + j) 0 = 0
  | some p => S p.1 p.2 ∧ xs.getD (p.1 * c + p.2) 0 ≠ 0 ∧ (∀ i j, S i j → xs.getD (i * c + j) 0 ≠ 0 → (xs.getD (p.1 * c + p.2) 0).natAbs ≤ (xs.getD (i * c + j) 0).natAbs) ∧ (xs.getD (t * c + t) 0 ≠ 0 → p = (t, t) ∨ (xs.getD (p.1 * c + p.2) 0).natAbs < (xs.getD (t * c + t) 0).natAbs)
theorem LP.mono {xs : List Int} {c t : Nat} {S S' : Nat → Nat → Prop} (h : ∀ i j, S i j ↔ S' i j) {o : Option (Nat × Nat)} (hl : LP xs c t S o) : LP xs c t S' o := by
  have : S = S' := funext fun i => funext fun j => propext (h i j)
  rwa [← this]
theorem LP.step {xs : List Int} {c t i j : Nat} {S : Nat → Nat → Prop} {o : Option (Nat × Nat)} (hl : LP xs c t S o) (hs : o = none → S t t ∨ (i = t ∧ j = t)) : LP xs c t (fun a b => S a b ∨ (a = i ∧ b = j)) (lpAt xs c i j o) := by
  cases o with
  | none =>
    have hl : ∀ i j, S i j → xs.getD (i * c + j) 0 = 0 := hl
    unfold lpAt
    dsimp only
    split
    · rename_i h0
      refine ⟨.inr ⟨rfl, rfl⟩, h0, fun a b hab h1 => ?_, fun h1 => ?_⟩
      · rcases hab with hab | ⟨rfl, rfl⟩
        · exact absurd (hl a b hab) h1
        · exact Nat.le_refl _
      · rcases hs rfl with h2 | ⟨rfl, rfl⟩
        · exact absurd (hl t t h2) h1
        · exact .inl rfl
    · rename_i h0
      have h0 := Decidable.not_not.1 h0
      intro a b hab
      rcases hab with hab | ⟨rfl, rfl⟩
      · exact hl a b hab
      · exact h0
  | some p =>
    obtain ⟨q1, q2, q3, q4⟩ := hl
    unfold lpAt
    dsimp only
    split
    · rename_i h0
      refine ⟨.inr ⟨rfl, rfl⟩, h0.1, fun a b hab h1 => ?_, fun h1 => ?_⟩
      · rcases hab with hab | ⟨rfl, rfl⟩
        · exact Nat.le_trans (Nat.le_of_lt h0.2) (q3 a b hab h1)
        · exact Nat.le_refl _
      · rcases q4 h1 with e | e
        · right
          have h2 := h0.2
          rw [e] at h2
          exact h2
        · exact .inr (Nat.lt_trans h0.2 e)
    · rename_i h0
      refine ⟨.inl q1, q2, fun a b hab h1 => ?_, q4⟩
      rcases hab with hab | ⟨rfl, rfl⟩
      · exact q3 a b hab h1
      · exact Nat.le_of_not_lt fun h => h0 ⟨h1, h⟩
theorem LP.row {xs : List Int} {c t i : Nat} {S : Nat → Nat → Prop} {o : Option (Nat × Nat)} (hl : LP xs c t S o) (hs : o = none → S t t ∨ i = t) : ∀ m, LP xs c t (fun a b => S a b ∨ (a = i ∧ t ≤ b ∧ b < t + m)) (lpR xs c t i o m)
  | 0 => hl.mono fun a b => ⟨.inl, fun h => h.elim id fun h => by omega⟩
  | m + 1 => by
    refine (LP.step (LP.row hl hs m) fun h => ?_).mono fun a b => ?_
    · rcases Nat.eq_zero_or_pos m with rfl | hm
      · rcases hs h with h | h
        · exact .inl (.inl h)
        · exact .inr ⟨h, rfl⟩
      · have ho : o = none ∨ S t t := by
          cases o with
          | none => exact .inl rfl
          | some p =>
            have : ∀ m, lpR xs c t i (some p) m ≠ none := fun m => by
              induction m with
              | zero => exact fun h => by cases h
              | succ m ih =>
                rw [lpR]
                cases hq : lpR xs c t i (some p) m with
                | none => exact absurd hq ih
                | some q => unfold lpAt; dsimp only; split <;> exact fun h => by cases h
            exact absurd h (this m)
        rcases ho with ho | ho
        · rcases hs ho with h | h
          · exact .inl (.inl h)
          · exact .inl (.inr ⟨h.symm, by omega, by omega⟩)
        · exact .inl (.inl ho)
    · constructor
      · rintro ((h | h) | h)
        · exact .inl h
        · exact .inr ⟨h.1, h.2.1, by omega⟩
        · exact .inr ⟨h.1, by omega, by omega⟩
      · rintro (h | ⟨h1, h2, h3⟩)
        · exact .inl (.inl h)
        · rcases Nat.lt_or_ge b (t + m) with e | e
          · exact .inl (.inr ⟨h1, h2, e⟩)
          · exact .inr ⟨h1, by omega⟩
def swR (r c a t : Nat) (s : S3) : S3 := if a = t then s else (swapTo s.1 (a * c) (t * c) c, swapTo s.2.1 (a * r) (t * r) r, s.2.2)
def swC (r c b t : Nat) (s : S3) : S3 := if b = t then s else (turnM (swapTo (turnM s.1 r c) (b * r) (t * r) r) c r, s.2.1, turnM (swapTo (turnM s.2.2 c c) (b * c) (t * c) c) c c)
theorem swR_ok {r c a t : Nat} {s : S3} (h : OK3 r c s) : OK3 r c (swR r c a t s) := by
  unfold swR
  split
  · exact h
  · exact ⟨swapTo_len.trans h.x, swapTo_len.trans h.u, h.v, swapTo_num h.nx, swapTo_num h.nu, h.nv⟩
theorem swC_ok {r c b t : Nat} {s : S3} (h : OK3 r c s) : OK3 r c (swC r c b t s) := by
  unfold swC
  split
  · exact h
  · exact ⟨turnM_len, h.u, turnM_len, trX_num (swapTo_num (trX_num h.nx)), h.nu, trX_num (swapTo_num (trX_num h.nv))⟩
def zr (xs : List Int) (c t n : Nat) : Prop := ∀ i, i < n → xs.getD ((t + 1 + i) * c + t) 0 = 0
def zc (xs : List Int) (c t n : Nat) : Prop := ∀ j, j < n → xs.getD (t * c + (t + 1 + j)) 0 = 0
def dv (xs : List Int) (c t : Nat) (p : Int) (i n : Nat) : Prop := ∀ j, j < n → Int.tmod (xs.getD (i * c + (t + 1 + j)) 0) p = 0
instance {xs : List Int} {c t n : Nat} : Decidable (zr xs c t n) := by unfold zr; infer_instance
instance {xs : List Int} {c t n : Nat} : Decidable (zc xs c t n) := by unfold zc; infer_instance
instance {xs : List Int} {c t i n : Nat} {p : Int} : Decidable (dv xs c t p i n) := by unfold dv; infer_instance
def ndTo (xs : List Int) (c t : Nat) (p : Int) (w : Nat) : Nat → Option Nat
  | 0 => none
  | n + 1 => match ndTo xs c t p w n with
    | some i => some i
    | none => if dv xs c t p (t + 1 + n) w then none else some (t + 1 + n)
def endR (r c t : Nat) (s : S3) : Option (S3 × Bool) :=
  if zr s.1 c t (r - (t + 1)) ∧ zc s.1 c t (c - (t + 1)) then match ndTo s.1 c t (s.1.getD (t * c + t) 0) (c - (t + 1)) (r - (t + 1)) with
    | none => some (s, false)
    | some i => (row3 r c t i 1 s).map fun x => (x, true)
  else some (s, true)
def rcTo (r c t : Nat) (s : S3) : Option S3 := (rTo r c t s (r - (t + 1))).bind fun x => cTo r c t x (c - (t + 1))
def rndS (r c t : Nat) (s : S3) : Option (S3 × Bool) := (rcTo r c t s).bind (endR r c t)
def rndP (r c t : Nat) (p : Nat × Nat) (s : S3) : Option (S3 × Bool) := rndS r c t (swC r c p.2 t (swR r c p.1 t s))
def zm (xs : List Int) (c t n : Nat) : Prop := ∀ j, j < n → xs.getD (t * c + (t + 1 + j)) 0 % xs.getD (t * c + t) 0 = 0
instance {xs : List Int} {c t n : Nat} : Decidable (zm xs c t n) := by unfold zm; infer_instance
def muD (r c t : Nat) (s : S3) : Nat := if lp s.1 r c t = some (t, t) ∧ ¬ zm s.1 c t (c - (t + 1)) then 0 else 1
def muS (r c t : Nat) (s : S3) : Nat := (match lp s.1 r c t with | some p => 2 * (s.1.getD (p.1 * c + p.2) 0).natAbs | none => 0) + muD r c t s
def itS (r c t : Nat) (s : S3) : Option S3 := match lp s.1 r c t with
  | none => some s
  | some p => match rndP r c t p s with
    | none => none
    | some (x, false) => some x
    | some (x, true) => if muS r c t x < muS r c t s then itS r c t x else some x
  termination_by muS r c t s
def ng3 (r c t : Nat) (s : S3) : S3 := if s.1.getD (t * c + t) 0 < 0 then (negX s.1 c t, negX s.2.1 r t, s.2.2) else s
def dgS (r c t : Nat) (s : S3) : Option S3 := (itS r c t s).map (ng3 r c t)
def sTo (r c : Nat) (s : S3) : Nat → Option S3
  | 0 => some s
  | n + 1 => (sTo r c s n).bind (dgS r c n)
def smO (r c : Int) (xs : List Int) : Option S3 := if isM r c xs then sTo r.toNat c.toNat (xs, idTo r.toNat r.toNat, idTo c.toNat c.toNat) (min r.toNat c.toNat) else none
end Go.Proofs.YtekpamojojfplaaGreat
namespace Go.Proofs.YtekpamojojfplaaGreat
theorem gb_zero : GB 0 := .inl ⟨by decide, by decide⟩
theorem turnM_gb {xs : List Int} {r c : Nat} (h : GBs xs) : GBs (turnM xs r c) := fun p => by
  unfold turnM
  rw [List.getD_eq_getElem?_getD, List.getElem?_map]
  cases he : (List.range (c * r))[p]? with
  | none => exact gb_zero
  | some k => exact h _
theorem turnM_bad {xs : List Int} {r c : Nat} (hl : xs.length = r * c) (h : hasB xs) : hasB (turnM xs r c) := by
  obtain ⟨p, hp⟩ := h
  have hlt : p < r * c := by
    rcases Nat.lt_or_ge p xs.length with e | e
    · omega
    · rw [List.getD_eq_getElem?_getD, List.getElem?_eq_none e] at hp; cases hp
  have hc : 0 < c := by
    rcases Nat.eq_zero_or_pos c with h0 | h0
    · rw [h0, Nat.mul_zero] at hlt; omega
    · exact h0
  have e : p / c * c + p % c = p := Nat.div_add_mod' p c
  refine ⟨p % c * r + p / c, ?_⟩
  rw [trX_at ((Nat.div_lt_iff_lt_mul hc).2 hlt) (Nat.mod_lt _ hc), e, hp]
def dcX (xs : List Int) (r c i j : Nat) (q : Int) : List Int := turnM (doX (turnM xs r c) r i j q) c r
theorem dcX_len {xs : List Int} {r c i j : Nat} {q : Int} : (dcX xs r c i j q).length = r * c := turnM_len
theorem dcX_gb {xs : List Int} {r c i j : Nat} {q : Int} (h : GBs xs) : GBs (dcX xs r c i j q) := turnM_gb ((turnM_gb h).upd (fun _ _ => GB.add _ _) _)
theorem dcX_keep {xs : List Int} {r c i j : Nat} {q : Int} (hl : xs.length = r * c) (hi : i < c) (h : hasB xs) : hasB (dcX xs r c i j q) :=
  turnM_bad (updTo_len.trans turnM_len) (doX_keep turnM_len hi (turnM_bad hl h))
structure Sp3 (r c : Nat) (o : Option S3) (s : S3) : Prop where
  x : s.1.length = r * c
  u : s.2.1.length = r * r
  v : s.2.2.length = c * c
  gx : GBs s.1
  gu : GBs s.2.1
  gv : GBs s.2.2
  m : match o with
    | some y => s = y ∧ OK3 r c s
    | none => hasB s.1 ∨ hasB s.2.1 ∨ hasB s.2.2
theorem Sp3.of {r c : Nat} {s : S3} (h : OK3 r c s) : Sp3 r c (some s) s := ⟨h.x, h.u, h.v, GBs.num h.nx, GBs.num h.nu, GBs.num h.nv, rfl, h⟩
theorem Sp3.ok {r c : Nat} {o : Option S3} {s : S3} (h : Sp3 r c o s) (hb : ¬ (hasB s.1 ∨ hasB s.2.1 ∨ hasB s.2.2)) : o = some s ∧ OK3 r c s := by
  have h5 := h.m
  cases o with
  | none => exact absurd h5 hb
  | some x => exact ⟨congrArg some h5.1.symm, h5.2⟩
theorem Sp3.bad {r c : Nat} {o : Option S3} {s : S3} (h : Sp3 r c o s) (hb : hasB s.1 ∨ hasB s.2.1 ∨ hasB s.2.2) : o = none := by
  have h5 := h.m
  cases o with
  | none => rfl
  | some x => rcases hb with b | b | b
              · exact absurd b (num_hasB h5.2.nx)
              · exact absurd b (num_hasB h5.2.nu)
              · exact absurd b (num_hasB h5.2.nv)
theorem Sp3.row {r c i j : Nat} {q : Int} {o : Option S3} {s : S3} (h : Sp3 r c o s) (hi : i < r) (hq : q ≠ badN) : Sp3 r c (o.bind (row3 r c i j q)) (doX s.1 c i j q, doX s.2.1 r i j q, s.2.2) := by
  refine ⟨updTo_len.trans h.x, updTo_len.trans h.u, h.v, h.gx.upd (fun _ _ => GB.add _ _) _, h.gu.upd (fun _ _ => GB.add _ _) _, h.gv, ?_⟩
  have hm := h.m
  cases o with
  | none =>
    rcases hm with b | b | b
    · exact .inl (doX_keep h.x hi b)
    · exact .inr (.inl (doX_keep h.u hi b))
    · exact .inr (.inr b)
  | some y =>
    obtain ⟨rfl, o3⟩ := hm
    have hS := (SpS.of o3.row).add (j := j) hi hq
    rw [Option.bind_some] at hS
    generalize ho : addS c r i j q (s.1, s.2.1) = oo at hS
    rw [Option.bind_some, row3]
    have ho' : addS c r i j q (s.1, s.2.1) = oo := ho
    rw [ho']
    obtain ⟨-, -, -, -, hm2⟩ := hS
    cases oo with
    | none =>
      rcases hm2 with b | b
      · exact .inl b
      · exact .inr (.inl b)
    | some y =>
      obtain ⟨he, n1, n2⟩ := hm2
      rw [Option.map_some]
      have e1 := congrArg Prod.fst he
      have e2 := congrArg Prod.snd he
      dsimp only at e1 e2 n1 n2
      refine ⟨by rw [← e1, ← e2], ⟨updTo_len.trans h.x, updTo_len.trans h.u, h.v, n1, n2, o3.nv⟩⟩
theorem Sp3.col {r c i j : Nat} {q : Int} {o : Option S3} {s : S3} (h : Sp3 r c o s) (hi : i < c) (hq : q ≠ badN) : Sp3 r c (o.bind (col3 r c i j q)) (dcX s.1 r c i j q, s.2.1, dcX s.2.2 c c i j q) := by
  refine ⟨dcX_len, h.u, dcX_len, dcX_gb h.gx, h.gu, dcX_gb h.gv, ?_⟩
  have hm := h.m
  cases o with
  | none =>
    rcases hm with b | b | b
    · exact .inl (dcX_keep h.x hi b)
    · exact .inr (.inl b)
    · exact .inr (.inr (dcX_keep h.v hi b))
  | some y =>
    obtain ⟨rfl, o3⟩ := hm
    rw [Option.bind_some, col3]
    by_cases hc : colOK r c i j q s
    · rw [if_pos hc]
      have e1 : dcX s.1 r c i j q = turnM (addX (turnM s.1 r c) r i j q) c r := by rw [dcX, doX_ok (trX_num o3.nx) hq hc.1]
      have e2 : dcX s.2.2 c c i j q = turnM (addX (turnM s.2.2 c c) c i j q) c c := by rw [dcX, doX_ok (trX_num o3.nv) hq hc.2]
      rw [e1, e2]
      exact ⟨rfl, ⟨turnM_len, o3.u, turnM_len, trX_num (addX_num (trX_num o3.nx) hc.1), o3.nu, trX_num (addX_num (trX_num o3.nv) hc.2)⟩⟩
    · rw [if_neg hc]
      by_cases k1 : addOK (turnM s.1 r c) r i j q r = true
      · have k2 : ¬ addOK (turnM s.2.2 c c) c i j q c = true := fun h2 => hc ⟨k1, h2⟩
        exact .inr (.inr (turnM_bad (updTo_len.trans turnM_len) (doX_bad turnM_len hi (trX_num o3.nv) hq k2)))
      · exact .inl (turnM_bad (updTo_len.trans turnM_len) (doX_bad turnM_len hi (trX_num o3.nx) hq k1))
theorem Sp3.rAt {r c t n : Nat} {s0 s : S3} {p : Int} (h0 : OK3 r c s0) (ht : t < c) (hp : s0.1.getD (t * c + t) 0 = p) (hp0 : p ≠ 0) (hn : t + 1 + n < r) (h : Sp3 r c (rTo r c t s0 n) s) :
    (s.1.getD ((t + 1 + n) * c + t) 0 = 0 → Sp3 r c (rTo r c t s0 (n + 1)) s) ∧ (s.1.getD ((t + 1 + n) * c + t) 0 ≠ 0 → Sp3 r c (rTo r c t s0 (n + 1)) (doX s.1 c (t + 1 + n) t (-dfQ (s.1.getD ((t + 1 + n) * c + t) 0) p), doX s.2.1 r (t + 1 + n) t (-dfQ (s.1.getD ((t + 1 + n) * c + t) 0) p), s.2.2)) := by
  cases ho : rTo r c t s0 n with
  | none =>
    rw [ho] at h
    have e : rTo r c t s0 (n + 1) = none := by rw [rTo, ho]; rfl
    rw [e]
    exact ⟨fun _ => h, fun _ => Sp3.row (o := none) h hn (dfQ_ne _ _).2⟩
  | some x =>
    obtain ⟨-, hc, -, -⟩ := rTo_cells h0 ht (by omega) ho
    have e : rTo r c t s0 (n + 1) = Go.Proofs.YtekpamojojfplaaGreat.rAt r c t (t + 1 + n) x := by rw [rTo, ho]; rfl
    rw [ho] at h
    have hm := h.m
    obtain ⟨rfl, o3⟩ := hm
    rw [e]
    refine ⟨fun hk => ?_, fun hk => ?_⟩
    · rw [Go.Proofs.YtekpamojojfplaaGreat.rAt, if_neg (fun h => h hk)]
      exact h
    · rw [Go.Proofs.YtekpamojojfplaaGreat.rAt, if_pos hk]
      have hpp : s.1.getD (t * c + t) 0 = p := (hc t ht).trans hp
      have eq : dfQ (s.1.getD ((t + 1 + n) * c + t) 0) p = s.1.getD ((t + 1 + n) * c + t) 0 / s.1.getD (t * c + t) 0 := by
        rw [hpp]
        exact if_pos ⟨num_at o3.nx _, by rw [← hpp]; exact num_at o3.nx _, hp0⟩
      have := Sp3.row (o := some s) (i := t + 1 + n) (j := t) (q := -dfQ (s.1.getD ((t + 1 + n) * c + t) 0) p) h hn (dfQ_ne _ _).2
      rw [Option.bind_some] at this
      rw [← eq]
      exact this
theorem Sp3.cAt {r c t n : Nat} {s0 s : S3} {p : Int} (h0 : OK3 r c s0) (htr : t < r) (ht : t < c) (hp : s0.1.getD (t * c + t) 0 = p) (hp0 : p ≠ 0) (hn : t + 1 + n < c) (h : Sp3 r c ((rTo r c t s0 (r - (t + 1))).bind fun x => cTo r c t x n) s) :
    (s.1.getD (t * c + (t + 1 + n)) 0 = 0 ∨ s.1.getD (t * c + (t + 1 + n)) 0 = badN → Sp3 r c ((rTo r c t s0 (r - (t + 1))).bind fun x => cTo r c t x (n + 1)) s) ∧ (s.1.getD (t * c + (t + 1 + n)) 0 ≠ 0 → Sp3 r c ((rTo r c t s0 (r - (t + 1))).bind fun x => cTo r c t x (n + 1)) (dcX s.1 r c (t + 1 + n) t (-dfQ (s.1.getD (t * c + (t + 1 + n)) 0) p), s.2.1, dcX s.2.2 c c (t + 1 + n) t (-dfQ (s.1.getD (t * c + (t + 1 + n)) 0) p))) := by
  cases ho : rTo r c t s0 (r - (t + 1)) with
  | none =>
    rw [ho] at h
    exact ⟨fun _ => h, fun _ => Sp3.col (o := none) h hn (dfQ_ne _ _).2⟩
  | some y =>
    rw [ho, Option.bind_some] at h
    rw [Option.bind_some]
    obtain ⟨oy, hc, -, -⟩ := rTo_cells h0 ht (by omega) ho
    cases hx : cTo r c t y n with
    | none =>
      rw [hx] at h
      have e : cTo r c t y (n + 1) = none := by rw [cTo, hx]; rfl
      rw [e]
      exact ⟨fun _ => h, fun _ => Sp3.col (o := none) h hn (dfQ_ne _ _).2⟩
    | some x =>
      obtain ⟨-, hd, -, -⟩ := cTo_cells oy ht htr (by omega) hx
      have e : cTo r c t y (n + 1) = Go.Proofs.YtekpamojojfplaaGreat.cAt r c t (t + 1 + n) x := by rw [cTo, hx]; rfl
      rw [hx] at h
      have hm := h.m
      obtain ⟨rfl, o3⟩ := hm
      rw [e]
      refine ⟨fun hk => ?_, fun hk => ?_⟩
      · have hk0 : s.1.getD (t * c + (t + 1 + n)) 0 = 0 := hk.resolve_right (num_ne (num_at o3.nx _))
        rw [Go.Proofs.YtekpamojojfplaaGreat.cAt, if_neg (fun h => h hk0)]
        exact h
      · rw [Go.Proofs.YtekpamojojfplaaGreat.cAt, if_pos hk]
        have hpp : s.1.getD (t * c + t) 0 = p := (hd t htr).trans ((hc t ht).trans hp)
        have eq : dfQ (s.1.getD (t * c + (t + 1 + n)) 0) p = s.1.getD (t * c + (t + 1 + n)) 0 / s.1.getD (t * c + t) 0 := by
          rw [hpp]
          exact if_pos ⟨num_at o3.nx _, by rw [← hpp]; exact num_at o3.nx _, hp0⟩
        have := Sp3.col (o := some s) (i := t + 1 + n) (j := t) (q := -dfQ (s.1.getD (t * c + (t + 1 + n)) 0) p) h hn (dfQ_ne _ _).2
        rw [Option.bind_some] at this
        rw [← eq]
        exact this
def cupTo (xs : List Int) (c i : Nat) (F : Nat → Int → Int) : Nat → List Int
  | 0 => xs
  | k + 1 => (cupTo xs c i F k).set (k * c + i) (F k (xs.getD (k * c + i) 0))
theorem cupTo_len {xs : List Int} {c i : Nat} {F : Nat → Int → Int} : ∀ {k : Nat}, (cupTo xs c i F k).length = xs.length
  | 0 => rfl
  | k + 1 => by rw [cupTo, List.length_set, cupTo_len]
theorem cell_ne {c k k' i l : Nat} (hi : i < c) (hl : l < c) (h : ¬ (k = k' ∧ i = l)) : k * c + i ≠ k' * c + l := fun e => by
  have h1 : (k * c + i) % c = (k' * c + l) % c := by rw [e]
  rw [Nat.add_comm, Nat.add_mul_mod_self_right, Nat.mod_eq_of_lt hi, Nat.add_comm, Nat.add_mul_mod_self_right, Nat.mod_eq_of_lt hl] at h1
  subst h1
  have h2 : k * c = k' * c := by omega
  exact h ⟨Nat.eq_of_mul_eq_mul_right (by omega) h2, rfl⟩
theorem cupTo_cell {xs : List Int} {r c i k l : Nat} {F : Nat → Int → Int} (hx : xs.length = r * c) (hi : i < c) (hl : l < c) (hk : k < r) : ∀ {n : Nat}, n ≤ r → (cupTo xs c i F n).getD (k * c + l) 0 = if l = i ∧ k < n then F k (xs.getD (k * c + i) 0) else xs.getD (k * c + l) 0
  | 0, _ => by rw [if_neg (by omega)]; rfl
  | n + 1, hn => by
    rw [cupTo, getD_set, cupTo_len, cupTo_cell hx hi hl hk (by omega)]
    have hlt : n * c + i < xs.length := by rw [hx]; exact cell_in (by omega) hi
    by_cases h : k = n ∧ l = i
    · obtain ⟨rfl, rfl⟩ := h
      rw [if_pos ⟨rfl, hlt⟩, if_pos ⟨rfl, by omega⟩]
    · rw [if_neg (fun h2 => cell_ne hl hi h h2.1)]
      by_cases h3 : l = i ∧ k < n
      · rw [if_pos h3, if_pos ⟨h3.1, by omega⟩]
      · rw [if_neg h3, if_neg (fun h4 => h ⟨by omega, h4.1⟩)]
def dcF (xs : List Int) (c j : Nat) (q : Int) (k : Nat) (v : Int) : Int := addV v (mulV (xs.getD (k * c + j) 0) q)
theorem cup_dcX {xs : List Int} {r c i j : Nat} {q : Int} (hx : xs.length = r * c) (hi : i < c) (hj : j < c) : cupTo xs c i (dcF xs c j q) r = dcX xs r c i j q := by
  refine cells_ext (cupTo_len.trans hx) dcX_len fun k l hk hl => ?_
  rw [cupTo_cell hx hi hl hk (Nat.le_refl _), dcX, trX_at hl hk]
  by_cases h : l = i
  · subst h
    rw [if_pos ⟨rfl, hk⟩, doX_at turnM_len hi hk, doF, dcF, trX_at hk hi, trX_at hk hj]
  · rw [if_neg (fun h2 => h h2.1), doX, updTo_at (by have := row_apart (c := r) h; omega), trX_at hk hl]
def cswTo (xs : List Int) (c i j : Nat) : Nat → List Int
  | 0 => xs
  | k + 1 => ((cswTo xs c i j k).set (k * c + i) (xs.getD (k * c + j) 0)).set (k * c + j) (xs.getD (k * c + i) 0)
theorem cswTo_len {xs : List Int} {c i j : Nat} : ∀ {k : Nat}, (cswTo xs c i j k).length = xs.length
  | 0 => rfl
  | k + 1 => by rw [cswTo, List.length_set, List.length_set, cswTo_len]
theorem cswTo_cell {xs : List Int} {r c i j k l : Nat} (hx : xs.length = r * c) (hi : i < c) (hj : j < c) (hij : i ≠ j) (hl : l < c) (hk : k < r) : ∀ {n : Nat}, n ≤ r → (cswTo xs c i j n).getD (k * c + l) 0 = if l = i ∧ k < n then xs.getD (k * c + j) 0 else if l = j ∧ k < n then xs.getD (k * c + i) 0 else xs.getD (k * c + l) 0
  | 0, _ => by rw [if_neg (by omega), if_neg (by omega)]; rfl
  | n + 1, hn => by
    rw [cswTo, getD_set, List.length_set, getD_set, cswTo_len, cswTo_cell hx hi hj hij hl hk (by omega)]
    have h1 : n * c + i < xs.length := by rw [hx]; exact cell_in (by omega) hi
    have h2 : n * c + j < xs.length := by rw [hx]; exact cell_in (by omega) hj
    by_cases hkn : k = n
    · subst hkn
      by_cases e1 : l = j
      · subst e1
        rw [if_pos ⟨rfl, h2⟩, if_neg (fun h => hij h.1.symm), if_pos ⟨rfl, by omega⟩]
      · rw [if_neg (fun h => cell_ne hl hj (fun h3 => e1 h3.2) h.1)]
        by_cases e2 : l = i
        · subst e2
          rw [if_pos ⟨rfl, h1⟩, if_pos ⟨rfl, by omega⟩]
        · rw [if_neg (fun h => cell_ne hl hi (fun h3 => e2 h3.2) h.1), if_neg (fun h => e2 h.1), if_neg (fun h => e1 h.1), if_neg (fun h => e2 h.1), if_neg (fun h => e1 h.1)]
    · rw [if_neg (fun h => cell_ne hl hj (fun h3 => hkn h3.1) h.1), if_neg (fun h => cell_ne hl hi (fun h3 => hkn h3.1) h.1)]
      have : (k < n + 1) ↔ (k < n) := by omega
      simp only [this]
theorem csw_swC {xs : List Int} {r c i j : Nat} (hx : xs.length = r * c) (hi : i < c) (hj : j < c) (hij : i ≠ j) : cswTo xs c i j r = turnM (swapTo (turnM xs r c) (i * r) (j * r) r) c r := by
  refine cells_ext (cswTo_len.trans hx) turnM_len fun k l hk hl => ?_
  rw [cswTo_cell hx hi hj hij hl hk (Nat.le_refl _), trX_at hl hk, swap_cell turnM_len hi hj hij hk]
  by_cases e1 : l = i
  · rw [if_pos ⟨e1, hk⟩, if_pos e1, trX_at hk hj]
  · rw [if_neg (fun h => e1 h.1), if_neg e1]
    by_cases e2 : l = j
    · rw [if_pos ⟨e2, hk⟩, if_pos e2, trX_at hk hi]
    · rw [if_neg (fun h => e2 h.1), if_neg e2, trX_at hk hl]
end Go.Proofs.YtekpamojojfplaaGreat
