/-
  TEXTS OF THE PROOF, put together: pHerm2, bTurn, pSmith.
-/
import Derived.Test.YtekpamojojfplaaGreatA15
import Derived.Test.YtekpamojojfplaaGreatA09
import Derived.Test.YtekpamojojfplaaGreatA12
set_option linter.unusedVariables false
set_option linter.unusedSimpArgs false
namespace Go.Proofs.YtekpamojojfplaaGreat
theorem addX_cell {xs : List Int} {r c i i' j k : Nat} {q : Int} (hl : xs.length = r * c) (hi : i < r) (hk : k < c) : (addX xs c i j q).getD (i' * c + k) 0 = if i' = i then xs.getD (i * c + k) 0 + xs.getD (j * c + k) 0 * q else xs.getD (i' * c + k) 0 := by
  by_cases h : i' = i
  · subst h
    rw [if_pos rfl, addX_row hl hi hk]
  · rw [if_neg h, addX_other h hk]
theorem swap_cell {xs : List Int} {r c p t i k : Nat} (hl : xs.length = r * c) (hp : p < r) (ht : t < r) (hne : p ≠ t) (hk : k < c) : (swapTo xs (p * c) (t * c) c).getD (i * c + k) 0 = if i = p then xs.getD (t * c + k) 0 else if i = t then xs.getD (p * c + k) 0 else xs.getD (i * c + k) 0 := by
  have h := swapTo_in (xs := xs) (o1 := p * c) (o2 := t * c) hk (row_apart hne) (by rw [hl]; exact row_in hp) (by rw [hl]; exact row_in ht)
  by_cases h1 : i = p
  · subst h1
    rw [if_pos rfl]; exact h.1
  · rw [if_neg h1]
    by_cases h2 : i = t
    · subst h2
      rw [if_pos rfl]; exact h.2
    · rw [if_neg h2]
      have a1 := row_apart (c := c) h1
      have a2 := row_apart (c := c) h2
      exact swapTo_at (by omega) (by omega)
theorem neg_cell {xs : List Int} {r c t i k : Nat} (hl : xs.length = r * c) (ht : t < r) (hk : k < c) : (negX xs c t).getD (i * c + k) 0 = if i = t then -xs.getD (t * c + k) 0 else xs.getD (i * c + k) 0 := by
  by_cases h : i = t
  · subst h
    rw [if_pos rfl, negX, updTo_in hk (by rw [hl]; exact row_in ht)]
  · rw [if_neg h]
    have a1 := row_apart (c := c) h
    exact updTo_at (by omega)
structure Low (r c t j : Nat) (xs ys : List Int) : Prop where
  keep : ∀ i k, i < t → k < c → ys.getD (i * c + k) 0 = xs.getD (i * c + k) 0
  zero : ∀ i k, t ≤ i → i < r → k < j → ys.getD (i * c + k) 0 = 0
theorem Low.add {r c t j i p jj : Nat} {q : Int} {xs : List Int} {s s' : TwoL} (h : Low r c t j xs s.1) (o : OKs r c s) (hj : j ≤ c) (hi : t ≤ i ∧ i < r) (hp : t ≤ p ∧ p < r) (he : addS c r i p q s = some s') : Low r c t j xs s'.1 := by
  unfold addS at he
  split at he
  · cases he
    refine ⟨fun i' k h1 h2 => ?_, fun i' k h1 h2 h3 => ?_⟩
    · try dsimp only
      rw [addX_cell o.1 hi.2 h2, if_neg (by omega)]
      exact h.keep i' k h1 h2
    · try dsimp only
      rw [addX_cell o.1 hi.2 (by omega)]
      split
      · rename_i e
        rw [h.zero i k hi.1 hi.2 h3, h.zero p k hp.1 hp.2 h3]; omega
      · exact h.zero i' k h1 h2 h3
  · cases he
theorem Low.rnd {r c t j p jj : Nat} {xs : List Int} {s0 : TwoL} (o0 : OKs r c s0) (hj : j ≤ c) (hp : t ≤ p ∧ p < r) (h0 : Low r c t j xs s0.1) : ∀ {n : Nat} {s : TwoL}, t + n ≤ r → rndTo r c t p jj s0 n = some s → Low r c t j xs s.1
  | 0, s, _, he => by cases he; exact h0
  | n + 1, s, hn, he => by
    simp only [rndTo, Option.bind_eq_some_iff] at he
    obtain ⟨x, h1, h2⟩ := he
    have ih := Low.rnd (jj := jj) o0 hj hp h0 (n := n) (by omega) h1
    have o1 := rndTo_ok o0 h1
    unfold rndAt at h2
    split at h2
    · exact Low.add (jj := jj) ih o1 hj ⟨by omega, by omega⟩ hp h2
    · cases h2; exact ih
theorem redCol_spec {r c t j : Nat} {xs : List Int} (hj : j < c) : ∀ (N : Nat) {s s' : TwoL} {p p' : Nat}, colM r c t j s p ≤ N → OKs r c s → s.1.getD (p * c + j) 0 ≠ 0 → (t ≤ p ∧ p < r) → Low r c t j xs s.1 → redCol r c t j s p = some (s', p') →
    Low r c t j xs s'.1 ∧ alone s'.1 c t j p' (r - t) ∧ (t ≤ p' ∧ p' < r) ∧ s'.1.getD (p' * c + j) 0 ≠ 0 := fun N => by
  induction N with
  | zero =>
    intro s s' p p' hN o hp htp hl he
    exfalso
    unfold colM at hN
    omega
  | succ N ih =>
    intro s s' p p' hN o hp htp hl he
    by_cases ha : alone s.1 c t j p (r - t)
    · rw [red_done ha] at he
      cases he
      exact ⟨hl, ha, htp, hp⟩
    · cases hr : rndTo r c t p j s (r - t) with
      | none => rw [red_bad ha hr] at he; cases he
      | some s1 =>
        obtain ⟨p1, e1, e2, e3⟩ := red_step o hj hp htp ha hr
        obtain ⟨⟨f1, f2⟩, f3⟩ := leastTo_some e1
        rw [e2] at he
        exact ih (by omega) (rndTo_ok o hr) f3 ⟨f1, by omega⟩ (Low.rnd o (by omega) htp hl (by omega) hr) he
structure Shape (r c j t : Nat) (xs : List Int) (pv : Nat → Nat) : Prop where
  pos : ∀ i, i < t → pv i < j ∧ 0 < xs.getD (i * c + pv i) 0
  left : ∀ i k, i < t → k < pv i → xs.getD (i * c + k) 0 = 0
  mono : ∀ i i', i < i' → i' < t → pv i < pv i'
  zero : ∀ i k, t ≤ i → i < r → k < j → xs.getD (i * c + k) 0 = 0
theorem topTo_shape {r c t j : Nat} {s0 : TwoL} (o0 : OKs r c s0) (hj : j < c) (ht : t < r) (hz : ∀ k, k < j → s0.1.getD (t * c + k) 0 = 0) : ∀ {n : Nat} {s : TwoL}, n ≤ t → topTo r c t j s0 n = some s →
    (∀ i k, k < j → s.1.getD (i * c + k) 0 = s0.1.getD (i * c + k) 0) ∧ ∀ i k, t ≤ i → k < c → s.1.getD (i * c + k) 0 = s0.1.getD (i * c + k) 0
  | 0, s, _, he => by cases he; exact ⟨fun _ _ _ => rfl, fun _ _ _ _ => rfl⟩
  | n + 1, s, hn, he => by
    simp only [topTo, Option.bind_eq_some_iff] at he
    obtain ⟨x, h1, h2⟩ := he
    obtain ⟨i1, i2⟩ := topTo_shape o0 hj ht hz (n := n) (by omega) h1
    have o1 := topTo_ok o0 h1
    unfold topAt addS at h2
    split at h2
    · cases h2
      refine ⟨fun i k hk => ?_, fun i k hi hk => ?_⟩
      · try dsimp only
        rw [addX_cell o1.1 (by omega) (by omega)]
        split
        · rename_i e
          subst e
          rw [i1 i k hk, i1 t k hk, hz k hk]; omega
        · exact i1 i k hk
      · try dsimp only
        rw [addX_cell o1.1 (by omega) hk, if_neg (by omega)]
        exact i2 i k hi hk
    · cases h2
theorem hCol_shape {r c j : Nat} {st st' : TwoL × Nat} {pv : Nat → Nat} (o : OKs r c st.1) (ht : st.2 ≤ r) (hj : j < c) (h : Shape r c j st.2 st.1.1 pv) (he : hCol r c j st = some st') : ∃ pv', Shape r c (j + 1) st'.2 st'.1.1 pv' := by
  obtain ⟨s, t⟩ := st
  dsimp only at o ht h
  by_cases htr : t < r
  · cases hl : leastTo s.1 c t j (r - t) with
    | none =>
      rw [col_none htr hl] at he
      cases he
      refine ⟨pv, fun i hi => ⟨by have := (h.pos i hi).1; omega, (h.pos i hi).2⟩, h.left, h.mono, fun i k h1 h2 h3 => ?_⟩
      rcases Nat.lt_or_ge k j with e | e
      · exact h.zero i k h1 h2 e
      · obtain rfl : k = j := by omega
        have := leastTo_none hl (i - t) (by omega)
        rwa [show t + (i - t) = i by omega] at this
    | some p =>
      obtain ⟨⟨p1, p2⟩, p3⟩ := leastTo_some hl
      cases hr : redCol r c t j s p with
      | none => rw [col_bad htr hl hr] at he; cases he
      | some q =>
        obtain ⟨s1, p'⟩ := q
        rw [col_top htr hl hr] at he
        simp only [Option.map_eq_some_iff] at he
        obtain ⟨s4, h4, rfl⟩ := he
        have o1 := redCol_ok o hr
        obtain ⟨low, hal, hp', hne⟩ := redCol_spec (xs := s.1) hj _ (Nat.le_refl _) o p3 ⟨p1, by omega⟩ ⟨fun _ _ _ _ => rfl, fun i k h1 h2 h3 => h.zero i k h1 h2 h3⟩ hr
        have o2 := swS_ok (p := p') (t := t) o1
        have hn2 := sw_piv o1 hp'.2 htr hj hne
        have key2 : (∀ i k, i < t → k < c → (swS r c p' t s1).1.getD (i * c + k) 0 = s.1.getD (i * c + k) 0) ∧ (∀ i k, t ≤ i → i < r → k < j → (swS r c p' t s1).1.getD (i * c + k) 0 = 0) ∧ ∀ i, t < i → i < r → (swS r c p' t s1).1.getD (i * c + j) 0 = 0 := by
          unfold swS
          split
          · rename_i e
            refine ⟨low.keep, low.zero, fun i h1 h2 => ?_⟩
            have := hal (i - t) (by omega) (by omega)
            rwa [show t + (i - t) = i by omega] at this
          · rename_i e
            dsimp only
            refine ⟨fun i k h1 h2 => ?_, fun i k h1 h2 h3 => ?_, fun i h1 h2 => ?_⟩
            · rw [swap_cell o1.1 hp'.2 htr e h2, if_neg (by omega), if_neg (by omega)]
              exact low.keep i k h1 h2
            · rw [swap_cell o1.1 hp'.2 htr e (by omega)]
              split
              · exact low.zero t k (Nat.le_refl _) htr h3
              · split
                · exact low.zero p' k hp'.1 hp'.2 h3
                · exact low.zero i k h1 h2 h3
            · rw [swap_cell o1.1 hp'.2 htr e hj]
              split
              · have := hal 0 (by omega) (by omega)
                rwa [Nat.add_zero] at this
              · rw [if_neg (by omega)]
                have := hal (i - t) (by omega) (by omega)
                rwa [show t + (i - t) = i by omega] at this
        have o3 := ngS_ok (t := t) (j := j) o2
        have key3 : (∀ i k, i < t → k < c → (ngS r c t j (swS r c p' t s1)).1.getD (i * c + k) 0 = s.1.getD (i * c + k) 0) ∧ (∀ i k, t ≤ i → i < r → k < j → (ngS r c t j (swS r c p' t s1)).1.getD (i * c + k) 0 = 0) ∧ (∀ i, t < i → i < r → (ngS r c t j (swS r c p' t s1)).1.getD (i * c + j) 0 = 0) ∧ 0 < (ngS r c t j (swS r c p' t s1)).1.getD (t * c + j) 0 := by
          generalize swS r c p' t s1 = s2 at *
          unfold ngS
          split
          · rename_i hneg
            dsimp only
            refine ⟨fun i k h1 h2 => ?_, fun i k h1 h2 h3 => ?_, fun i h1 h2 => ?_, ?_⟩
            · rw [neg_cell o2.1 htr h2, if_neg (by omega)]; exact key2.1 i k h1 h2
            · rw [neg_cell o2.1 htr (by omega)]
              split
              · rw [key2.2.1 t k (Nat.le_refl _) htr h3]; rfl
              · exact key2.2.1 i k h1 h2 h3
            · rw [neg_cell o2.1 htr hj, if_neg (by omega)]; exact key2.2.2 i h1 h2
            · rw [neg_cell o2.1 htr hj, if_pos rfl]; omega
          · rename_i hneg
            exact ⟨key2.1, key2.2.1, key2.2.2, by omega⟩
        generalize ngS r c t j (swS r c p' t s1) = s3 at *
        obtain ⟨k1, k2, k3, k4⟩ := key3
        obtain ⟨t1, t2⟩ := topTo_shape o3 hj htr (fun k hk => k2 t k (Nat.le_refl _) htr hk) (Nat.le_refl _) h4
        dsimp only
        have hpj : ∀ i, i < t → pv i < j := fun i hi => (h.pos i hi).1
        refine ⟨fun i => if i < t then pv i else j, fun i hi => ?_, fun i k hi hk => ?_, fun i i' h1 h2 => ?_, fun i k h1 h2 h3 => ?_⟩
        · try dsimp only
          split
          · rename_i hit
            have := h.pos i hit
            refine ⟨by omega, ?_⟩
            rw [t1 i (pv i) this.1, k1 i (pv i) hit (by omega)]
            exact this.2
          · rename_i hit
            obtain rfl : i = t := by omega
            refine ⟨by omega, ?_⟩
            rw [t2 i j (Nat.le_refl _) hj]; exact k4
        · try dsimp only at hk
          split at hk
          · rename_i hit
            have := hpj i hit
            rw [t1 i k (by omega), k1 i k hit (by omega)]
            exact h.left i k hit hk
          · rename_i hit
            obtain rfl : i = t := by omega
            rw [t1 i k hk]
            exact k2 i k (Nat.le_refl _) htr hk
        · try dsimp only
          rw [if_pos (by omega)]
          split
          · rename_i hit
            exact h.mono i i' h1 hit
          · exact hpj i (by omega)
        · rcases Nat.lt_or_ge k j with e | e
          · rw [t1 i k e]; exact k2 i k (by omega) h2 e
          · obtain rfl : k = j := by omega
            rw [t2 i k (by omega) hj]; exact k3 i (by omega) h2
  · unfold hCol at he
    dsimp only at he
    rw [if_neg htr] at he
    cases he
    exact ⟨pv, fun i hi => ⟨by have := (h.pos i hi).1; omega, (h.pos i hi).2⟩, h.left, h.mono, fun i k h1 h2 h3 => by dsimp only at h1; omega⟩
theorem hTo_shape {r c : Nat} {s : TwoL} (o : OKs r c s) : ∀ {j : Nat} {st : TwoL × Nat}, j ≤ c → hTo r c s j = some st → ∃ pv, Shape r c j st.2 st.1.1 pv
  | 0, st, _, he => by cases he; exact ⟨fun _ => 0, fun i hi => by dsimp only at hi; omega, fun i k hi _ => by dsimp only at hi; omega, fun i i' _ h2 => by dsimp only at h2; omega, fun i k _ _ h3 => by omega⟩
  | j + 1, st, hj, he => by
    simp only [hTo, Option.bind_eq_some_iff] at he
    obtain ⟨x, h1, h2⟩ := he
    obtain ⟨pv, ih⟩ := hTo_shape o (by omega) h1
    obtain ⟨q1, q2, -⟩ := hTo_ok o h1
    exact hCol_shape q1 q2 (by omega) ih h2
end Go.Proofs.YtekpamojojfplaaGreat
namespace Go.Proofs.YtekpamojojfplaaGreat
open Go.RowKit
def turnP (xs : List Int) (r c i j : Nat) : List Int := (List.range (c * r)).map fun p => if p % r < i ∨ (p % r = i ∧ p / r < j) then xs.getD ((p % r) * c + p / r) 0 else 0
def turnM (xs : List Int) (r c : Nat) : List Int := (List.range (c * r)).map fun p => xs.getD ((p % r) * c + p / r) 0
theorem turnP_len {xs : List Int} {r c i j : Nat} : (turnP xs r c i j).length = c * r := by simp [turnP]
theorem turnM_len {xs : List Int} {r c : Nat} : (turnM xs r c).length = c * r := by simp [turnM]
theorem turnP_zero {xs : List Int} {r c : Nat} : List.replicate (c * r) 0 = turnP xs r c 0 0 := by
  apply List.ext_getElem (by simp [turnP])
  intro p h1 h2
  simp [turnP]
theorem turn_idx {r i j : Nat} (hi : i < r) : (j * r + i) / r = j ∧ (j * r + i) % r = i := by
  refine ⟨?_, ?_⟩
  · rw [Nat.mul_comm, Nat.mul_add_div (by omega), Nat.div_eq_of_lt hi, Nat.add_zero]
  · rw [Nat.mul_comm, Nat.mul_add_mod, Nat.mod_eq_of_lt hi]
theorem turnP_set {xs : List Int} {r c i j : Nat} (hi : i < r) : (turnP xs r c i j).set (j * r + i) (xs.getD (i * c + j) 0) = turnP xs r c i (j + 1) := by
  apply List.ext_getElem (by simp [turnP])
  intro p h1 h2
  rw [List.getElem_set]
  simp only [turnP, List.getElem_map, List.getElem_range]
  obtain ⟨e1, e2⟩ := turn_idx (j := j) hi
  by_cases cc : j * r + i = p
  · subst cc
    rw [if_pos rfl, e1, e2, if_pos (.inr ⟨rfl, Nat.lt_succ_self j⟩)]
  · rw [if_neg cc]
    have hd := Nat.div_add_mod p r
    have hne : ¬(p % r = i ∧ p / r = j) := fun ⟨h3, h4⟩ => cc (by rw [← hd, h3, h4, Nat.mul_comm])
    have : (p % r < i ∨ (p % r = i ∧ p / r < j)) ↔ (p % r < i ∨ (p % r = i ∧ p / r < j + 1)) := by
      generalize p % r = u at *
      generalize p / r = v at *
      omega
    simp only [this]
theorem turnP_row {xs : List Int} {r c i : Nat} (hc : ∀ p, p < c * r → p / r < c) : turnP xs r c i c = turnP xs r c (i + 1) 0 := by
  apply List.ext_getElem (by simp [turnP])
  intro p h1 h2
  simp only [turnP, List.getElem_map, List.getElem_range]
  have hp := hc p (by simpa [turnP] using h1)
  have : (p % r < i ∨ (p % r = i ∧ p / r < c)) ↔ (p % r < i + 1 ∨ (p % r = i + 1 ∧ p / r < 0)) := by
    generalize p % r = u at *
    generalize p / r = v at *
    omega
  simp only [this]
theorem div_lt_c {r c p : Nat} (h : p < c * r) : p / r < c := Nat.div_lt_of_lt_mul (by rw [Nat.mul_comm]; exact h)
theorem turnP_full {xs : List Int} {r c : Nat} : turnP xs r c r 0 = turnM xs r c := by
  apply List.ext_getElem (by simp [turnP, turnM])
  intro p h1 h2
  simp only [turnP, turnM, List.getElem_map, List.getElem_range]
  have hr : 0 < r := by
    rcases Nat.eq_zero_or_pos r with h | h
    · subst h; simp [turnM] at h2
    · exact h
  rw [if_pos (.inl (Nat.mod_lt _ hr))]
theorem cell_natT {p k c : Nat} : 0 + ((p : Int) * c + k).toNat = p * c + k := by
  have e : ((p : Int) * c + k) = ((p * c + k : Nat) : Int) := by simp
  rw [e]; omega
def TurnO (r c : Nat) (t : TypeId) (xs : List Int) (k : Nat) (v : AV) (Hout : List (Nat × Blk)) (n1 : Nat) : Prop := v = .agg [.int c, .int r, .sl k 1 0 (c * r) (c * r)] ∧ Hout = [(k, .own t (c * r) (.ints (turnM xs r c)))] ∧ n1 = k + 1
theorem TurnO.out {r c : Nat} {t : TypeId} {xs : List Int} {k : Nat} : ∀ v Hout n1, TurnO r c t xs k v Hout n1 → ∃ b, Hout = [(k, b)] ∧ n1 = k + 1 ∧ b.keys = [] := fun _ _ _ ⟨_, h2, h3⟩ => ⟨_, h2, h3, by simp [Blk.keys, Elts.keys, Elts.all, ints_keys]⟩
set_option maxHeartbeats 2000000 in
theorem d_turnS (r c : Nat) (xs : List Int) (m ca : Nat) (hm : m = xs.length) (hr : r ≤ 24) (hc24 : c ≤ 24) (hx : xs.length = r * c) : Does Tryz.prog 87 [vM r c 1 m ca] [(1, .ro (.ints xs))] 2 (TurnO r c 3 xs 2) := by
 subst hm
 refine Does.intro TT Tryz.func87 rfl (by kernel_rfl) Zz Zz fun E hE => ?_
 ((repeat' (first | refine stp ?_ | (refine w_C (d_newS _ _ hc24 hr) Zz Zz Zz Zz Zz Zz Zz ft Zz Zz (NewM.out) ?_; rintro v b ⟨rfl, he, -⟩; cases he) | (refine stq ?_ ?_ <;> (intro hc; ((try simp at hc) <;> try contradiction))) | fail)) <;> try (exfalso; omega))
 refine w_G hE (fun i : Nat => i ≤ r) (fun i => r - i)
  (fun i => [(1, .one (.ptr 2 3 0 0)), (2, .one (.ptr 3 3 0 0)), (3, .one (.ptr 5 3 0 0)), (4, vI i)])
  (fun i => [(1, .ro (.ints xs)), (2, .own 26 1 (.lit [.int r, .int c, .sl 1 1 0 xs.length ca])), (3, .own 26 1 (.lit zeroM)), (4, .own 3 (c * r) (.ints (turnP xs r c i 0))), (5, .own 26 1 (.lit [.int c, .int r, .sl 4 1 0 (c * r) (c * r)]))]) 6 [] 0 (Nat.zero_le _) ⟨w_1, ⟨rfl, rfl, rfl, own_ints turnP_zero, rfl, trivial⟩, rfl⟩ ?_
 intro i hi
 by_cases hir : i < r
 ·((repeat' (first | refine stp ?_ | (refine stq ?_ ?_ <;> (intro hc; ((try simp at hc) <;> try contradiction))) | fail)) <;> try (exfalso; omega))
  refine w_G hE (fun j : Nat => j ≤ c) (fun j => c - j)
   (fun j => [(1, .one (.ptr 2 3 0 0)), (2, .one (.ptr 3 3 0 0)), (3, .one (.ptr 5 3 0 0)), (4, vI i), (5, vI j)])
   (fun j => [(1, .ro (.ints xs)), (2, .own 26 1 (.lit [.int r, .int c, .sl 1 1 0 xs.length ca])), (3, .own 26 1 (.lit zeroM)), (4, .own 3 (c * r) (.ints (turnP xs r c i j))), (5, .own 26 1 (.lit [.int c, .int r, .sl 4 1 0 (c * r) (c * r)]))]) 6 [] 0 (Nat.zero_le _) ⟨w_1, w_2, rfl⟩ ?_
  intro j hj
  have hl := turnP_len (xs := xs) (r := r) (c := c) (i := i) (j := j)
  by_cases hjc : j < c
  ·have b1 := cell_facts hir hjc hr hc24
   have b2 := cell_facts hjc hir hc24 hr
   rw [← hx] at b1
   have e1 := cell_natT (p := i) (k := j) (c := c)
   have e2 := cell_natT (p := j) (k := i) (c := r)
   have hs := turnP_set (xs := xs) (c := c) (j := j) hir
   rw [← e1, ← e2] at hs
   ((repeat' (first | refine stp ?_ | (refine stq ?_ ?_ <;> (intro hc; ((try simp at hc) <;> try contradiction))) | fail)) <;> try (exfalso; omega))
   refine awp_held TM [(1, _), (2, _), (5, _)] sb rfl (fun ρs => ?_)
   refine zt0 ?_
   refine zt1 ?_
   refine zt2 ?_
   refine zt3 ?_
   refine zt4 ?_
   refine zt5 ?_
   refine zt6 ?_
   refine zt7 ?_
   refine zt8 ?_
   refine zt9 ?_
   refine zt10 ?_
   refine zt11 ?_
   refine zt12 ?_
   refine zt13 ?_
   refine zt14 ?_
   refine zt15 ?_
   refine zt16 ?_
   refine zt17 ?_
   refine zt18 ?_
   refine w_u [19] kr rfl ⟨?_, trivial⟩
   first | (refine zho ?_)
   refine w_v kr ?_
   rotate_left
   all_goals ((repeat' (first | refine stp ?_ | (refine stq ?_ ?_ <;> (intro hc; ((try simp at hc) <;> try contradiction))) | fail)) <;> try (exfalso; omega))
   all_goals exact ⟨[], j + 1, hjc, w_4, ⟨w_1, ⟨rfl, rfl, rfl, own_ints hs, rfl, trivial⟩, rfl⟩⟩
  ·obtain rfl : j = c := by omega
   ((repeat' (first | refine stx ?_ | (refine stq ?_ ?_ <;> (intro hc; ((try simp at hc) <;> try contradiction))) | fail)) <;> try (exfalso; omega))
   exact ⟨[], i + 1, by omega, w_4, ⟨w_1, ⟨rfl, rfl, rfl, own_ints (turnP_row fun p => div_lt_c), rfl, trivial⟩, rfl⟩⟩
 ·obtain rfl : i = r := by omega
  ((repeat' (first | refine stx ?_ | (refine stq ?_ ?_ <;> (intro hc; ((try simp at hc) <;> try contradiction))) | fail)) <;> try (exfalso; omega))
  exact fin rfl w_3 [(2, 4)] (.agg [.int c, .int i, .sl 2 1 0 (c * i) (c * i)]) [(2, .own 3 (c * i) (.ints (turnM xs i c)))] 3 ⟨rfl, rfl, rfl⟩ rfl ⟨trivial, ⟨own_ints turnP_full, trivial⟩, rfl⟩ rfl
def TurnZ (r c : Int) (t : TypeId) (xs : List Int) (v : AV) (Hout : List (Nat × Blk)) (n1 : Nat) : Prop :=
  match isM r c xs with
  | true => v = .tup [.agg [.int c, .int r, .sl 2 1 0 (c.toNat * r.toNat) (c.toNat * r.toNat)], .one (.bool true)] ∧ Hout = [(2, .own t (c.toNat * r.toNat) (.ints (turnM xs r.toNat c.toNat)))] ∧ n1 = 3
  | false => v = .tup [.agg zeroM, .one (.bool false)] ∧ Hout = [] ∧ n1 = 2
set_option maxHeartbeats 2000000 in
theorem d_turnI (r c : Int) (xs : List Int) (ca : Nat) (hl : xs.length ≤ 1099511627776) : Does Tryz.prog 61 [vM r c 1 xs.length ca] [(1, .ro (.ints xs))] 2 (TurnZ r c 3 xs) := by
 refine Does.intro TT Tryz.func61 rfl (by kernel_rfl) Zz Zz fun E hE => ?_
 cases h1 : isM r c xs
 ·((repeat' (first | refine stx ?_ | ((first | refine w_z (d_isMatI _ _ _ _ hl) Zz Zz Zz Zz Zz Zz Zz Zz ft Zz Zz ?_ | refine w_A (d_isMatI _ _ _ _ hl) Zz Zz Zz Zz Zz Zz Zz Zz ft Zz Zz ?_) <;> simp only [h1]) | (refine stq ?_ ?_ <;> (intro hc; ((try simp at hc) <;> try contradiction))) | fail)) <;> try (exfalso; omega))
  exact fin rfl w_3 [] (.tup [.agg zeroM, .one (.bool false)]) [] 2 (by unfold TurnZ; rw [h1]; exact ⟨rfl, rfl, rfl⟩) rfl ⟨trivial, trivial, rfl⟩ rfl
 ·obtain ⟨r, c, rfl, rfl⟩ := isM_pos h1
  obtain ⟨hr, hc24, hx, hnum⟩ := isM_nat h1
  ((repeat' (first | refine stp ?_ | ((first | refine w_z (d_isMatI _ _ _ _ hl) Zz Zz Zz Zz Zz Zz Zz Zz ft Zz Zz ?_ | refine w_A (d_isMatI _ _ _ _ hl) Zz Zz Zz Zz Zz Zz Zz Zz ft Zz Zz ?_) <;> simp only [h1]) | (refine w_C (d_newI _ _ hc24 hr) Zz Zz Zz Zz Zz Zz Zz ft Zz Zz (NewM.out) ?_; rintro v b ⟨rfl, he, -⟩; cases he) | (refine stq ?_ ?_ <;> (intro hc; ((try simp at hc) <;> try contradiction))) | fail)) <;> try (exfalso; omega))
  refine w_G hE (fun i : Nat => i ≤ r) (fun i => r - i)
   (fun i => [(1, .one (.ptr 2 3 0 0)), (2, .one (.ptr 3 3 0 0)), (4, .one (.ptr 5 3 0 0)), (5, vI i)])
   (fun i => [(1, .ro (.ints xs)), (2, .own 26 1 (.lit [.int r, .int c, .sl 1 1 0 xs.length ca])), (3, .own 26 1 (.lit zeroM)), (4, .own 3 (c * r) (.ints (turnP xs r c i 0))), (5, .own 26 1 (.lit [.int c, .int r, .sl 4 1 0 (c * r) (c * r)]))]) 6 [] 0 (Nat.zero_le _) ⟨w_1, ⟨rfl, rfl, rfl, own_ints turnP_zero, rfl, trivial⟩, rfl⟩ ?_
  intro i hi
  by_cases hir : i < r
  ·((repeat' (first | refine stp ?_ | (refine stq ?_ ?_ <;> (intro hc; ((try simp at hc) <;> try contradiction))) | fail)) <;> try (exfalso; omega))
   refine w_G hE (fun j : Nat => j ≤ c) (fun j => c - j)
    (fun j => [(1, .one (.ptr 2 3 0 0)), (2, .one (.ptr 3 3 0 0)), (4, .one (.ptr 5 3 0 0)), (5, vI i), (6, vI j)])
    (fun j => [(1, .ro (.ints xs)), (2, .own 26 1 (.lit [.int r, .int c, .sl 1 1 0 xs.length ca])), (3, .own 26 1 (.lit zeroM)), (4, .own 3 (c * r) (.ints (turnP xs r c i j))), (5, .own 26 1 (.lit [.int c, .int r, .sl 4 1 0 (c * r) (c * r)]))]) 6 [] 0 (Nat.zero_le _) ⟨w_1, w_2, rfl⟩ ?_
   intro j hj
   have hlen := turnP_len (xs := xs) (r := r) (c := c) (i := i) (j := j)
   by_cases hjc : j < c
   ·have b1 := cell_facts hir hjc hr hc24
    have b2 := cell_facts hjc hir hc24 hr
    have hcr : c * r ≤ 1099511627776 := by
     have : c * r ≤ 24 * 24 := Nat.mul_le_mul hc24 hr
     omega
    rw [← hx] at b1
    have e1 := cell_natT (p := i) (k := j) (c := c)
    have e2 := cell_natT (p := j) (k := i) (c := r)
    have hs := turnP_set (xs := xs) (c := c) (j := j) hir
    rw [← e1, ← e2] at hs
    have hd := d_at r c i j xs ca (by omega) (by omega) (by omega) hl
    ((repeat' (first | refine stp ?_ | (refine stq ?_ ?_ <;> (intro hc; ((try simp at hc) <;> try contradiction))) | fail)) <;> try (exfalso; omega))
    refine awp_held TM [(1, _), (2, _), (5, _)] sb rfl (fun ρs => ?_)
    refine zt0 ?_
    refine zt1 ?_
    refine zt2 ?_
    refine zt3 ?_
    refine zt4 ?_
    refine zt5 ?_
    refine w_u [6] kr rfl ⟨?_, trivial⟩
    first | (refine zho ?_) | refine w_B _ (hd) Zz Zz Zz Zz Zz Zz Zz Zz Zz ft Zz Zz sb rfl ?_ | (refine w_F _ (d_set c r j i _ (turnP xs r c i j) (c * r) (c * r) (c * r) hlen.symm (by omega) (by omega) (by omega) (by omega)) Zz Zz Zz Zz Zz Zz Zz Zz ft Zz Zz ?_; rintro v Hout n1 ⟨rfl, rfl, rfl⟩; refine ⟨sb, ?_⟩)
    refine w_u [7] kr rfl ⟨?_, trivial⟩
    first | (refine zho ?_) | refine w_B _ (hd) Zz Zz Zz Zz Zz Zz Zz Zz Zz ft Zz Zz sb rfl ?_ | (refine w_F _ (d_set c r j i _ (turnP xs r c i j) (c * r) (c * r) (c * r) hlen.symm (by omega) (by omega) (by omega) (by omega)) Zz Zz Zz Zz Zz Zz Zz Zz ft Zz Zz ?_; rintro v Hout n1 ⟨rfl, rfl, rfl⟩; refine ⟨sb, ?_⟩)
    refine w_v kr ?_
    rotate_left
    all_goals ((repeat' (first | refine stp ?_ | (refine stq ?_ ?_ <;> (intro hc; ((try simp at hc) <;> try contradiction))) | fail)) <;> try (exfalso; omega))
    all_goals exact ⟨[], j + 1, hjc, w_4, ⟨w_1, ⟨rfl, rfl, rfl, own_ints hs, rfl, trivial⟩, rfl⟩⟩
   ·obtain rfl : j = c := by omega
    ((repeat' (first | refine stx ?_ | (refine stq ?_ ?_ <;> (intro hc; ((try simp at hc) <;> try contradiction))) | fail)) <;> try (exfalso; omega))
    exact ⟨[], i + 1, by omega, w_4, ⟨w_1, ⟨rfl, rfl, rfl, own_ints (turnP_row fun p => div_lt_c), rfl, trivial⟩, rfl⟩⟩
  ·obtain rfl : i = r := by omega
   ((repeat' (first | refine stx ?_ | (refine stq ?_ ?_ <;> (intro hc; ((try simp at hc) <;> try contradiction))) | fail)) <;> try (exfalso; omega))
   exact fin rfl w_3 [(2, 4)] (.tup [.agg [.int c, .int i, .sl 2 1 0 (c * i) (c * i)], .one (.bool true)]) [(2, .own 3 (c * i) (.ints (turnM xs i c)))] 3 (by unfold TurnZ; rw [h1]; exact ⟨rfl, rfl, rfl⟩) rfl ⟨trivial, ⟨own_ints turnP_full, trivial⟩, rfl⟩ rfl
end Go.Proofs.YtekpamojojfplaaGreat
namespace Go.Proofs.YtekpamojojfplaaGreat
theorem trX_at {xs : List Int} {r c i j : Nat} (hi : i < r) (hj : j < c) : (turnM xs r c).getD (j * r + i) 0 = xs.getD (i * c + j) 0 := by
  have h1 : j * r + i < c * r := cell_in hj hi
  have h2 : (j * r + i) % r = i := by rw [Nat.add_comm, Nat.add_mul_mod_self_right, Nat.mod_eq_of_lt hi]
  have h3 : (j * r + i) / r = j := by rw [Nat.add_comm, Nat.add_mul_div_right _ _ (by omega), Nat.div_eq_of_lt hi, Nat.zero_add]
  unfold turnM
  rw [List.getD_eq_getElem?_getD, List.getElem?_map, List.getElem?_range h1]
  simp only [Option.map_some, Option.getD_some, h2, h3]
theorem cells_ext {r c : Nat} {xs ys : List Int} (hx : xs.length = r * c) (hy : ys.length = r * c) (h : ∀ i j, i < r → j < c → xs.getD (i * c + j) 0 = ys.getD (i * c + j) 0) : xs = ys := by
  apply List.ext_getElem (hx.trans hy.symm)
  intro p h1 h2
  have hp : p < r * c := by omega
  have hc : 0 < c := by
    rcases Nat.eq_zero_or_pos c with h0 | h0
    · rw [h0, Nat.mul_zero] at hp; omega
    · exact h0
  have e : p / c * c + p % c = p := Nat.div_add_mod' p c
  have := h (p / c) (p % c) ((Nat.div_lt_iff_lt_mul hc).2 hp) (Nat.mod_lt _ hc)
  rw [e] at this
  simpa [List.getD_eq_getElem?_getD, h1, h2] using this
theorem trX_tr {xs : List Int} {r c : Nat} (h : xs.length = r * c) : turnM (turnM xs r c) c r = xs :=
  cells_ext turnM_len h fun i j hi hj => by rw [trX_at hj hi, trX_at hi hj]
theorem trX_num {xs : List Int} {r c : Nat} (h : xs.all numB = true) : (turnM xs r c).all numB = true := by
  unfold turnM
  rw [List.all_map, List.all_eq_true]
  exact fun p _ => num_at h _
abbrev S3 := List Int × List Int × List Int
structure OK3 (r c : Nat) (s : S3) : Prop where
  x : s.1.length = r * c
  u : s.2.1.length = r * r
  v : s.2.2.length = c * c
  nx : s.1.all numB = true
  nu : s.2.1.all numB = true
  nv : s.2.2.all numB = true
theorem OK3.row {r c : Nat} {s : S3} (h : OK3 r c s) : OKs r c (s.1, s.2.1) := ⟨h.x, h.u, h.nx, h.nu⟩
theorem OK3.col {r c : Nat} {s : S3} (h : OK3 r c s) : turnM (turnM s.1 r c) c r = s.1 := trX_tr h.x
def row3 (r c i j : Nat) (q : Int) (s : S3) : Option S3 := (addS c r i j q (s.1, s.2.1)).map fun y => (y.1, y.2, s.2.2)
def colOK (r c i j : Nat) (q : Int) (s : S3) : Prop := addOK (turnM s.1 r c) r i j q r = true ∧ addOK (turnM s.2.2 c c) c i j q c = true
instance {r c i j : Nat} {q : Int} {s : S3} : Decidable (colOK r c i j q s) := by unfold colOK; infer_instance
def col3 (r c i j : Nat) (q : Int) (s : S3) : Option S3 := if colOK r c i j q s then some (turnM (addX (turnM s.1 r c) r i j q) c r, s.2.1, turnM (addX (turnM s.2.2 c c) c i j q) c c) else none
theorem row3_cells {r c i j : Nat} {q : Int} {s s' : S3} (h : OK3 r c s) (hi : i < r) (he : row3 r c i j q s = some s') :
    OK3 r c s' ∧ (∀ k, k < c → s'.1.getD (i * c + k) 0 = s.1.getD (i * c + k) 0 + s.1.getD (j * c + k) 0 * q) ∧ ∀ i' k, i' ≠ i → k < c → s'.1.getD (i' * c + k) 0 = s.1.getD (i' * c + k) 0 := by
  simp only [row3, Option.map_eq_some_iff] at he
  obtain ⟨y, hy, rfl⟩ := he
  have o := addS_ok h.row hy
  refine ⟨⟨o.1, o.2.1, h.v, o.2.2.1, o.2.2.2, h.nv⟩, ?_⟩
  unfold addS at hy
  split at hy
  · cases hy
    exact ⟨fun k hk => addX_row h.x hi hk, fun i' k hi' hk => addX_other hi' hk⟩
  · cases hy
theorem colX_cells {r c i j k l : Nat} {q : Int} {xs : List Int} (hi : i < c) (hj : j < c) (hk : k < r) (hl : l < c) :
    (turnM (addX (turnM xs r c) r i j q) c r).getD (k * c + l) 0 = if l = i then xs.getD (k * c + i) 0 + xs.getD (k * c + j) 0 * q else xs.getD (k * c + l) 0 := by
  rw [trX_at hl hk]
  split
  · rename_i e
    rw [e, addX_row turnM_len hi hk, trX_at hk hi, trX_at hk hj]
  · rename_i e
    rw [addX_other e hk, trX_at hk hl]
theorem col3_cells {r c i j : Nat} {q : Int} {s s' : S3} (h : OK3 r c s) (hi : i < c) (hj : j < c) (he : col3 r c i j q s = some s') :
    OK3 r c s' ∧ (∀ k, k < r → s'.1.getD (k * c + i) 0 = s.1.getD (k * c + i) 0 + s.1.getD (k * c + j) 0 * q) ∧ ∀ i' k, i' ≠ i → i' < c → k < r → s'.1.getD (k * c + i') 0 = s.1.getD (k * c + i') 0 := by
  unfold col3 at he
  split at he
  · rename_i hc
    cases he
    refine ⟨⟨turnM_len, h.u, turnM_len, trX_num (addX_num (trX_num h.nx) hc.1), h.nu, trX_num (addX_num (trX_num h.nv) hc.2)⟩, fun k hk => ?_, fun i' k hi' hc' hk => ?_⟩
    · dsimp only
      rw [colX_cells hi hj hk hi, if_pos rfl]
    · dsimp only
      rw [colX_cells hi hj hk hc', if_neg hi']
  · cases he
def rAt (r c t i : Nat) (s : S3) : Option S3 := if s.1.getD (i * c + t) 0 ≠ 0 then row3 r c i t (-(s.1.getD (i * c + t) 0 / s.1.getD (t * c + t) 0)) s else some s
def cAt (r c t j : Nat) (s : S3) : Option S3 := if s.1.getD (t * c + j) 0 ≠ 0 then col3 r c j t (-(s.1.getD (t * c + j) 0 / s.1.getD (t * c + t) 0)) s else some s
def rTo (r c t : Nat) (s : S3) : Nat → Option S3
  | 0 => some s
  | n + 1 => (rTo r c t s n).bind (rAt r c t (t + 1 + n))
def cTo (r c t : Nat) (s : S3) : Nat → Option S3
  | 0 => some s
  | n + 1 => (cTo r c t s n).bind (cAt r c t (t + 1 + n))
theorem rem_eq (a d : Int) : a + d * -(a / d) = a % d := by rw [Int.emod_def, Int.mul_neg]; omega
theorem rAt_cells {r c t i : Nat} {s s' : S3} (h : OK3 r c s) (hi : i < r) (hit : i ≠ t) (ht : t < c) (he : rAt r c t i s = some s') :
    OK3 r c s' ∧ s'.1.getD (i * c + t) 0 = s.1.getD (i * c + t) 0 % s.1.getD (t * c + t) 0 ∧ ∀ i' k, i' ≠ i → k < c → s'.1.getD (i' * c + k) 0 = s.1.getD (i' * c + k) 0 := by
  unfold rAt at he
  split at he
  · obtain ⟨o, c1, c2⟩ := row3_cells h hi he
    exact ⟨o, by rw [c1 t ht, rem_eq], c2⟩
  · rename_i h0
    cases he
    have h0 := Decidable.not_not.1 h0
    exact ⟨h, by rw [h0, Int.zero_emod], fun _ _ _ _ => rfl⟩
theorem cAt_cells {r c t j : Nat} {s s' : S3} (h : OK3 r c s) (hj : j < c) (hit : j ≠ t) (ht : t < c) (htr : t < r) (he : cAt r c t j s = some s') :
    OK3 r c s' ∧ s'.1.getD (t * c + j) 0 = s.1.getD (t * c + j) 0 % s.1.getD (t * c + t) 0 ∧ ∀ i' k, i' ≠ j → i' < c → k < r → s'.1.getD (k * c + i') 0 = s.1.getD (k * c + i') 0 := by
  unfold cAt at he
  split at he
  · obtain ⟨o, c1, c2⟩ := col3_cells h hj ht he
    exact ⟨o, by rw [c1 t htr, rem_eq], c2⟩
  · rename_i h0
    cases he
    have h0 := Decidable.not_not.1 h0
    exact ⟨h, by rw [h0, Int.zero_emod], fun _ _ _ _ _ => rfl⟩
theorem rTo_cells {r c t : Nat} {s : S3} (h : OK3 r c s) (ht : t < c) : ∀ {n : Nat} {s' : S3}, t + 1 + n ≤ r → rTo r c t s n = some s' →
    OK3 r c s' ∧ (∀ k, k < c → s'.1.getD (t * c + k) 0 = s.1.getD (t * c + k) 0) ∧ (∀ i, i < n → s'.1.getD ((t + 1 + i) * c + t) 0 = s.1.getD ((t + 1 + i) * c + t) 0 % s.1.getD (t * c + t) 0) ∧ ∀ i k, n ≤ i → k < c → s'.1.getD ((t + 1 + i) * c + k) 0 = s.1.getD ((t + 1 + i) * c + k) 0
  | 0, s', _, he => by cases he; exact ⟨h, fun _ _ => rfl, fun i hi => by omega, fun _ _ _ _ => rfl⟩
  | n + 1, s', hn, he => by
    simp only [rTo, Option.bind_eq_some_iff] at he
    obtain ⟨x, h1, h2⟩ := he
    obtain ⟨o, c1, c2, c3⟩ := rTo_cells h ht (by omega) h1
    obtain ⟨o', d1, d2⟩ := rAt_cells o (by omega) (by omega) ht h2
    refine ⟨o', fun k hk => by rw [d2 t k (by omega) hk, c1 k hk], fun i hi => ?_, fun i k hi hk => by rw [d2 _ k (by omega) hk, c3 i k (by omega) hk]⟩
    rcases Nat.lt_or_ge i n with e | e
    · rw [d2 _ t (by omega) ht, c2 i e]
    · obtain rfl : i = n := by omega
      rw [d1, c1 t ht, c3 i t (Nat.le_refl _) ht]
theorem cTo_cells {r c t : Nat} {s : S3} (h : OK3 r c s) (ht : t < c) (htr : t < r) : ∀ {n : Nat} {s' : S3}, t + 1 + n ≤ c → cTo r c t s n = some s' →
    OK3 r c s' ∧ (∀ k, k < r → s'.1.getD (k * c + t) 0 = s.1.getD (k * c + t) 0) ∧ (∀ j, j < n → s'.1.getD (t * c + (t + 1 + j)) 0 = s.1.getD (t * c + (t + 1 + j)) 0 % s.1.getD (t * c + t) 0) ∧ ∀ j k, n ≤ j → t + 1 + j < c → k < r → s'.1.getD (k * c + (t + 1 + j)) 0 = s.1.getD (k * c + (t + 1 + j)) 0
  | 0, s', _, he => by cases he; exact ⟨h, fun _ _ => rfl, fun i hi => by omega, fun _ _ _ _ _ => rfl⟩
  | n + 1, s', hn, he => by
    simp only [cTo, Option.bind_eq_some_iff] at he
    obtain ⟨x, h1, h2⟩ := he
    obtain ⟨o, c1, c2, c3⟩ := cTo_cells h ht htr (by omega) h1
    obtain ⟨o', d1, d2⟩ := cAt_cells o (by omega) (by omega) ht htr h2
    refine ⟨o', fun k hk => by rw [d2 t k (by omega) ht hk, c1 k hk], fun i hi => ?_, fun i k hi hc hk => by rw [d2 _ k (by omega) hc hk, c3 i k (by omega) hc hk]⟩
    rcases Nat.lt_or_ge i n with e | e
    · rw [d2 _ t (by omega) (by omega) htr, c2 i e]
    · obtain rfl : i = n := by omega
      rw [d1, c1 t htr, c3 i t (Nat.le_refl _) (by omega) htr]
def lpAt (xs : List Int) (c i j : Nat) : Option (Nat × Nat) → Option (Nat × Nat)
  | none => if xs.getD (i * c + j) 0 ≠ 0 then some (i, j) else none
  | some p => if xs.getD (i * c + j) 0 ≠ 0 ∧ (xs.getD (i * c + j) 0).natAbs < (xs.getD (p.1 * c + p.2) 0).natAbs then some (i, j) else some p
def lpR (xs : List Int) (c t i : Nat) (o : Option (Nat × Nat)) : Nat → Option (Nat × Nat)
  | 0 => o
  | m + 1 => lpAt xs c i (t + m) (lpR xs c t i o m)
def lpTo (xs : List Int) (c t w : Nat) : Nat → Option (Nat × Nat)
  | 0 => none
  | n + 1 => lpR xs c t (t + n) (lpTo xs c t w n) w
def lp (xs : List Int) (r c t : Nat) : Option (Nat × Nat) := lpTo xs c t (c - t) (r - t)
def LP (xs : List Int) (c t : Nat) (S : Nat → Nat → Prop) : Option (Nat × Nat) → Prop
  | none => ∀ i j, S i j → xs.getD (i * c + j) 0 = 0
  | some p => S p.1 p.2 ∧ xs.getD (p.1 * c + p.2) 0 ≠ 0 ∧ (∀ i j, S i j → xs.getD (i * c + j) 0 ≠ 0 → (xs.getD (p.1 * c + p.2) 0).natAbs ≤ (xs.getD (i * c + j) 0).natAbs) ∧ (xs.getD (t * c + t) 0 ≠ 0 → p = (t, t) ∨ (xs.getD (p.1 * c + p.2) 0).natAbs < (xs.getD (t * c + t) 0).natAbs)
theorem LP.mono {xs : List Int} {c t : Nat} {S S' : Nat → Nat → Prop} (h : ∀ i j, S i j ↔ S' i j) {o : Option (Nat × Nat)} (hl : LP xs c t S o) : LP xs c t S' o := by
  have : S = S' := funext fun i => funext fun j => propext (h i j)
  rwa [← this]
theorem LP.step {xs : List Int} {c t i j : Nat} {S : Nat → Nat → Prop} {o : Option (Nat × Nat)} (hl : LP xs c t S o) (hs : o = none → S t t ∨ (i = t ∧ j = t)) : LP xs c t (fun a b => S a b ∨ (a = i ∧ b = j)) (lpAt xs c i j o) := by
  cases o with
  | none =>
    have hl : ∀ i j, S i j → xs.getD (i * c + j) 0 = 0 := hl
    unfold lpAt
    dsimp only
    split
    · rename_i h0
      refine ⟨.inr ⟨rfl, rfl⟩, h0, fun a b hab h1 => ?_, fun h1 => ?_⟩
      · rcases hab with hab | ⟨rfl, rfl⟩
        · exact absurd (hl a b hab) h1
        · exact Nat.le_refl _
      · rcases hs rfl with h2 | ⟨rfl, rfl⟩
        · exact absurd (hl t t h2) h1
        · exact .inl rfl
    · rename_i h0
      have h0 := Decidable.not_not.1 h0
      intro a b hab
      rcases hab with hab | ⟨rfl, rfl⟩
      · exact hl a b hab
      · exact h0
  | some p =>
    obtain ⟨q1, q2, q3, q4⟩ := hl
    unfold lpAt
    dsimp only
    split
    · rename_i h0
      refine ⟨.inr ⟨rfl, rfl⟩, h0.1, fun a b hab h1 => ?_, fun h1 => ?_⟩
      · rcases hab with hab | ⟨rfl, rfl⟩
        · exact Nat.le_trans (Nat.le_of_lt h0.2) (q3 a b hab h1)
        · exact Nat.le_refl _
      · rcases q4 h1 with e | e
        · right
          have h2 := h0.2
          rw [e] at h2
          exact h2
        · exact .inr (Nat.lt_trans h0.2 e)
    · rename_i h0
      refine ⟨.inl q1, q2, fun a b hab h1 => ?_, q4⟩
      rcases hab with hab | ⟨rfl, rfl⟩
      · exact q3 a b hab h1
      · exact Nat.le_of_not_lt fun h => h0 ⟨h1, h⟩
theorem LP.row {xs : List Int} {c t i : Nat} {S : Nat → Nat → Prop} {o : Option (Nat × Nat)} (hl : LP xs c t S o) (hs : o = none → S t t ∨ i = t) : ∀ m, LP xs c t (fun a b => S a b ∨ (a = i ∧ t ≤ b ∧ b < t + m)) (lpR xs c t i o m)
  | 0 => hl.mono fun a b => ⟨.inl, fun h => h.elim id fun h => by omega⟩
  | m + 1 => by
    refine (LP.step (LP.row hl hs m) fun h => ?_).mono fun a b => ?_
    · rcases Nat.eq_zero_or_pos m with rfl | hm
      · rcases hs h with h | h
        · exact .inl (.inl h)
        · exact .inr ⟨h, rfl⟩
      · have ho : o = none ∨ S t t := by
          cases o with
          | none => exact .inl rfl
          | some p =>
            have : ∀ m, lpR xs c t i (some p) m ≠ none := fun m => by
              induction m with
              | zero => exact fun h => by cases h
              | succ m ih =>
                rw [lpR]
                cases hq : lpR xs c t i (some p) m with
                | none => exact absurd hq ih
                | some q => unfold lpAt; dsimp only; split <;> exact fun h => by cases h
            exact absurd h (this m)
        rcases ho with ho | ho
        · rcases hs ho with h | h
          · exact .inl (.inl h)
          · exact .inl (.inr ⟨h.symm, by omega, by omega⟩)
        · exact .inl (.inl ho)
    · constructor
      · rintro ((h | h) | h)
        · exact .inl h
        · exact .inr ⟨h.1, h.2.1, by omega⟩
        · exact .inr ⟨h.1, by omega, by omega⟩
      · rintro (h | ⟨h1, h2, h3⟩)
        · exact .inl (.inl h)
        · rcases Nat.lt_or_ge b (t + m) with e | e
          · exact .inl (.inr ⟨h1, h2, e⟩)
          · exact .inr ⟨h1, by omega⟩
def swR (r c a t : Nat) (s : S3) : S3 := if a = t then s else (swapTo s.1 (a * c) (t * c) c, swapTo s.2.1 (a * r) (t * r) r, s.2.2)
def swC (r c b t : Nat) (s : S3) : S3 := if b = t then s else (turnM (swapTo (turnM s.1 r c) (b * r) (t * r) r) c r, s.2.1, turnM (swapTo (turnM s.2.2 c c) (b * c) (t * c) c) c c)
theorem swR_ok {r c a t : Nat} {s : S3} (h : OK3 r c s) : OK3 r c (swR r c a t s) := by
  unfold swR
  split
  · exact h
  · exact ⟨swapTo_len.trans h.x, swapTo_len.trans h.u, h.v, swapTo_num h.nx, swapTo_num h.nu, h.nv⟩
theorem swC_ok {r c b t : Nat} {s : S3} (h : OK3 r c s) : OK3 r c (swC r c b t s) := by
  unfold swC
  split
  · exact h
  · exact ⟨turnM_len, h.u, turnM_len, trX_num (swapTo_num (trX_num h.nx)), h.nu, trX_num (swapTo_num (trX_num h.nv))⟩
def zr (xs : List Int) (c t n : Nat) : Prop := ∀ i, i < n → xs.getD ((t + 1 + i) * c + t) 0 = 0
def zc (xs : List Int) (c t n : Nat) : Prop := ∀ j, j < n → xs.getD (t * c + (t + 1 + j)) 0 = 0
def dv (xs : List Int) (c t : Nat) (p : Int) (i n : Nat) : Prop := ∀ j, j < n → Int.tmod (xs.getD (i * c + (t + 1 + j)) 0) p = 0
instance {xs : List Int} {c t n : Nat} : Decidable (zr xs c t n) := by unfold zr; infer_instance
instance {xs : List Int} {c t n : Nat} : Decidable (zc xs c t n) := by unfold zc; infer_instance
instance {xs : List Int} {c t i n : Nat} {p : Int} : Decidable (dv xs c t p i n) := by unfold dv; infer_instance
def ndTo (xs : List Int) (c t : Nat) (p : Int) (w : Nat) : Nat → Option Nat
  | 0 => none
  | n + 1 => match ndTo xs c t p w n with
    | some i => some i
    | none => if dv xs c t p (t + 1 + n) w then none else some (t + 1 + n)
def endR (r c t : Nat) (s : S3) : Option (S3 × Bool) :=
  if zr s.1 c t (r - (t + 1)) ∧ zc s.1 c t (c - (t + 1)) then match ndTo s.1 c t (s.1.getD (t * c + t) 0) (c - (t + 1)) (r - (t + 1)) with
    | none => some (s, false)
    | some i => (row3 r c t i 1 s).map fun x => (x, true)
  else some (s, true)
def rcTo (r c t : Nat) (s : S3) : Option S3 := (rTo r c t s (r - (t + 1))).bind fun x => cTo r c t x (c - (t + 1))
def rndS (r c t : Nat) (s : S3) : Option (S3 × Bool) := (rcTo r c t s).bind (endR r c t)
def rndP (r c t : Nat) (p : Nat × Nat) (s : S3) : Option (S3 × Bool) := rndS r c t (swC r c p.2 t (swR r c p.1 t s))
def zm (xs : List Int) (c t n : Nat) : Prop := ∀ j, j < n → xs.getD (t * c + (t + 1 + j)) 0 % xs.getD (t * c + t) 0 = 0
instance {xs : List Int} {c t n : Nat} : Decidable (zm xs c t n) := by unfold zm; infer_instance
def muD (r c t : Nat) (s : S3) : Nat := if lp s.1 r c t = some (t, t) ∧ ¬ zm s.1 c t (c - (t + 1)) then 0 else 1
def muS (r c t : Nat) (s : S3) : Nat := (match lp s.1 r c t with | some p => 2 * (s.1.getD (p.1 * c + p.2) 0).natAbs | none => 0) + muD r c t s
def itS (r c t : Nat) (s : S3) : Option S3 := match lp s.1 r c t with
  | none => some s
  | some p => match rndP r c t p s with
    | none => none
    | some (x, false) => some x
    | some (x, true) => if muS r c t x < muS r c t s then itS r c t x else some x
  termination_by muS r c t s
def ng3 (r c t : Nat) (s : S3) : S3 := if s.1.getD (t * c + t) 0 < 0 then (negX s.1 c t, negX s.2.1 r t, s.2.2) else s
def dgS (r c t : Nat) (s : S3) : Option S3 := (itS r c t s).map (ng3 r c t)
def sTo (r c : Nat) (s : S3) : Nat → Option S3
  | 0 => some s
  | n + 1 => (sTo r c s n).bind (dgS r c n)
def smO (r c : Int) (xs : List Int) : Option S3 := if isM r c xs then sTo r.toNat c.toNat (xs, idTo r.toNat r.toNat, idTo c.toNat c.toNat) (min r.toNat c.toNat) else none
end Go.Proofs.YtekpamojojfplaaGreat
