/-
  TEXTS OF THE PROOF, put together: pHerm2, bHermS.
-/
import Derived.Test.YtekpamojojfplaaGreatB17
set_option linter.unusedVariables false
set_option linter.unusedSimpArgs false
namespace Go.Proofs.YtekpamojojfplaaGreat
theorem addX_cell {xs : List Int} {r c i i' j k : Nat} {q : Int} (hl : xs.length = r * c) (hi : i < r) (hk : k < c) : (addX xs c i j q).getD (i' * c + k) 0 = if i' = i then xs.getD (i * c + k) 0 + xs.getD (j * c + k) 0 * q else xs.getD (i' * c + k) 0 := by
  by_cases h : i' = i
  · subst h
    rw [if_pos rfl, addX_row hl hi hk]
  · rw [if_neg h, addX_other h hk]
theorem swap_cell {xs : List Int} {r c p t i k : Nat} (hl : xs.length = r * c) (hp : p < r) (ht : t < r) (hne : p ≠ t) (hk : k < c) : (swapTo xs (p * c) (t * c) c).getD (i * c + k) 0 = if i = p then xs.getD (t * c + k) 0 else if i = t then xs.getD (p * c + k) 0 else xs.getD (i * c + k) 0 := by
  have h := swapTo_in (xs := xs) (o1 := p * c) (o2 := t * c) hk (row_apart hne) (by rw [hl]; exact row_in hp) (by rw [hl]; exact row_in ht)
  by_cases h1 : i = p
  · subst h1
    rw [if_pos rfl]; exact h.1
  · rw [if_neg h1]
    by_cases h2 : i = t
    · subst h2
      rw [if_pos rfl]; exact h.2
    · rw [if_neg h2]
      have a1 := row_apart (c := c) h1
      have a2 := row_apart (c := c) h2
      exact swapTo_at (by omega) (by omega)
theorem neg_cell {xs : List Int} {r c t i k : Nat} (hl : xs.length = r * c) (ht : t < r) (hk : k < c) : (negX xs c t).getD (i * c + k) 0 = if i = t then -xs.getD (t * c + k) 0 else xs.getD (i * c + k) 0 := by
  by_cases h : i = t
  · subst h
    rw [if_pos rfl, negX, updTo_in hk (by rw [hl]; exact row_in ht)]
  · rw [if_neg h]
    have a1 := row_apart (c := c) h
    exact updTo_at (by omega)
structure Low (r c t j : Nat) (xs ys : List Int) : Prop where
  keep : ∀ i k, i < t → k < c → ys.getD (i * c + k) 0 = xs.getD (i * c + k) 0
  zero : ∀ i k, t ≤ i → i < r → k < j → ys.getD (i * c + k) 0 = 0
theorem Low.add {r c t j i p jj : Nat} {q : Int} {xs : List Int} {s s' : TwoL} (h : Low r c t j xs s.1) (o : OKs r c s) (hj : j ≤ c) (hi : t ≤ i ∧ i < r) (hp : t ≤ p ∧ p < r) (he : addS c r i p q s = some s') : Low r c t j xs s'.1 := by
  unfold addS at he
  split at he
  · cases he
    refine ⟨fun i' k h1 h2 => ?_, fun i' k h1 h2 h3 => ?_⟩
    · try dsimp only
      rw [addX_cell o.1 hi.2 h2, if_neg (by omega)]
      exact h.keep i' k h1 h2
    · try dsimp only
      rw [addX_cell o.1 hi.2 (by omega)]
      split
      · rename_i e
        rw [h.zero i k hi.1 hi.2 h3, h.zero p k hp.1 hp.2 h3]; omega
      · exact h.zero i' k h1 h2 h3
  · cases he
theorem Low.rnd {r c t j p jj : Nat} {xs : List Int} {s0 : TwoL} (o0 : OKs r c s0) (hj : j ≤ c) (hp : t ≤ p ∧ p < r) (h0 : Low r c t j xs s0.1) : ∀ {n : Nat} {s : TwoL}, t + n ≤ r → rndTo r c t p jj s0 n = some s → Low r c t j xs s.1
  | 0, s, _, he => by cases he; exact h0
  | n + 1, s, hn, he => by
    simp only [rndTo, Option.bind_eq_some_iff] at he
    obtain ⟨x, h1, h2⟩ := he
    have ih := Low.rnd (jj := jj) o0 hj hp h0 (n := n) (by omega) h1
    have o1 := rndTo_ok o0 h1
    unfold rndAt at h2
    split at h2
    · exact Low.add (jj := jj) ih o1 hj ⟨by omega, by omega⟩ hp h2
    · cases h2; exact ih
theorem redCol_spec {r c t j : Nat} {xs : List Int} (hj : j < c) : ∀ (N : Nat) {s s' : TwoL} {p p' : Nat}, colM r c t j s p ≤ N → OKs r c s → s.1.getD (p * c + j) 0 ≠ 0 → (t ≤ p ∧ p < r) → Low r c t j xs s.1 → redCol r c t j s p = some (s', p') →
    Low r c t j xs s'.1 ∧ alone s'.1 c t j p' (r - t) ∧ (t ≤ p' ∧ p' < r) ∧ s'.1.getD (p' * c + j) 0 ≠ 0 := fun N => by
  induction N with
  | zero =>
    intro s s' p p' hN o hp htp hl he
    exfalso
    unfold colM at hN
    omega
  | succ N ih =>
    intro s s' p p' hN o hp htp hl he
    by_cases ha : alone s.1 c t j p (r - t)
    · rw [red_done ha] at he
      cases he
      exact ⟨hl, ha, htp, hp⟩
    · cases hr : rndTo r c t p j s (r - t) with
      | none => rw [red_bad ha hr] at he; cases he
      | some s1 =>
        obtain ⟨p1, e1, e2, e3⟩ := red_step o hj hp htp ha hr
        obtain ⟨⟨f1, f2⟩, f3⟩ := leastTo_some e1
        rw [e2] at he
        exact ih (by omega) (rndTo_ok o hr) f3 ⟨f1, by omega⟩ (Low.rnd o (by omega) htp hl (by omega) hr) he
structure Shape (r c j t : Nat) (xs : List Int) (pv : Nat → Nat) : Prop where
  pos : ∀ i, i < t → pv i < j ∧ 0 < xs.getD (i * c + pv i) 0
  left : ∀ i k, i < t → k < pv i → xs.getD (i * c + k) 0 = 0
  mono : ∀ i i', i < i' → i' < t → pv i < pv i'
  zero : ∀ i k, t ≤ i → i < r → k < j → xs.getD (i * c + k) 0 = 0
theorem topTo_shape {r c t j : Nat} {s0 : TwoL} (o0 : OKs r c s0) (hj : j < c) (ht : t < r) (hz : ∀ k, k < j → s0.1.getD (t * c + k) 0 = 0) : ∀ {n : Nat} {s : TwoL}, n ≤ t → topTo r c t j s0 n = some s →
    (∀ i k, k < j → s.1.getD (i * c + k) 0 = s0.1.getD (i * c + k) 0) ∧ ∀ i k, t ≤ i → k < c → s.1.getD (i * c + k) 0 = s0.1.getD (i * c + k) 0
  | 0, s, _, he => by cases he; exact ⟨fun _ _ _ => rfl, fun _ _ _ _ => rfl⟩
  | n + 1, s, hn, he => by
    simp only [topTo, Option.bind_eq_some_iff] at he
    obtain ⟨x, h1, h2⟩ := he
    obtain ⟨i1, i2⟩ := topTo_shape o0 hj ht hz (n := n) (by omega) h1
    have o1 := topTo_ok o0 h1
    unfold topAt addS at h2
    split at h2
    · cases h2
      refine ⟨fun i k hk => ?_, fun i k hi hk => ?_⟩
      · try dsimp only
        rw [addX_cell o1.1 (by omega) (by omega)]
        split
        · rename_i e
          subst e
          rw [i1 i k hk, i1 t k hk, hz k hk]; omega
        · exact i1 i k hk
      · try dsimp only
        rw [addX_cell o1.1 (by omega) hk, if_neg (by omega)]
        exact i2 i k hi hk
    · cases h2
theorem hCol_shape {r c j : Nat} {st st' : TwoL × Nat} {pv : Nat → Nat} (o : OKs r c st.1) (ht : st.2 ≤ r) (hj : j < c) (h : Shape r c j st.2 st.1.1 pv) (he : hCol r c j st = some st') : ∃ pv', Shape r c (j + 1) st'.2 st'.1.1 pv' := by
  obtain ⟨s, t⟩ := st
  dsimp only at o ht h
  by_cases htr : t < r
  · cases hl : leastTo s.1 c t j (r - t) with
    | none =>
      rw [col_none htr hl] at he
      cases he
      refine ⟨pv, fun i hi => ⟨by have := (h.pos i hi).1; omega, (h.pos i hi).2⟩, h.left, h.mono, fun i k h1 h2 h3 => ?_⟩
      rcases Nat.lt_or_ge k j with e | e
      · exact h.zero i k h1 h2 e
      · obtain rfl : k = j := by omega
        have := leastTo_none hl (i - t) (by omega)
        rwa [show t + (i - t) = i by omega] at this
    | some p =>
      obtain ⟨⟨p1, p2⟩, p3⟩ := leastTo_some hl
      cases hr : redCol r c t j s p with
      | none => rw [col_bad htr hl hr] at he; cases he
      | some q =>
        obtain ⟨s1, p'⟩ := q
        rw [col_top htr hl hr] at he
        simp only [Option.map_eq_some_iff] at he
        obtain ⟨s4, h4, rfl⟩ := he
        have o1 := redCol_ok o hr
        obtain ⟨low, hal, hp', hne⟩ := redCol_spec (xs := s.1) hj _ (Nat.le_refl _) o p3 ⟨p1, by omega⟩ ⟨fun _ _ _ _ => rfl, fun i k h1 h2 h3 => h.zero i k h1 h2 h3⟩ hr
        have o2 := swS_ok (p := p') (t := t) o1
        have hn2 := sw_piv o1 hp'.2 htr hj hne
        have key2 : (∀ i k, i < t → k < c → (swS r c p' t s1).1.getD (i * c + k) 0 = s.1.getD (i * c + k) 0) ∧ (∀ i k, t ≤ i → i < r → k < j → (swS r c p' t s1).1.getD (i * c + k) 0 = 0) ∧ ∀ i, t < i → i < r → (swS r c p' t s1).1.getD (i * c + j) 0 = 0 := by
          unfold swS
          split
          · rename_i e
            refine ⟨low.keep, low.zero, fun i h1 h2 => ?_⟩
            have := hal (i - t) (by omega) (by omega)
            rwa [show t + (i - t) = i by omega] at this
          · rename_i e
            dsimp only
            refine ⟨fun i k h1 h2 => ?_, fun i k h1 h2 h3 => ?_, fun i h1 h2 => ?_⟩
            · rw [swap_cell o1.1 hp'.2 htr e h2, if_neg (by omega), if_neg (by omega)]
              exact low.keep i k h1 h2
            · rw [swap_cell o1.1 hp'.2 htr e (by omega)]
              split
              · exact low.zero t k (Nat.le_refl _) htr h3
              · split
                · exact low.zero p' k hp'.1 hp'.2 h3
                · exact low.zero i k h1 h2 h3
            · rw [swap_cell o1.1 hp'.2 htr e hj]
              split
              · have := hal 0 (by omega) (by omega)
                rwa [Nat.add_zero] at this
              · rw [if_neg (by omega)]
                have := hal (i - t) (by omega) (by omega)
                rwa [show t + (i - t) = i by omega] at this
        have o3 := ngS_ok (t := t) (j := j) o2
        have key3 : (∀ i k, i < t → k < c → (ngS r c t j (swS r c p' t s1)).1.getD (i * c + k) 0 = s.1.getD (i * c + k) 0) ∧ (∀ i k, t ≤ i → i < r → k < j → (ngS r c t j (swS r c p' t s1)).1.getD (i * c + k) 0 = 0) ∧ (∀ i, t < i → i < r → (ngS r c t j (swS r c p' t s1)).1.getD (i * c + j) 0 = 0) ∧ 0 < (ngS r c t j (swS r c p' t s1)).1.getD (t * c + j) 0 := by
          generalize swS r c p' t s1 = s2 at *
          unfold ngS
          split
          · rename_i hneg
            dsimp only
            refine ⟨fun i k h1 h2 => ?_, fun i k h1 h2 h3 => ?_, fun i h1 h2 => ?_, ?_⟩
            · rw [neg_cell o2.1 htr h2, if_neg (by omega)]; exact key2.1 i k h1 h2
            · rw [neg_cell o2.1 htr (by omega)]
              split
              · rw [key2.2.1 t k (Nat.le_refl _) htr h3]; rfl
              · exact key2.2.1 i k h1 h2 h3
            · rw [neg_cell o2.1 htr hj, if_neg (by omega)]; exact key2.2.2 i h1 h2
            · rw [neg_cell o2.1 htr hj, if_pos rfl]; omega
          · rename_i hneg
            exact ⟨key2.1, key2.2.1, key2.2.2, by omega⟩
        generalize ngS r c t j (swS r c p' t s1) = s3 at *
        obtain ⟨k1, k2, k3, k4⟩ := key3
        obtain ⟨t1, t2⟩ := topTo_shape o3 hj htr (fun k hk => k2 t k (Nat.le_refl _) htr hk) (Nat.le_refl _) h4
        dsimp only
        have hpj : ∀ i, i < t → pv i < j := fun i hi => (h.pos i hi).1
        refine ⟨fun i => if i < t then pv i else j, fun i hi => ?_, fun i k hi hk => ?_, fun i i' h1 h2 => ?_, fun i k h1 h2 h3 => ?_⟩
        · try dsimp only
          split
          · rename_i hit
            have := h.pos i hit
            refine ⟨by omega, ?_⟩
            rw [t1 i (pv i) this.1, k1 i (pv i) hit (by omega)]
            exact this.2
          · rename_i hit
            obtain rfl : i = t := by omega
            refine ⟨by omega, ?_⟩
            rw [t2 i j (Nat.le_refl _) hj]; exact k4
        · try dsimp only at hk
          split at hk
          · rename_i hit
            have := hpj i hit
            rw [t1 i k (by omega), k1 i k hit (by omega)]
            exact h.left i k hit hk
          · rename_i hit
            obtain rfl : i = t := by omega
            rw [t1 i k hk]
            exact k2 i k (Nat.le_refl _) htr hk
        · try dsimp only
          rw [if_pos (by omega)]
          split
          · rename_i hit
            exact h.mono i i' h1 hit
          · exact hpj i (by omega)
        · rcases Nat.lt_or_ge k j with e | e
          · rw [t1 i k e]; exact k2 i k (by omega) h2 e
          · obtain rfl : k = j := by omega
            rw [t2 i k (by omega) hj]; exact k3 i (by omega) h2
  · unfold hCol at he
    dsimp only at he
    rw [if_neg htr] at he
    cases he
    exact ⟨pv, fun i hi => ⟨by have := (h.pos i hi).1; omega, (h.pos i hi).2⟩, h.left, h.mono, fun i k h1 h2 h3 => by dsimp only at h1; omega⟩
theorem hTo_shape {r c : Nat} {s : TwoL} (o : OKs r c s) : ∀ {j : Nat} {st : TwoL × Nat}, j ≤ c → hTo r c s j = some st → ∃ pv, Shape r c j st.2 st.1.1 pv
  | 0, st, _, he => by cases he; exact ⟨fun _ => 0, fun i hi => by dsimp only at hi; omega, fun i k hi _ => by dsimp only at hi; omega, fun i i' _ h2 => by dsimp only at h2; omega, fun i k _ _ h3 => by omega⟩
  | j + 1, st, hj, he => by
    simp only [hTo, Option.bind_eq_some_iff] at he
    obtain ⟨x, h1, h2⟩ := he
    obtain ⟨pv, ih⟩ := hTo_shape o (by omega) h1
    obtain ⟨q1, q2, -⟩ := hTo_ok o h1
    exact hCol_shape q1 q2 (by omega) ih h2
end Go.Proofs.YtekpamojojfplaaGreat
namespace Go.Proofs.YtekpamojojfplaaGreat
open Go.RowKit
theorem dfQ_gb (n d : Int) : -400000000 ≤ dfQ n d ∧ dfQ n d ≤ 400000000 := by
  unfold dfQ
  split
  · rename_i h
    have h1 := numB_true.1 h.1
    have h3 := Int.natAbs_ediv_le_natAbs n d
    omega
  · omega
theorem d_cellH (a b i j n cap : Nat) (xs : List Int) (hn : n = xs.length) (hx : xs.length = a * b) (ha : a ≤ 24) (hb : b ≤ 24) (hi : i < a) (hj : j < b) : Does Tryz.prog 101 [vM a b 1 n cap, vI i, vI j] [(1, .ro (.ints xs))] 2 (Ret (vI (xs.getD (i * b + j) 0)) 2) := by
 subst hn
 refine Does.intro TT Tryz.func101 rfl (by kernel_rfl) Zz Zz fun E hE => ?_
 have hcell := cell_facts hi hj ha hb
 have hab : a * b ≤ 24 * 24 := Nat.mul_le_mul ha hb
 have ecell := cell_nat (p := i) (k := j) (c := b)
 ((repeat' (first | refine stx ?_ | (refine stq ?_ ?_ <;> (intro hc; ((try simp at hc) <;> try contradiction))) | fail)) <;> try (exfalso; omega))
 refine fin_ret rfl w_3 (congrArg vI (by rw [ecell])) rfl
theorem d_bads (xs : List Int) (c : Nat) (hl : xs.length ≤ 1099511627776) : Does Tryz.prog 154 [vS 1 1 0 xs.length c] [(1, .ro (.ints xs))] 2 (Ret (vB (decide (badN ∈ xs))) 2) := by
 refine Does.intro TT Tryz.func154 rfl (by kernel_rfl) Zz Zz fun E hE => ?_
 ((repeat' (first | refine stx ?_ | (refine stq ?_ ?_ <;> (intro hc; ((try simp at hc) <;> try contradiction))) | fail)) <;> try (exfalso; omega))
 refine w_G hE (fun i : Nat => i ≤ xs.length ∧ ∀ k, k < i → xs.getD k 0 ≠ badN) (fun i => xs.length - i)
  (fun i => [(0, vS 1 1 0 xs.length c), (3, vI i)]) (fun _ => [(1, .ro (.ints xs))]) 2 [] 0 ⟨Nat.zero_le _, fun k h => by omega⟩ ⟨w_1, w_2, rfl⟩ ?_
 rintro i ⟨hi, hnb⟩
 by_cases hil : i < xs.length
 ·have w1 : xs[i]?.getD 0 = xs.getD (0 + (i : Int).toNat) 0 := by simp
  have w2 : xs.getD (0 + (i : Int).toNat) 0 = xs.getD i 0 := by simp
  by_cases h0 : xs.getD i 0 = -4611686018427387904
  ·have hF : decide (badN ∈ xs) = true := decide_eq_true (hasB_mem.1 ⟨i, h0⟩)
   rw [hF]
   ((repeat' (first | refine stx ?_ | (refine stq ?_ ?_ <;> (intro hc; ((try simp at hc) <;> try contradiction))) | fail)) <;> try (exfalso; omega))
   all_goals refine fin_ret rfl w_3 (rfl) rfl
  ·((repeat' (first | refine stx ?_ | (refine stq ?_ ?_ <;> (intro hc; ((try simp at hc) <;> try contradiction))) | fail)) <;> try (exfalso; omega))
   all_goals exact ⟨[], i + 1, ⟨hil, fun k hk => by
    rcases Nat.lt_or_ge k i with e | e
    ·exact hnb k e
    ·obtain rfl : k = i := by omega
     exact h0⟩, w_4, ⟨w_1, w_2, rfl⟩⟩
 ·obtain rfl : i = xs.length := by omega
  have hF : decide (badN ∈ xs) = false := decide_eq_false fun h => by
   obtain ⟨p, hp⟩ := hasB_mem.2 h
   rcases Nat.lt_or_ge p xs.length with e | e
   ·exact hnb p e hp
   ·rw [List.getD_eq_getElem?_getD, List.getElem?_eq_none e] at hp; cases hp
  rw [hF]
  ((repeat' (first | refine stx ?_ | (refine stq ?_ ?_ <;> (intro hc; ((try simp at hc) <;> try contradiction))) | fail)) <;> try (exfalso; omega))
  all_goals refine fin_ret rfl w_3 (rfl) rfl
theorem d_opsAdd (a b i j nx cx : Nat) (q : Int) (xs us : List Int) (hn : nx = xs.length) (hx : xs.length = a * b) (hu : us.length = a * a) (ha : a ≤ 24) (hb : b ≤ 24) (hi : i < a) (hj : j < a) (hij : i ≠ j) (g1 : GBs xs) (g2 : GBs us) (hq : GB q) :
    Does Tryz.prog 179 [vM a b 1 nx cx, vM a a 2 (a * a) (a * a), vO 2 i j q] [(1, .own 3 cx (.ints xs)), (2, .own 3 (a * a) (.ints us))] 3 (fun v Hout n1 => v = .tup [] ∧ Hout = [(1, .own 3 cx (.ints (doX xs b i j q))), (2, .own 3 (a * a) (.ints (doX us a i j q)))] ∧ n1 = 3) := by
  refine Does.intro TT Tryz.func179 rfl (by kernel_rfl) Zz Zz fun E hE => ?_
  ((repeat' (first | refine stx ?_ | ((refine zqe (d_doS a b i j nx cx cx q xs hn hx ha hb hi hj hij g1 hq) ?_); rintro v Hout n1 ⟨rfl, rfl, rfl⟩) | ((refine zqe (d_doS a a i j (a * a) (a * a) (a * a) q us hu.symm hu ha ha hi hj hij g2 hq) ?_); rintro v Hout n1 ⟨rfl, rfl, rfl⟩) | (refine stq ?_ ?_ <;> (intro hc; ((try simp at hc) <;> try contradiction))) | fail)) <;> try (exfalso; omega))
  exact fin_n rfl w_3 [] (.tup []) [(1, .own 3 cx (.ints (doX xs b i j q))), (2, .own 3 (a * a) (.ints (doX us a i j q)))] 3 ⟨rfl, rfl, rfl⟩ rfl ⟨trivial, ⟨rfl, rfl, trivial⟩, rfl⟩ rfl
theorem d_opsSwap (a b i j nx cx : Nat) (xs us : List Int) (hn : nx = xs.length) (o : OKs a b (xs, us)) (ha : a ≤ 24) (hb : b ≤ 24) (hi : i < a) (hj : j < a) (hij : i ≠ j) :
    Does Tryz.prog 179 [vM a b 1 nx cx, vM a a 2 (a * a) (a * a), vO 0 i j 0] [(1, .own 3 cx (.ints xs)), (2, .own 3 (a * a) (.ints us))] 3 (fun v Hout n1 => v = .tup [] ∧ Hout = [(1, .own 3 cx (.ints (swapTo xs (i * b) (j * b) b))), (2, .own 3 (a * a) (.ints (swapTo us (i * a) (j * a) a)))] ∧ n1 = 3) := by
  refine Does.intro TT Tryz.func179 rfl (by kernel_rfl) Zz Zz fun E hE => ?_
  have h1 : xs.length = a * b := o.1
  have h2 : us.length = a * a := o.2.1
  ((repeat' (first | refine stx ?_ | ((refine zqe (d_swapS a b i j nx cx cx xs hn h1 ha hb hi hj hij) ?_); rintro v Hout n1 ⟨rfl, rfl, rfl⟩) | ((refine zqe (d_swapS a a i j (a * a) (a * a) (a * a) us h2.symm h2 ha ha hi hj hij) ?_); rintro v Hout n1 ⟨rfl, rfl, rfl⟩) | (refine stq ?_ ?_ <;> (intro hc; ((try simp at hc) <;> try contradiction))) | fail)) <;> try (exfalso; omega))
  exact fin_n rfl w_3 [] (.tup []) [(1, .own 3 cx (.ints (swapTo xs (i * b) (j * b) b))), (2, .own 3 (a * a) (.ints (swapTo us (i * a) (j * a) a)))] 3 ⟨rfl, rfl, rfl⟩ rfl ⟨trivial, ⟨rfl, rfl, trivial⟩, rfl⟩ rfl
theorem d_opsNeg (a b i nx cx : Nat) (xs us : List Int) (hn : nx = xs.length) (o : OKs a b (xs, us)) (ha : a ≤ 24) (hb : b ≤ 24) (hi : i < a) :
    Does Tryz.prog 179 [vM a b 1 nx cx, vM a a 2 (a * a) (a * a), vO 1 i i 0] [(1, .own 3 cx (.ints xs)), (2, .own 3 (a * a) (.ints us))] 3 (fun v Hout n1 => v = .tup [] ∧ Hout = [(1, .own 3 cx (.ints (negX xs b i))), (2, .own 3 (a * a) (.ints (negX us a i)))] ∧ n1 = 3) := by
  refine Does.intro TT Tryz.func179 rfl (by kernel_rfl) Zz Zz fun E hE => ?_
  have h1 : xs.length = a * b := o.1
  have h2 : us.length = a * a := o.2.1
  have g1 := d_ngS a b i nx cx cx xs hn h1 ha hb hi (GBs.num o.2.2.1)
  have g2 := d_ngS a a i (a * a) (a * a) (a * a) us h2.symm h2 ha ha hi (GBs.num o.2.2.2)
  rw [ngX_ok o.2.2.1] at g1
  rw [ngX_ok o.2.2.2] at g2
  ((repeat' (first | refine stx ?_ | ((refine zqe (g1) ?_); rintro v Hout n1 ⟨rfl, rfl, rfl⟩) | ((refine zqe (g2) ?_); rintro v Hout n1 ⟨rfl, rfl, rfl⟩) | (refine stq ?_ ?_ <;> (intro hc; ((try simp at hc) <;> try contradiction))) | fail)) <;> try (exfalso; omega))
  exact fin_n rfl w_3 [] (.tup []) [(1, .own 3 cx (.ints (negX xs b i))), (2, .own 3 (a * a) (.ints (negX us a i)))] 3 ⟨rfl, rfl, rfl⟩ rfl ⟨trivial, ⟨rfl, rfl, trivial⟩, rfl⟩ rfl
set_option maxHeartbeats 2000000 in
theorem d_leastS (a b t j nx cx : Nat) (xs : List Int) (hn : nx = xs.length) (hx : xs.length = a * b) (hnum : xs.all numB = true) (ha : a ≤ 24) (hb : b ≤ 24) (ht : t ≤ a) (hj : j < b) :
    Does Tryz.prog 176 [vM a b 1 nx cx, vI t, vI j] [(1, .ro (.ints xs))] 2 (Ret (vI (pI (leastTo xs b t j (a - t)))) 2) := by
  subst hn
  refine Does.intro TT Tryz.func176 rfl (by kernel_rfl) Zz Zz fun E hE => ?_
  ((repeat' (first | refine stx ?_ | (refine stq ?_ ?_ <;> (intro hc; ((try simp at hc) <;> try contradiction))) | fail)) <;> try (exfalso; omega))
  refine w_G hE (fun n : Nat => t + n ≤ a) (fun n => a - (t + n))
    (fun n => [(2, vI j), (3, .one (.ptr 2 3 0 0)), (7, vI (pI (leastTo xs b t j n))), (8, vI ((t + n : Nat) : Int))]) (fun _ => [(1, .ro (.ints xs)), (2, .own 26 1 (.lit [.int a, .int b, .sl 1 1 0 xs.length cx]))]) 3 [] 0 (by omega) ⟨w_1, w_2, rfl⟩ ?_
  intro n hn
  by_cases hna : t + n < a
  · have hd := d_cellH a b (t + n) j xs.length cx xs rfl hx ha hb hna hj
    have b1 := num_getD hnum ((t + n) * b + j)
    have w1 : xs[(t + n) * b + j]?.getD 0 = xs.getD ((t + n) * b + j) 0 := by simp
    cases hl : leastTo xs b t j n with
    | none =>
      have hp0 : pI none = -1 := rfl
      by_cases h0 : xs.getD ((t + n) * b + j) 0 = 0
      · have hnx : pI (leastTo xs b t j (n + 1)) = pI none := by simp only [leastTo, hl]; rw [if_neg (fun h => h h0)]
        ((repeat' (first | refine stx ?_ | refine zqc (hd) ?_ | (first | refine w_z (d_l1Abs _ (by omega) (by omega)) Zz Zz Zz Zz Zz Zz Zz Zz ft Zz Zz ?_ | refine w_A (d_l1Abs _ (by omega) (by omega)) Zz Zz Zz Zz Zz Zz Zz Zz ft Zz Zz ?_) | (refine stq ?_ ?_ <;> (intro hc; ((try simp at hc) <;> try contradiction))) | fail)) <;> try (exfalso; omega))
        all_goals exact ⟨[], n + 1, by omega, w_4, ⟨⟨rfl, rfl, congrArg some (congrArg vI hnx.symm), congrArg some (congrArg vI (by omega)), trivial⟩, ⟨rfl, rfl, trivial⟩, rfl⟩⟩
      · have hnx : pI (leastTo xs b t j (n + 1)) = ((t + n : Nat) : Int) := by simp only [leastTo, hl]; rw [if_pos h0]; rfl
        ((repeat' (first | refine stx ?_ | refine zqc (hd) ?_ | (first | refine w_z (d_l1Abs _ (by omega) (by omega)) Zz Zz Zz Zz Zz Zz Zz Zz ft Zz Zz ?_ | refine w_A (d_l1Abs _ (by omega) (by omega)) Zz Zz Zz Zz Zz Zz Zz Zz ft Zz Zz ?_) | (refine stq ?_ ?_ <;> (intro hc; ((try simp at hc) <;> try contradiction))) | fail)) <;> try (exfalso; omega))
        all_goals exact ⟨[], n + 1, by omega, w_4, ⟨⟨rfl, rfl, congrArg some (congrArg vI hnx.symm), congrArg some (congrArg vI (by omega)), trivial⟩, ⟨rfl, rfl, trivial⟩, rfl⟩⟩
    | some p =>
      have hp0 : pI (some p) = (p : Int) := rfl
      obtain ⟨⟨p1, p2⟩, p3⟩ := leastTo_some hl
      have hd2 := d_cellH a b p j xs.length cx xs rfl hx ha hb (by omega) hj
      have b2 := num_getD hnum (p * b + j)
      have w2 : xs[p * b + j]?.getD 0 = xs.getD (p * b + j) 0 := by simp
      by_cases h0 : xs.getD ((t + n) * b + j) 0 ≠ 0 ∧ (xs.getD ((t + n) * b + j) 0).natAbs < (xs.getD (p * b + j) 0).natAbs
      · have hnx : pI (leastTo xs b t j (n + 1)) = ((t + n : Nat) : Int) := by simp only [leastTo, hl]; rw [if_pos h0]; rfl
        ((repeat' (first | refine stx ?_ | refine zqc (hd) ?_ | refine zqc (hd2) ?_ | (first | refine w_z (d_l1Abs _ (by omega) (by omega)) Zz Zz Zz Zz Zz Zz Zz Zz ft Zz Zz ?_ | refine w_A (d_l1Abs _ (by omega) (by omega)) Zz Zz Zz Zz Zz Zz Zz Zz ft Zz Zz ?_) | (refine stq ?_ ?_ <;> (intro hc; ((try simp at hc) <;> try contradiction))) | fail)) <;> try (exfalso; omega))
        all_goals exact ⟨[], n + 1, by omega, w_4, ⟨⟨rfl, rfl, congrArg some (congrArg vI hnx.symm), congrArg some (congrArg vI (by omega)), trivial⟩, ⟨rfl, rfl, trivial⟩, rfl⟩⟩
      · have hnx : pI (leastTo xs b t j (n + 1)) = pI (some p) := by simp only [leastTo, hl]; rw [if_neg h0]
        ((repeat' (first | refine stx ?_ | refine zqc (hd) ?_ | refine zqc (hd2) ?_ | (first | refine w_z (d_l1Abs _ (by omega) (by omega)) Zz Zz Zz Zz Zz Zz Zz Zz ft Zz Zz ?_ | refine w_A (d_l1Abs _ (by omega) (by omega)) Zz Zz Zz Zz Zz Zz Zz Zz ft Zz Zz ?_) | (refine stq ?_ ?_ <;> (intro hc; ((try simp at hc) <;> try contradiction))) | fail)) <;> try (exfalso; omega))
        all_goals exact ⟨[], n + 1, by omega, w_4, ⟨⟨rfl, rfl, congrArg some (congrArg vI hnx.symm), congrArg some (congrArg vI (by omega)), trivial⟩, ⟨rfl, rfl, trivial⟩, rfl⟩⟩
  · have hnt : n = a - t := by omega
    have htn' : ((t + n : Nat) : Int) = a := by omega
    rw [htn', ← hnt]
    ((repeat' (first | refine stx ?_ | (refine stq ?_ ?_ <;> (intro hc; ((try simp at hc) <;> try contradiction))) | fail)) <;> try (exfalso; omega))
    all_goals refine fin_ret rfl w_3 (rfl) rfl
set_option maxHeartbeats 2000000 in
theorem d_aloneS (a b t p j nx cx : Nat) (xs : List Int) (hn : nx = xs.length) (hx : xs.length = a * b) (hnum : xs.all numB = true) (ha : a ≤ 24) (hb : b ≤ 24) (ht : t ≤ a) (hj : j < b) :
    Does Tryz.prog 177 [vM a b 1 nx cx, vI t, vI j, vI p] [(1, .ro (.ints xs))] 2 (Ret (vB (decide (alone xs b t j p (a - t)))) 2) := by
  subst hn
  refine Does.intro TT Tryz.func177 rfl (by kernel_rfl) Zz Zz fun E hE => ?_
  ((repeat' (first | refine stx ?_ | (refine stq ?_ ?_ <;> (intro hc; ((try simp at hc) <;> try contradiction))) | fail)) <;> try (exfalso; omega))
  refine w_G hE (fun n : Nat => t + n ≤ a ∧ alone xs b t j p n) (fun n => a - (t + n))
    (fun n => [(2, vI j), (3, vI p), (4, .one (.ptr 2 3 0 0)), (9, vI ((t + n : Nat) : Int))]) (fun _ => [(1, .ro (.ints xs)), (2, .own 26 1 (.lit [.int a, .int b, .sl 1 1 0 xs.length cx]))]) 3 [] 0 ⟨by omega, fun i hi => by omega⟩ ⟨w_1, w_2, rfl⟩ ?_
  rintro n ⟨hn, hal⟩
  by_cases hna : t + n < a
  · have hd := d_cellH a b (t + n) j xs.length cx xs rfl hx ha hb hna hj
    have b1 := num_getD hnum ((t + n) * b + j)
    have w1 : xs[(t + n) * b + j]?.getD 0 = xs.getD ((t + n) * b + j) 0 := by simp
    by_cases h0 : t + n = p ∨ xs.getD ((t + n) * b + j) 0 = 0
    · have hal' := alone_next hal h0
      ((repeat' (first | refine stx ?_ | refine zqc (hd) ?_ | (refine stq ?_ ?_ <;> (intro hc; ((try simp at hc) <;> try contradiction))) | fail)) <;> try (exfalso; omega))
      all_goals exact ⟨[], n + 1, ⟨by omega, hal'⟩, w_4, ⟨⟨rfl, rfl, rfl, congrArg some (congrArg vI (by omega)), trivial⟩, ⟨rfl, rfl, trivial⟩, rfl⟩⟩
    · have hF : decide (alone xs b t j p (a - t)) = false := decide_eq_false fun ha' => h0 (.inr (ha' n (by omega) fun h => h0 (.inl h)))
      rw [hF]
      ((repeat' (first | refine stx ?_ | refine zqc (hd) ?_ | (refine stq ?_ ?_ <;> (intro hc; ((try simp at hc) <;> try contradiction))) | fail)) <;> try (exfalso; omega))
      all_goals refine fin_ret rfl w_3 (rfl) rfl
  · have hnt : n = a - t := by omega
    have hT : decide (alone xs b t j p (a - t)) = true := decide_eq_true (by rw [← hnt]; exact hal)
    have htn' : ((t + n : Nat) : Int) = a := by omega
    rw [hT, htn']
    ((repeat' (first | refine stx ?_ | (refine stq ?_ ?_ <;> (intro hc; ((try simp at hc) <;> try contradiction))) | fail)) <;> try (exfalso; omega))
    all_goals refine fin_ret rfl w_3 (rfl) rfl
theorem d_identSN (a : Nat) (ha : a ≤ 24) : Does Tryz.prog 106 [vI a] [] 1 (fun v Hout n1 => v = .tup [.agg [.int a, .int a, .sl 1 1 0 (a * a) (a * a)], .one (.bool true)] ∧ Hout = [(1, .own 3 (a * a) (.ints (idTo a a)))] ∧ n1 = 2) := by
  have h := d_identS a
  have e : IdOut (a : Int) 3 = fun v Hout n1 => v = .tup [.agg [.int a, .int a, .sl 1 1 0 (a * a) (a * a)], .one (.bool true)] ∧ Hout = [(1, .own 3 (a * a) (.ints (idTo a a)))] ∧ n1 = 2 := by
    funext v Hout n1
    unfold IdOut
    rw [inB_true.2 (by omega)]
    simp
  rwa [e] at h
end Go.Proofs.YtekpamojojfplaaGreat
