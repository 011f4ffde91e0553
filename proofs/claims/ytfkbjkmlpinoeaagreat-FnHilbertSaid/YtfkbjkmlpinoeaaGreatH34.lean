/-
  TEXTS OF THE PROOF, put together: pRank, pHil2, pHil3, pHil4, pHil5, pHil6.
-/
import Derived.Test.YtfkbjkmlpinoeaaGreatH19
import Derived.Test.YtfkbjkmlpinoeaaGreatH30
import Derived.Test.YtfkbjkmlpinoeaaGreatH32
import Derived.Test.YtfkbjkmlpinoeaaGreatH33
import Derived.Test.YtfkbjkmlpinoeaaGreatH31
set_option linter.unusedVariables false
set_option linter.unusedSimpArgs false
namespace Go.Proofs.YtfkbjkmlpinoeaaGreat
theorem rowGcd_dvd {xs : List Int} {off : Nat} : ∀ {n k : Nat}, k < n → rowGcd xs off n ∣ xs.getD (off + k) 0
  | n + 1, k, hk => by
    rw [rowGcd]
    by_cases e : k = n
    · subst e; exact Int.gcd_dvd_right _ _
    · exact Int.dvd_trans (Int.gcd_dvd_left _ _) (rowGcd_dvd (by omega))
theorem sgn_zero {xs : List Int} {off : Nat} : ∀ {n : Nat}, sgnTo xs off n = 0 → ∀ k, k < n → xs.getD (off + k) 0 = 0
  | n + 1, h, k, hk => by
    rw [sgnTo] at h
    split at h
    · rename_i h0
      by_cases e : k = n
      · subst e; exact Int.sign_eq_zero_iff_zero.1 h
      · exact sgn_zero h0 k (by omega)
    · rename_i h0; exact absurd h h0
theorem sgn_tri {xs : List Int} {off : Nat} : ∀ n : Nat, sgnTo xs off n = 0 ∨ sgnTo xs off n = 1 ∨ sgnTo xs off n = -1
  | 0 => .inl rfl
  | n + 1 => by
    rw [sgnTo]
    split
    · rcases Int.lt_trichotomy (xs.getD (off + n) 0) 0 with e | e | e
      · right; right; exact Int.sign_eq_neg_one_of_neg e
      · left; rw [e]; rfl
      · right; left; exact Int.sign_eq_one_of_pos e
    · exact sgn_tri n
theorem primAt_char {xs : List Int} {off n : Nat} (hl : off + n ≤ xs.length) : ∃ m : Int, m ≠ 0 ∧ ∀ k, k < n → m * (primAt xs off n).getD (off + k) 0 = xs.getD (off + k) 0 := by
  unfold primAt
  split
  · exact ⟨1, by omega, fun k _ => by omega⟩
  · rename_i hg
    have hs : sgnTo xs off n ≠ 0 := fun e => hg (rowGcd_none (sgn_zero e))
    refine ⟨sgnTo xs off n * rowGcd xs off n, Int.mul_ne_zero hs hg, fun k hk => ?_⟩
    rw [updTo_in hk hl]
    have hd : sgnTo xs off n * rowGcd xs off n ∣ xs.getD (off + k) 0 := by
      have h1 := rowGcd_dvd (xs := xs) (off := off) hk
      rcases sgn_tri (xs := xs) (off := off) n with e | e | e
      · exact absurd e hs
      · rw [e, Int.one_mul]; exact h1
      · rw [e, Int.neg_mul, Int.one_mul]; exact Int.neg_dvd.2 h1
    exact Int.mul_tdiv_cancel_of_dvd hd
theorem primAt_other {xs : List Int} {c i l k : Nat} (h : l ≠ i) (hk : k < c) : (primAt xs (i * c) c).getD (l * c + k) 0 = xs.getD (l * c + k) 0 := by
  have a := row_apart (c := c) h
  unfold primAt
  split
  · rfl
  · exact updTo_at (by omega)
structure ElimD (r c t j n : Nat) (xs ys : List Int) : Prop where
  len : ys.length = xs.length
  same : ∀ i k, k < c → (i = t ∨ n ≤ i) → ys.getD (i * c + k) 0 = xs.getD (i * c + k) 0
  row : ∀ i, i < n → i ≠ t → ∃ m a b : Int, m ≠ 0 ∧ a ≠ 0 ∧ (∀ k, k < c → m * ys.getD (i * c + k) 0 = a * xs.getD (i * c + k) 0 - b * xs.getD (t * c + k) 0) ∧ a * xs.getD (i * c + j) 0 = b * xs.getD (t * c + j) 0
theorem elimRow_char {r c t j i : Nat} {xs ys : List Int} (hx : xs.length = r * c) (hi : i < r) (ht : t < r) (hit : i ≠ t) (hj : j < c) (h0 : xs.getD (t * c + j) 0 ≠ 0) (he : elimRow xs c i t j = some ys) :
    ys.length = xs.length ∧ (∀ l k, k < c → l ≠ i → ys.getD (l * c + k) 0 = xs.getD (l * c + k) 0) ∧ ∃ m a b : Int, m ≠ 0 ∧ a ≠ 0 ∧ (∀ k, k < c → m * ys.getD (i * c + k) 0 = a * xs.getD (i * c + k) 0 - b * xs.getD (t * c + k) 0) ∧ a * xs.getD (i * c + j) 0 = b * xs.getD (t * c + j) 0 := by
  unfold elimRow at he
  split at he
  · rename_i h
    cases he
    have hz := h.resolve_left hit
    exact ⟨rfl, fun _ _ _ _ => rfl, 1, 1, 0, by omega, by omega, fun k _ => by omega, by rw [hz]; omega⟩
  · split at he
    · cases he
      have hin : i * c + c ≤ xs.length := by rw [hx]; exact row_in hi
      have hl2 : (updTo xs (i * c) (elimF xs c i t j) c).length = xs.length := updTo_len
      refine ⟨by rw [primAt_len, hl2], fun l k hk hl => ?_, ?_⟩
      · have a := row_apart (c := c) hl
        rw [primAt_other hl hk]
        exact updTo_at (by omega)
      · obtain ⟨m, hm, hc⟩ := primAt_char (xs := updTo xs (i * c) (elimF xs c i t j) c) (off := i * c) (n := c) (by rw [hl2]; exact hin)
        have hg1 : ((Int.gcd (xs.getD (i * c + j) 0) (xs.getD (t * c + j) 0) : Nat) : Int) ∣ xs.getD (i * c + j) 0 := Int.gcd_dvd_left _ _
        have hg2 : ((Int.gcd (xs.getD (i * c + j) 0) (xs.getD (t * c + j) 0) : Nat) : Int) ∣ xs.getD (t * c + j) 0 := Int.gcd_dvd_right _ _
        have q1 := Int.mul_tdiv_cancel_of_dvd hg1
        have q2 := Int.mul_tdiv_cancel_of_dvd hg2
        refine ⟨m, (xs.getD (t * c + j) 0).tdiv (Int.gcd (xs.getD (i * c + j) 0) (xs.getD (t * c + j) 0)), (xs.getD (i * c + j) 0).tdiv (Int.gcd (xs.getD (i * c + j) 0) (xs.getD (t * c + j) 0)), hm, ?_, fun k hk => ?_, ?_⟩
        · intro e
          rw [e, Int.mul_zero] at q2
          exact h0 q2.symm
        · rw [hc k hk, updTo_in hk hin]; rfl
        · generalize ((Int.gcd (xs.getD (i * c + j) 0) (xs.getD (t * c + j) 0) : Nat) : Int) = g at *
          generalize (xs.getD (i * c + j) 0).tdiv g = A at *
          generalize (xs.getD (t * c + j) 0).tdiv g = B at *
          rw [← q1, ← q2]; grind
    · cases he
theorem elimTo_char {r c t j : Nat} {xs : List Int} (hx : xs.length = r * c) (ht : t < r) (hj : j < c) (h0 : xs.getD (t * c + j) 0 ≠ 0) : ∀ {n : Nat} {ys : List Int}, n ≤ r → elimTo xs c t j n = some ys → ElimD r c t j n xs ys
  | 0, ys, _, he => by
    cases he
    exact ⟨rfl, fun _ _ _ _ => rfl, fun i hi => by omega⟩
  | n + 1, ys, hn, he => by
    rw [elimTo, Option.bind_eq_some_iff] at he
    obtain ⟨zs, h1, h2⟩ := he
    have ih := elimTo_char hx ht hj h0 (by omega) h1
    by_cases hnt : n = t
    · subst hnt
      have hy : zs = ys := by
        unfold elimRow at h2
        rw [if_pos (.inl rfl)] at h2
        cases h2; rfl
      subst hy
      exact ⟨ih.len, fun i k hk h => ih.same i k hk (by omega), fun i hi hit => ih.row i (by omega) hit⟩
    · have hzt : zs.getD (t * c + j) 0 ≠ 0 := by rw [ih.same t j hj (.inl rfl)]; exact h0
      obtain ⟨e1, e2, m, a, b, hm, ha, e3, e4⟩ := elimRow_char (by rw [ih.len]; exact hx) (by omega) ht hnt hj hzt h2
      refine ⟨e1.trans ih.len, fun i k hk h => ?_, fun i hi hit => ?_⟩
      · rw [e2 i k hk (by omega)]
        exact ih.same i k hk (by omega)
      · by_cases hin : i = n
        · subst hin
          refine ⟨m, a, b, hm, ha, fun k hk => ?_, ?_⟩
          · rw [e3 k hk, ih.same i k hk (by omega), ih.same t k hk (.inl rfl)]
          · rw [ih.same i j hj (by omega), ih.same t j hj (.inl rfl)] at e4
            exact e4
        · obtain ⟨m', a', b', hm', ha', e5, e6⟩ := ih.row i (by omega) hit
          exact ⟨m', a', b', hm', ha', fun k hk => by rw [e2 i k hk hin]; exact e5 k hk, e6⟩
theorem ElimD.ker {r c t j : Nat} {xs ys : List Int} (h : ElimD r c t j r xs ys) (ht : t < r) (q : Vec) : KerX r c ys q ↔ KerX r c xs q := by
  have e0 : rowP ys (t * c) c q = rowP xs (t * c) c q := rowP_cells fun k hk => h.same t k hk (.inl rfl)
  have e1 : ∀ i, i < r → i ≠ t → ∃ m a b : Int, m ≠ 0 ∧ a ≠ 0 ∧ m * rowP ys (i * c) c q = a * rowP xs (i * c) c q - b * rowP xs (t * c) c q := fun i hi hit => by
    obtain ⟨m, a, b, hm, ha, e, -⟩ := h.row i hi hit
    refine ⟨m, a, b, hm, ha, ?_⟩
    unfold rowP
    rw [← sg_mul, ← sg_mul, Int.sub_eq_add_neg, ← Int.neg_mul, ← sg_mul, ← sg_add]
    refine sg_congr fun k hk => ?_
    have := e k hk
    generalize ys.getD (i * c + k) 0 = A at *
    generalize xs.getD (i * c + k) 0 = B at *
    generalize xs.getD (t * c + k) 0 = D at *
    have : m * (A * q k) = (m * A) * q k := by grind
    rw [this, ‹m * A = _›]; grind
  constructor
  · intro hk i hi
    have ht0 := hk t ht
    rw [e0] at ht0
    by_cases hit : i = t
    · subst hit; exact ht0
    · obtain ⟨m, a, b, hm, ha, e⟩ := e1 i hi hit
      rw [hk i hi, ht0] at e
      have : a * rowP xs (i * c) c q = 0 := by omega
      exact (Int.mul_eq_zero.1 this).resolve_left ha
  · intro hk i hi
    by_cases hit : i = t
    · subst hit; rw [e0]; exact hk i hi
    · obtain ⟨m, a, b, hm, ha, e⟩ := e1 i hi hit
      rw [hk i hi, hk t ht] at e
      have : m * rowP ys (i * c) c q = 0 := by omega
      exact (Int.mul_eq_zero.1 this).resolve_left hm
theorem swap_ker {r c p t : Nat} {xs : List Int} (hx : xs.length = r * c) (hp : p < r) (ht : t < r) (hne : p ≠ t) (q : Vec) : KerX r c (swapTo xs (p * c) (t * c) c) q ↔ KerX r c xs q := by
  have e : ∀ i, rowP (swapTo xs (p * c) (t * c) c) (i * c) c q = if i = p then rowP xs (t * c) c q else if i = t then rowP xs (p * c) c q else rowP xs (i * c) c q := fun i => by
    by_cases h1 : i = p
    · rw [if_pos h1]
      exact sg_congr fun k hk => by rw [swap_cell hx hp ht hne hk, if_pos h1]
    · rw [if_neg h1]
      by_cases h2 : i = t
      · rw [if_pos h2]
        exact sg_congr fun k hk => by rw [swap_cell hx hp ht hne hk, if_neg h1, if_pos h2]
      · rw [if_neg h2]
        exact sg_congr fun k hk => by rw [swap_cell hx hp ht hne hk, if_neg h1, if_neg h2]
  constructor
  · intro h i hi
    by_cases h1 : i = p
    · have := h t ht
      rw [e, if_neg (Ne.symm hne), if_pos rfl] at this
      rw [h1]; exact this
    · by_cases h2 : i = t
      · have := h p hp
        rw [e, if_pos rfl] at this
        rw [h2]; exact this
      · have := h i hi
        rw [e, if_neg h1, if_neg h2] at this
        exact this
  · intro h i hi
    rw [e]
    split
    · exact h t ht
    · split
      · exact h p hp
      · exact h i hi
theorem prim_ker {r c i : Nat} {xs : List Int} (hx : xs.length = r * c) (hi : i < r) (q : Vec) : KerX r c (primAt xs (i * c) c) q ↔ KerX r c xs q := by
  obtain ⟨m, hm, hc⟩ := primAt_char (xs := xs) (off := i * c) (n := c) (by rw [hx]; exact row_in hi)
  have e1 : m * rowP (primAt xs (i * c) c) (i * c) c q = rowP xs (i * c) c q := by
    unfold rowP
    rw [← sg_mul]
    refine sg_congr fun k hk => ?_
    rw [← hc k hk]; grind
  have e2 : ∀ l, l ≠ i → rowP (primAt xs (i * c) c) (l * c) c q = rowP xs (l * c) c q := fun l hl => rowP_cells fun k hk => primAt_other hl hk
  constructor
  · intro h l hl
    by_cases e : l = i
    · subst e; rw [← e1, h l hl, Int.mul_zero]
    · rw [← e2 l e]; exact h l hl
  · intro h l hl
    by_cases e : l = i
    · subst e
      rw [h l hl] at e1
      exact (Int.mul_eq_zero.1 e1).resolve_left hm
    · rw [e2 l e]; exact h l hl
theorem primAll_ker {r c : Nat} {xs : List Int} (hx : xs.length = r * c) (hn : xs.all numB = true) (q : Vec) : ∀ {n : Nat}, n ≤ r → (KerX r c (primAll xs c n) q ↔ KerX r c xs q)
  | 0, _ => Iff.rfl
  | n + 1, h => by
    rw [primAll]
    exact (prim_ker (by rw [(primAll_ok hn n).2]; exact hx) (by omega) q).trans (primAll_ker hx hn q (by omega))
theorem findP_spec (xs : List Int) (c j r : Nat) : ∀ m t, r - t ≤ m → t ≤ r → (findP xs c j r t < r → t ≤ findP xs c j r t ∧ xs.getD (findP xs c j r t * c + j) 0 ≠ 0) ∧ (¬ findP xs c j r t < r → ∀ i, t ≤ i → i < r → xs.getD (i * c + j) 0 = 0) := fun m => by
  induction m with
  | zero =>
    intro t h1 h2
    rw [findP, if_neg (by omega)]
    exact ⟨fun h => by omega, fun _ i h3 h4 => by omega⟩
  | succ m ih =>
    intro t h1 h2
    rw [findP]
    split
    · split
      · rename_i h3 h4
        obtain ⟨a, b⟩ := ih (t + 1) (by omega) (by omega)
        refine ⟨fun h => ⟨by have := (a h).1; omega, (a h).2⟩, fun h i h5 h6 => ?_⟩
        by_cases e : i = t
        · subst e; exact h4
        · exact b h i (by omega) h6
      · rename_i h3 h4
        exact ⟨fun _ => ⟨Nat.le_refl _, h4⟩, fun h => absurd h3 h⟩
    · exact ⟨fun h => by omega, fun _ i h3 h4 => by omega⟩
structure GJ (r c j t : Nat) (xs : List Int) (pv : Nat → Nat) : Prop where
  len : xs.length = r * c
  tr : t ≤ r
  lt : ∀ i, i < t → pv i < j
  nz : ∀ i, i < t → xs.getD (i * c + pv i) 0 ≠ 0
  off : ∀ i l, i < t → l < r → l ≠ i → xs.getD (l * c + pv i) 0 = 0
  mono : ∀ i l, i < l → l < t → pv i < pv l
  zero : ∀ i k, t ≤ i → i < r → k < j → xs.getD (i * c + k) 0 = 0
theorem GJ.elim {r c j t : Nat} {xs ys : List Int} {pv : Nat → Nat} (h : GJ r c j t xs pv) (ht : t < r) (hj : j < c) (h0 : xs.getD (t * c + j) 0 ≠ 0) (he : ElimD r c t j r xs ys) : GJ r c (j + 1) (t + 1) ys (fun i => if i = t then j else pv i) := by
  have z : ∀ l k, l < r → k < c → xs.getD (l * c + k) 0 = 0 → xs.getD (t * c + k) 0 = 0 → ys.getD (l * c + k) 0 = 0 := fun l k hl hk e1 e2 => by
    by_cases hlt : l = t
    · rw [he.same l k hk (.inl hlt)]; exact e1
    · obtain ⟨m, a, b, hm, ha, e3, -⟩ := he.row l hl hlt
      have := e3 k hk
      rw [e1, e2, Int.mul_zero, Int.mul_zero] at this
      exact (Int.mul_eq_zero.1 (by omega)).resolve_left hm
  have zj : ∀ l, l < r → l ≠ t → ys.getD (l * c + j) 0 = 0 := fun l hl hlt => by
    obtain ⟨m, a, b, hm, ha, e3, e4⟩ := he.row l hl hlt
    have := e3 j hj
    exact (Int.mul_eq_zero.1 (by omega)).resolve_left hm
  refine ⟨he.len.trans h.len, ht, fun i hi => ?_, fun i hi => ?_, fun i l hi hl hli => ?_, fun i l hil hl => ?_, fun i k hi hir hk => ?_⟩
  · try dsimp only
    split
    · omega
    · have := h.lt i (by omega); omega
  · try dsimp only
    split
    · rename_i e
      rw [e, he.same t j hj (.inl rfl)]; exact h0
    · rename_i e
      obtain ⟨m, a, b, hm, ha, e3, -⟩ := he.row i (by omega) e
      have hp := h.lt i (by omega)
      intro c0
      have := e3 (pv i) (by omega)
      rw [c0, h.off i t (by omega) ht (Ne.symm e), Int.mul_zero, Int.mul_zero, Int.sub_zero] at this
      exact h.nz i (by omega) ((Int.mul_eq_zero.1 this.symm).resolve_left ha)
  · try dsimp only
    split
    · rename_i e
      exact zj l hl (by omega)
    · rename_i e
      have hp := h.lt i (by omega)
      exact z l (pv i) hl (by omega) (h.off i l (by omega) hl hli) (h.off i t (by omega) ht (Ne.symm e))
  · try dsimp only
    rw [if_neg (by omega)]
    split
    · exact h.lt i (by omega)
    · exact h.mono i l hil (by omega)
  · by_cases e : k = j
    · subst e; exact zj i hir (by omega)
    · exact z i k hir (by omega) (h.zero i k (by omega) hir (by omega)) (h.zero t k (Nat.le_refl _) ht (by omega))
theorem GJ.swap {r c j t p : Nat} {xs : List Int} {pv : Nat → Nat} (h : GJ r c j t xs pv) (ht : t < r) (hp : p < r) (htp : t ≤ p) (hne : p ≠ t) (hj : j ≤ c) : GJ r c j t (swapTo xs (p * c) (t * c) c) pv := by
  have e : ∀ i k, k < c → i < t → (swapTo xs (p * c) (t * c) c).getD (i * c + k) 0 = xs.getD (i * c + k) 0 := fun i k hk hi => by
    rw [swap_cell h.len hp ht hne hk, if_neg (by omega), if_neg (by omega)]
  refine ⟨by rw [swapTo_len]; exact h.len, h.tr, h.lt, fun i hi => ?_, fun i l hi hl hli => ?_, h.mono, fun i k hi hir hk => ?_⟩
  · rw [e i _ (by have := h.lt i hi; omega) hi]; exact h.nz i hi
  · have := h.lt i hi
    rw [swap_cell h.len hp ht hne (by omega)]
    split
    · exact h.off i t hi ht (by omega)
    · split
      · exact h.off i p hi hp (by omega)
      · exact h.off i l hi hl hli
  · rw [swap_cell h.len hp ht hne (by omega)]
    split
    · exact h.zero t k (Nat.le_refl _) ht hk
    · split
      · exact h.zero p k htp hp hk
      · exact h.zero i k hi hir hk
theorem echTo_char {r c : Nat} {xs : List Int} (hx : xs.length = r * c) (hn : xs.all numB = true) : ∀ {j : Nat} {s : List Int × Nat}, j ≤ c → echTo xs r c j = some s → (∃ pv, GJ r c j s.2 s.1 pv) ∧ ∀ q, KerX r c s.1 q ↔ KerX r c xs q
  | 0, s, _, he => by
    cases he
    refine ⟨⟨fun _ => 0, by rw [(primAll_ok hn r).2]; exact hx, Nat.zero_le _, fun i hi => by omega, fun i hi => by omega, fun i l hi => by omega, fun i l _ hl => by omega, fun i k _ _ hk => by omega⟩, fun q => primAll_ker hx hn q (Nat.le_refl _)⟩
  | j + 1, s, hj, he => by
    rw [echTo, Option.bind_eq_some_iff] at he
    obtain ⟨⟨ys, t⟩, h1, h2⟩ := he
    obtain ⟨⟨pv, hg⟩, hk⟩ := echTo_char hx hn (by omega) h1
    dsimp only at hg hk
    obtain ⟨f1, f2⟩ := findP_spec ys c j r r t (by omega) hg.tr
    unfold colStep at h2
    dsimp only at h2
    split at h2
    · rename_i hp
      obtain ⟨g1, g2⟩ := f1 hp
      generalize findP ys c j r t = p at *
      rw [Option.map_eq_some_iff] at h2
      obtain ⟨zs, h3, rfl⟩ := h2
      dsimp only
      have ht : t < r := by omega
      by_cases hpt : p = t
      · rw [if_pos hpt] at h3
        subst hpt
        have hE := elimTo_char hg.len ht (by omega) g2 (Nat.le_refl _) h3
        exact ⟨⟨_, hg.elim ht (by omega) g2 hE⟩, fun q => (hE.ker ht q).trans (hk q)⟩
      · rw [if_neg hpt] at h3
        have hs := hg.swap ht hp g1 hpt (by omega)
        have h0 : (swapTo ys (p * c) (t * c) c).getD (t * c + j) 0 ≠ 0 := by
          rw [swap_cell hg.len hp ht hpt (by omega), if_neg (by omega), if_pos rfl]; exact g2
        have hE := elimTo_char hs.len ht (by omega) h0 (Nat.le_refl _) h3
        exact ⟨⟨_, hs.elim ht (by omega) h0 hE⟩, fun q => (hE.ker ht q).trans ((swap_ker hg.len hp ht hpt q).trans (hk q))⟩
    · rename_i hp
      cases h2
      refine ⟨⟨pv, hg.len, hg.tr, fun i hi => by have := hg.lt i hi; omega, hg.nz, hg.off, hg.mono, fun i k hi hir hk => ?_⟩, hk⟩
      by_cases e : k = j
      · subst e; exact f2 hp i hi hir
      · exact hg.zero i k hi hir (by omega)
theorem GJ.piv {r c t : Nat} {xs : List Int} {pv : Nat → Nat} (h : GJ r c c t xs pv) : ∀ i, i < t → i ≤ pv i ∧ pv i + (t - i) ≤ c := fun i => by
  have low : ∀ i, i < t → i ≤ pv i := fun i => by
    induction i with
    | zero => intro _; omega
    | succ i ih => intro hi; have := ih (by omega); have := h.mono i (i + 1) (by omega) hi; omega
  have up : ∀ n i, i + n + 1 = t → pv i + (t - i) ≤ c := fun n => by
    induction n with
    | zero => intro i hi; have := h.lt i (by omega); omega
    | succ n ih => intro i hi; have := ih (i + 1) (by omega); have := h.mono i (i + 1) (by omega) (by omega); omega
  intro hi
  exact ⟨low i hi, up (t - i - 1) i (by omega)⟩
theorem rank_ker0 {r c : Nat} {xs : List Int} (hx : xs.length = r * c) (hn : xs.all numB = true) (h : rankO xs r c = some c) (q : Vec) (hq : KerX r c xs q) : ∀ k, k < c → q k = 0 := by
  unfold rankO at h
  rw [Option.map_eq_some_iff] at h
  obtain ⟨s, h1, h2⟩ := h
  obtain ⟨⟨pv, hg⟩, hk⟩ := echTo_char hx hn (Nat.le_refl _) h1
  obtain ⟨ys, t⟩ := s
  dsimp only at hg hk h2
  subst h2
  have hp : ∀ i, i < t → pv i = i := fun i hi => by have := hg.piv i hi; omega
  intro k hkt
  have h3 := (hk q).2 hq k (by have := hg.tr; omega)
  unfold rowP at h3
  rw [sg_single (p := k) hkt fun l hl hne => by
    have h4 := hg.off l k hl (by have := hg.tr; omega) (Ne.symm hne)
    rw [hp l hl] at h4
    rw [h4, Int.zero_mul]] at h3
  have h5 := hg.nz k hkt
  rw [hp k hkt] at h5
  exact (Int.mul_eq_zero.1 h3).resolve_left h5
theorem sq0R {a : Int} (h : a * a = 0) : a = 0 := by rcases Int.mul_eq_zero.1 h with e | e <;> exact e
end Go.Proofs.YtfkbjkmlpinoeaaGreat
namespace Go.Proofs.YtfkbjkmlpinoeaaGreat
open Go.RowKit
theorem prodTo_add {xs u v w : List Int} {o : Nat} : ∀ {t : Nat}, (∀ k, k < t → w.getD k 0 = u.getD k 0 + v.getD k 0) → prodTo xs o w t = prodTo xs o u t + prodTo xs o v t
  | 0, _ => by simp [prodTo]
  | t + 1, h => by
    have ih := prodTo_add (xs := xs) (o := o) (t := t) fun k hk => h k (by omega)
    have := h t (by omega)
    simp only [prodTo, ih, this]
    grind
theorem dotR_add {xs u v w : List Int} {b i : Nat} (h : ∀ k, k < b → w.getD k 0 = u.getD k 0 + v.getD k 0) : dotR xs b w i = dotR xs b u i + dotR xs b v i := prodTo_add h
theorem htTo_add {xs u v w : List Int} {b : Nat} (h : ∀ k, k < b → w.getD k 0 = u.getD k 0 + v.getD k 0) : ∀ a, htTo xs b w a = htTo xs b u a + htTo xs b v a
  | 0 => by simp [htTo]
  | a + 1 => by rw [htTo, htTo, htTo, htTo_add h a, dotR_add h]; omega
theorem inAny_iff {xs v : List Int} {a b : Nat} : inAny xs a b v = true ↔ ∀ i, i < a → 0 ≤ dotR xs b v i := by simp [inAny]
theorem inAny_add {xs u v w : List Int} {a b : Nat} (h : ∀ k, k < b → w.getD k 0 = u.getD k 0 + v.getD k 0) (hu : inAny xs a b u = true) (hv : inAny xs a b v = true) : inAny xs a b w = true :=
  inAny_iff.2 fun i hi => by
    have := inAny_iff.1 hu i hi
    have := inAny_iff.1 hv i hi
    rw [dotR_add h]; omega
theorem htTo_nonneg {xs v : List Int} {a b : Nat} (h : inAny xs a b v = true) : ∀ t, t ≤ a → 0 ≤ htTo xs b v t
  | 0, _ => by simp [htTo]
  | t + 1, ht => by
    have := htTo_nonneg h t (by omega)
    have := inAny_iff.1 h t (by omega)
    rw [htTo]; omega
theorem htTo_zero {xs v : List Int} {a b : Nat} (h : inAny xs a b v = true) : ∀ t, t ≤ a → htTo xs b v t = 0 → ∀ i, i < t → dotR xs b v i = 0
  | 0, _, _, i, hi => by omega
  | t + 1, ht, hz, i, hi => by
    have h1 := htTo_nonneg h t (by omega)
    have h2 := inAny_iff.1 h t (by omega)
    rw [htTo] at hz
    by_cases c : i < t
    · exact htTo_zero h t (by omega) (by omega) i c
    · obtain rfl : i = t := by omega
      omega
theorem prodTo_row {xs v : List Int} {o : Nat} : ∀ t, prodTo xs o v t = rowP xs o t (vecL v)
  | 0 => rfl
  | t + 1 => by rw [prodTo, prodTo_row t]; rfl
theorem cone_V {a b : Nat} {xs : List Int} (hx : xs.length = a * b) (hn : xs.all numB = true) (hp : pointB a b xs = true) : ConeV b (inAny xs a b) (fun v => htTo xs b v a) where
  add u v w hu hv hw h k1 k2 := inAny_add h k1 k2
  hadd u v w hu hv hw h := htTo_add h a
  pos u hu hK hz := by
    have h0 := htTo_nonneg hK a (Nat.le_refl _)
    rcases Int.lt_or_eq_of_le h0 with c | c
    · exact c
    · exfalso
      apply hz
      have hr : rankO xs a b = some b := by
        unfold pointB rankB at hp
        split at hp
        · rename_i k hk
          split at hk
          · simp only [Bool.and_eq_true, decide_eq_true_eq] at hp
            rw [Int.toNat_natCast, Int.toNat_natCast] at hk
            rw [hk]; congr 1; omega
          · cases hk
        · cases hp
      intro k hk
      have := rank_ker0 hx hn hr (vecL u) (fun i hi => by rw [← prodTo_row]; exact htTo_zero hK a (Nat.le_refl _) c.symm i hi) k (by omega)
      exact this
end Go.Proofs.YtfkbjkmlpinoeaaGreat
namespace Go.Proofs.YtfkbjkmlpinoeaaGreat
open Go.RowKit
theorem isZ_iff {v : List Int} : isZ v = decide (zeroL v) := by
  unfold isZ zeroL zoP
  simp only [Nat.zero_add]
theorem strict_of {l : List (List Int × Int)} (h : l.Pairwise fun x y => ¬ cmpV y x < 0) (hn : l.Nodup) : StrictV l := by
  refine (h.and hn).imp ?_
  rintro x y ⟨h1, h2⟩
  rcases Int.lt_trichotomy (cmpV x y) 0 with c | c | c
  · exact c
  · exact absurd (cmpV_eq c) h2
  · exact absurd ((cmpV_neg x y).2 c) h1
def baseL (xs : List Int) (a b : Nat) (L : List (List Int)) : List (List Int × Int) := (L.filter (conP xs a b)).map fun v => (v, htTo xs b v a)
theorem red_any {xs : List Int} {a b : Nat} {F : List (List Int × Int)} {x : List Int} : redV (inAny xs a b) F x = F.any fun y => sumB xs a b x y.1 := by
  simp only [redV, sumB, isZ_iff]
theorem greed_irr {a b : Nat} {xs : List Int} {L : List (List Int)} {M S : List (List Int × Int)} (hx : xs.length = a * b) (hn : xs.all numB = true) (hp : pointB a b xs = true) (hL : ∀ v ∈ L, v.length = b) (hnd : L.Nodup)
    (hM : M.Perm (irrL xs a b L)) (hMs : M.Pairwise fun x y => ¬ cmpV y x < 0) (hS : StrictV S) (hSm : ∀ x, x ∈ S ↔ x ∈ baseL xs a b L) : M = greedV (inAny xs a b) S := by
  have hC := cone_V hx hn hp
  have hb : ∀ y ∈ S, y.1.length = b ∧ y.2 = htTo xs b y.1 a ∧ 0 < htTo xs b y.1 a := fun y hy => by
    obtain ⟨v, hv, rfl⟩ := List.mem_map.1 ((hSm y).1 hy)
    obtain ⟨h1, h2⟩ := List.mem_filter.1 hv
    simp only [conP, Bool.and_eq_true, Bool.not_eq_true', isZ_iff, decide_eq_false_iff_not] at h2
    exact ⟨hL v h1, rfl, hC.pos v (hL v h1) h2.2 h2.1⟩
  rw [greed_eq hC ⟨fun y hy => (hb y hy).1, fun y hy => (hb y hy).2.1, fun y hy => (hb y hy).2.2⟩ hS]
  have hbn : (baseL xs a b L).Nodup := by
    refine List.pairwise_map.2 ((hnd.filter _).imp fun {x y} h e => h ?_)
    exact (Prod.ext_iff.1 e).1
  have hMn : M.Nodup := hM.nodup_iff.2 (hbn.filter _)
  refine strictV_ext (strict_of hMs hMn) (List.Pairwise.filter _ hS) fun x => ?_
  rw [hM.mem_iff, List.mem_filter, hSm]
  show x ∈ (baseL xs a b L).filter _ ↔ _
  rw [List.mem_filter, red_any]
  have e : (S.any fun y => sumB xs a b x.1 y.1) = (baseL xs a b L).any fun y => sumB xs a b x.1 y.1 := by
    rw [Bool.eq_iff_iff, List.any_eq_true, List.any_eq_true]
    exact ⟨fun ⟨y, h1, h2⟩ => ⟨y, (hSm y).1 h1, h2⟩, fun ⟨y, h1, h2⟩ => ⟨y, (hSm y).2 h1, h2⟩⟩
  rw [e]
  exact Iff.rfl
end Go.Proofs.YtfkbjkmlpinoeaaGreat
namespace Go.Proofs.YtfkbjkmlpinoeaaGreat
theorem box_nodup {lo hi : List Int} : ∀ t, (boxTo lo hi t).Nodup
  | 0 => by simp [boxTo]
  | t + 1 => by
    have ih := box_nodup (lo := lo) (hi := hi) t
    rw [boxTo, List.flatMap, List.Nodup, List.pairwise_flatten]
    refine ⟨fun l hl => ?_, List.pairwise_map.2 (ih.imp_of_mem ?_)⟩
    · obtain ⟨u, hu, rfl⟩ := List.mem_map.1 hl
      unfold extL spanL
      rw [List.map_map]
      refine List.pairwise_map.2 (List.nodup_range.imp fun {x y} h e => h ?_)
      have := List.append_cancel_left e
      simp at this
      omega
    · intro u v hu hv hne x hx y hy e
      subst e
      unfold extL at hx hy
      obtain ⟨n, _, rfl⟩ := List.mem_map.1 hx
      obtain ⟨m, _, e⟩ := List.mem_map.1 hy
      exact hne (List.append_inj_left e.symm (by rw [box_row u hu, box_row v hv]))
end Go.Proofs.YtfkbjkmlpinoeaaGreat
namespace Go.Proofs.YtfkbjkmlpinoeaaGreat
open Go.RowKit
theorem putV_at {x : List Int × Int} : ∀ {L : List (List Int × Int)} {k : Nat}, k ≤ L.length → (∀ j, k ≤ j → j < L.length → 0 < cmpV (L.getD j ([], 0)) x) → (k = 0 ∨ ¬ 0 < cmpV (L.getD (k - 1) ([], 0)) x) → putV L x = L.take k ++ x :: L.drop k
  | [], k, hk, _, _ => by
    have : k = 0 := by simpa using hk
    subst this; simp [putV]
  | y :: L, 0, _, h, _ => by
    have ha : (y :: L).all (fun y => decide (0 < cmpV y x)) = true := List.all_eq_true.2 fun z hz => by
      obtain ⟨j, hj, rfl⟩ := List.mem_iff_getElem.1 hz
      have := h j (by omega) hj
      rw [getD_in hj] at this
      exact decide_eq_true this
    rw [putV, if_pos ha]; rfl
  | y :: L, k + 1, hk, h, h2 => by
    have hn : ¬ 0 < cmpV ((y :: L).getD k ([], 0)) x := by
      rcases h2 with h2 | h2
      · omega
      · exact h2
    have hkl : k < (y :: L).length := by omega
    have ha : ¬ (y :: L).all (fun y => decide (0 < cmpV y x)) = true := fun ha => by
      have := List.all_eq_true.1 ha _ (List.getElem_mem hkl)
      rw [← getD_in (d := ([], 0)) hkl] at this
      exact hn (of_decide_eq_true this)
    have ih := putV_at (x := x) (L := L) (k := k) (by simpa using hk) (fun j h1 h3 => by simpa using h (j + 1) (by omega) (by simpa using h3)) (by
      rcases k with _ | k
      · exact .inl rfl
      · right; simpa using hn)
    rw [putV, if_neg ha, ih]; rfl
theorem putV_strict {x : List Int × Int} {L : List (List Int × Int)} (h : StrictV L) (hx : x ∉ L) : StrictV (putV L x) := by
  induction L with
  | nil => simp [putV, StrictV]
  | cons y L ih =>
    have h1 := List.pairwise_cons.1 h
    rw [putV]
    split
    · rename_i ha
      refine List.pairwise_cons.2 ⟨fun z hz => ?_, h⟩
      have := of_decide_eq_true (List.all_eq_true.1 ha z hz)
      exact (cmpV_neg z x).2 this
    · rename_i ha
      have hyx : cmpV y x < 0 := by
        rcases Int.lt_trichotomy (cmpV y x) 0 with c | c | c
        · exact c
        · exact absurd (cmpV_eq c) (fun e => hx (by rw [e]; simp))
        · exfalso
          apply ha
          refine List.all_eq_true.2 fun z hz => decide_eq_true ?_
          rcases List.mem_cons.1 hz with e | e
          · rw [e]; exact c
          · exact (cmpV_neg z x).1 (cmpV_trans ((cmpV_neg y x).2 c) (h1.1 z e))
      refine List.pairwise_cons.2 ⟨fun z hz => ?_, ih h1.2 fun e => hx (by simp [e])⟩
      rcases mem_putV.1 hz with e | e
      · rw [e]; exact hyx
      · exact h1.1 z e
def putsV (L : List (List Int × Int)) : List (List Int × Int) := L.foldl putV []
theorem putsV_snoc (L : List (List Int × Int)) (x : List Int × Int) : putsV (L ++ [x]) = putV (putsV L) x := by simp [putsV]
theorem mem_puts {L : List (List Int × Int)} {x : List Int × Int} : x ∈ putsV L ↔ x ∈ L := by
  suffices h : ∀ (L M : List (List Int × Int)), x ∈ L.foldl putV M ↔ x ∈ M ∨ x ∈ L by have := h L []; simpa [putsV] using this
  intro L
  induction L with
  | nil => intro M; simp
  | cons y L ih =>
    intro M
    rw [List.foldl_cons, ih, mem_putV, List.mem_cons]
    constructor
    · rintro ((h | h) | h)
      · exact .inr (.inl h)
      · exact .inl h
      · exact .inr (.inr h)
    · rintro (h | h | h)
      · exact .inl (.inr h)
      · exact .inl (.inl h)
      · exact .inr h
theorem puts_strict {L : List (List Int × Int)} (h : L.Nodup) : StrictV (putsV L) := by
  suffices hs : ∀ (L M : List (List Int × Int)), L.Nodup → StrictV M → (∀ x ∈ L, x ∉ M) → StrictV (L.foldl putV M) by
    exact hs L [] h List.Pairwise.nil fun x _ h => by cases h
  intro L
  induction L with
  | nil => intro M _ h _; exact h
  | cons y L ih =>
    intro M h1 h2 h3
    have h4 := List.pairwise_cons.1 h1
    rw [List.foldl_cons]
    refine ih _ h4.2 (putV_strict h2 (h3 y (by simp))) fun x hx hm => ?_
    rcases mem_putV.1 hm with e | e
    · exact h4.1 x hx e.symm
    · exact h3 x (by simp [hx]) e
theorem prM_sum {xs ys : List Int} {b : Nat} : ∀ a, (prM xs a b ys).sum = htTo xs b ys a
  | 0 => rfl
  | a + 1 => by
    have ih := prM_sum (xs := xs) (ys := ys) (b := b) a
    rw [prM] at ih ⊢
    rw [List.range_succ, List.map_append, List.sum_append, ih, htTo]; simp
theorem prM_take {xs ys : List Int} {a b i : Nat} (h : i ≤ a) : (prM xs a b ys).take i = prM xs i b ys := by
  simp only [prM]
  rw [← List.map_take]
  congr 1
  rw [List.take_range, Nat.min_eq_left h]
theorem htTo_isZ {xs v : List Int} {b : Nat} (hv : v.length = b) (h : zeroL v) : ∀ a, htTo xs b v a = 0
  | 0 => rfl
  | a + 1 => by
    rw [htTo, htTo_isZ hv h a, dotR]
    have : ∀ t, t ≤ b → prodTo xs (a * b) v t = 0 := fun t => by
      induction t with
      | zero => intro _; rfl
      | succ t ih =>
        intro ht
        rw [prodTo, ih (by omega), h t (by omega)]; simp
    rw [this b (Nat.le_refl _)]; simp
theorem conP_iff {a b : Nat} {xs v : List Int} (hx : xs.length = a * b) (hn : xs.all numB = true) (hp : pointB a b xs = true) (hv : v.length = b) : conP xs a b v = (inAny xs a b v && decide (0 < htTo xs b v a)) := by
  have hC := cone_V hx hn hp
  cases hK : inAny xs a b v
  · simp [conP, hK]
  · rw [conP, hK, isZ_iff]
    by_cases hz : zeroL v
    · rw [htTo_isZ hv hz]; simp [hz]
    · have := hC.pos v hv hK hz
      simp [hz, this]
theorem inConeB_any {a b : Nat} {xs v : List Int} (hC : coneM a b xs = true) (hv : v.length = b) (hvn : v.all numB = true) : inConeB a b xs v = inAny xs a b v := by
  simp [inConeB, hC, hv, hvn, inAny]
theorem prodO_any {a b : Nat} {xs v : List Int} (hC : coneM a b xs = true) (hv : v.length = b) (hvn : v.all numB = true) : prodO a b xs v = some (prM xs a b v) := by
  simp [prodO, prodOkB, hC, hv, hvn]
end Go.Proofs.YtfkbjkmlpinoeaaGreat
namespace Go.Proofs.YtfkbjkmlpinoeaaGreat
open Go.RowKit
theorem grV_iff {v y : List Int} {val h : Int} : (val < h ∨ h = val ∧ cmpL v y < 0) ↔ 0 < cmpV (y, h) (v, val) := by
  rw [← cmpV_neg]
  unfold cmpV
  dsimp only
  by_cases e : val = h
  · rw [if_neg (by omega)]; omega
  · rw [if_pos e]; omega
theorem zip_at {l : List Row} {hs : List Int} (hh : hs.length = l.length) {j : Nat} (hj : j < l.length) : ((l.map Row.xs).zip hs).getD j ([], 0) = ((l.getD j rowD).xs, hs.getD j 0) := by
  rw [getD_in (by simp [hh]; exact hj), getD_in hj, getD_in (by omega)]; simp
theorem zip_take : ∀ (k : Nat) (l : List (List Int)) (hs : List Int), (l.take k).zip (hs.take k) = (l.zip hs).take k
  | 0, _, _ => by simp
  | k + 1, [], _ => by simp
  | k + 1, _ :: _, [] => by simp
  | k + 1, x :: l, h :: hs => by simp [zip_take k l hs]
theorem zip_drop : ∀ (k : Nat) (l : List (List Int)) (hs : List Int), (l.drop k).zip (hs.drop k) = (l.zip hs).drop k
  | 0, _, _ => by simp
  | k + 1, [], _ => by simp
  | k + 1, _ :: _, [] => by simp
  | k + 1, x :: l, h :: hs => by simp [zip_drop k l hs]
theorem put_zip {l : List Row} {hs : List Int} {r : Row} {val : Int} {k : Nat} (hh : hs.length = l.length) (hk : k ≤ l.length) (h1 : ∀ j, k ≤ j → j < l.length → grV r.xs val l hs j) (h2 : k = 0 ∨ ¬ grV r.xs val l hs (k - 1)) :
    ((l.take k ++ r :: l.drop k).map Row.xs).zip (hs.take k ++ val :: hs.drop k) = putV ((l.map Row.xs).zip hs) (r.xs, val) := by
  have hlen : ((l.map Row.xs).zip hs).length = l.length := by simp [hh]
  rw [putV_at (k := k) (by omega) (fun j a b => by rw [zip_at hh (by omega)]; exact grV_iff.1 (h1 j a (by omega))) (by
    rcases h2 with h2 | h2
    · exact .inl h2
    · by_cases e : k = 0
      · exact .inl e
      · right
        rw [zip_at hh (by omega)]
        exact fun h => h2 (grV_iff.2 h))]
  rw [List.map_append, List.map_cons, List.zip_append (by simp; omega), List.zip_cons_cons, List.map_take, List.map_drop, zip_take, zip_drop]
def greedL (K : List Int → Bool) (l : List (List Int)) : List (List Int) := l.foldl (fun out x => if out.any fun y => K (difL x y) then out else out ++ [x]) []
theorem greedL_snoc {K : List Int → Bool} {l : List (List Int)} {x : List Int} : greedL K (l ++ [x]) = if (greedL K l).any fun y => K (difL x y) then greedL K l else greedL K l ++ [x] := by simp [greedL]
theorem greed_fst {K : List Int → Bool} (S : List (List Int × Int)) : (greedV K S).map Prod.fst = greedL K (S.map Prod.fst) := by
  suffices h : ∀ (S o : List (List Int × Int)), (S.foldl (fun out x => if out.any fun y => K (difL x.1 y.1) then out else out ++ [x]) o).map Prod.fst = (S.map Prod.fst).foldl (fun out x => if out.any fun y => K (difL x y) then out else out ++ [x]) (o.map Prod.fst) from h S []
  intro S
  induction S with
  | nil => intro o; rfl
  | cons x S ih =>
    intro o
    rw [List.foldl_cons, ih, List.map_cons, List.foldl_cons]
    congr 1
    rw [List.any_map]
    have : (o.any fun y => K (difL x.1 y.1)) = o.any ((fun y => K (difL x.1 y)) ∘ Prod.fst) := rfl
    rw [this]
    split <;> simp
theorem base_next {xs : List Int} {a b : Nat} {L : List (List Int)} {i : Nat} (h : i < L.length) : baseL xs a b (L.take (i + 1)) = baseL xs a b (L.take i) ++ (if conP xs a b L[i] then [(L[i], htTo xs b L[i] a)] else []) := by
  rw [List.take_succ_eq_append_getElem h, baseL, List.filter_append, List.map_append]
  congr 1
  cases hc : conP xs a b L[i] <;> simp [hc]
def stepJ (a b : Nat) (xs : List Int) (l : List Row) (v : List Int) : Int := match l.findIdx? fun r => inConeB a b xs (difL v r.xs) with
  | some k => (k : Int)
  | none => -1
theorem stepS_eq {a b : Nat} {xs v : List Int} {l : List Row} {j : Int} (h : StepS a b xs l v j) : j = stepJ a b xs l v := by
  unfold stepJ
  rcases h with ⟨rfl, h⟩ | ⟨k, rfl, hk, h1, h2⟩
  · rw [List.findIdx?_eq_none_iff.2 h]
  · rw [List.findIdx?_eq_some_iff_getElem.2 ⟨hk, h1, fun i hi => by rw [h2 i hi]; simp⟩]
theorem stepJ_neg {a b : Nat} {xs v : List Int} {l : List Row} : stepJ a b xs l v < 0 ↔ (l.any fun r => inConeB a b xs (difL v r.xs)) = false := by
  unfold stepJ
  split
  · rename_i k hk
    obtain ⟨h1, h2, -⟩ := List.findIdx?_eq_some_iff_getElem.1 hk
    have : (l.any fun r => inConeB a b xs (difL v r.xs)) = true := List.any_eq_true.2 ⟨_, List.getElem_mem h1, h2⟩
    rw [this]
    constructor
    · intro h; omega
    · intro h; cases h
  · rename_i hk
    have := List.findIdx?_eq_none_iff.1 hk
    constructor
    · intro _
      rw [List.any_eq_false]
      intro r hr; rw [this r hr]; simp
    · intro _; omega
theorem d_stepR (a b n ca m cv c : Nat) (xs v : List Int) (l : List Row) (hn : n = xs.length) (hm : m = v.length) (hl : xs.length ≤ 1099511627776) (hv : v.length ≤ 24) (hvn : v.all numB = true) (hl4 : l.length ≤ 1000000) (hr : ∀ r ∈ l, r.xs.length = v.length ∧ r.xs.all numB = true) :
    Does Tryz.prog 81 [vM a b 1 n ca, vS 2 1 0 l.length c, vS 3 1 0 m cv] [(1, .ro (.ints xs)), (2, .ro (.rows false true l)), (3, .ro (.ints v))] 4 (Ret (vI (stepJ a b xs l v)) 4) :=
  (d_stepS a b n ca m cv c xs v l hn hm hl hv hvn hl4 hr).mono fun w Hout n1 ⟨j, h1, h2, h3, h4⟩ => ⟨by rw [h1, stepS_eq h4], h2, h3⟩
def HilG (th t : TypeId) (r c : Int) (xs : List Int) (v : AV) (Hout : List (Nat × Blk)) (n1 : Nat) : Prop := match (hboxB r c xs).bind fun w => boxO (w.map fun x => -x) w with
  | none => PtsR th t none 2 v Hout n1
  | some L => PtsR th t (some (greedL (inAny xs r.toNat c.toNat) ((putsV (baseL xs r.toNat c.toNat L)).map Prod.fst))) 2 v Hout n1
end Go.Proofs.YtfkbjkmlpinoeaaGreat
