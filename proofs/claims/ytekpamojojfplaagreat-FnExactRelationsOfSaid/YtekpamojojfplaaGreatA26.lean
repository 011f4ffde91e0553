/-
  TEXTS OF THE PROOF, put together: pKer.
-/
import Derived.Test.YtekpamojojfplaaGreatA25
set_option linter.unusedVariables false
set_option linter.unusedSimpArgs false
namespace Go.Proofs.YtekpamojojfplaaGreat
def sg (f : Nat → Int) : Nat → Int
  | 0 => 0
  | n + 1 => sg f n + f n
theorem sg_congr {f g : Nat → Int} : ∀ {n : Nat}, (∀ i, i < n → f i = g i) → sg f n = sg g n
  | 0, _ => rfl
  | n + 1, h => by rw [sg, sg, sg_congr fun i hi => h i (by omega), h n (by omega)]
theorem sg_two {f g : Nat → Int} {p t : Nat} {A B : Int} (hpt : p ≠ t) (h : ∀ i, g i = f i + (if i = p then A else 0) + (if i = t then B else 0)) : ∀ n, sg g n = sg f n + (if p < n then A else 0) + (if t < n then B else 0)
  | 0 => by simp [sg]
  | n + 1 => by
    rw [sg, sg, sg_two hpt h n, h n]
    by_cases h1 : n = p
    · have h2 : ¬ n = t := by omega
      rw [if_pos h1, if_neg h2, if_neg (show ¬ p < n by omega), if_pos (show p < n + 1 by omega)]
      by_cases h3 : t < n
      · rw [if_pos h3, if_pos (by omega)]; omega
      · rw [if_neg h3, if_neg (by omega)]; omega
    · rw [if_neg h1]
      by_cases h2 : n = t
      · rw [if_pos h2, if_neg (show ¬ t < n by omega), if_pos (show t < n + 1 by omega)]
        by_cases h3 : p < n
        · rw [if_pos h3, if_pos (by omega)]; omega
        · rw [if_neg h3, if_neg (by omega)]; omega
      · rw [if_neg h2]
        have e1 : (p < n) = (p < n + 1) := propext ⟨fun h => by omega, fun h => by omega⟩
        have e2 : (t < n) = (t < n + 1) := propext ⟨fun h => by omega, fun h => by omega⟩
        simp only [e1, e2]; omega
theorem comb_sg {ys : List Int} {b k : Nat} {q : Nat → Int} : ∀ n, comb ys b q k n = sg (fun i => q i * ys.getD (i * b + k) 0) n
  | 0 => rfl
  | n + 1 => by rw [comb, sg, comb_sg n]
theorem comb_sub {ys : List Int} {b k : Nat} {q r : Nat → Int} {t : Nat} (h : ∀ i, i < t → q i = r i) : comb ys b q k t = comb ys b r k t := comb_congr fun i hi => by rw [h i hi]
theorem comb_none {ys : List Int} {b k : Nat} {q : Nat → Int} {t : Nat} (h : ∀ i, i < t → q i = 0) : comb ys b q k t = 0 := by
  rw [comb_sub (r := fun _ => 0) h, comb_zero]
def RelS (r c : Nat) (s s' : TwoL) : Prop := ∃ T T' : (Nat → Int) → Nat → Int,
  (∀ q k, k < c → comb s'.1 c q k r = comb s.1 c (T q) k r) ∧ (∀ q k, k < r → comb s'.2 r q k r = comb s.2 r (T q) k r) ∧
  (∀ q l, l < r → T (T' q) l = q l) ∧ (∀ q l, l < r → T' (T q) l = q l) ∧
  (∀ q q', (∀ l, l < r → q l = q' l) → ∀ l, l < r → T q l = T q' l) ∧ (∀ q q', (∀ l, l < r → q l = q' l) → ∀ l, l < r → T' q l = T' q' l) ∧ (∀ l, l < r → T' (fun _ => 0) l = 0)
theorem RelS.refl {r c : Nat} (s : TwoL) : RelS r c s s := ⟨id, id, fun _ _ _ => rfl, fun _ _ _ => rfl, fun _ _ _ => rfl, fun _ _ _ => rfl, fun _ _ h => h, fun _ _ h => h, fun _ _ => rfl⟩
theorem RelS.trans {r c : Nat} {s s' s'' : TwoL} (h : RelS r c s s') (h' : RelS r c s' s'') : RelS r c s s'' := by
  obtain ⟨T, U, a1, a2, a3, a4, a5, a6, a7⟩ := h
  obtain ⟨T2, U2, b1, b2, b3, b4, b5, b6, b7⟩ := h'
  refine ⟨fun q => T (T2 q), fun q => U2 (U q), fun q k hk => by rw [b1 q k hk, a1 _ k hk], fun q k hk => by rw [b2 q k hk, a2 _ k hk], fun q l hl => ?_, fun q l hl => ?_, fun q q' h => a5 _ _ (b5 _ _ h), fun q q' h => b6 _ _ (a6 _ _ h), fun l hl => ?_⟩
  · show T (T2 (U2 (U q))) l = q l
    rw [a5 _ (U q) (fun l hl => b3 _ l hl) l hl, a3 q l hl]
  · show U2 (U (T (T2 q))) l = q l
    rw [b6 _ (T2 q) (fun l hl => a4 _ l hl) l hl, b4 q l hl]
  · show U2 (U fun _ => 0) l = 0
    rw [b6 _ (fun _ => 0) (fun l hl => a7 l hl) l hl, b7 l hl]
theorem add_comb {xs : List Int} {r c i j k : Nat} {q : Int} (hl : xs.length = r * c) (hi : i < r) (hj : j < r) (hij : i ≠ j) (hk : k < c) (z : Nat → Int) :
    comb (addX xs c i j q) c z k r = comb xs c (fun l => z l + (if l = j then q * z i else 0)) k r := by
  rw [comb_add, comb_one, if_pos hj, comb_sg, comb_sg]
  rw [sg_two (f := fun l => z l * xs.getD (l * c + k) 0) (p := i) (t := j) (A := z i * (xs.getD (j * c + k) 0 * q)) (B := 0) hij]
  · rw [if_pos hi, if_pos hj]
    grind
  · intro l
    try dsimp only
    rw [addX_cell hl hi hk]
    by_cases h : l = i
    · subst h
      rw [if_pos rfl, if_pos rfl, if_neg hij]
      grind
    · rw [if_neg h, if_neg h]
      simp
theorem swap_comb {xs : List Int} {r c p t k : Nat} (hl : xs.length = r * c) (hp : p < r) (ht : t < r) (hpt : p ≠ t) (hk : k < c) (z : Nat → Int) :
    comb (swapTo xs (p * c) (t * c) c) c z k r = comb xs c (fun l => if l = p then z t else if l = t then z p else z l) k r := by
  rw [comb_sg, comb_sg]
  have e1 := sg_two (f := fun l => z l * xs.getD (l * c + k) 0) (g := fun l => z l * (swapTo xs (p * c) (t * c) c).getD (l * c + k) 0) (p := p) (t := t) (A := z p * (xs.getD (t * c + k) 0 - xs.getD (p * c + k) 0)) (B := z t * (xs.getD (p * c + k) 0 - xs.getD (t * c + k) 0)) hpt (fun l => by
    try dsimp only
    rw [swap_cell hl hp ht hpt hk]
    by_cases h : l = p
    · subst h
      rw [if_pos rfl, if_pos rfl, if_neg hpt]; grind
    · rw [if_neg h, if_neg h]
      by_cases h2 : l = t
      · subst h2
        rw [if_pos rfl, if_pos rfl]; grind
      · rw [if_neg h2, if_neg h2]; simp) r
  have e2 := sg_two (f := fun l => z l * xs.getD (l * c + k) 0) (g := fun l => (if l = p then z t else if l = t then z p else z l) * xs.getD (l * c + k) 0) (p := p) (t := t) (A := (z t - z p) * xs.getD (p * c + k) 0) (B := (z p - z t) * xs.getD (t * c + k) 0) hpt (fun l => by
    try dsimp only
    by_cases h : l = p
    · subst h
      rw [if_pos rfl, if_pos rfl, if_neg hpt]; grind
    · rw [if_neg h, if_neg h]
      by_cases h2 : l = t
      · subst h2
        rw [if_pos rfl, if_pos rfl]; grind
      · rw [if_neg h2, if_neg h2]; simp) r
  rw [e1, e2, if_pos hp, if_pos ht, if_pos hp, if_pos ht]
  grind
theorem neg_comb {xs : List Int} {r c t k : Nat} (hl : xs.length = r * c) (ht : t < r) (hk : k < c) (z : Nat → Int) :
    comb (negX xs c t) c z k r = comb xs c (fun l => if l = t then -z l else z l) k r := by
  rw [comb_sg, comb_sg]
  refine sg_congr fun l hl' => ?_
  try dsimp only
  rw [neg_cell hl ht hk]
  by_cases h : l = t
  · subst h
    rw [if_pos rfl, if_pos rfl]; grind
  · rw [if_neg h, if_neg h]
theorem RelS.add {r c i j : Nat} {q : Int} {s s' : TwoL} (o : OKs r c s) (hi : i < r) (hj : j < r) (hij : i ≠ j) (he : addS c r i j q s = some s') : RelS r c s s' := by
  unfold addS at he
  split at he
  · cases he
    refine ⟨fun z l => z l + (if l = j then q * z i else 0), fun z l => z l + (if l = j then -(q * z i) else 0), fun z k hk => add_comb o.1 hi hj hij hk z, fun z k hk => add_comb o.2.1 hi hj hij hk z, fun z l hl => ?_, fun z l hl => ?_, fun z z' h l hl => ?_, fun z z' h l hl => ?_, fun l hl => ?_⟩
    · dsimp only
      rw [if_neg hij]
      by_cases h : l = j
      · rw [if_pos h, if_pos h]; grind
      · rw [if_neg h, if_neg h]; omega
    · dsimp only
      rw [if_neg hij]
      by_cases h : l = j
      · rw [if_pos h, if_pos h]; grind
      · rw [if_neg h, if_neg h]; omega
    · dsimp only; rw [h l hl, h i hi]
    · dsimp only; rw [h l hl, h i hi]
    · dsimp only; simp
  · cases he
theorem RelS.sw {r c p t : Nat} {s : TwoL} (o : OKs r c s) (hp : p < r) (ht : t < r) : RelS r c s (swS r c p t s) := by
  unfold swS
  split
  · exact RelS.refl s
  · rename_i hpt
    have inv : ∀ (z : Nat → Int) l, (if l = p then (if t = p then z t else if t = t then z p else z t) else if l = t then (if p = p then z t else if p = t then z p else z p) else (if l = p then z t else if l = t then z p else z l)) = z l := fun z l => by
      by_cases h : l = p
      · subst h
        rw [if_pos rfl, if_neg (Ne.symm hpt), if_pos rfl]
      · rw [if_neg h]
        by_cases h2 : l = t
        · subst h2
          rw [if_pos rfl, if_pos rfl]
        · rw [if_neg h2, if_neg h, if_neg h2]
    have cg : ∀ z z' : Nat → Int, (∀ l, l < r → z l = z' l) → ∀ l, l < r → (if l = p then z t else if l = t then z p else z l) = (if l = p then z' t else if l = t then z' p else z' l) := fun z z' h l hl => by rw [h t ht, h p hp, h l hl]
    exact ⟨fun z l => if l = p then z t else if l = t then z p else z l, fun z l => if l = p then z t else if l = t then z p else z l, fun z k hk => swap_comb o.1 hp ht hpt hk z, fun z k hk => swap_comb o.2.1 hp ht hpt hk z, fun z l _ => inv z l, fun z l _ => inv z l, cg, cg, fun l _ => by simp⟩
theorem RelS.ng {r c t j : Nat} {s : TwoL} (o : OKs r c s) (ht : t < r) : RelS r c s (ngS r c t j s) := by
  unfold ngS
  split
  · have inv : ∀ (z : Nat → Int) l, (if l = t then -(if l = t then -z l else z l) else (if l = t then -z l else z l)) = z l := fun z l => by
      by_cases h : l = t
      · rw [if_pos h, if_pos h]; omega
      · rw [if_neg h, if_neg h]
    have cg : ∀ z z' : Nat → Int, (∀ l, l < r → z l = z' l) → ∀ l, l < r → (if l = t then -z l else z l) = (if l = t then -z' l else z' l) := fun z z' h l hl => by rw [h l hl]
    exact ⟨fun z l => if l = t then -z l else z l, fun z l => if l = t then -z l else z l, fun z k hk => neg_comb o.1 ht hk z, fun z k hk => neg_comb o.2.1 ht hk z, fun z l _ => inv z l, fun z l _ => inv z l, cg, cg, fun l _ => by simp⟩
  · exact RelS.refl s
theorem RelS.rnd {r c t p j : Nat} {s0 : TwoL} (o : OKs r c s0) (hp : p < r) : ∀ {n : Nat} {s : TwoL}, t + n ≤ r → rndTo r c t p j s0 n = some s → RelS r c s0 s
  | 0, s, _, he => by cases he; exact RelS.refl _
  | n + 1, s, hn, he => by
    simp only [rndTo, Option.bind_eq_some_iff] at he
    obtain ⟨x, h1, h2⟩ := he
    have ih := RelS.rnd o hp (by omega) h1
    unfold rndAt at h2
    split at h2
    · rename_i hc
      exact ih.trans (RelS.add (rndTo_ok o h1) (by omega) hp hc.1 h2)
    · cases h2; exact ih
theorem RelS.top {r c t j : Nat} {s0 : TwoL} (o : OKs r c s0) (ht : t < r) : ∀ {n : Nat} {s : TwoL}, n ≤ t → topTo r c t j s0 n = some s → RelS r c s0 s
  | 0, s, _, he => by cases he; exact RelS.refl _
  | n + 1, s, hn, he => by
    simp only [topTo, Option.bind_eq_some_iff] at he
    obtain ⟨x, h1, h2⟩ := he
    exact (RelS.top o ht (by omega) h1).trans (RelS.add (topTo_ok o h1) (by omega) ht (by omega) h2)
theorem RelS.red {r c t j : Nat} {s : TwoL} {p : Nat} {s' : TwoL} {p' : Nat} (o : OKs r c s) (hp : p < r) (ht : t ≤ r) (he : redCol r c t j s p = some (s', p')) : RelS r c s s' ∧ p' < r := by
  rw [redCol] at he
  split at he
  · cases he; exact ⟨RelS.refl _, hp⟩
  · split at he
    · cases he
    · rename_i s1 h1
      have o1 := rndTo_ok o h1
      have r1 := RelS.rnd o hp (by omega) h1
      split at he
      · cases he; exact ⟨r1, hp⟩
      · rename_i p1 hl
        have := (leastTo_some hl).1
        split at he
        · obtain ⟨r2, h2⟩ := RelS.red o1 (by omega) ht he
          exact ⟨r1.trans r2, h2⟩
        · cases he; exact ⟨r1, by omega⟩
  termination_by (s.1.getD (p * c + j) 0).natAbs
theorem RelS.col {r c j : Nat} {st st' : TwoL × Nat} (o : OKs r c st.1) (he : hCol r c j st = some st') : RelS r c st.1 st'.1 := by
  unfold hCol at he
  split at he
  · rename_i ht
    split at he
    · cases he; exact RelS.refl _
    · rename_i p hl
      have := (leastTo_some hl).1
      split at he
      · cases he
      · rename_i s1 p1 h1
        obtain ⟨r1, hp1⟩ := RelS.red o (by omega) (by omega) h1
        simp only [Option.map_eq_some_iff] at he
        obtain ⟨s2, h2, rfl⟩ := he
        have o1 := redCol_ok o h1
        have o2 := swS_ok (p := p1) (t := st.2) o1
        have o3 := ngS_ok (t := st.2) (j := j) o2
        exact ((r1.trans (RelS.sw o1 hp1 ht)).trans (RelS.ng o2 ht)).trans (RelS.top o3 ht (Nat.le_refl _) h2)
  · cases he; exact RelS.refl _
theorem RelS.all {r c : Nat} {s : TwoL} (o : OKs r c s) : ∀ {j : Nat} {st : TwoL × Nat}, hTo r c s j = some st → RelS r c s st.1
  | 0, _, he => by cases he; exact RelS.refl _
  | j + 1, _, he => by
    simp only [hTo, Option.bind_eq_some_iff] at he
    obtain ⟨x, h1, h2⟩ := he
    exact (RelS.all o h1).trans (RelS.col (hTo_ok o h1).1 h2)
theorem idTo_get {n i j : Nat} (hi : i < n) (hj : j < n) : (idTo n n).getD (i * n + j) 0 = if i = j then 1 else 0 := by
  have hl : i * n + j < n * n := cell_lt hi hj
  have e1 : (i * n + j) / n = i := by rw [Nat.mul_comm, Nat.mul_add_div (by omega), Nat.div_eq_of_lt hj]; omega
  have e2 : (i * n + j) % n = j := by rw [Nat.mul_comm, Nat.mul_add_mod, Nat.mod_eq_of_lt hj]
  have e3 : (i * n + j) / n < n := by omega
  rw [idTo]
  simp only [List.getD_eq_getElem?_getD, List.getElem?_map, List.getElem?_range hl, Option.map_some, Option.getD_some, e1, e2]
  by_cases h : i = j
  · rw [if_pos ⟨h, by omega⟩, if_pos h]
  · rw [if_neg (fun c => h c.1), if_neg h]
theorem id_comb {n k : Nat} {q : Nat → Int} (hk : k < n) : comb (idTo n n) n q k n = q k := by
  rw [comb_sub (r := q) fun _ _ => rfl]
  have h : ∀ m, m ≤ n → comb (idTo n n) n q k m = if k < m then q k else 0 := fun m => by
    induction m with
    | zero => intro _; simp [comb]
    | succ m ih =>
      intro hm
      rw [comb, ih (by omega), idTo_get (by omega) hk]
      by_cases h : m = k
      · subst h; simp
      · rw [if_neg h]
        by_cases h2 : k < m
        · rw [if_pos h2, if_pos (by omega)]; omega
        · rw [if_neg h2, if_neg (by omega)]; omega
  rw [h n (Nat.le_refl _), if_pos hk]
theorem Shape.indep {r c t : Nat} {xs : List Int} {pv : Nat → Nat} (h : Shape r c c t xs pv) (ht : t ≤ r) {q : Nat → Int} (h0 : ∀ k, k < c → comb xs c q k r = 0) : ∀ n, ∀ i, i < n → i < t → q i = 0 := fun n => by
  induction n with
  | zero => intro i hi; omega
  | succ n ih =>
    intro i hi hit
    rcases Nat.lt_or_ge i n with e | e
    · exact ih i e hit
    · obtain rfl : i = n := by omega
      obtain ⟨p1, p2⟩ := h.pos i hit
      have hc := h0 (pv i) p1
      have key : comb xs c q (pv i) r = comb xs c (fun l => if l = i then q i else 0) (pv i) r := comb_congr fun l hl => by
        by_cases e1 : l = i
        · rw [if_pos e1, e1]
        · rw [if_neg e1, Int.zero_mul]
          rcases Nat.lt_or_ge l i with e2 | e2
          · rw [ih l e2 (by omega), Int.zero_mul]
          · rcases Nat.lt_or_ge l t with e3 | e3
            · rw [h.left l (pv i) e3 (h.mono i l (by omega) e3), Int.mul_zero]
            · rw [h.zero l (pv i) e3 hl p1, Int.mul_zero]
      rw [key, comb_one, if_pos (by omega)] at hc
      rcases Int.mul_eq_zero.1 hc with e4 | e4
      · exact e4
      · omega
theorem comb_drop {us : List Int} {r t k : Nat} {q : Nat → Int} (hq : ∀ i, i < t → q i = 0) : ∀ n, comb us r q k (t + n) = comb (us.drop (t * r)) r (fun i => q (t + i)) k n
  | 0 => by rw [Nat.add_zero, comb_none hq]; rfl
  | n + 1 => by
    rw [← Nat.add_assoc, comb, comb, comb_drop hq n]
    have : (us.drop (t * r)).getD (n * r + k) 0 = us.getD ((t + n) * r + k) 0 := by
      rw [List.getD_eq_getElem?_getD, List.getElem?_drop, List.getD_eq_getElem?_getD, Nat.add_mul, Nat.add_assoc]
    rw [this]
def kerO (r c : Nat) (xs : List Int) : Option (List Int × Nat) := (hTo r c (xs, idTo r r) c).bind fun st => basO ((r - st.2 : Nat) : Int) (r : Int) (st.1.2.drop (st.2 * r))
theorem comb_cells {xs ys : List Int} {b k t : Nat} {q : Nat → Int} (h : ∀ i, i < t → ys.getD (i * b + k) 0 = xs.getD (i * b + k) 0) : comb xs b q k t = comb ys b q k t := by
  rw [comb_sg, comb_sg]
  exact sg_congr fun i hi => by rw [h i hi]
theorem bas_span {a b t : Nat} {xs ys : List Int} (hx : xs.length = a * b) (hn : xs.all numB = true) (h : basO a b xs = some (ys, t)) : Piv b t ys ∧ t ≤ b ∧ (∀ q, ∃ q', ∀ k, k < b → comb xs b q k a = comb ys b q' k t) ∧ ∀ q, ∃ q', ∀ k, k < b → comb ys b q k t = comb xs b q' k a := by
  obtain ⟨a', b', ha', hb', -, -, -, htb, hP⟩ := bas_piv h
  obtain rfl : a = a' := by omega
  obtain rfl : b = b' := by omega
  refine ⟨hP, htb, ?_⟩
  unfold basO at h
  split at h
  · simp only [Int.toNat_natCast, Option.map_eq_some_iff] at h
    obtain ⟨⟨s, t'⟩, hT, he⟩ := h
    cases he
    have o0 : OKs a b (xs, idTo a a) := ⟨hx, idTo_len, hn, id_num⟩
    obtain ⟨o1, o2, -⟩ := hTo_ok o0 hT
    obtain ⟨pv, hsh⟩ := hTo_shape o0 (Nat.le_refl _) hT
    obtain ⟨T, T', r1, r2, r3, r4, r5, r6, r7⟩ := RelS.all o0 hT
    dsimp only at *
    have hcell : ∀ i k, i < t' → k < b → (s.1.take (t' * b)).getD (i * b + k) 0 = s.1.getD (i * b + k) 0 := fun i k hi hk => take_getD (cell_lt hi hk)
    have hfew : ∀ q k, k < b → comb s.1 b q k a = comb (s.1.take (t' * b)) b q k t' := fun q k hk => by
      have h1 : ∀ n, comb s.1 b q k t' = comb s.1 b q k (t' + n) ∨ a < t' + n := fun n => by
        induction n with
        | zero => exact .inl rfl
        | succ n ih =>
          rcases ih with ih | ih
          · rcases Nat.lt_or_ge a (t' + (n + 1)) with e | e
            · exact .inr e
            · left
              rw [← Nat.add_assoc, comb, ← ih, hsh.zero (t' + n) k (by omega) (by omega) hk]; omega
          · exact .inr (by omega)
      rcases h1 (a - t') with e | e
      · rw [show t' + (a - t') = a by omega] at e
        rw [← e]
        exact comb_cells fun i hi => hcell i k hi hk
      · omega
    refine ⟨fun q => ⟨T' q, fun k hk => ?_⟩, fun q => ⟨T (fun i => if i < t' then q i else 0), fun k hk => ?_⟩⟩
    · rw [← hfew _ k hk, r1 _ k hk]
      exact comb_sub fun i hi => (r3 q i hi).symm
    · rw [← r1 _ k hk, hfew _ k hk]
      exact comb_sub fun i hi => by rw [if_pos hi]
  · cases h
theorem ker_spec {r c t : Nat} {xs ys : List Int} (hx : xs.length = r * c) (hn : xs.all numB = true) (h : kerO r c xs = some (ys, t)) :
    Piv r t ys ∧ t ≤ r ∧ ∀ q : Nat → Int, (∀ k, k < c → comb xs c q k r = 0) ↔ ∃ q', ∀ k, k < r → q k = comb ys r q' k t := by
  unfold kerO at h
  simp only [Option.bind_eq_some_iff] at h
  obtain ⟨⟨s, t0⟩, hT, hB⟩ := h
  have o0 : OKs r c (xs, idTo r r) := ⟨hx, idTo_len, hn, id_num⟩
  obtain ⟨o1, o2, -⟩ := hTo_ok o0 hT
  obtain ⟨pv, hsh⟩ := hTo_shape o0 (Nat.le_refl _) hT
  obtain ⟨T, T', r1, r2, r3, r4, r5, r6, r7⟩ := RelS.all o0 hT
  dsimp only at *
  have hdl : (s.2.drop (t0 * r)).length = (r - t0) * r := by rw [List.length_drop, o1.2.1, Nat.sub_mul]
  have hdn : (s.2.drop (t0 * r)).all numB = true := by
    rw [List.all_eq_true] at *
    exact fun v hv => (List.all_eq_true.1 o1.2.2.2) v (List.mem_of_mem_drop hv)
  obtain ⟨hP, htr, hS1, hS2⟩ := bas_span hdl hdn hB
  refine ⟨hP, htr, fun q => ⟨fun h0 => ?_, fun ⟨q', hq'⟩ => ?_⟩⟩
  ·
    have e1 : ∀ k, k < c → comb s.1 c (T' q) k r = 0 := fun k hk => by
      rw [r1 _ k hk, comb_sub (r := q) fun l hl => r3 q l hl]
      exact h0 k hk
    have e2 : ∀ i, i < t0 → T' q i = 0 := fun i hi => hsh.indep o2 e1 (i + 1) i (by omega) hi
    have e3 : ∀ k, k < r → q k = comb s.2 r (T' q) k r := fun k hk => by
      rw [r2 _ k hk, id_comb hk, r3 q k hk]
    obtain ⟨q2, hq2⟩ := hS1 (fun i => T' q (t0 + i))
    refine ⟨q2, fun k hk => ?_⟩
    have e4 := comb_drop (us := s.2) (r := r) (k := k) e2 (r - t0)
    rw [show t0 + (r - t0) = r by omega] at e4
    rw [e3 k hk, e4, hq2 k hk]
  · obtain ⟨q2, hq2⟩ := hS2 q'
    let z : Nat → Int := fun i => if i < t0 then 0 else q2 (i - t0)
    have hz0 : ∀ i, i < t0 → z i = 0 := fun i hi => if_pos hi
    have hz1 : ∀ i, z (t0 + i) = q2 i := fun i => by
      show (if t0 + i < t0 then 0 else q2 (t0 + i - t0)) = q2 i
      rw [if_neg (by omega), Nat.add_sub_cancel_left]
    have e4 : ∀ k, comb s.2 r z k r = comb (s.2.drop (t0 * r)) r q2 k (r - t0) := fun k => by
      have := comb_drop (us := s.2) (r := r) (k := k) hz0 (r - t0)
      rw [show t0 + (r - t0) = r by omega] at this
      rw [this]
      exact comb_sub fun i _ => hz1 i
    have e5 : ∀ k, k < r → q k = T z k := fun k hk => by
      rw [hq' k hk, hq2 k hk, ← e4 k, r2 z k hk, id_comb hk]
    intro k hk
    rw [comb_sub (r := T z) e5, ← r1 z k hk]
    refine (comb_congr (r := fun _ => 0) fun i hi => ?_).trans (comb_zero r)
    rcases Nat.lt_or_ge i t0 with e | e
    · rw [hz0 i e, Int.zero_mul]
    · rw [hsh.zero i k e hi hk, Int.mul_zero, Int.zero_mul]
end Go.Proofs.YtekpamojojfplaaGreat
