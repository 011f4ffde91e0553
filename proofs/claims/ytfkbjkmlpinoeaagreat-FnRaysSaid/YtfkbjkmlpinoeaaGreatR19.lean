/-
  TEXTS OF THE PROOF, put together: pKer, pRow, pRay, pLex.
-/
import Derived.Test.YtfkbjkmlpinoeaaGreatR18
import Derived.Test.YtfkbjkmlpinoeaaGreatR07
set_option linter.unusedVariables false
set_option linter.unusedSimpArgs false
namespace Go.Proofs.YtfkbjkmlpinoeaaGreat
def sg (f : Nat → Int) : Nat → Int
  | 0 => 0
  | n + 1 => sg f n + f n
theorem sg_congr {f g : Nat → Int} : ∀ {n : Nat}, (∀ i, i < n → f i = g i) → sg f n = sg g n
  | 0, _ => rfl
  | n + 1, h => by rw [sg, sg, sg_congr fun i hi => h i (by omega), h n (by omega)]
theorem sg_two {f g : Nat → Int} {p t : Nat} {A B : Int} (hpt : p ≠ t) (h : ∀ i, g i = f i + (if i = p then A else 0) + (if i = t then B else 0)) : ∀ n, sg g n = sg f n + (if p < n then A else 0) + (if t < n then B else 0)
  | 0 => by simp [sg]
  | n + 1 => by
    rw [sg, sg, sg_two hpt h n, h n]
    by_cases h1 : n = p
    · have h2 : ¬ n = t := by omega
      rw [if_pos h1, if_neg h2, if_neg (show ¬ p < n by omega), if_pos (show p < n + 1 by omega)]
      by_cases h3 : t < n
      · rw [if_pos h3, if_pos (by omega)]; omega
      · rw [if_neg h3, if_neg (by omega)]; omega
    · rw [if_neg h1]
      by_cases h2 : n = t
      · rw [if_pos h2, if_neg (show ¬ t < n by omega), if_pos (show t < n + 1 by omega)]
        by_cases h3 : p < n
        · rw [if_pos h3, if_pos (by omega)]; omega
        · rw [if_neg h3, if_neg (by omega)]; omega
      · rw [if_neg h2]
        have e1 : (p < n) = (p < n + 1) := propext ⟨fun h => by omega, fun h => by omega⟩
        have e2 : (t < n) = (t < n + 1) := propext ⟨fun h => by omega, fun h => by omega⟩
        simp only [e1, e2]; omega
theorem comb_sg {ys : List Int} {b k : Nat} {q : Nat → Int} : ∀ n, comb ys b q k n = sg (fun i => q i * ys.getD (i * b + k) 0) n
  | 0 => rfl
  | n + 1 => by rw [comb, sg, comb_sg n]
theorem comb_sub {ys : List Int} {b k : Nat} {q r : Nat → Int} {t : Nat} (h : ∀ i, i < t → q i = r i) : comb ys b q k t = comb ys b r k t := comb_congr fun i hi => by rw [h i hi]
theorem comb_none {ys : List Int} {b k : Nat} {q : Nat → Int} {t : Nat} (h : ∀ i, i < t → q i = 0) : comb ys b q k t = 0 := by
  rw [comb_sub (r := fun _ => 0) h, comb_zero]
def RelS (r c : Nat) (s s' : TwoL) : Prop := ∃ T T' : (Nat → Int) → Nat → Int,
  (∀ q k, k < c → comb s'.1 c q k r = comb s.1 c (T q) k r) ∧ (∀ q k, k < r → comb s'.2 r q k r = comb s.2 r (T q) k r) ∧
  (∀ q l, l < r → T (T' q) l = q l) ∧ (∀ q l, l < r → T' (T q) l = q l) ∧
  (∀ q q', (∀ l, l < r → q l = q' l) → ∀ l, l < r → T q l = T q' l) ∧ (∀ q q', (∀ l, l < r → q l = q' l) → ∀ l, l < r → T' q l = T' q' l) ∧ (∀ l, l < r → T' (fun _ => 0) l = 0)
theorem RelS.refl {r c : Nat} (s : TwoL) : RelS r c s s := ⟨id, id, fun _ _ _ => rfl, fun _ _ _ => rfl, fun _ _ _ => rfl, fun _ _ _ => rfl, fun _ _ h => h, fun _ _ h => h, fun _ _ => rfl⟩
theorem RelS.trans {r c : Nat} {s s' s'' : TwoL} (h : RelS r c s s') (h' : RelS r c s' s'') : RelS r c s s'' := by
  obtain ⟨T, U, a1, a2, a3, a4, a5, a6, a7⟩ := h
  obtain ⟨T2, U2, b1, b2, b3, b4, b5, b6, b7⟩ := h'
  refine ⟨fun q => T (T2 q), fun q => U2 (U q), fun q k hk => by rw [b1 q k hk, a1 _ k hk], fun q k hk => by rw [b2 q k hk, a2 _ k hk], fun q l hl => ?_, fun q l hl => ?_, fun q q' h => a5 _ _ (b5 _ _ h), fun q q' h => b6 _ _ (a6 _ _ h), fun l hl => ?_⟩
  · show T (T2 (U2 (U q))) l = q l
    rw [a5 _ (U q) (fun l hl => b3 _ l hl) l hl, a3 q l hl]
  · show U2 (U (T (T2 q))) l = q l
    rw [b6 _ (T2 q) (fun l hl => a4 _ l hl) l hl, b4 q l hl]
  · show U2 (U fun _ => 0) l = 0
    rw [b6 _ (fun _ => 0) (fun l hl => a7 l hl) l hl, b7 l hl]
theorem add_comb {xs : List Int} {r c i j k : Nat} {q : Int} (hl : xs.length = r * c) (hi : i < r) (hj : j < r) (hij : i ≠ j) (hk : k < c) (z : Nat → Int) :
    comb (addX xs c i j q) c z k r = comb xs c (fun l => z l + (if l = j then q * z i else 0)) k r := by
  rw [comb_add, comb_one, if_pos hj, comb_sg, comb_sg]
  rw [sg_two (f := fun l => z l * xs.getD (l * c + k) 0) (p := i) (t := j) (A := z i * (xs.getD (j * c + k) 0 * q)) (B := 0) hij]
  · rw [if_pos hi, if_pos hj]
    grind
  · intro l
    try dsimp only
    rw [addX_cell hl hi hk]
    by_cases h : l = i
    · subst h
      rw [if_pos rfl, if_pos rfl, if_neg hij]
      grind
    · rw [if_neg h, if_neg h]
      simp
theorem swap_comb {xs : List Int} {r c p t k : Nat} (hl : xs.length = r * c) (hp : p < r) (ht : t < r) (hpt : p ≠ t) (hk : k < c) (z : Nat → Int) :
    comb (swapTo xs (p * c) (t * c) c) c z k r = comb xs c (fun l => if l = p then z t else if l = t then z p else z l) k r := by
  rw [comb_sg, comb_sg]
  have e1 := sg_two (f := fun l => z l * xs.getD (l * c + k) 0) (g := fun l => z l * (swapTo xs (p * c) (t * c) c).getD (l * c + k) 0) (p := p) (t := t) (A := z p * (xs.getD (t * c + k) 0 - xs.getD (p * c + k) 0)) (B := z t * (xs.getD (p * c + k) 0 - xs.getD (t * c + k) 0)) hpt (fun l => by
    try dsimp only
    rw [swap_cell hl hp ht hpt hk]
    by_cases h : l = p
    · subst h
      rw [if_pos rfl, if_pos rfl, if_neg hpt]; grind
    · rw [if_neg h, if_neg h]
      by_cases h2 : l = t
      · subst h2
        rw [if_pos rfl, if_pos rfl]; grind
      · rw [if_neg h2, if_neg h2]; simp) r
  have e2 := sg_two (f := fun l => z l * xs.getD (l * c + k) 0) (g := fun l => (if l = p then z t else if l = t then z p else z l) * xs.getD (l * c + k) 0) (p := p) (t := t) (A := (z t - z p) * xs.getD (p * c + k) 0) (B := (z p - z t) * xs.getD (t * c + k) 0) hpt (fun l => by
    try dsimp only
    by_cases h : l = p
    · subst h
      rw [if_pos rfl, if_pos rfl, if_neg hpt]; grind
    · rw [if_neg h, if_neg h]
      by_cases h2 : l = t
      · subst h2
        rw [if_pos rfl, if_pos rfl]; grind
      · rw [if_neg h2, if_neg h2]; simp) r
  rw [e1, e2, if_pos hp, if_pos ht, if_pos hp, if_pos ht]
  grind
theorem neg_comb {xs : List Int} {r c t k : Nat} (hl : xs.length = r * c) (ht : t < r) (hk : k < c) (z : Nat → Int) :
    comb (negX xs c t) c z k r = comb xs c (fun l => if l = t then -z l else z l) k r := by
  rw [comb_sg, comb_sg]
  refine sg_congr fun l hl' => ?_
  try dsimp only
  rw [neg_cell hl ht hk]
  by_cases h : l = t
  · subst h
    rw [if_pos rfl, if_pos rfl]; grind
  · rw [if_neg h, if_neg h]
theorem RelS.add {r c i j : Nat} {q : Int} {s s' : TwoL} (o : OKs r c s) (hi : i < r) (hj : j < r) (hij : i ≠ j) (he : addS c r i j q s = some s') : RelS r c s s' := by
  unfold addS at he
  split at he
  · cases he
    refine ⟨fun z l => z l + (if l = j then q * z i else 0), fun z l => z l + (if l = j then -(q * z i) else 0), fun z k hk => add_comb o.1 hi hj hij hk z, fun z k hk => add_comb o.2.1 hi hj hij hk z, fun z l hl => ?_, fun z l hl => ?_, fun z z' h l hl => ?_, fun z z' h l hl => ?_, fun l hl => ?_⟩
    · dsimp only
      rw [if_neg hij]
      by_cases h : l = j
      · rw [if_pos h, if_pos h]; grind
      · rw [if_neg h, if_neg h]; omega
    · dsimp only
      rw [if_neg hij]
      by_cases h : l = j
      · rw [if_pos h, if_pos h]; grind
      · rw [if_neg h, if_neg h]; omega
    · dsimp only; rw [h l hl, h i hi]
    · dsimp only; rw [h l hl, h i hi]
    · dsimp only; simp
  · cases he
theorem RelS.sw {r c p t : Nat} {s : TwoL} (o : OKs r c s) (hp : p < r) (ht : t < r) : RelS r c s (swS r c p t s) := by
  unfold swS
  split
  · exact RelS.refl s
  · rename_i hpt
    have inv : ∀ (z : Nat → Int) l, (if l = p then (if t = p then z t else if t = t then z p else z t) else if l = t then (if p = p then z t else if p = t then z p else z p) else (if l = p then z t else if l = t then z p else z l)) = z l := fun z l => by
      by_cases h : l = p
      · subst h
        rw [if_pos rfl, if_neg (Ne.symm hpt), if_pos rfl]
      · rw [if_neg h]
        by_cases h2 : l = t
        · subst h2
          rw [if_pos rfl, if_pos rfl]
        · rw [if_neg h2, if_neg h, if_neg h2]
    have cg : ∀ z z' : Nat → Int, (∀ l, l < r → z l = z' l) → ∀ l, l < r → (if l = p then z t else if l = t then z p else z l) = (if l = p then z' t else if l = t then z' p else z' l) := fun z z' h l hl => by rw [h t ht, h p hp, h l hl]
    exact ⟨fun z l => if l = p then z t else if l = t then z p else z l, fun z l => if l = p then z t else if l = t then z p else z l, fun z k hk => swap_comb o.1 hp ht hpt hk z, fun z k hk => swap_comb o.2.1 hp ht hpt hk z, fun z l _ => inv z l, fun z l _ => inv z l, cg, cg, fun l _ => by simp⟩
theorem RelS.ng {r c t j : Nat} {s : TwoL} (o : OKs r c s) (ht : t < r) : RelS r c s (ngS r c t j s) := by
  unfold ngS
  split
  · have inv : ∀ (z : Nat → Int) l, (if l = t then -(if l = t then -z l else z l) else (if l = t then -z l else z l)) = z l := fun z l => by
      by_cases h : l = t
      · rw [if_pos h, if_pos h]; omega
      · rw [if_neg h, if_neg h]
    have cg : ∀ z z' : Nat → Int, (∀ l, l < r → z l = z' l) → ∀ l, l < r → (if l = t then -z l else z l) = (if l = t then -z' l else z' l) := fun z z' h l hl => by rw [h l hl]
    exact ⟨fun z l => if l = t then -z l else z l, fun z l => if l = t then -z l else z l, fun z k hk => neg_comb o.1 ht hk z, fun z k hk => neg_comb o.2.1 ht hk z, fun z l _ => inv z l, fun z l _ => inv z l, cg, cg, fun l _ => by simp⟩
  · exact RelS.refl s
theorem RelS.rnd {r c t p j : Nat} {s0 : TwoL} (o : OKs r c s0) (hp : p < r) : ∀ {n : Nat} {s : TwoL}, t + n ≤ r → rndTo r c t p j s0 n = some s → RelS r c s0 s
  | 0, s, _, he => by cases he; exact RelS.refl _
  | n + 1, s, hn, he => by
    simp only [rndTo, Option.bind_eq_some_iff] at he
    obtain ⟨x, h1, h2⟩ := he
    have ih := RelS.rnd o hp (by omega) h1
    unfold rndAt at h2
    split at h2
    · rename_i hc
      exact ih.trans (RelS.add (rndTo_ok o h1) (by omega) hp hc.1 h2)
    · cases h2; exact ih
theorem RelS.top {r c t j : Nat} {s0 : TwoL} (o : OKs r c s0) (ht : t < r) : ∀ {n : Nat} {s : TwoL}, n ≤ t → topTo r c t j s0 n = some s → RelS r c s0 s
  | 0, s, _, he => by cases he; exact RelS.refl _
  | n + 1, s, hn, he => by
    simp only [topTo, Option.bind_eq_some_iff] at he
    obtain ⟨x, h1, h2⟩ := he
    exact (RelS.top o ht (by omega) h1).trans (RelS.add (topTo_ok o h1) (by omega) ht (by omega) h2)
theorem RelS.red {r c t j : Nat} {s : TwoL} {p : Nat} {s' : TwoL} {p' : Nat} (o : OKs r c s) (hp : p < r) (ht : t ≤ r) (he : redCol r c t j s p = some (s', p')) : RelS r c s s' ∧ p' < r := by
  rw [redCol] at he
  split at he
  · cases he; exact ⟨RelS.refl _, hp⟩
  · split at he
    · cases he
    · rename_i s1 h1
      have o1 := rndTo_ok o h1
      have r1 := RelS.rnd o hp (by omega) h1
      split at he
      · cases he; exact ⟨r1, hp⟩
      · rename_i p1 hl
        have := (leastTo_some hl).1
        split at he
        · obtain ⟨r2, h2⟩ := RelS.red o1 (by omega) ht he
          exact ⟨r1.trans r2, h2⟩
        · cases he; exact ⟨r1, by omega⟩
  termination_by (s.1.getD (p * c + j) 0).natAbs
theorem RelS.col {r c j : Nat} {st st' : TwoL × Nat} (o : OKs r c st.1) (he : hCol r c j st = some st') : RelS r c st.1 st'.1 := by
  unfold hCol at he
  split at he
  · rename_i ht
    split at he
    · cases he; exact RelS.refl _
    · rename_i p hl
      have := (leastTo_some hl).1
      split at he
      · cases he
      · rename_i s1 p1 h1
        obtain ⟨r1, hp1⟩ := RelS.red o (by omega) (by omega) h1
        simp only [Option.map_eq_some_iff] at he
        obtain ⟨s2, h2, rfl⟩ := he
        have o1 := redCol_ok o h1
        have o2 := swS_ok (p := p1) (t := st.2) o1
        have o3 := ngS_ok (t := st.2) (j := j) o2
        exact ((r1.trans (RelS.sw o1 hp1 ht)).trans (RelS.ng o2 ht)).trans (RelS.top o3 ht (Nat.le_refl _) h2)
  · cases he; exact RelS.refl _
theorem RelS.all {r c : Nat} {s : TwoL} (o : OKs r c s) : ∀ {j : Nat} {st : TwoL × Nat}, hTo r c s j = some st → RelS r c s st.1
  | 0, _, he => by cases he; exact RelS.refl _
  | j + 1, _, he => by
    simp only [hTo, Option.bind_eq_some_iff] at he
    obtain ⟨x, h1, h2⟩ := he
    exact (RelS.all o h1).trans (RelS.col (hTo_ok o h1).1 h2)
theorem idTo_get {n i j : Nat} (hi : i < n) (hj : j < n) : (idTo n n).getD (i * n + j) 0 = if i = j then 1 else 0 := by
  have hl : i * n + j < n * n := cell_lt hi hj
  have e1 : (i * n + j) / n = i := by rw [Nat.mul_comm, Nat.mul_add_div (by omega), Nat.div_eq_of_lt hj]; omega
  have e2 : (i * n + j) % n = j := by rw [Nat.mul_comm, Nat.mul_add_mod, Nat.mod_eq_of_lt hj]
  have e3 : (i * n + j) / n < n := by omega
  rw [idTo]
  simp only [List.getD_eq_getElem?_getD, List.getElem?_map, List.getElem?_range hl, Option.map_some, Option.getD_some, e1, e2]
  by_cases h : i = j
  · rw [if_pos ⟨h, by omega⟩, if_pos h]
  · rw [if_neg (fun c => h c.1), if_neg h]
theorem id_comb {n k : Nat} {q : Nat → Int} (hk : k < n) : comb (idTo n n) n q k n = q k := by
  rw [comb_sub (r := q) fun _ _ => rfl]
  have h : ∀ m, m ≤ n → comb (idTo n n) n q k m = if k < m then q k else 0 := fun m => by
    induction m with
    | zero => intro _; simp [comb]
    | succ m ih =>
      intro hm
      rw [comb, ih (by omega), idTo_get (by omega) hk]
      by_cases h : m = k
      · subst h; simp
      · rw [if_neg h]
        by_cases h2 : k < m
        · rw [if_pos h2, if_pos (by omega)]; omega
        · rw [if_neg h2, if_neg (by omega)]; omega
  rw [h n (Nat.le_refl _), if_pos hk]
theorem Shape.indep {r c t : Nat} {xs : List Int} {pv : Nat → Nat} (h : Shape r c c t xs pv) (ht : t ≤ r) {q : Nat → Int} (h0 : ∀ k, k < c → comb xs c q k r = 0) : ∀ n, ∀ i, i < n → i < t → q i = 0 := fun n => by
  induction n with
  | zero => intro i hi; omega
  | succ n ih =>
    intro i hi hit
    rcases Nat.lt_or_ge i n with e | e
    · exact ih i e hit
    · obtain rfl : i = n := by omega
      obtain ⟨p1, p2⟩ := h.pos i hit
      have hc := h0 (pv i) p1
      have key : comb xs c q (pv i) r = comb xs c (fun l => if l = i then q i else 0) (pv i) r := comb_congr fun l hl => by
        by_cases e1 : l = i
        · rw [if_pos e1, e1]
        · rw [if_neg e1, Int.zero_mul]
          rcases Nat.lt_or_ge l i with e2 | e2
          · rw [ih l e2 (by omega), Int.zero_mul]
          · rcases Nat.lt_or_ge l t with e3 | e3
            · rw [h.left l (pv i) e3 (h.mono i l (by omega) e3), Int.mul_zero]
            · rw [h.zero l (pv i) e3 hl p1, Int.mul_zero]
      rw [key, comb_one, if_pos (by omega)] at hc
      rcases Int.mul_eq_zero.1 hc with e4 | e4
      · exact e4
      · omega
theorem comb_drop {us : List Int} {r t k : Nat} {q : Nat → Int} (hq : ∀ i, i < t → q i = 0) : ∀ n, comb us r q k (t + n) = comb (us.drop (t * r)) r (fun i => q (t + i)) k n
  | 0 => by rw [Nat.add_zero, comb_none hq]; rfl
  | n + 1 => by
    rw [← Nat.add_assoc, comb, comb, comb_drop hq n]
    have : (us.drop (t * r)).getD (n * r + k) 0 = us.getD ((t + n) * r + k) 0 := by
      rw [List.getD_eq_getElem?_getD, List.getElem?_drop, List.getD_eq_getElem?_getD, Nat.add_mul, Nat.add_assoc]
    rw [this]
def kerO (r c : Nat) (xs : List Int) : Option (List Int × Nat) := (hTo r c (xs, idTo r r) c).bind fun st => basO ((r - st.2 : Nat) : Int) (r : Int) (st.1.2.drop (st.2 * r))
theorem comb_cells {xs ys : List Int} {b k t : Nat} {q : Nat → Int} (h : ∀ i, i < t → ys.getD (i * b + k) 0 = xs.getD (i * b + k) 0) : comb xs b q k t = comb ys b q k t := by
  rw [comb_sg, comb_sg]
  exact sg_congr fun i hi => by rw [h i hi]
theorem bas_span {a b t : Nat} {xs ys : List Int} (hx : xs.length = a * b) (hn : xs.all numB = true) (h : basO a b xs = some (ys, t)) : Piv b t ys ∧ t ≤ b ∧ (∀ q, ∃ q', ∀ k, k < b → comb xs b q k a = comb ys b q' k t) ∧ ∀ q, ∃ q', ∀ k, k < b → comb ys b q k t = comb xs b q' k a := by
  obtain ⟨a', b', ha', hb', -, -, -, htb, hP⟩ := bas_piv h
  obtain rfl : a = a' := by omega
  obtain rfl : b = b' := by omega
  refine ⟨hP, htb, ?_⟩
  unfold basO at h
  split at h
  · simp only [Int.toNat_natCast, Option.map_eq_some_iff] at h
    obtain ⟨⟨s, t'⟩, hT, he⟩ := h
    cases he
    have o0 : OKs a b (xs, idTo a a) := ⟨hx, idTo_len, hn, id_num⟩
    obtain ⟨o1, o2, -⟩ := hTo_ok o0 hT
    obtain ⟨pv, hsh⟩ := hTo_shape o0 (Nat.le_refl _) hT
    obtain ⟨T, T', r1, r2, r3, r4, r5, r6, r7⟩ := RelS.all o0 hT
    dsimp only at *
    have hcell : ∀ i k, i < t' → k < b → (s.1.take (t' * b)).getD (i * b + k) 0 = s.1.getD (i * b + k) 0 := fun i k hi hk => take_getD (cell_lt hi hk)
    have hfew : ∀ q k, k < b → comb s.1 b q k a = comb (s.1.take (t' * b)) b q k t' := fun q k hk => by
      have h1 : ∀ n, comb s.1 b q k t' = comb s.1 b q k (t' + n) ∨ a < t' + n := fun n => by
        induction n with
        | zero => exact .inl rfl
        | succ n ih =>
          rcases ih with ih | ih
          · rcases Nat.lt_or_ge a (t' + (n + 1)) with e | e
            · exact .inr e
            · left
              rw [← Nat.add_assoc, comb, ← ih, hsh.zero (t' + n) k (by omega) (by omega) hk]; omega
          · exact .inr (by omega)
      rcases h1 (a - t') with e | e
      · rw [show t' + (a - t') = a by omega] at e
        rw [← e]
        exact comb_cells fun i hi => hcell i k hi hk
      · omega
    refine ⟨fun q => ⟨T' q, fun k hk => ?_⟩, fun q => ⟨T (fun i => if i < t' then q i else 0), fun k hk => ?_⟩⟩
    · rw [← hfew _ k hk, r1 _ k hk]
      exact comb_sub fun i hi => (r3 q i hi).symm
    · rw [← r1 _ k hk, hfew _ k hk]
      exact comb_sub fun i hi => by rw [if_pos hi]
  · cases h
theorem ker_spec {r c t : Nat} {xs ys : List Int} (hx : xs.length = r * c) (hn : xs.all numB = true) (h : kerO r c xs = some (ys, t)) :
    Piv r t ys ∧ t ≤ r ∧ ∀ q : Nat → Int, (∀ k, k < c → comb xs c q k r = 0) ↔ ∃ q', ∀ k, k < r → q k = comb ys r q' k t := by
  unfold kerO at h
  simp only [Option.bind_eq_some_iff] at h
  obtain ⟨⟨s, t0⟩, hT, hB⟩ := h
  have o0 : OKs r c (xs, idTo r r) := ⟨hx, idTo_len, hn, id_num⟩
  obtain ⟨o1, o2, -⟩ := hTo_ok o0 hT
  obtain ⟨pv, hsh⟩ := hTo_shape o0 (Nat.le_refl _) hT
  obtain ⟨T, T', r1, r2, r3, r4, r5, r6, r7⟩ := RelS.all o0 hT
  dsimp only at *
  have hdl : (s.2.drop (t0 * r)).length = (r - t0) * r := by rw [List.length_drop, o1.2.1, Nat.sub_mul]
  have hdn : (s.2.drop (t0 * r)).all numB = true := by
    rw [List.all_eq_true] at *
    exact fun v hv => (List.all_eq_true.1 o1.2.2.2) v (List.mem_of_mem_drop hv)
  obtain ⟨hP, htr, hS1, hS2⟩ := bas_span hdl hdn hB
  refine ⟨hP, htr, fun q => ⟨fun h0 => ?_, fun ⟨q', hq'⟩ => ?_⟩⟩
  ·
    have e1 : ∀ k, k < c → comb s.1 c (T' q) k r = 0 := fun k hk => by
      rw [r1 _ k hk, comb_sub (r := q) fun l hl => r3 q l hl]
      exact h0 k hk
    have e2 : ∀ i, i < t0 → T' q i = 0 := fun i hi => hsh.indep o2 e1 (i + 1) i (by omega) hi
    have e3 : ∀ k, k < r → q k = comb s.2 r (T' q) k r := fun k hk => by
      rw [r2 _ k hk, id_comb hk, r3 q k hk]
    obtain ⟨q2, hq2⟩ := hS1 (fun i => T' q (t0 + i))
    refine ⟨q2, fun k hk => ?_⟩
    have e4 := comb_drop (us := s.2) (r := r) (k := k) e2 (r - t0)
    rw [show t0 + (r - t0) = r by omega] at e4
    rw [e3 k hk, e4, hq2 k hk]
  · obtain ⟨q2, hq2⟩ := hS2 q'
    let z : Nat → Int := fun i => if i < t0 then 0 else q2 (i - t0)
    have hz0 : ∀ i, i < t0 → z i = 0 := fun i hi => if_pos hi
    have hz1 : ∀ i, z (t0 + i) = q2 i := fun i => by
      show (if t0 + i < t0 then 0 else q2 (t0 + i - t0)) = q2 i
      rw [if_neg (by omega), Nat.add_sub_cancel_left]
    have e4 : ∀ k, comb s.2 r z k r = comb (s.2.drop (t0 * r)) r q2 k (r - t0) := fun k => by
      have := comb_drop (us := s.2) (r := r) (k := k) hz0 (r - t0)
      rw [show t0 + (r - t0) = r by omega] at this
      rw [this]
      exact comb_sub fun i _ => hz1 i
    have e5 : ∀ k, k < r → q k = T z k := fun k hk => by
      rw [hq' k hk, hq2 k hk, ← e4 k, r2 z k hk, id_comb hk]
    intro k hk
    rw [comb_sub (r := T z) e5, ← r1 z k hk]
    refine (comb_congr (r := fun _ => 0) fun i hi => ?_).trans (comb_zero r)
    rcases Nat.lt_or_ge i t0 with e | e
    · rw [hz0 i e, Int.zero_mul]
    · rw [hsh.zero i k e hi hk, Int.mul_zero, Int.zero_mul]
end Go.Proofs.YtfkbjkmlpinoeaaGreat
namespace Go.Proofs.YtfkbjkmlpinoeaaGreat
abbrev Vec := Nat → Int
def parN (c : Nat) (p q : Vec) : Prop := ∀ k l, k < c → l < c → p k * q l = p l * q k
def mixV (a b : Int) (u w : Vec) : Vec := fun k => a * u k + b * w k
def LocF (c : Nat) (F : Vec → Int) : Prop := (∀ a b u w, F (mixV a b u w) = a * F u + b * F w) ∧ ∀ u w : Vec, (∀ k, k < c → u k = w k) → F u = F w
def InC (L : Nat → Vec → Int) (r : Nat) (v : Vec) : Prop := ∀ i, i < r → 0 ≤ L i v
def v3 (x y z : Int) : Vec := fun k => if k = 0 then x else if k = 1 then y else z
theorem sg_mul {f : Nat → Int} {a : Int} : ∀ n, sg (fun k => a * f k) n = a * sg f n
  | 0 => by simp [sg]
  | n + 1 => by rw [sg, sg, sg_mul n]; grind
theorem sg_add {f g : Nat → Int} : ∀ n, sg (fun k => f k + g k) n = sg f n + sg g n
  | 0 => by simp [sg]
  | n + 1 => by rw [sg, sg, sg, sg_add n]; omega
theorem sg_zero {f : Nat → Int} : ∀ {n : Nat}, (∀ k, k < n → f k = 0) → sg f n = 0
  | 0, _ => rfl
  | n + 1, h => by rw [sg, sg_zero fun k hk => h k (by omega), h n (by omega)]; rfl
theorem sg_single {f : Nat → Int} {p : Nat} : ∀ {n : Nat}, p < n → (∀ k, k < n → k ≠ p → f k = 0) → sg f n = f p
  | n + 1, hp, h => by
    rw [sg]
    by_cases e : p = n
    · subst e
      rw [sg_zero fun k hk => h k (by omega) (by omega)]; omega
    · rw [sg_single (n := n) (by omega) fun k hk => h k (by omega), h n (by omega) (by omega)]; omega
def rowP (xs : List Int) (o n : Nat) (q : Vec) : Int := sg (fun k => xs.getD (o + k) 0 * q k) n
theorem rowP_lin (xs : List Int) (o n : Nat) (a b : Int) (u w : Vec) : rowP xs o n (mixV a b u w) = a * rowP xs o n u + b * rowP xs o n w := by
  unfold rowP
  rw [← sg_mul, ← sg_mul, ← sg_add]
  exact sg_congr fun k _ => by simp only [mixV]; grind
theorem rowP_congr {xs : List Int} {o n : Nat} {u w : Vec} (h : ∀ k, k < n → u k = w k) : rowP xs o n u = rowP xs o n w := sg_congr fun k hk => by rw [h k hk]
theorem rowP_cells {xs ys : List Int} {o n : Nat} {u : Vec} (h : ∀ k, k < n → xs.getD (o + k) 0 = ys.getD (o + k) 0) : rowP xs o n u = rowP ys o n u := sg_congr fun k hk => by rw [h k hk]
def KerX (r c : Nat) (xs : List Int) (q : Vec) : Prop := ∀ i, i < r → rowP xs (i * c) c q = 0
end Go.Proofs.YtfkbjkmlpinoeaaGreat
namespace Go.Proofs.YtfkbjkmlpinoeaaGreat
structure V3 where
  x : Int
  y : Int
  z : Int
def dt (h v : V3) : Int := h.x * v.x + h.y * v.y + h.z * v.z
def par (u v : V3) : Prop := u.y * v.z = u.z * v.y ∧ u.z * v.x = u.x * v.z ∧ u.x * v.y = u.y * v.x
def tim (a : Int) (v : V3) : V3 := ⟨a * v.x, a * v.y, a * v.z⟩
structure Gen (r : Nat) (h : Nat → V3) (i j : Nat) (v : V3) : Prop where
  nz : ¬ (v.x = 0 ∧ v.y = 0 ∧ v.z = 0)
  lt : i < r ∧ j < r
  hi : dt (h i) v = 0
  hj : dt (h j) v = 0
  gen : ∀ x, dt (h i) x = 0 → dt (h j) x = 0 → ∃ a, x = tim a v
  pos : ∀ k, k < r → 0 ≤ dt (h k) v
theorem dt_tim {h v : V3} {a : Int} : dt h (tim a v) = a * dt h v := by unfold dt tim; grind
theorem tim_par {v : V3} {a b : Int} : par (tim a v) (tim b v) := by unfold par tim; refine ⟨?_, ?_, ?_⟩ <;> grind
theorem sq0 {a : Int} (h : a * a = 0) : a = 0 := by rcases Int.mul_eq_zero.1 h with e | e <;> exact e
theorem Gen.row {r : Nat} {h : Nat → V3} {i j : Nat} {v : V3} (g : Gen r h i j v) : ¬ ((h i).x = 0 ∧ (h i).y = 0 ∧ (h i).z = 0) := fun ⟨e1, e2, e3⟩ => by
  have hall : ∀ x, dt (h j) x = 0 → ∃ a, x = tim a v := fun x hx => g.gen x (by unfold dt; rw [e1, e2, e3]; omega) hx
  generalize h j = H at hall
  obtain ⟨p, q, s⟩ := H
  have hp : ∀ x y : V3, dt ⟨p, q, s⟩ x = 0 → dt ⟨p, q, s⟩ y = 0 → par x y := fun x y hx hy => by
    obtain ⟨a, rfl⟩ := hall x hx
    obtain ⟨b, rfl⟩ := hall y hy
    exact tim_par
  have k1 := hp ⟨q, -p, 0⟩ ⟨s, 0, -p⟩ (by unfold dt; grind) (by unfold dt; grind)
  have k2 := hp ⟨q, -p, 0⟩ ⟨0, s, -q⟩ (by unfold dt; grind) (by unfold dt; grind)
  have k3 := hp ⟨s, 0, -p⟩ ⟨0, s, -q⟩ (by unfold dt; grind) (by unfold dt; grind)
  unfold par at k1 k2 k3
  dsimp only at k1 k2 k3
  have z1 : p = 0 := sq0 (by grind)
  have z2 : q = 0 := sq0 (by grind)
  have z3 : s = 0 := sq0 (by grind)
  subst z1 z2 z3
  have k4 := hp ⟨1, 0, 0⟩ ⟨0, 1, 0⟩ (by unfold dt; grind) (by unfold dt; grind)
  unfold par at k4
  dsimp only at k4
  omega
theorem tim_nz {v u : V3} {a : Int} (hu : ¬ (u.x = 0 ∧ u.y = 0 ∧ u.z = 0)) (e : u = tim a v) : a ≠ 0 := fun h => hu (by subst h; subst e; simp [tim])
theorem unit_two {a b : Int} (h : a * b = 1) : a = 1 ∨ a = -1 := by
  have h1 := congrArg Int.natAbs h
  rw [Int.natAbs_mul] at h1
  have h2 : a.natAbs = 1 := Nat.eq_one_of_mul_eq_one_right h1
  omega
theorem tim_two {u v : V3} {a b : Int} (hu : ¬ (u.x = 0 ∧ u.y = 0 ∧ u.z = 0)) (h1 : u = tim a v) (h2 : v = tim b u) : u = v ∨ u = tim (-1) v := by
  have hab : a * b = 1 := by
    have e : u = tim (a * b) u := by
      conv => lhs; rw [h1, h2]
      simp only [tim]
      congr 1 <;> grind
    obtain ⟨x, y, z⟩ := u
    simp only [tim, V3.mk.injEq] at e
    dsimp only at hu
    have e1 : (a * b - 1) * x = 0 := by grind
    have e2 : (a * b - 1) * y = 0 := by grind
    have e3 : (a * b - 1) * z = 0 := by grind
    rcases Int.mul_eq_zero.1 e1 with c | c
    · omega
    rcases Int.mul_eq_zero.1 e2 with c2 | c2
    · omega
    rcases Int.mul_eq_zero.1 e3 with c3 | c3
    · omega
    exact absurd ⟨c, c2, c3⟩ hu
  rcases unit_two hab with rfl | rfl
  · left; rw [h1]; simp [tim]
  · right; exact h1
theorem par_dt {u v h : V3} (hv : ¬ (v.x = 0 ∧ v.y = 0 ∧ v.z = 0)) (hp : par u v) (h0 : dt h v = 0) : dt h u = 0 := by
  unfold par at hp
  unfold dt at *
  obtain ⟨p1, p2, p3⟩ := hp
  have e1 : v.x * (h.x * u.x + h.y * u.y + h.z * u.z) = 0 := by
    have : v.x * (h.x * u.x + h.y * u.y + h.z * u.z) = u.x * (h.x * v.x + h.y * v.y + h.z * v.z) := by grind
    rw [this, h0, Int.mul_zero]
  have e2 : v.y * (h.x * u.x + h.y * u.y + h.z * u.z) = 0 := by
    have : v.y * (h.x * u.x + h.y * u.y + h.z * u.z) = u.y * (h.x * v.x + h.y * v.y + h.z * v.z) := by grind
    rw [this, h0, Int.mul_zero]
  have e3 : v.z * (h.x * u.x + h.y * u.y + h.z * u.z) = 0 := by
    have : v.z * (h.x * u.x + h.y * u.y + h.z * u.z) = u.z * (h.x * v.x + h.y * v.y + h.z * v.z) := by grind
    rw [this, h0, Int.mul_zero]
  rcases Int.mul_eq_zero.1 e1 with c | c
  · rcases Int.mul_eq_zero.1 e2 with c2 | c2
    · rcases Int.mul_eq_zero.1 e3 with c3 | c3
      · exact absurd ⟨c, c2, c3⟩ hv
      · exact c3
    · exact c2
  · exact c
theorem par_symm {u v : V3} (h : par u v) : par v u := by
  unfold par at *
  exact ⟨by have := h.1; grind, by have := h.2.1; grind, by have := h.2.2; grind⟩
theorem Gen.par_eq {r : Nat} {h : Nat → V3} {i a b : Nat} {u v : V3} (g1 : Gen r h i a u) (g2 : Gen r h i b v) (hp : par u v) : u = v ∨ u = tim (-1) v := by
  obtain ⟨m, hm⟩ := g2.gen u g1.hi (par_dt g2.nz hp g2.hj)
  obtain ⟨n, hn⟩ := g1.gen v g2.hi (par_dt g1.nz (par_symm hp) g1.hj)
  exact tim_two g1.nz hm hn
theorem Gen.opp {r : Nat} {h : Nat → V3} {i a b : Nat} {u v : V3} (g1 : Gen r h i a u) (g2 : Gen r h i b v) (e : u = tim (-1) v) : ∀ k, k < r → dt (h k) u = 0 := fun k hk => by
  have p1 := g1.pos k hk
  have p2 := g2.pos k hk
  rw [e, dt_tim] at p1 ⊢
  omega
theorem Gen.all0 {r : Nat} {h : Nat → V3} {i a b : Nat} {u v : V3} (g1 : Gen r h i a u) (g2 : Gen r h i b v) (h0 : ∀ k, k < r → dt (h k) u = 0) : u = v ∨ u = tim (-1) v := by
  obtain ⟨m, hm⟩ := g2.gen u g1.hi (h0 b g2.lt.2)
  have hm0 := tim_nz g1.nz hm
  have ha : dt (h a) v = 0 := by
    have := h0 a g1.lt.2
    rw [hm, dt_tim] at this
    rcases Int.mul_eq_zero.1 this with e | e
    · exact absurd e hm0
    · exact e
  obtain ⟨n, hn⟩ := g1.gen v g2.hi ha
  exact tim_two g1.nz hm hn
theorem tim_inj {u v w : V3} (h1 : u = tim (-1) v) (h2 : u = tim (-1) w) : v = w := by
  obtain ⟨a, b, c⟩ := v
  obtain ⟨d, e, f⟩ := w
  rw [h1] at h2
  simp only [tim, V3.mk.injEq] at h2 ⊢
  omega
theorem Gen.split {r : Nat} {h : Nat → V3} {i a b c : Nat} {u v w : V3} {A B C : Int} (g1 : Gen r h i a u) (g2 : Gen r h i b v) (g3 : Gen r h i c w)
    (hs : ∀ k, A * dt (h k) u + B * dt (h k) v + C * dt (h k) w = 0) (hA : 0 < A) (hB : 0 < B) (np : ¬ par u w) : False := by
  have e := hs c
  rw [g3.hj, Int.mul_zero, Int.add_zero] at e
  have p1 := g1.pos c g3.lt.2
  have p2 := g2.pos c g3.lt.2
  have q1 := Int.mul_nonneg (Int.le_of_lt hA) p1
  have q2 := Int.mul_nonneg (Int.le_of_lt hB) p2
  have e1 : A * dt (h c) u = 0 := by omega
  rcases Int.mul_eq_zero.1 e1 with z | z
  · omega
  · obtain ⟨m, hm⟩ := g3.gen u g1.hi z
    apply np
    have : par (tim m w) (tim 1 w) := tim_par
    have e2 : tim 1 w = w := by simp [tim]
    rw [e2] at this
    rw [hm]; exact this
theorem Gen.three {r : Nat} {h : Nat → V3} {i a b c : Nat} {u v w : V3} (g1 : Gen r h i a u) (g2 : Gen r h i b v) (g3 : Gen r h i c w) (h1 : u ≠ v) (h2 : v ≠ w) (h3 : u ≠ w) : False := by
  have n1 : ¬ ∀ k, k < r → dt (h k) u = 0 := fun hz => by
    have e1 := (g1.all0 g2 hz).resolve_left h1
    have e2 := (g1.all0 g3 hz).resolve_left h3
    exact h2 (tim_inj e1 e2)
  have n2 : ¬ ∀ k, k < r → dt (h k) v = 0 := fun hz => by
    have e1 := (g2.all0 g1 hz).resolve_left (Ne.symm h1)
    have e2 := (g2.all0 g3 hz).resolve_left h2
    exact h3 (tim_inj e1 e2)
  have p1 : ¬ par u v := fun hp => n1 (g1.opp g2 ((g1.par_eq g2 hp).resolve_left h1))
  have p2 : ¬ par v w := fun hp => n2 (g2.opp g3 ((g2.par_eq g3 hp).resolve_left h2))
  have p3 : ¬ par u w := fun hp => n1 (g1.opp g3 ((g1.par_eq g3 hp).resolve_left h3))
  obtain ⟨A, B, C, hA, hB, hC, hx, hy, hz⟩ : ∃ A B C : Int, A ≠ 0 ∧ B ≠ 0 ∧ C ≠ 0 ∧ A * u.x + B * v.x + C * w.x = 0 ∧ A * u.y + B * v.y + C * w.y = 0 ∧ A * u.z + B * v.z + C * w.z = 0 := by
    have r1 := g1.hi
    have r2 := g2.hi
    have r3 := g3.hi
    have hr := g1.row
    generalize h i = H at r1 r2 r3 hr
    unfold par at p1 p2 p3
    unfold dt at r1 r2 r3
    by_cases c1 : H.x = 0
    · by_cases c2 : H.y = 0
      · have c3 : H.z ≠ 0 := fun e => hr ⟨c1, c2, e⟩
        refine ⟨v.x * w.y - v.y * w.x, w.x * u.y - w.y * u.x, u.x * v.y - u.y * v.x, ?_, ?_, ?_, by grind, by grind, ?_⟩
        · intro e
          refine p2 ⟨?_, ?_, by omega⟩
          · have : H.z * (v.y * w.z - v.z * w.y) = 0 := by grind
            rcases Int.mul_eq_zero.1 this with f | f <;> omega
          · have : H.z * (v.z * w.x - v.x * w.z) = 0 := by grind
            rcases Int.mul_eq_zero.1 this with f | f <;> omega
        · intro e
          refine p3 ⟨?_, ?_, by grind⟩
          · have : H.z * (u.y * w.z - u.z * w.y) = 0 := by grind
            rcases Int.mul_eq_zero.1 this with f | f <;> omega
          · have : H.z * (u.z * w.x - u.x * w.z) = 0 := by grind
            rcases Int.mul_eq_zero.1 this with f | f <;> omega
        · intro e
          refine p1 ⟨?_, ?_, by omega⟩
          · have : H.z * (u.y * v.z - u.z * v.y) = 0 := by grind
            rcases Int.mul_eq_zero.1 this with f | f <;> omega
          · have : H.z * (u.z * v.x - u.x * v.z) = 0 := by grind
            rcases Int.mul_eq_zero.1 this with f | f <;> omega
        · have : H.z * ((v.x * w.y - v.y * w.x) * u.z + (w.x * u.y - w.y * u.x) * v.z + (u.x * v.y - u.y * v.x) * w.z) = 0 := by grind
          rcases Int.mul_eq_zero.1 this with f | f
          · omega
          · exact f
      · refine ⟨v.z * w.x - v.x * w.z, w.z * u.x - w.x * u.z, u.z * v.x - u.x * v.z, ?_, ?_, ?_, by grind, ?_, by grind⟩
        · intro e
          refine p2 ⟨?_, by omega, ?_⟩
          · have : H.y * (v.y * w.z - v.z * w.y) = 0 := by grind
            rcases Int.mul_eq_zero.1 this with f | f <;> omega
          · have : H.y * (v.x * w.y - v.y * w.x) = 0 := by grind
            rcases Int.mul_eq_zero.1 this with f | f <;> omega
        · intro e
          refine p3 ⟨?_, by grind, ?_⟩
          · have : H.y * (u.y * w.z - u.z * w.y) = 0 := by grind
            rcases Int.mul_eq_zero.1 this with f | f <;> omega
          · have : H.y * (u.x * w.y - u.y * w.x) = 0 := by grind
            rcases Int.mul_eq_zero.1 this with f | f <;> omega
        · intro e
          refine p1 ⟨?_, by omega, ?_⟩
          · have : H.y * (u.y * v.z - u.z * v.y) = 0 := by grind
            rcases Int.mul_eq_zero.1 this with f | f <;> omega
          · have : H.y * (u.x * v.y - u.y * v.x) = 0 := by grind
            rcases Int.mul_eq_zero.1 this with f | f <;> omega
        · have : H.y * ((v.z * w.x - v.x * w.z) * u.y + (w.z * u.x - w.x * u.z) * v.y + (u.z * v.x - u.x * v.z) * w.y) = 0 := by grind
          rcases Int.mul_eq_zero.1 this with f | f
          · omega
          · exact f
    · refine ⟨v.y * w.z - v.z * w.y, w.y * u.z - w.z * u.y, u.y * v.z - u.z * v.y, ?_, ?_, ?_, ?_, by grind, by grind⟩
      · intro e
        refine p2 ⟨by omega, ?_, ?_⟩
        · have : H.x * (v.z * w.x - v.x * w.z) = 0 := by grind
          rcases Int.mul_eq_zero.1 this with f | f <;> omega
        · have : H.x * (v.x * w.y - v.y * w.x) = 0 := by grind
          rcases Int.mul_eq_zero.1 this with f | f <;> omega
      · intro e
        refine p3 ⟨by grind, ?_, ?_⟩
        · have : H.x * (u.z * w.x - u.x * w.z) = 0 := by grind
          rcases Int.mul_eq_zero.1 this with f | f <;> omega
        · have : H.x * (u.x * w.y - u.y * w.x) = 0 := by grind
          rcases Int.mul_eq_zero.1 this with f | f <;> omega
      · intro e
        refine p1 ⟨by omega, ?_, ?_⟩
        · have : H.x * (u.z * v.x - u.x * v.z) = 0 := by grind
          rcases Int.mul_eq_zero.1 this with f | f <;> omega
        · have : H.x * (u.x * v.y - u.y * v.x) = 0 := by grind
          rcases Int.mul_eq_zero.1 this with f | f <;> omega
      · have : H.x * ((v.y * w.z - v.z * w.y) * u.x + (w.y * u.z - w.z * u.y) * v.x + (u.y * v.z - u.z * v.y) * w.x) = 0 := by grind
        rcases Int.mul_eq_zero.1 this with f | f
        · omega
        · exact f
  have hs : ∀ k, A * dt (h k) u + B * dt (h k) v + C * dt (h k) w = 0 := fun k => by
    unfold dt
    grind
  have hs' : ∀ k, -A * dt (h k) u + -B * dt (h k) v + -C * dt (h k) w = 0 := fun k => by have := hs k; grind
  have sw : ∀ {x y : V3}, ¬ par x y → ¬ par y x := fun hn hp => hn (par_symm hp)
  have allp : ∀ {A B C : Int}, (∀ k, A * dt (h k) u + B * dt (h k) v + C * dt (h k) w = 0) → 0 < A → 0 < B → 0 < C → False := fun {A B C} hs hA hB hC => n1 fun k hk => by
    have e := hs k
    have q1 := Int.mul_nonneg (Int.le_of_lt hA) (g1.pos k hk)
    have q2 := Int.mul_nonneg (Int.le_of_lt hB) (g2.pos k hk)
    have q3 := Int.mul_nonneg (Int.le_of_lt hC) (g3.pos k hk)
    have e1 : A * dt (h k) u = 0 := by omega
    rcases Int.mul_eq_zero.1 e1 with z | z
    · omega
    · exact z
  have two : ∀ {A B C : Int}, (∀ k, A * dt (h k) u + B * dt (h k) v + C * dt (h k) w = 0) → (0 < A ∧ 0 < B) ∨ (0 < B ∧ 0 < C) ∨ (0 < A ∧ 0 < C) → False := fun {A B C} hs hh => by
    rcases hh with ⟨a1, a2⟩ | ⟨a1, a2⟩ | ⟨a1, a2⟩
    · exact Gen.split g1 g2 g3 hs a1 a2 p3
    · exact Gen.split (A := B) (B := C) (C := A) g2 g3 g1 (fun k => by have := hs k; omega) a1 a2 (sw p1)
    · exact Gen.split (A := A) (B := C) (C := B) g1 g3 g2 (fun k => by have := hs k; omega) a1 a2 p1
  rcases Int.lt_or_gt_of_ne hA with a | a <;> rcases Int.lt_or_gt_of_ne hB with b | b <;> rcases Int.lt_or_gt_of_ne hC with c | c
  · exact two hs' (.inl ⟨by omega, by omega⟩)
  · exact two hs' (.inl ⟨by omega, by omega⟩)
  · exact two hs' (.inr (.inr ⟨by omega, by omega⟩))
  · exact two hs (.inr (.inl ⟨by omega, by omega⟩))
  · exact two hs' (.inr (.inl ⟨by omega, by omega⟩))
  · exact two hs (.inr (.inr ⟨by omega, by omega⟩))
  · exact two hs (.inl ⟨by omega, by omega⟩)
  · exact two hs (.inl ⟨by omega, by omega⟩)
end Go.Proofs.YtfkbjkmlpinoeaaGreat
namespace Go.Proofs.YtfkbjkmlpinoeaaGreat
def cmpL : List Int → List Int → Int
  | [], [] => 0
  | [], _ :: _ => -1
  | _ :: _, [] => 1
  | a :: s, b :: t => if a < b then -1 else if b < a then 1 else cmpL s t
theorem cmpL_self : ∀ s, cmpL s s = 0
  | [] => rfl
  | a :: s => by simp [cmpL, cmpL_self s]
theorem cmpL_eq : ∀ {s t : List Int}, cmpL s t = 0 → s = t
  | [], [], _ => rfl
  | [], _ :: _, h => by simp [cmpL] at h
  | _ :: _, [], h => by simp [cmpL] at h
  | a :: s, b :: t, h => by
    rw [cmpL] at h
    split at h
    · omega
    · split at h
      · omega
      · rw [cmpL_eq h, show a = b by omega]
theorem cmpL_neg : ∀ (s t : List Int), cmpL t s = - cmpL s t
  | [], [] => rfl
  | [], _ :: _ => rfl
  | _ :: _, [] => rfl
  | a :: s, b :: t => by
    have := cmpL_neg s t
    simp only [cmpL]
    split <;> split <;> first | omega | (split <;> omega)
theorem cmpL_trans : ∀ {s t u : List Int}, cmpL s t < 0 → cmpL t u < 0 → cmpL s u < 0
  | [], [], _, h, _ => by simp [cmpL] at h
  | [], _ :: _, [], _, h => by simp [cmpL] at h
  | [], _ :: _, _ :: _, _, _ => by simp [cmpL]
  | _ :: _, [], _, h, _ => by simp [cmpL] at h
  | _ :: _, _ :: _, [], _, h => by simp [cmpL] at h
  | a :: s, b :: t, c :: u, h1, h2 => by
    rw [cmpL] at h1 h2 ⊢
    split at h1
    · split at h2
      · rw [if_pos (by omega)]; omega
      · split at h2
        · omega
        · rw [if_pos (by omega)]; omega
    · split at h1
      · omega
      · split at h2
        · rw [if_pos (by omega)]; omega
        · split at h2
          · omega
          · rw [if_neg (by omega), if_neg (by omega)]
            exact cmpL_trans h1 h2
def StrictL (l : List (List Int)) : Prop := l.Pairwise fun x y => cmpL x y < 0
theorem strict_ext : ∀ {l m : List (List Int)}, StrictL l → StrictL m → (∀ x, x ∈ l ↔ x ∈ m) → l = m
  | [], [], _, _, _ => rfl
  | [], y :: m, _, _, h => by have := (h y).2 (by simp); cases this
  | x :: l, [], _, _, h => by have := (h x).1 (by simp); cases this
  | x :: l, y :: m, h1, h2, h => by
    have a1 := List.pairwise_cons.1 h1
    have a2 := List.pairwise_cons.1 h2
    have e : x = y := by
      rcases List.mem_cons.1 ((h x).1 (by simp)) with e | e
      · exact e
      · rcases List.mem_cons.1 ((h y).2 (by simp)) with f | f
        · exact f.symm
        · have g1 := a2.1 x e
          have g2 := a1.1 y f
          have := cmpL_neg x y
          omega
    subst e
    rw [strict_ext a1.2 a2.2 fun z => ?_]
    constructor
    · intro hz
      rcases List.mem_cons.1 ((h z).1 (List.mem_cons_of_mem _ hz)) with e | e
      · subst e
        have := a1.1 z hz
        rw [cmpL_self] at this
        omega
      · exact e
    · intro hz
      rcases List.mem_cons.1 ((h z).2 (List.mem_cons_of_mem _ hz)) with e | e
      · subst e
        have := a2.1 z hz
        rw [cmpL_self] at this
        omega
      · exact e
def addL : List (List Int) → List Int → List (List Int)
  | [], v => [v]
  | x :: l, v => if cmpL x v < 0 then x :: addL l v else if cmpL v x < 0 then v :: x :: l else x :: l
theorem mem_addL : ∀ {l : List (List Int)} {v x : List Int}, x ∈ addL l v ↔ x = v ∨ x ∈ l
  | [], v, x => by simp [addL]
  | y :: l, v, x => by
    rw [addL]
    split
    · rw [List.mem_cons, mem_addL, List.mem_cons]
      constructor <;> (intro h; rcases h with h | h | h <;> simp [h])
    · split
      · simp
      · have : y = v := by
          have := cmpL_neg y v
          exact cmpL_eq (by omega)
        subst this
        simp
theorem addL_strict : ∀ {l : List (List Int)} {v : List Int}, StrictL l → StrictL (addL l v)
  | [], v, _ => by simp [addL, StrictL]
  | y :: l, v, h => by
    have a := List.pairwise_cons.1 h
    rw [addL]
    split
    · rename_i c
      refine List.pairwise_cons.2 ⟨fun z hz => ?_, addL_strict a.2⟩
      rcases mem_addL.1 hz with rfl | hz
      · exact c
      · exact a.1 z hz
    · split
      · rename_i c
        refine List.pairwise_cons.2 ⟨fun z hz => ?_, h⟩
        rcases List.mem_cons.1 hz with rfl | hz
        · exact c
        · exact cmpL_trans c (a.1 z hz)
      · exact h
theorem addL_len : ∀ (l : List (List Int)) (v : List Int), (addL l v).length ≤ l.length + 1
  | [], v => by simp [addL]
  | y :: l, v => by
    have := addL_len l v
    rw [addL]
    split
    · simp; omega
    · split <;> simp
def addsL (l : List (List Int)) : List (List Int) := l.foldl addL []
theorem foldL_strict : ∀ {l acc : List (List Int)}, StrictL acc → StrictL (l.foldl addL acc)
  | [], _, h => h
  | _ :: l, _, h => foldL_strict (l := l) (addL_strict h)
theorem mem_foldL : ∀ {l acc : List (List Int)} {x : List Int}, x ∈ l.foldl addL acc ↔ x ∈ acc ∨ x ∈ l
  | [], acc, x => by simp
  | y :: l, acc, x => by
    rw [List.foldl_cons, mem_foldL, mem_addL, List.mem_cons]
    constructor
    · rintro ((h | h) | h)
      · exact .inr (.inl h)
      · exact .inl h
      · exact .inr (.inr h)
    · rintro (h | h | h)
      · exact .inl (.inr h)
      · exact .inl (.inl h)
      · exact .inr h
theorem addsL_strict (l : List (List Int)) : StrictL (addsL l) := foldL_strict List.Pairwise.nil
theorem mem_addsL {l : List (List Int)} {x : List Int} : x ∈ addsL l ↔ x ∈ l := by simp [addsL, mem_foldL]
theorem strict_two {l : List (List Int)} (hs : StrictL l) (h : ∀ x ∈ l, ∀ y ∈ l, ∀ z ∈ l, x ≠ y → y ≠ z → x ≠ z → False) : l.length ≤ 2 := by
  match l, hs, h with
  | [], _, _ => simp
  | [_], _, _ => simp
  | [_, _], _, _ => simp
  | x :: y :: z :: l, hs, h =>
    have a1 := List.pairwise_cons.1 hs
    have a2 := List.pairwise_cons.1 a1.2
    have ne : ∀ {p q : List Int}, cmpL p q < 0 → p ≠ q := fun hc e => by subst e; rw [cmpL_self] at hc; omega
    exact (h x (by simp) y (by simp) z (by simp) (ne (a1.1 y (by simp))) (ne (a2.1 z (by simp))) (ne (a1.1 z (by simp)))).elim
theorem StrictL.filter {l : List (List Int)} (hs : StrictL l) (p : List Int → Bool) : StrictL (l.filter p) := List.Pairwise.filter p hs
theorem groups_len {l : List (List Int)} (n b : Nat) (G : Nat → List Int → Prop) (hG : ∀ x ∈ l, ∃ i, i < n ∧ G i x) (hb : ∀ i, i < n → ∀ m : List (List Int), m.Sublist l → (∀ x ∈ m, G i x) → m.length ≤ b) : l.length ≤ n * b := by
  induction n generalizing l with
  | zero =>
    cases l with
    | nil => simp
    | cons x l => obtain ⟨i, hi, _⟩ := hG x (by simp); omega
  | succ n ih =>
    classical
    have e : l.length = (l.filter fun x => decide (G n x)).length + (l.filter fun x => !decide (G n x)).length := by
      clear hG hb ih
      induction l with
      | nil => simp
      | cons x l ih => by_cases c : G n x <;> simp [c] <;> omega
    have h1 := hb n (by omega) (l.filter fun x => decide (G n x)) List.filter_sublist fun x hx => by simpa using (List.mem_filter.1 hx).2
    have h2 := ih (l := l.filter fun x => !decide (G n x)) (fun x hx => by
      obtain ⟨hx1, hx2⟩ := List.mem_filter.1 hx
      obtain ⟨i, hi, hg⟩ := hG x hx1
      refine ⟨i, ?_, hg⟩
      rcases Nat.lt_or_ge i n with c | c
      · exact c
      · obtain rfl : i = n := by omega
        simp [hg] at hx2) fun i hi m hm hx => hb i (by omega) m (hm.trans List.filter_sublist) hx
    rw [Nat.succ_mul]; omega
theorem adds_groups {l : List (List Int)} (n : Nat) (G : Nat → List Int → Prop) (hG : ∀ x ∈ l, ∃ i, i < n ∧ G i x) (h : ∀ i, i < n → ∀ x y z, G i x → G i y → G i z → x ≠ y → y ≠ z → x ≠ z → False) : (addsL l).length ≤ n * 2 :=
  groups_len n 2 G (fun x hx => hG x (mem_addsL.1 hx)) fun i hi m hm hx => strict_two (List.Pairwise.sublist hm (addsL_strict l)) fun x h1 y h2 z h3 => h i hi x y z (hx x h1) (hx y h2) (hx z h3)
end Go.Proofs.YtfkbjkmlpinoeaaGreat
