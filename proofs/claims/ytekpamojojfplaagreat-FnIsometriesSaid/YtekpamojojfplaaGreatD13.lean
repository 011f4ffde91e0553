/-
  TEXTS OF THE PROOF, put together: pKer, pRow, pDetF, pSylv.
-/
import Derived.Test.YtekpamojojfplaaGreatD12
set_option linter.unusedVariables false
set_option linter.unusedSimpArgs false
namespace Go.Proofs.YtekpamojojfplaaGreat
def sg (f : Nat → Int) : Nat → Int
  | 0 => 0
  | n + 1 => sg f n + f n
theorem sg_congr {f g : Nat → Int} : ∀ {n : Nat}, (∀ i, i < n → f i = g i) → sg f n = sg g n
  | 0, _ => rfl
  | n + 1, h => by rw [sg, sg, sg_congr fun i hi => h i (by omega), h n (by omega)]
theorem sg_two {f g : Nat → Int} {p t : Nat} {A B : Int} (hpt : p ≠ t) (h : ∀ i, g i = f i + (if i = p then A else 0) + (if i = t then B else 0)) : ∀ n, sg g n = sg f n + (if p < n then A else 0) + (if t < n then B else 0)
  | 0 => by simp [sg]
  | n + 1 => by
    rw [sg, sg, sg_two hpt h n, h n]
    by_cases h1 : n = p
    · have h2 : ¬ n = t := by omega
      rw [if_pos h1, if_neg h2, if_neg (show ¬ p < n by omega), if_pos (show p < n + 1 by omega)]
      by_cases h3 : t < n
      · rw [if_pos h3, if_pos (by omega)]; omega
      · rw [if_neg h3, if_neg (by omega)]; omega
    · rw [if_neg h1]
      by_cases h2 : n = t
      · rw [if_pos h2, if_neg (show ¬ t < n by omega), if_pos (show t < n + 1 by omega)]
        by_cases h3 : p < n
        · rw [if_pos h3, if_pos (by omega)]; omega
        · rw [if_neg h3, if_neg (by omega)]; omega
      · rw [if_neg h2]
        have e1 : (p < n) = (p < n + 1) := propext ⟨fun h => by omega, fun h => by omega⟩
        have e2 : (t < n) = (t < n + 1) := propext ⟨fun h => by omega, fun h => by omega⟩
        simp only [e1, e2]; omega
theorem comb_sg {ys : List Int} {b k : Nat} {q : Nat → Int} : ∀ n, comb ys b q k n = sg (fun i => q i * ys.getD (i * b + k) 0) n
  | 0 => rfl
  | n + 1 => by rw [comb, sg, comb_sg n]
def RelS (r c : Nat) (s s' : TwoL) : Prop := ∃ T T' : (Nat → Int) → Nat → Int,
  (∀ q k, k < c → comb s'.1 c q k r = comb s.1 c (T q) k r) ∧ (∀ q k, k < r → comb s'.2 r q k r = comb s.2 r (T q) k r) ∧
  (∀ q l, l < r → T (T' q) l = q l) ∧ (∀ q l, l < r → T' (T q) l = q l) ∧
  (∀ q q', (∀ l, l < r → q l = q' l) → ∀ l, l < r → T q l = T q' l) ∧ (∀ q q', (∀ l, l < r → q l = q' l) → ∀ l, l < r → T' q l = T' q' l) ∧ (∀ l, l < r → T' (fun _ => 0) l = 0)
theorem RelS.refl {r c : Nat} (s : TwoL) : RelS r c s s := ⟨id, id, fun _ _ _ => rfl, fun _ _ _ => rfl, fun _ _ _ => rfl, fun _ _ _ => rfl, fun _ _ h => h, fun _ _ h => h, fun _ _ => rfl⟩
theorem RelS.trans {r c : Nat} {s s' s'' : TwoL} (h : RelS r c s s') (h' : RelS r c s' s'') : RelS r c s s'' := by
  obtain ⟨T, U, a1, a2, a3, a4, a5, a6, a7⟩ := h
  obtain ⟨T2, U2, b1, b2, b3, b4, b5, b6, b7⟩ := h'
  refine ⟨fun q => T (T2 q), fun q => U2 (U q), fun q k hk => by rw [b1 q k hk, a1 _ k hk], fun q k hk => by rw [b2 q k hk, a2 _ k hk], fun q l hl => ?_, fun q l hl => ?_, fun q q' h => a5 _ _ (b5 _ _ h), fun q q' h => b6 _ _ (a6 _ _ h), fun l hl => ?_⟩
  · show T (T2 (U2 (U q))) l = q l
    rw [a5 _ (U q) (fun l hl => b3 _ l hl) l hl, a3 q l hl]
  · show U2 (U (T (T2 q))) l = q l
    rw [b6 _ (T2 q) (fun l hl => a4 _ l hl) l hl, b4 q l hl]
  · show U2 (U fun _ => 0) l = 0
    rw [b6 _ (fun _ => 0) (fun l hl => a7 l hl) l hl, b7 l hl]
theorem add_comb {xs : List Int} {r c i j k : Nat} {q : Int} (hl : xs.length = r * c) (hi : i < r) (hj : j < r) (hij : i ≠ j) (hk : k < c) (z : Nat → Int) :
    comb (addX xs c i j q) c z k r = comb xs c (fun l => z l + (if l = j then q * z i else 0)) k r := by
  rw [comb_add, comb_one, if_pos hj, comb_sg, comb_sg]
  rw [sg_two (f := fun l => z l * xs.getD (l * c + k) 0) (p := i) (t := j) (A := z i * (xs.getD (j * c + k) 0 * q)) (B := 0) hij]
  · rw [if_pos hi, if_pos hj]
    grind
  · intro l
    try dsimp only
    rw [addX_cell hl hi hk]
    by_cases h : l = i
    · subst h
      rw [if_pos rfl, if_pos rfl, if_neg hij]
      grind
    · rw [if_neg h, if_neg h]
      simp
theorem swap_comb {xs : List Int} {r c p t k : Nat} (hl : xs.length = r * c) (hp : p < r) (ht : t < r) (hpt : p ≠ t) (hk : k < c) (z : Nat → Int) :
    comb (swapTo xs (p * c) (t * c) c) c z k r = comb xs c (fun l => if l = p then z t else if l = t then z p else z l) k r := by
  rw [comb_sg, comb_sg]
  have e1 := sg_two (f := fun l => z l * xs.getD (l * c + k) 0) (g := fun l => z l * (swapTo xs (p * c) (t * c) c).getD (l * c + k) 0) (p := p) (t := t) (A := z p * (xs.getD (t * c + k) 0 - xs.getD (p * c + k) 0)) (B := z t * (xs.getD (p * c + k) 0 - xs.getD (t * c + k) 0)) hpt (fun l => by
    try dsimp only
    rw [swap_cell hl hp ht hpt hk]
    by_cases h : l = p
    · subst h
      rw [if_pos rfl, if_pos rfl, if_neg hpt]; grind
    · rw [if_neg h, if_neg h]
      by_cases h2 : l = t
      · subst h2
        rw [if_pos rfl, if_pos rfl]; grind
      · rw [if_neg h2, if_neg h2]; simp) r
  have e2 := sg_two (f := fun l => z l * xs.getD (l * c + k) 0) (g := fun l => (if l = p then z t else if l = t then z p else z l) * xs.getD (l * c + k) 0) (p := p) (t := t) (A := (z t - z p) * xs.getD (p * c + k) 0) (B := (z p - z t) * xs.getD (t * c + k) 0) hpt (fun l => by
    try dsimp only
    by_cases h : l = p
    · subst h
      rw [if_pos rfl, if_pos rfl, if_neg hpt]; grind
    · rw [if_neg h, if_neg h]
      by_cases h2 : l = t
      · subst h2
        rw [if_pos rfl, if_pos rfl]; grind
      · rw [if_neg h2, if_neg h2]; simp) r
  rw [e1, e2, if_pos hp, if_pos ht, if_pos hp, if_pos ht]
  grind
theorem neg_comb {xs : List Int} {r c t k : Nat} (hl : xs.length = r * c) (ht : t < r) (hk : k < c) (z : Nat → Int) :
    comb (negX xs c t) c z k r = comb xs c (fun l => if l = t then -z l else z l) k r := by
  rw [comb_sg, comb_sg]
  refine sg_congr fun l hl' => ?_
  try dsimp only
  rw [neg_cell hl ht hk]
  by_cases h : l = t
  · subst h
    rw [if_pos rfl, if_pos rfl]; grind
  · rw [if_neg h, if_neg h]
theorem RelS.add {r c i j : Nat} {q : Int} {s s' : TwoL} (o : OKs r c s) (hi : i < r) (hj : j < r) (hij : i ≠ j) (he : addS c r i j q s = some s') : RelS r c s s' := by
  unfold addS at he
  split at he
  · cases he
    refine ⟨fun z l => z l + (if l = j then q * z i else 0), fun z l => z l + (if l = j then -(q * z i) else 0), fun z k hk => add_comb o.1 hi hj hij hk z, fun z k hk => add_comb o.2.1 hi hj hij hk z, fun z l hl => ?_, fun z l hl => ?_, fun z z' h l hl => ?_, fun z z' h l hl => ?_, fun l hl => ?_⟩
    · dsimp only
      rw [if_neg hij]
      by_cases h : l = j
      · rw [if_pos h, if_pos h]; grind
      · rw [if_neg h, if_neg h]; omega
    · dsimp only
      rw [if_neg hij]
      by_cases h : l = j
      · rw [if_pos h, if_pos h]; grind
      · rw [if_neg h, if_neg h]; omega
    · dsimp only; rw [h l hl, h i hi]
    · dsimp only; rw [h l hl, h i hi]
    · dsimp only; simp
  · cases he
theorem RelS.sw {r c p t : Nat} {s : TwoL} (o : OKs r c s) (hp : p < r) (ht : t < r) : RelS r c s (swS r c p t s) := by
  unfold swS
  split
  · exact RelS.refl s
  · rename_i hpt
    have inv : ∀ (z : Nat → Int) l, (if l = p then (if t = p then z t else if t = t then z p else z t) else if l = t then (if p = p then z t else if p = t then z p else z p) else (if l = p then z t else if l = t then z p else z l)) = z l := fun z l => by
      by_cases h : l = p
      · subst h
        rw [if_pos rfl, if_neg (Ne.symm hpt), if_pos rfl]
      · rw [if_neg h]
        by_cases h2 : l = t
        · subst h2
          rw [if_pos rfl, if_pos rfl]
        · rw [if_neg h2, if_neg h, if_neg h2]
    have cg : ∀ z z' : Nat → Int, (∀ l, l < r → z l = z' l) → ∀ l, l < r → (if l = p then z t else if l = t then z p else z l) = (if l = p then z' t else if l = t then z' p else z' l) := fun z z' h l hl => by rw [h t ht, h p hp, h l hl]
    exact ⟨fun z l => if l = p then z t else if l = t then z p else z l, fun z l => if l = p then z t else if l = t then z p else z l, fun z k hk => swap_comb o.1 hp ht hpt hk z, fun z k hk => swap_comb o.2.1 hp ht hpt hk z, fun z l _ => inv z l, fun z l _ => inv z l, cg, cg, fun l _ => by simp⟩
theorem RelS.ng {r c t j : Nat} {s : TwoL} (o : OKs r c s) (ht : t < r) : RelS r c s (ngS r c t j s) := by
  unfold ngS
  split
  · have inv : ∀ (z : Nat → Int) l, (if l = t then -(if l = t then -z l else z l) else (if l = t then -z l else z l)) = z l := fun z l => by
      by_cases h : l = t
      · rw [if_pos h, if_pos h]; omega
      · rw [if_neg h, if_neg h]
    have cg : ∀ z z' : Nat → Int, (∀ l, l < r → z l = z' l) → ∀ l, l < r → (if l = t then -z l else z l) = (if l = t then -z' l else z' l) := fun z z' h l hl => by rw [h l hl]
    exact ⟨fun z l => if l = t then -z l else z l, fun z l => if l = t then -z l else z l, fun z k hk => neg_comb o.1 ht hk z, fun z k hk => neg_comb o.2.1 ht hk z, fun z l _ => inv z l, fun z l _ => inv z l, cg, cg, fun l _ => by simp⟩
  · exact RelS.refl s
theorem RelS.rnd {r c t p j : Nat} {s0 : TwoL} (o : OKs r c s0) (hp : p < r) : ∀ {n : Nat} {s : TwoL}, t + n ≤ r → rndTo r c t p j s0 n = some s → RelS r c s0 s
  | 0, s, _, he => by cases he; exact RelS.refl _
  | n + 1, s, hn, he => by
    simp only [rndTo, Option.bind_eq_some_iff] at he
    obtain ⟨x, h1, h2⟩ := he
    have ih := RelS.rnd o hp (by omega) h1
    unfold rndAt at h2
    split at h2
    · rename_i hc
      exact ih.trans (RelS.add (rndTo_ok o h1) (by omega) hp hc.1 h2)
    · cases h2; exact ih
theorem RelS.top {r c t j : Nat} {s0 : TwoL} (o : OKs r c s0) (ht : t < r) : ∀ {n : Nat} {s : TwoL}, n ≤ t → topTo r c t j s0 n = some s → RelS r c s0 s
  | 0, s, _, he => by cases he; exact RelS.refl _
  | n + 1, s, hn, he => by
    simp only [topTo, Option.bind_eq_some_iff] at he
    obtain ⟨x, h1, h2⟩ := he
    exact (RelS.top o ht (by omega) h1).trans (RelS.add (topTo_ok o h1) (by omega) ht (by omega) h2)
theorem RelS.red {r c t j : Nat} {s : TwoL} {p : Nat} {s' : TwoL} {p' : Nat} (o : OKs r c s) (hp : p < r) (ht : t ≤ r) (he : redCol r c t j s p = some (s', p')) : RelS r c s s' ∧ p' < r := by
  rw [redCol] at he
  split at he
  · cases he; exact ⟨RelS.refl _, hp⟩
  · split at he
    · cases he
    · rename_i s1 h1
      have o1 := rndTo_ok o h1
      have r1 := RelS.rnd o hp (by omega) h1
      split at he
      · cases he; exact ⟨r1, hp⟩
      · rename_i p1 hl
        have := (leastTo_some hl).1
        split at he
        · obtain ⟨r2, h2⟩ := RelS.red o1 (by omega) ht he
          exact ⟨r1.trans r2, h2⟩
        · cases he; exact ⟨r1, by omega⟩
  termination_by (s.1.getD (p * c + j) 0).natAbs
theorem RelS.col {r c j : Nat} {st st' : TwoL × Nat} (o : OKs r c st.1) (he : hCol r c j st = some st') : RelS r c st.1 st'.1 := by
  unfold hCol at he
  split at he
  · rename_i ht
    split at he
    · cases he; exact RelS.refl _
    · rename_i p hl
      have := (leastTo_some hl).1
      split at he
      · cases he
      · rename_i s1 p1 h1
        obtain ⟨r1, hp1⟩ := RelS.red o (by omega) (by omega) h1
        simp only [Option.map_eq_some_iff] at he
        obtain ⟨s2, h2, rfl⟩ := he
        have o1 := redCol_ok o h1
        have o2 := swS_ok (p := p1) (t := st.2) o1
        have o3 := ngS_ok (t := st.2) (j := j) o2
        exact ((r1.trans (RelS.sw o1 hp1 ht)).trans (RelS.ng o2 ht)).trans (RelS.top o3 ht (Nat.le_refl _) h2)
  · cases he; exact RelS.refl _
theorem RelS.all {r c : Nat} {s : TwoL} (o : OKs r c s) : ∀ {j : Nat} {st : TwoL × Nat}, hTo r c s j = some st → RelS r c s st.1
  | 0, _, he => by cases he; exact RelS.refl _
  | j + 1, _, he => by
    simp only [hTo, Option.bind_eq_some_iff] at he
    obtain ⟨x, h1, h2⟩ := he
    exact (RelS.all o h1).trans (RelS.col (hTo_ok o h1).1 h2)
def kerO (r c : Nat) (xs : List Int) : Option (List Int × Nat) := (hTo r c (xs, idTo r r) c).bind fun st => basO ((r - st.2 : Nat) : Int) (r : Int) (st.1.2.drop (st.2 * r))
end Go.Proofs.YtekpamojojfplaaGreat
namespace Go.Proofs.YtekpamojojfplaaGreat
abbrev Vec := Nat → Int
def parN (c : Nat) (p q : Vec) : Prop := ∀ k l, k < c → l < c → p k * q l = p l * q k
def mixV (a b : Int) (u w : Vec) : Vec := fun k => a * u k + b * w k
def LocF (c : Nat) (F : Vec → Int) : Prop := (∀ a b u w, F (mixV a b u w) = a * F u + b * F w) ∧ ∀ u w : Vec, (∀ k, k < c → u k = w k) → F u = F w
def InC (L : Nat → Vec → Int) (r : Nat) (v : Vec) : Prop := ∀ i, i < r → 0 ≤ L i v
def v3 (x y z : Int) : Vec := fun k => if k = 0 then x else if k = 1 then y else z
theorem sg_mul {f : Nat → Int} {a : Int} : ∀ n, sg (fun k => a * f k) n = a * sg f n
  | 0 => by simp [sg]
  | n + 1 => by rw [sg, sg, sg_mul n]; grind
theorem sg_add {f g : Nat → Int} : ∀ n, sg (fun k => f k + g k) n = sg f n + sg g n
  | 0 => by simp [sg]
  | n + 1 => by rw [sg, sg, sg, sg_add n]; omega
theorem sg_zero {f : Nat → Int} : ∀ {n : Nat}, (∀ k, k < n → f k = 0) → sg f n = 0
  | 0, _ => rfl
  | n + 1, h => by rw [sg, sg_zero fun k hk => h k (by omega), h n (by omega)]; rfl
theorem sg_single {f : Nat → Int} {p : Nat} : ∀ {n : Nat}, p < n → (∀ k, k < n → k ≠ p → f k = 0) → sg f n = f p
  | n + 1, hp, h => by
    rw [sg]
    by_cases e : p = n
    · subst e
      rw [sg_zero fun k hk => h k (by omega) (by omega)]; omega
    · rw [sg_single (n := n) (by omega) fun k hk => h k (by omega), h n (by omega) (by omega)]; omega
def rowP (xs : List Int) (o n : Nat) (q : Vec) : Int := sg (fun k => xs.getD (o + k) 0 * q k) n
def KerX (r c : Nat) (xs : List Int) (q : Vec) : Prop := ∀ i, i < r → rowP xs (i * c) c q = 0
end Go.Proofs.YtekpamojojfplaaGreat
namespace Go.Proofs.YtekpamojojfplaaGreat
abbrev Mx := Nat → Nat → Int
def skp (i a : Nat) : Nat := if a < i then a else a + 1
def sgnN (n : Nat) : Int := if n % 2 = 1 then -1 else 1
theorem sgnN_succ (n : Nat) : sgnN (n + 1) = - sgnN n := by
  unfold sgnN
  by_cases h : n % 2 = 1
  · rw [if_pos h, if_neg (by omega)]; rfl
  · rw [if_neg h, if_pos (by omega)]
theorem sgnN_sq (n : Nat) : sgnN n * sgnN n = 1 := by unfold sgnN; split <;> rfl
theorem sgnN_add (m : Nat) : ∀ n, sgnN (m + n) = sgnN m * sgnN n
  | 0 => by simp [sgnN]
  | n + 1 => by rw [← Nat.add_assoc, sgnN_succ, sgnN_succ, sgnN_add m n]; grind
def minF (M : Mx) (i j : Nat) : Mx := fun a b => M (skp i a) (skp j b)
def detF : Nat → Mx → Int
  | 0, _ => 1
  | n + 1, M => sg (fun j => sgnN j * M 0 j * detF n (minF M 0 j)) (n + 1)
theorem skp_lt {i a n : Nat} (h : a < n) : skp i a < n + 1 := by unfold skp; split <;> omega
theorem detF_congr : ∀ {n : Nat} {M M' : Mx}, (∀ i j, i < n → j < n → M i j = M' i j) → detF n M = detF n M'
  | 0, _, _, _ => rfl
  | n + 1, M, M', h => by
    rw [detF, detF]
    exact sg_congr fun j hj => by
      rw [h 0 j (by omega) hj, detF_congr (n := n) (M := minF M 0 j) (M' := minF M' 0 j) fun a b ha hb => h _ _ (skp_lt ha) (skp_lt hb)]
theorem sg_skip {h : Nat → Int} {j : Nat} : ∀ {n : Nat}, j ≤ n → sg (fun k => h (skp j k)) n + h j = sg h (n + 1)
  | 0, hj => by obtain rfl : j = 0 := by omega
                rfl
  | n + 1, hj => by
    by_cases e : j = n + 1
    · subst e
      rw [sg_congr (g := h) fun k hk => by unfold skp; rw [if_pos (by omega)]]; rfl
    · have ih := sg_skip (h := h) (j := j) (n := n) (by omega)
      have e1 : skp j n = n + 1 := by unfold skp; rw [if_neg (by omega)]
      show sg (fun k => h (skp j k)) n + h (skp j n) + h j = sg h (n + 1) + h (n + 1)
      rw [e1, ← ih]; omega
theorem sg_swap {f : Nat → Nat → Int} {m : Nat} : ∀ {n : Nat}, sg (fun i => sg (fun j => f i j) m) n = sg (fun j => sg (fun i => f i j) n) m
  | 0 => (sg_zero fun _ _ => rfl).symm
  | n + 1 => by
    show sg (fun i => sg (fun j => f i j) m) n + sg (fun j => f n j) m = sg (fun j => sg (fun i => f i j) n + f n j) m
    rw [sg_add, sg_swap]
theorem sg_neg {f : Nat → Int} (n : Nat) : sg (fun k => - f k) n = - sg f n := by
  have := sg_mul (f := f) (a := -1) n
  rw [show - sg f n = -1 * sg f n by omega, ← this]
  exact sg_congr fun k _ => by omega
def q' (p q : Nat) : Nat := if q < p then q else q - 1
def dbl (n : Nat) (M : Mx) (p q : Nat) : Int := if p = q then 0 else sgnN p * sgnN (q' p q) * M 0 p * M 1 q * detF n (fun a b => M (a + 2) (skp p (skp (q' p q) b)))
theorem detF_dbl (n : Nat) (M : Mx) : detF (n + 2) M = sg (fun p => sg (fun q => dbl n M p q) (n + 2)) (n + 2) := by
  rw [detF]
  refine sg_congr fun p hp => ?_
  rw [← sg_skip (h := fun q => dbl n M p q) (j := p) (n := n + 1) (by omega)]
  have e0 : dbl n M p p = 0 := if_pos rfl
  rw [e0, Int.add_zero, detF, ← sg_mul]
  refine sg_congr fun k hk => ?_
  have e1 : p ≠ skp p k := by unfold skp; split <;> omega
  have e2 : q' p (skp p k) = k := by
    unfold q' skp
    repeat' split
    all_goals omega
  unfold dbl
  rw [if_neg e1, e2]
  have e3 : minF M 0 p 0 k = M 1 (skp p k) := rfl
  have e4 : minF (minF M 0 p) 0 k = fun a b => M (a + 2) (skp p (skp k b)) := rfl
  rw [e3, e4]; grind
theorem dbl_sym {p q b : Nat} (h : p ≠ q) : skp p (skp (q' p q) b) = skp q (skp (q' q p) b) := by
  unfold skp q'
  repeat' split
  all_goals omega
def rsw (i : Nat) (M : Mx) : Mx := fun a b => M (if a = i then i + 1 else if a = i + 1 then i else a) b
theorem swap01 (n : Nat) (M : Mx) : detF (n + 2) (rsw 0 M) = - detF (n + 2) M := by
  rw [detF_dbl, detF_dbl, sg_swap, ← sg_neg]
  refine sg_congr fun p hp => ?_
  rw [← sg_neg]
  refine sg_congr fun q hq => ?_
  unfold dbl
  by_cases e : p = q
  · subst e; simp
  · rw [if_neg e, if_neg (fun h => e h.symm)]
    have e1 : (fun a b => rsw 0 M (a + 2) (skp q (skp (q' q p) b))) = fun a b => M (a + 2) (skp p (skp (q' p q) b)) := by
      funext a b
      rw [dbl_sym e]; rfl
    rw [e1]
    have e2 : rsw 0 M 0 q = M 1 q := rfl
    have e3 : rsw 0 M 1 p = M 0 p := rfl
    rw [e2, e3]
    have e4 : sgnN q * sgnN (q' q p) = - (sgnN p * sgnN (q' p q)) := by
      unfold q'
      by_cases c : p < q
      · rw [if_pos c, if_neg (by omega)]
        obtain ⟨m, rfl⟩ : ∃ m, q = m + 1 := ⟨q - 1, by omega⟩
        rw [sgnN_succ, Nat.add_sub_cancel]; grind
      · rw [if_neg c, if_pos (by omega)]
        obtain ⟨m, rfl⟩ : ∃ m, p = m + 1 := ⟨p - 1, by omega⟩
        rw [sgnN_succ, Nat.add_sub_cancel]; grind
    rw [e4]; grind
theorem swapA : ∀ {i n : Nat} {M : Mx}, i + 1 < n → detF n (rsw i M) = - detF n M
  | 0, n, M, h => by
    obtain ⟨m, rfl⟩ : ∃ m, n = m + 2 := ⟨n - 2, by omega⟩
    exact swap01 m M
  | i + 1, n, M, h => by
    obtain ⟨m, rfl⟩ : ∃ m, n = m + 1 := ⟨n - 1, by omega⟩
    rw [detF, detF, ← sg_neg]
    refine sg_congr fun j hj => ?_
    have e1 : minF (rsw (i + 1) M) 0 j = rsw i (minF M 0 j) := by
      funext a b
      show M (if a + 1 = i + 1 then i + 1 + 1 else if a + 1 = i + 1 + 1 then i + 1 else a + 1) (skp j b) = M (skp 0 (if a = i then i + 1 else if a = i + 1 then i else a)) (skp j b)
      congr 1
      unfold skp
      repeat' split
      all_goals omega
    have e2 : rsw (i + 1) M 0 j = M 0 j := rfl
    rw [e1, e2, swapA (by omega)]; grind
def cyc (l a : Nat) : Nat := if a = 0 then l else if a ≤ l then a - 1 else a
theorem cyc_det : ∀ {l n : Nat} {M : Mx}, l < n → detF n (fun a b => M (cyc l a) b) = sgnN l * detF n M
  | 0, n, M, h => by
    rw [detF_congr (M' := M) fun i j _ _ => by
      show M (cyc 0 i) j = M i j
      congr 1; unfold cyc; split <;> first | omega | (split <;> omega)]
    simp [sgnN]
  | l + 1, n, M, h => by
    have ih := cyc_det (l := l) (n := n) (M := rsw l M) (by omega)
    rw [swapA h] at ih
    rw [sgnN_succ, show -sgnN l * detF n M = sgnN l * - detF n M by grind, ← ih]
    refine detF_congr fun a b _ _ => ?_
    show M (cyc (l + 1) a) b = M (if cyc l a = l then l + 1 else if cyc l a = l + 1 then l else cyc l a) b
    congr 1
    unfold cyc
    repeat' split
    all_goals omega
theorem detF_row {l n : Nat} {M : Mx} (h : l < n + 1) : detF (n + 1) M = sg (fun j => sgnN (l + j) * M l j * detF n (minF M l j)) (n + 1) := by
  have h1 := cyc_det (M := M) h
  have h2 : sgnN l * (sgnN l * detF (n + 1) M) = sgnN l * detF (n + 1) (fun a b => M (cyc l a) b) := by rw [h1]
  rw [← Int.mul_assoc, sgnN_sq, Int.one_mul] at h2
  rw [h2, detF, ← sg_mul]
  refine sg_congr fun j hj => ?_
  have e1 : detF n (minF (fun a b => M (cyc l a) b) 0 j) = detF n (minF M l j) := detF_congr fun a b _ _ => by
    show M (cyc l (a + 1)) (skp j b) = M (skp l a) (skp j b)
    rfl
  rw [e1, sgnN_add]
  show sgnN l * (sgnN j * M (cyc l 0) j * _) = _
  rw [show cyc l 0 = l from rfl]; grind
theorem detF_eq0 {i : Nat} : ∀ {l n : Nat} {M : Mx}, i < l → l < n → (∀ b, b < n → M i b = M l b) → detF n M = 0
  | 0, _, _, h, _, _ => by omega
  | l + 1, n, M, h, hl, he => by
    have hs := swapA (M := M) (i := l) (n := n) hl
    by_cases e : i = l
    · subst e
      have : detF n (rsw i M) = detF n M := detF_congr fun a b _ hb => by
        show M (if a = i then i + 1 else if a = i + 1 then i else a) b = M a b
        by_cases e1 : a = i
        · rw [if_pos e1, e1, he b hb]
        · rw [if_neg e1]
          by_cases e2 : a = i + 1
          · rw [if_pos e2, e2, he b hb]
          · rw [if_neg e2]
      omega
    · have := detF_eq0 (i := i) (l := l) (n := n) (M := rsw l M) (by omega) (by omega) fun b hb => by
        show M (if i = l then l + 1 else if i = l + 1 then l else i) b = M (if l = l then l + 1 else if l = l + 1 then l else l) b
        rw [if_neg e, if_neg (show ¬ i = l + 1 by omega), if_pos rfl]; exact he b hb
      omega
theorem detF_same {i l n : Nat} {M : Mx} (hi : i < n) (hl : l < n) (hil : i ≠ l) (he : ∀ b, b < n → M i b = M l b) : detF n M = 0 := by
  rcases Nat.lt_or_gt_of_ne hil with h | h
  · exact detF_eq0 h hl he
  · exact detF_eq0 h hi fun b hb => (he b hb).symm
theorem cof_row {i l n : Nat} {M : Mx} (hi : i < n + 1) (hl : l < n + 1) : sg (fun j => M i j * (sgnN (l + j) * detF n (minF M l j))) (n + 1) = if i = l then detF (n + 1) M else 0 := by
  by_cases e : i = l
  · subst e
    rw [if_pos rfl, detF_row hi]
    exact sg_congr fun j _ => by grind
  · rw [if_neg e, ← detF_same (n := n + 1) (i := i) (l := l) (M := fun a b => if a = l then M i b else M a b) hi hl e (fun b _ => by simp [e]), detF_row hl]
    refine sg_congr fun j _ => ?_
    have e1 : minF (fun a b => if a = l then M i b else M a b) l j = minF M l j := by
      funext a b
      show (if skp l a = l then M i (skp j b) else M (skp l a) (skp j b)) = _
      rw [if_neg (by unfold skp; split <;> omega)]; rfl
    rw [e1]; simp only [if_true]; grind
end Go.Proofs.YtekpamojojfplaaGreat
namespace Go.Proofs.YtekpamojojfplaaGreat
def axM (n : Nat) (A : Mx) (y : Vec) (i : Nat) : Int := sg (fun j => A i j * y j) n
def bilM (n : Nat) (A : Mx) (x y : Vec) : Int := sg (fun i => x i * axM n A y i) n
theorem axM_mix {n : Nat} {A : Mx} {a b : Int} {u w : Vec} {i : Nat} : axM n A (mixV a b u w) i = a * axM n A u i + b * axM n A w i := by
  unfold axM
  rw [← sg_mul, ← sg_mul, ← sg_add]
  exact sg_congr fun k _ => by simp only [mixV]; grind
theorem bilM_r {n : Nat} {A : Mx} {a b : Int} {x u w : Vec} : bilM n A x (mixV a b u w) = a * bilM n A x u + b * bilM n A x w := by
  unfold bilM
  rw [← sg_mul, ← sg_mul, ← sg_add]
  exact sg_congr fun k _ => by rw [axM_mix]; grind
theorem bilM_l {n : Nat} {A : Mx} {a b : Int} {x u w : Vec} : bilM n A (mixV a b u w) x = a * bilM n A u x + b * bilM n A w x := by
  unfold bilM
  rw [← sg_mul, ← sg_mul, ← sg_add]
  exact sg_congr fun k _ => by simp only [mixV]; grind
theorem bilM_two {n : Nat} {A : Mx} {x y : Vec} : bilM n A x y = sg (fun i => sg (fun j => x i * A i j * y j) n) n := by
  unfold bilM axM
  exact sg_congr fun i _ => by rw [← sg_mul]; exact sg_congr fun j _ => by grind
def SymM (n : Nat) (A : Mx) : Prop := ∀ i j, i < n → j < n → A i j = A j i
theorem bilM_sym {n : Nat} {A : Mx} (hA : SymM n A) {x y : Vec} : bilM n A x y = bilM n A y x := by
  rw [bilM_two, bilM_two, sg_swap]
  exact sg_congr fun i hi => sg_congr fun j hj => by rw [hA j i hj hi]; grind
theorem bilM_congr {n : Nat} {A A' : Mx} {x x' y y' : Vec} (hA : ∀ i j, i < n → j < n → A i j = A' i j) (hx : ∀ i, i < n → x i = x' i) (hy : ∀ i, i < n → y i = y' i) : bilM n A x y = bilM n A' x' y' := by
  rw [bilM_two, bilM_two]
  exact sg_congr fun i hi => sg_congr fun j hj => by rw [hA i j hi hj, hx i hi, hy j hj]
theorem bilM_unit {n k : Nat} {A : Mx} {w : Vec} {d : Int} (hk : k < n) (h : ∀ i, i < n → axM n A w i = if i = k then d else 0) (x : Vec) : bilM n A x w = x k * d := by
  unfold bilM
  rw [sg_single hk fun i hi hne => by rw [h i hi, if_neg hne]; omega]
  rw [h k hk, if_pos rfl]
def cofW (n : Nat) (A : Mx) (k : Nat) : Vec := fun j => sgnN (k + j) * detF n (minF A k j)
theorem cofW_ax {n k i : Nat} {A : Mx} (hi : i < n + 1) (hk : k < n + 1) : axM (n + 1) A (cofW n A k) i = if i = k then detF (n + 1) A else 0 := cof_row hi hk
def PosM (n : Nat) (A : Mx) : Prop := ∀ x : Vec, (∃ k, k < n ∧ x k ≠ 0) → 0 < bilM n A x x
theorem bilM_zero {n : Nat} {A : Mx} {x y : Vec} (h : ∀ k, k < n → x k = 0) : bilM n A x y = 0 := by
  unfold bilM
  exact sg_zero fun k hk => by rw [h k hk]; omega
theorem PosM.nonneg {n : Nat} {A : Mx} (h : PosM n A) (x : Vec) : 0 ≤ bilM n A x x := by
  by_cases e : ∃ k, k < n ∧ x k ≠ 0
  · exact Int.le_of_lt (h x e)
  · rw [bilM_zero fun k hk => by
      by_cases c : x k = 0
      · exact c
      · exact absurd ⟨k, hk, c⟩ e]
    exact Int.le_refl 0
theorem bilM_low {n : Nat} {A : Mx} {y : Vec} (h : y n = 0) : bilM (n + 1) A y y = bilM n A y y := by
  rw [bilM_two, bilM_two]
  show sg (fun i => sg (fun j => y i * A i j * y j) (n + 1)) n + sg (fun j => y n * A n j * y j) (n + 1) = _
  rw [sg_zero (f := fun j => y n * A n j * y j) fun k _ => by simp [h], Int.add_zero]
  exact sg_congr fun i _ => by
    show sg (fun j => y i * A i j * y j) n + y i * A i n * y n = _
    rw [h]; omega
theorem pos_sq {a : Int} (h : a ≠ 0) : 0 < a * a := by
  rcases Int.lt_or_gt_of_ne h with h | h
  · have := Int.mul_pos (show 0 < -a by omega) (show 0 < -a by omega)
    rwa [Int.neg_mul_neg] at this
  · exact Int.mul_pos h h
theorem pos_of_mul {a b : Int} (ha : 0 < a) (h : 0 < a * b) : 0 < b := by
  rcases Int.lt_or_le 0 b with h' | h'
  · exact h'
  · have := Int.mul_nonneg (show 0 ≤ a by omega) (show 0 ≤ -b by omega)
    rw [Int.mul_neg] at this; omega
theorem nonneg_of_mul {a b : Int} (ha : 0 < a) (h : 0 ≤ a * b) : 0 ≤ b := by
  rcases Int.lt_or_le b 0 with h' | h'
  · have := Int.mul_pos ha (show 0 < -b by omega)
    rw [Int.mul_neg] at this; omega
  · exact h'
theorem sylv {A : Mx} : ∀ {n : Nat}, SymM n A → (∀ k, k < n → 0 < detF (k + 1) A) → PosM n A
  | 0, _, _ => fun x ⟨k, hk, _⟩ => by omega
  | n + 1, hA, hd => fun x hx => by
    have ih := sylv (A := A) (n := n) (fun i j hi hj => hA i j (by omega) (by omega)) fun k hk => hd k (by omega)
    have hd1 := hd n (by omega)
    have hw := bilM_unit (n := n + 1) (k := n) (A := A) (w := cofW n A n) (by omega) (fun i hi => cofW_ax hi (by omega))
    have hwn : 0 < cofW n A n n := by
      show 0 < sgnN (n + n) * detF n (minF A n n)
      rw [sgnN_add, sgnN_sq, Int.one_mul]
      rw [detF_congr (M' := A) fun i j hi hj => by
        show A (skp n i) (skp n j) = A i j
        unfold skp; rw [if_pos hi, if_pos hj]]
      cases n with
      | zero => exact Int.one_pos
      | succ m => exact hd m (by omega)
    have hy0 : mixV (cofW n A n n) (-x n) x (cofW n A n) n = 0 := by show cofW n A n n * x n + -x n * cofW n A n n = 0; grind
    have hQ : bilM n A (mixV (cofW n A n n) (-x n) x (cofW n A n)) (mixV (cofW n A n n) (-x n) x (cofW n A n)) = cofW n A n n * (cofW n A n n * bilM (n + 1) A x x) - cofW n A n n * (x n * x n) * detF (n + 1) A := by
      rw [← bilM_low hy0, bilM_r, bilM_l, bilM_l, bilM_sym hA (x := cofW n A n) (y := x), hw, hw]; grind
    have hny := ih.nonneg (mixV (cofW n A n n) (-x n) x (cofW n A n))
    refine pos_of_mul hwn (pos_of_mul hwn ?_)
    by_cases e : x n = 0
    · obtain ⟨k, hk, hk0⟩ := hx
      have hkn : k < n := by
        by_cases c : k = n
        · exact absurd (c ▸ e) hk0
        · omega
      have := ih (mixV (cofW n A n n) (-x n) x (cofW n A n)) ⟨k, hkn, by
        show cofW n A n n * x k + -x n * cofW n A n k ≠ 0
        rw [e]
        intro h
        rcases Int.mul_eq_zero.1 (show cofW n A n n * x k = 0 by simpa using h) with h | h
        · omega
        · exact hk0 h⟩
      rw [hQ, e] at this
      simpa using this
    · have h1 := Int.mul_pos (Int.mul_pos hwn (pos_sq e)) hd1
      omega
theorem cauchy {n : Nat} {A : Mx} (hA : SymM n A) (hp : PosM n A) (x y : Vec) : bilM n A x y * bilM n A x y ≤ bilM n A x x * bilM n A y y := by
  by_cases e : ∃ k, k < n ∧ y k ≠ 0
  · have h0 := hp y e
    have h1 := hp.nonneg (mixV (bilM n A y y) (-bilM n A x y) x y)
    rw [bilM_r, bilM_l, bilM_l, bilM_sym hA (x := y) (y := x)] at h1
    have := nonneg_of_mul h0 (b := bilM n A x x * bilM n A y y - bilM n A x y * bilM n A x y) (by
      rw [show bilM n A y y * (bilM n A x x * bilM n A y y - bilM n A x y * bilM n A x y) = bilM n A y y * (bilM n A y y * bilM n A x x + -bilM n A x y * bilM n A x y) + -bilM n A x y * (bilM n A y y * bilM n A x y + -bilM n A x y * bilM n A y y) by grind]
      exact h1)
    omega
  · have hz : ∀ k, k < n → y k = 0 := fun k hk => by
      by_cases c : y k = 0
      · exact c
      · exact absurd ⟨k, hk, c⟩ e
    rw [bilM_sym hA (x := x) (y := y), bilM_zero hz, bilM_zero hz]; omega
theorem adj_bound {n k : Nat} {A : Mx} (hA : SymM (n + 1) A) (hp : PosM (n + 1) A) (hd : 0 < detF (n + 1) A) (hk : k < n + 1) (x : Vec) : x k * x k * detF (n + 1) A ≤ bilM (n + 1) A x x * cofW n A k k := by
  have hw := bilM_unit (n := n + 1) (k := k) (A := A) (w := cofW n A k) hk (fun i hi => cofW_ax hi hk)
  have h := cauchy hA hp x (cofW n A k)
  rw [hw, hw] at h
  have := nonneg_of_mul hd (b := bilM (n + 1) A x x * cofW n A k k - x k * x k * detF (n + 1) A) (by
    rw [show detF (n + 1) A * (bilM (n + 1) A x x * cofW n A k k - x k * x k * detF (n + 1) A) = bilM (n + 1) A x x * (cofW n A k k * detF (n + 1) A) - x k * detF (n + 1) A * (x k * detF (n + 1) A) by grind]
    omega)
  omega
theorem cof_pos {n k : Nat} {A : Mx} (hp : PosM (n + 1) A) (hd : 0 < detF (n + 1) A) (hk : k < n + 1) : 0 < cofW n A k k := by
  have hax := fun i (hi : i < n + 1) => cofW_ax (A := A) hi hk
  have hw := bilM_unit (n := n + 1) (k := k) (A := A) (w := cofW n A k) hk hax (cofW n A k)
  have h0 : ∃ j, j < n + 1 ∧ cofW n A k j ≠ 0 := by
    by_cases e : ∃ j, j < n + 1 ∧ cofW n A k j ≠ 0
    · exact e
    · have h1 := hax k hk
      rw [if_pos rfl] at h1
      have : axM (n + 1) A (cofW n A k) k = 0 := sg_zero fun j hj => by
        have : cofW n A k j = 0 := by
          by_cases c : cofW n A k j = 0
          · exact c
          · exact absurd ⟨j, hj, c⟩ e
        rw [this]; omega
      omega
  have := hp _ h0
  rw [hw, Int.mul_comm] at this
  exact pos_of_mul hd this
end Go.Proofs.YtekpamojojfplaaGreat
