/-
  PLAIN LAW: vectors reduced by a Hermite form: what is left is a residue, and depends on the vector's class alone.
-/
import Derived.Test.YtmkoifmokdmebaapNorm
set_option linter.unusedVariables false
set_option linter.unusedSimpArgs false
namespace Go.Proofs.Ytmkoifmokdmebaa

/-- the sum of the first t rows, each as often as q tells, at column k -/
def comb (ys : List Int) (b : Nat) (q : Nat → Int) (k : Nat) : Nat → Int
  | 0 => 0
  | t + 1 => comb ys b q k t + q t * ys.getD (t * b + k) 0
/-- two vectors differ by a combination of the rows -/
def InL (ys : List Int) (b t : Nat) (u v : List Int) : Prop := ∃ q : Nat → Int, ∀ k, k < b → u.getD k 0 = v.getD k 0 + comb ys b q k t
theorem comb_add {ys : List Int} {b k : Nat} {q r : Nat → Int} : ∀ t, comb ys b (fun i => q i + r i) k t = comb ys b q k t + comb ys b r k t
  | 0 => rfl
  | t + 1 => by rw [comb, comb, comb, comb_add t, Int.add_mul]; omega
theorem comb_neg {ys : List Int} {b k : Nat} {q : Nat → Int} : ∀ t, comb ys b (fun i => -q i) k t = -comb ys b q k t
  | 0 => rfl
  | t + 1 => by rw [comb, comb, comb_neg t, Int.neg_mul]; omega
theorem comb_zero {ys : List Int} {b k : Nat} : ∀ t, comb ys b (fun _ => 0) k t = 0
  | 0 => rfl
  | t + 1 => by rw [comb, comb_zero t, Int.zero_mul]; rfl
theorem comb_congr {ys : List Int} {b k : Nat} {q r : Nat → Int} : ∀ {t : Nat}, (∀ i, i < t → q i * ys.getD (i * b + k) 0 = r i * ys.getD (i * b + k) 0) → comb ys b q k t = comb ys b r k t
  | 0, _ => rfl
  | t + 1, h => by rw [comb, comb, comb_congr fun i hi => h i (by omega), h t (by omega)]
theorem InL.refl {ys : List Int} {b t : Nat} (u : List Int) : InL ys b t u u := ⟨fun _ => 0, fun k _ => by rw [comb_zero]; omega⟩
theorem InL.symm {ys : List Int} {b t : Nat} {u v : List Int} (h : InL ys b t u v) : InL ys b t v u := by
  obtain ⟨q, hq⟩ := h
  exact ⟨fun i => -q i, fun k hk => by rw [comb_neg, hq k hk]; omega⟩
theorem InL.trans {ys : List Int} {b t : Nat} {u v w : List Int} (h : InL ys b t u v) (h' : InL ys b t v w) : InL ys b t u w := by
  obtain ⟨q, hq⟩ := h
  obtain ⟨r, hr⟩ := h'
  exact ⟨fun i => q i + r i, fun k hk => by rw [comb_add, hq k hk, hr k hk]; omega⟩
/-- one coefficient at place i -/
theorem comb_one {ys : List Int} {b k i : Nat} {c : Int} : ∀ {t : Nat}, comb ys b (fun j => if j = i then c else 0) k t = if i < t then c * ys.getD (i * b + k) 0 else 0
  | 0 => by simp [comb]
  | t + 1 => by
    rw [comb, comb_one (t := t)]
    by_cases h : t = i
    · subst h
      simp
    · by_cases h2 : i < t
      · rw [if_pos h2, if_neg h, if_pos (by omega)]; omega
      · rw [if_neg h2, if_neg h, if_neg (by omega)]; omega
/-- residues at the first n pivots -/
def Res (ys : List Int) (b n : Nat) (u : List Int) : Prop := ∀ i, i < n → 0 ≤ u.getD (pivF ys (i * b) b) 0 ∧ u.getD (pivF ys (i * b) b) 0 < ys.getD (i * b + pivF ys (i * b) b) 0
theorem Piv.left {b t i j : Nat} {ys : List Int} (h : Piv b t ys) (hij : i < j) (hj : j < t) : ys.getD (j * b + pivF ys (i * b) b) 0 = 0 := (h.yes j hj).2.2 _ (h.mono i j hij hj)
theorem nrX_at {ys out : List Int} {b i k : Nat} {q : Int} (hl : out.length = b) (hk : k < b) : (nrX ys out b i q).getD k 0 = out.getD k 0 + ys.getD (i * b + k) 0 * q := by
  have := updTo_in (xs := out) (off := 0) (f := addF ys b i q) hk (by omega)
  rw [Nat.zero_add] at this
  exact this
theorem nrAt_spec {ys out out' : List Int} {b t i : Nat} (h : Piv b t ys) (hi : i < t) (hl : out.length = b) (hr : Res ys b i out) (he : nrAt ys b i out = some out') : InL ys b t out' out ∧ Res ys b (i + 1) out' := by
  unfold nrAt at he
  split at he
  · cases he
    refine ⟨⟨fun j => if j = i then nrQ ys out b i else 0, fun k hk => by rw [nrX_at hl hk, comb_one, if_pos hi, Int.mul_comm]⟩, fun j hj => ?_⟩
    obtain ⟨p1, p2, p3⟩ := h.yes j (by omega)
    rw [nrX_at hl p1]
    rcases Nat.lt_or_ge j i with e | e
    · rw [h.left e hi, Int.zero_mul, Int.add_zero]
      exact hr j e
    · obtain rfl : j = i := by omega
      have e2 : out.getD (pivF ys (j * b) b) 0 + ys.getD (j * b + pivF ys (j * b) b) 0 * nrQ ys out b j = out.getD (pivF ys (j * b) b) 0 % ys.getD (j * b + pivF ys (j * b) b) 0 := by
        rw [nrQ, Int.mul_neg, Int.emod_def]; omega
      rw [e2]
      exact ⟨Int.emod_nonneg _ (by omega), Int.emod_lt_of_pos _ p2⟩
  · cases he
theorem nrTo_spec {ys : List Int} {b t : Nat} {vs : List Int} (h : Piv b t ys) (hl : vs.length = b) (hv : vs.all numB = true) : ∀ {n : Nat} {out : List Int}, n ≤ t → nrTo ys b vs n = some out → InL ys b t out vs ∧ Res ys b n out
  | 0, out, _, he => by cases he; exact ⟨InL.refl _, fun i hi => by omega⟩
  | n + 1, out, hn, he => by
    simp only [nrTo, Option.bind_eq_some_iff] at he
    obtain ⟨x, h1, h2⟩ := he
    obtain ⟨i1, i2⟩ := nrTo_spec h hl hv (by omega) h1
    have hx := (nrTo_ok hv h1).1
    obtain ⟨j1, j2⟩ := nrAt_spec h (by omega) (hx.trans hl) i2 h2
    exact ⟨j1.trans i1, j2⟩
/-- residues of one class are equal -/
theorem Res.uni {ys : List Int} {b t : Nat} {u v : List Int} (h : Piv b t ys) (hu : u.length = b) (hv : v.length = b) (r1 : Res ys b t u) (r2 : Res ys b t v) (hL : InL ys b t u v) : u = v := by
  obtain ⟨q, hq⟩ := hL
  have hz : ∀ n, n ≤ t → ∀ i, i < n → q i = 0 := fun n => by
    induction n with
    | zero => intro _ i hi; omega
    | succ n ih =>
      intro hn i hi
      rcases Nat.lt_or_ge i n with e | e
      · exact ih (by omega) i e
      · obtain rfl : i = n := by omega
        obtain ⟨p1, p2, p3⟩ := h.yes i (by omega)
        have h1 := hq _ p1
        have h2 := r1 i (by omega)
        have h3 := r2 i (by omega)
        have e1 : comb ys b q (pivF ys (i * b) b) t = q i * ys.getD (i * b + pivF ys (i * b) b) 0 := by
          have e2 : comb ys b q (pivF ys (i * b) b) t = comb ys b (fun j => if j = i then q i else 0) (pivF ys (i * b) b) t := comb_congr fun j hj => by
            by_cases c1 : j = i
            · subst c1; simp
            · rw [if_neg c1]
              rcases Nat.lt_or_ge j i with c2 | c2
              · rw [ih (by omega) j c2]
              · rw [h.left (show i < j by omega) hj]; simp
          rw [e2, comb_one, if_pos (by omega)]
        rw [e1] at h1
        generalize ys.getD (i * b + pivF ys (i * b) b) 0 = d at *
        generalize q i = c at *
        rcases Int.lt_trichotomy c 0 with c1 | c1 | c1
        · have := Int.mul_le_mul_of_nonneg_right (show c ≤ -1 by omega) (show 0 ≤ d by omega)
          omega
        · exact c1
        · have := Int.mul_le_mul_of_nonneg_right (show 1 ≤ c by omega) (show 0 ≤ d by omega)
          omega
  have hc : ∀ k, comb ys b q k t = 0 := fun k => by
    rw [comb_congr (r := fun _ => 0) fun i hi => by rw [hz t (Nat.le_refl _) i hi], comb_zero]
  apply List.ext_getElem (by omega)
  intro k h1 h2
  have := hq k (by omega)
  rw [hc, Int.add_zero] at this
  simpa [List.getD_eq_getElem?_getD, h1, h2] using this
/-- a residue is its own normal form -/
theorem nrTo_res {ys : List Int} {b t : Nat} {u : List Int} (h : Piv b t ys) (hl : u.length = b) (hu : u.all numB = true) (hr : Res ys b t u) : ∀ {n : Nat}, n ≤ t → nrTo ys b u n = some u
  | 0, _ => rfl
  | n + 1, hn => by
    rw [nrTo, nrTo_res h hl hu hr (by omega), Option.bind_some]
    have h0 : nrQ ys u b n = 0 := by
      have := hr n (by omega)
      rw [nrQ, Int.ediv_eq_zero_of_lt this.1 this.2]; rfl
    have hk : ∀ m, nrOK ys u b n 0 m = true := fun m => by
      induction m with
      | zero => rfl
      | succ m ih =>
        have h2 : addF ys b n 0 m (u.getD (0 + m) 0) = u.getD (0 + m) 0 := by rw [addF, Int.mul_zero, Int.add_zero]
        rw [nrOK, ih, Int.mul_zero, h2, num_at hu]; rfl
    unfold nrAt
    rw [h0, if_pos (hk b)]
    congr 1
    apply List.ext_getElem (by rw [nrX, updTo_len])
    intro k h1 h2
    have := nrX_at (ys := ys) (i := n) (q := 0) hl (show k < b by omega)
    rw [Int.mul_zero, Int.add_zero] at this
    simpa [List.getD_eq_getElem?_getD, h1, h2] using this
end Go.Proofs.Ytmkoifmokdmebaa
