/-
  PLAIN LAW: a vector reduced by a Hermite form.
-/
import Derived.Test.YtmkoifmokdmebaabBasis
set_option linter.unusedVariables false
set_option linter.unusedSimpArgs false
namespace Go.Proofs.Ytmkoifmokdmebaa

/-- the first cell of n that is not 0; n if there is none -/
def pivF (xs : List Int) (off : Nat) : Nat → Nat
  | 0 => 0
  | n + 1 => if pivF xs off n < n then pivF xs off n else if xs.getD (off + n) 0 ≠ 0 then n else n + 1
theorem pivF_zero {xs : List Int} {off : Nat} : ∀ {n : Nat}, (∀ i, i < n → xs.getD (off + i) 0 = 0) → pivF xs off n = n
  | 0, _ => rfl
  | n + 1, h => by
    have := pivF_zero (n := n) fun i hi => h i (by omega)
    rw [pivF, if_neg (by omega), if_neg (fun h0 => h0 (h n (by omega)))]
theorem pivF_eq {xs : List Int} {off k : Nat} (h0 : xs.getD (off + k) 0 ≠ 0) (h : ∀ i, i < k → xs.getD (off + i) 0 = 0) : ∀ {n : Nat}, k < n → pivF xs off n = k
  | 0, hk => by omega
  | n + 1, hk => by
    rcases Nat.lt_or_ge k n with e | e
    · have := pivF_eq h0 h (n := n) e
      rw [pivF, if_pos (by omega), this]
    · obtain rfl : k = n := by omega
      have := pivF_zero (xs := xs) (off := off) (n := k) h
      rw [pivF, if_neg (by omega), if_pos h0]
/-- a basis: t rows, each with a pivot -/
structure Piv (b t : Nat) (ys : List Int) : Prop where
  len : ys.length = t * b
  num : ys.all numB = true
  yes : ∀ i, i < t → pivF ys (i * b) b < b ∧ 0 < ys.getD (i * b + pivF ys (i * b) b) 0 ∧ ∀ k, k < pivF ys (i * b) b → ys.getD (i * b + k) 0 = 0
  mono : ∀ i i', i < i' → i' < t → pivF ys (i * b) b < pivF ys (i' * b) b
theorem take_getD {xs : List Int} {n p : Nat} (h : p < n) : (xs.take n).getD p 0 = xs.getD p 0 := by
  rw [List.getD_eq_getElem?_getD, List.getD_eq_getElem?_getD, List.getElem?_take_of_lt h]
theorem num_take {xs : List Int} {n : Nat} (h : xs.all numB = true) : (xs.take n).all numB = true := by
  rw [List.all_eq_true] at h ⊢
  exact fun x hx => h x (List.mem_of_mem_take hx)
theorem Shape.piv {a b t : Nat} {xs : List Int} {pv : Nat → Nat} (h : Shape a b b t xs pv) (ht : t ≤ a) (hl : xs.length = a * b) (hn : xs.all numB = true) : Piv b t (xs.take (t * b)) := by
  have htb : t * b ≤ a * b := Nat.mul_le_mul_right _ ht
  have hcell : ∀ i k, i < t → k < b → (xs.take (t * b)).getD (i * b + k) 0 = xs.getD (i * b + k) 0 := fun i k hi hk => take_getD (cell_lt hi hk)
  have key : ∀ i, i < t → pivF (xs.take (t * b)) (i * b) b = pv i := fun i hi => by
    obtain ⟨p1, p2⟩ := h.pos i hi
    refine pivF_eq ?_ (fun k hk => ?_) p1
    · rw [hcell i _ hi p1]; omega
    · rw [hcell i k hi (by omega)]; exact h.left i k hi hk
  refine ⟨by rw [List.length_take]; omega, num_take hn, fun i hi => ?_, fun i i' h1 h2 => ?_⟩
  · rw [key i hi]
    obtain ⟨p1, p2⟩ := h.pos i hi
    refine ⟨p1, ?_, fun k hk => ?_⟩
    · rw [hcell i _ hi p1]; exact p2
    · rw [hcell i k hi (by omega)]; exact h.left i k hi hk
  · rw [key i (by omega), key i' h2]; exact h.mono i i' h1 h2
theorem bas_piv {r c : Int} {xs ys : List Int} {t : Nat} (h : basO r c xs = some (ys, t)) : ∃ a b : Nat, r = a ∧ c = b ∧ a ≤ 24 ∧ b ≤ 24 ∧ t ≤ a ∧ t ≤ b ∧ Piv b t ys := by
  unfold basO at h
  split at h
  · rename_i hm
    obtain ⟨a, b, rfl, rfl, ha, hb, hx, hnum⟩ := isM_dimsH hm
    simp only [Int.toNat_natCast, Option.map_eq_some_iff] at h
    obtain ⟨⟨s, t'⟩, hT, he⟩ := h
    have o0 : OKs a b (xs, idTo a a) := ⟨hx, idTo_len, hnum, id_num⟩
    obtain ⟨o1, o2, o3⟩ := hTo_ok o0 hT
    obtain ⟨pv, hsh⟩ := hTo_shape o0 (Nat.le_refl _) hT
    dsimp only at he o1 o2 o3 hsh
    cases he
    exact ⟨a, b, rfl, rfl, ha, hb, o2, o3, hsh.piv o2 o1.1 o1.2.2.1⟩
  · cases h
def nrOK (ys out : List Int) (b i : Nat) (q : Int) : Nat → Bool
  | 0 => true
  | k + 1 => nrOK ys out b i q k && (numB (ys.getD (i * b + k) 0 * q) && numB (addF ys b i q k (out.getD (0 + k) 0)))
def nrX (ys out : List Int) (b i : Nat) (q : Int) : List Int := updTo out 0 (addF ys b i q) b
def nrQ (ys out : List Int) (b i : Nat) : Int := -(out.getD (pivF ys (i * b) b) 0 / ys.getD (i * b + pivF ys (i * b) b) 0)
def nrAt (ys : List Int) (b i : Nat) (out : List Int) : Option (List Int) := if nrOK ys out b i (nrQ ys out b i) b = true then some (nrX ys out b i (nrQ ys out b i)) else none
def nrTo (ys : List Int) (b : Nat) (out : List Int) : Nat → Option (List Int)
  | 0 => some out
  | n + 1 => (nrTo ys b out n).bind (nrAt ys b n)
theorem nrOK_at {ys out : List Int} {b i : Nat} {q : Int} : ∀ {n : Nat}, nrOK ys out b i q n = true → ∀ k, k < n → numB (ys.getD (i * b + k) 0 * q) = true ∧ numB (addF ys b i q k (out.getD (0 + k) 0)) = true
  | 0, _, k, hk => by omega
  | n + 1, h, k, hk => by
    simp only [nrOK, Bool.and_eq_true] at h
    rcases Nat.lt_or_ge k n with e | e
    · exact nrOK_at h.1 k e
    · obtain rfl : k = n := by omega
      exact h.2
theorem nrOK_no {ys out : List Int} {b i : Nat} {q : Int} : ∀ {n k : Nat}, k < n → ¬ (numB (ys.getD (i * b + k) 0 * q) = true ∧ numB (addF ys b i q k (out.getD (0 + k) 0)) = true) → nrOK ys out b i q n = false := fun {n k} hk hb => by
  cases h : nrOK ys out b i q n
  · rfl
  · exact absurd (nrOK_at h k hk) hb
theorem nrOK_ex {ys out : List Int} {b i : Nat} {q : Int} : ∀ {n : Nat}, nrOK ys out b i q n = false → ∃ k, k < n ∧ ¬ (numB (ys.getD (i * b + k) 0 * q) = true ∧ numB (addF ys b i q k (out.getD (0 + k) 0)) = true)
  | 0, h => by cases h
  | n + 1, h => by
    cases h0 : nrOK ys out b i q n
    · obtain ⟨k, h1, h2⟩ := nrOK_ex h0
      exact ⟨k, by omega, h2⟩
    · refine ⟨n, by omega, fun hb => ?_⟩
      rw [nrOK, h0, hb.1, hb.2] at h
      cases h
theorem nrOK_next {ys out : List Int} {b i k : Nat} {q : Int} (h : nrOK ys out b i q k = true) (h1 : numB (ys.getD (i * b + k) 0 * q) = true) (h2 : numB (addF ys b i q k (out.getD (0 + k) 0)) = true) : nrOK ys out b i q (k + 1) = true := by rw [nrOK, h, h1, h2]; rfl
theorem nrTo_ok {ys : List Int} {b : Nat} {vs : List Int} (hv : vs.all numB = true) : ∀ {n : Nat} {out : List Int}, nrTo ys b vs n = some out → out.length = vs.length ∧ out.all numB = true
  | 0, _, h => by cases h; exact ⟨rfl, hv⟩
  | n + 1, out, h => by
    simp only [nrTo, Option.bind_eq_some_iff] at h
    obtain ⟨x, h1, h2⟩ := h
    obtain ⟨i1, i2⟩ := nrTo_ok hv h1
    unfold nrAt at h2
    split at h2
    · rename_i hk
      cases h2
      exact ⟨updTo_len.trans i1, updTo_num i2 fun k hk' => (nrOK_at hk k hk').2⟩
    · cases h2
theorem nrTo_none {ys : List Int} {b : Nat} {vs : List Int} {n : Nat} (h : nrTo ys b vs n = none) : ∀ m, nrTo ys b vs (n + m) = none
  | 0 => h
  | m + 1 => by rw [← Nat.add_assoc, nrTo, nrTo_none h m]; rfl
def normO (r c : Int) (xs vs : List Int) : Option (List Int) := match basO r c xs with
  | none => none
  | some s => if (vs.length : Int) = c ∧ vs.all numB = true then nrTo s.1 c.toNat vs s.2 else none
/-- the marks of the reference -/
theorem doF_okV {ys : List Int} {b i k : Nat} {q v : Int} (hy : ys.all numB = true) (hv : numB v = true) (hq : q ≠ badN) (h1 : numB (ys.getD (i * b + k) 0 * q) = true) (h2 : numB (addF ys b i q k v) = true) : doF ys b i q k v = addF ys b i q k v := by
  have n1 := num_ne (num_at hy (i * b + k))
  have n2 := num_ne hv
  have n3 := num_ne h1
  unfold addF at h2
  unfold doF addF
  generalize ys.getD (i * b + k) 0 = x at *
  simp [mulV, addV, fitV, n1, n2, n3, hq, h1, h2]
theorem doF_badV {ys : List Int} {b i k : Nat} {q v : Int} (hy : ys.all numB = true) (hv : numB v = true) (hq : q ≠ badN) (h : ¬ (numB (ys.getD (i * b + k) 0 * q) = true ∧ numB (addF ys b i q k v) = true)) : doF ys b i q k v = badN := by
  have n1 := num_ne (num_at hy (i * b + k))
  have n2 := num_ne hv
  unfold addF at h
  unfold doF addV
  generalize ys.getD (i * b + k) 0 = x at *
  by_cases h1 : numB (x * q) = true
  · have h2 : ¬ numB (v + x * q) = true := fun h2 => h ⟨h1, h2⟩
    have n3 := num_ne h1
    simp [mulV, fitV, n1, n2, n3, hq, h1, h2]
  · simp [mulV, fitV, n1, n2, hq, h1]
theorem nrS_ok {ys out : List Int} {b i : Nat} {q : Int} (hy : ys.all numB = true) (hv : out.all numB = true) (hq : q ≠ badN) (h : nrOK ys out b i q b = true) : updTo out 0 (doF ys b i q) b = nrX ys out b i q :=
  updTo_congr fun k hk => doF_okV hy (num_at hv _) hq (nrOK_at h k hk).1 (nrOK_at h k hk).2
theorem nrS_bad {ys out : List Int} {b i : Nat} {q : Int} (hl : out.length = b) (hy : ys.all numB = true) (hv : out.all numB = true) (hq : q ≠ badN) (h : ¬ nrOK ys out b i q b = true) : badN ∈ updTo out 0 (doF ys b i q) b := by
  obtain ⟨k, hk, hb⟩ := nrOK_ex (by simpa using h)
  refine hasB_mem.1 ⟨0 + k, ?_⟩
  rw [updTo_in hk (by omega)]
  exact doF_badV hy (num_at hv _) hq hb
theorem nrX_num {ys out : List Int} {b i : Nat} {q : Int} (hv : out.all numB = true) (h : nrOK ys out b i q b = true) : (nrX ys out b i q).all numB = true := updTo_num hv fun k hk => (nrOK_at h k hk).2
end Go.Proofs.Ytmkoifmokdmebaa
