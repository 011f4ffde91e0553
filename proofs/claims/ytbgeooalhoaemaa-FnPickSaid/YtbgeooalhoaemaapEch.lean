/-
  PLAIN LAW: rows of a matrix made primitive, in place.
-/
import Derived.Test.YtbgeooalhoaemaaNum
set_option linter.unusedVariables false
set_option linter.unusedSimpArgs false
namespace Go.Proofs.Ytbgeooalhoaemaa

def rowGcd (xs : List Int) (off : Nat) : Nat → Int
  | 0 => 0
  | k + 1 => (Int.gcd (rowGcd xs off k) (xs.getD (off + k) 0) : Int)
def sgnTo (xs : List Int) (off : Nat) : Nat → Int
  | 0 => 0
  | k + 1 => if sgnTo xs off k = 0 then (xs.getD (off + k) 0).sign else sgnTo xs off k
/-- the first k cells from off on, each by f -/
def updTo (xs : List Int) (off : Nat) (f : Nat → Int → Int) : Nat → List Int
  | 0 => xs
  | k + 1 => (updTo xs off f k).set (off + k) (f k (xs.getD (off + k) 0))
def primAt (xs : List Int) (off n : Nat) : List Int := if rowGcd xs off n = 0 then xs else updTo xs off (fun _ v => v.tdiv (sgnTo xs off n * rowGcd xs off n)) n
theorem updTo_len {xs : List Int} {off : Nat} {f : Nat → Int → Int} : ∀ {k : Nat}, (updTo xs off f k).length = xs.length
  | 0 => rfl
  | k + 1 => by simp [updTo, updTo_len]
theorem updTo_at {xs : List Int} {off : Nat} {f : Nat → Int → Int} {p : Nat} : ∀ {k : Nat}, (p < off ∨ off + k ≤ p) → (updTo xs off f k).getD p 0 = xs.getD p 0
  | 0, _ => rfl
  | k + 1, h => by
    have := updTo_at (xs := xs) (off := off) (f := f) (p := p) (k := k) (by omega)
    rw [updTo, List.getD_eq_getElem?_getD, List.getElem?_set_ne (by omega), ← List.getD_eq_getElem?_getD, this]
theorem num_getD {xs : List Int} (h : xs.all numB = true) (p : Nat) : -400000000 ≤ xs.getD p 0 ∧ xs.getD p 0 ≤ 400000000 := by
  rw [List.getD_eq_getElem?_getD]
  rcases Nat.lt_or_ge p xs.length with c | c
  · rw [List.getElem?_eq_getElem c]
    exact numB_true.1 (List.all_eq_true.1 h _ (List.getElem_mem c))
  · rw [List.getElem?_eq_none c]; simp
theorem rowGcd_bd {xs : List Int} {off : Nat} (h : xs.all numB = true) : ∀ k, 0 ≤ rowGcd xs off k ∧ rowGcd xs off k ≤ 400000000
  | 0 => by simp [rowGcd]
  | k + 1 => by
    have ih := rowGcd_bd (off := off) h k
    have hv := num_getD h (off + k)
    have := gcd_le_left (a := rowGcd xs off k) (b := xs.getD (off + k) 0) (M := 400000000) (by omega) ih.2 hv.1 hv.2
    simp only [rowGcd]
    omega
theorem rowGcd_none {xs : List Int} {off : Nat} : ∀ {n : Nat}, (∀ k, k < n → xs.getD (off + k) 0 = 0) → rowGcd xs off n = 0
  | 0, _ => rfl
  | n + 1, h => by
    rw [rowGcd, rowGcd_none (fun k hk => h k (by omega)), h n (by omega)]; rfl
theorem sgn_none {xs : List Int} {off : Nat} : ∀ {n : Nat}, (∀ k, k < n → xs.getD (off + k) 0 = 0) → sgnTo xs off n = 0
  | 0, _ => rfl
  | n + 1, h => by
    rw [sgnTo, sgn_none (fun k hk => h k (by omega)), h n (by omega)]; rfl
theorem sgn_first {xs : List Int} {off k : Nat} (h0 : xs.getD (off + k) 0 ≠ 0) (h : ∀ i, i < k → xs.getD (off + i) 0 = 0) : ∀ {n : Nat}, k < n → sgnTo xs off n = (xs.getD (off + k) 0).sign
  | n + 1, hn => by
    rcases Nat.lt_or_ge k n with c | c
    · have := sgn_first h0 h (n := n) c
      rw [sgnTo, this, if_neg (by intro e; exact h0 (Int.sign_eq_zero_iff_zero.1 e))]
    · obtain rfl : k = n := by omega
      rw [sgnTo, sgn_none h, if_pos rfl]
theorem tdiv_sgn {s g v : Int} (hs : s = 1 ∨ s = -1) : (s * v).tdiv g = v.tdiv (s * g) := by
  rcases hs with rfl | rfl
  · simp
  · simp [Int.neg_mul, Int.neg_tdiv, Int.tdiv_neg]
end Go.Proofs.Ytbgeooalhoaemaa
