/-
  PLAIN LAW: binary forms: what the small functions compute.
-/
import Derived.Test.YtbaaelampabhdaaNum
set_option linter.unusedVariables false
set_option linter.unusedSimpArgs false
namespace Go.Proofs.Ytbaaelampabhdaa

def isFormB (a b c : Int) : Bool := decide (1 ≤ a ∧ a ≤ 5000 ∧ 1 ≤ c ∧ c ≤ 5000 ∧ -5000 ≤ b ∧ b ≤ 5000 ∧ b * b < 4 * a * c)
theorem isFormB_true {a b c : Int} : isFormB a b c = true ↔ 1 ≤ a ∧ a ≤ 5000 ∧ 1 ≤ c ∧ c ≤ 5000 ∧ -5000 ≤ b ∧ b ≤ 5000 ∧ b * b < 4 * a * c := by simp [isFormB]
def discB (d : Int) : Bool := decide (-1000 ≤ d ∧ d ≤ -3 ∧ d % 4 ≤ 1)
theorem discB_true {d : Int} : discB d = true ↔ -1000 ≤ d ∧ d ≤ -3 ∧ d % 4 ≤ 1 := by simp [discB]
def lowB (a b c : Int) : Bool := decide ((b.natAbs : Int) ≤ a ∧ a ≤ c ∧ (0 ≤ b ∨ ((b.natAbs : Int) < a ∧ a < c)))
def primB (a b c : Int) : Bool := isFormB a b c && decide ((Int.gcd (Int.gcd a b) c : Int) = 1)
def formVal (a b c x y : Int) : Int := a * x * x + b * x * y + c * y * y
theorem sq_in {a b : Int} {A B : Int} (h1 : -A ≤ a) (h2 : a ≤ A) (h3 : -B ≤ b) (h4 : b ≤ B) : -(A * B) ≤ a * b ∧ a * b ≤ A * B := by
  have hA : 0 ≤ A := by omega
  have h5 : (a * b).natAbs ≤ (A * B).natAbs := by
    rw [Int.natAbs_mul, Int.natAbs_mul]
    exact Nat.mul_le_mul (by omega) (by omega)
  have h6 : 0 ≤ A * B := Int.mul_nonneg hA (by omega)
  omega
abbrev F3 := Int × Int × Int
/-- the forms of the lists: by A, then by B -/
def stepF (d a b : Int) : List F3 := if (b * b - d).tmod (4 * a) = 0 ∧ lowB a b ((b * b - d).tdiv (4 * a)) = true ∧ primB a b ((b * b - d).tdiv (4 * a)) = true then [(a, b, (b * b - d).tdiv (4 * a))] else []
def rowF (d a : Int) : Nat → List F3
  | 0 => []
  | k + 1 => rowF d a k ++ stepF d a (-a + k)
def allF (d : Int) : Nat → List F3
  | 0 => []
  | i + 1 => allF d i ++ rowF d (i + 1) (2 * i + 3)
theorem stepF_len {d a b : Int} : (stepF d a b).length ≤ 1 := by unfold stepF; split <;> simp
theorem rowF_len {d a : Int} : ∀ {k : Nat}, (rowF d a k).length ≤ k
  | 0 => Nat.le_refl _
  | k + 1 => by have := rowF_len (d := d) (a := a) (k := k); have := stepF_len (d := d) (a := a) (b := -a + k); simp only [rowF, List.length_append]; omega
theorem allF_len {d : Int} : ∀ {i : Nat}, i ≤ 20 → (allF d i).length ≤ 50 * i
  | 0, _ => Nat.le_refl _
  | i + 1, h => by have := allF_len (d := d) (i := i) (by omega); have := rowF_len (d := d) (a := i + 1) (k := 2 * i + 3); simp only [allF, List.length_append]; omega
/-- how far the outer loop goes -/
structure Upto (d : Int) (N : Nat) : Prop where
  below : ∀ i : Nat, i < N → 3 * ((i : Int) + 1) * ((i : Int) + 1) ≤ -d
  at_ : ¬ 3 * ((N : Int) + 1) * ((N : Int) + 1) ≤ -d
theorem upto_ex {d : Int} (h : -1000 ≤ d) : ∃ N, N ≤ 18 ∧ Upto d N := by
  have key : ∀ n : Nat, (∀ i : Nat, i < n → 3 * ((i : Int) + 1) * ((i : Int) + 1) ≤ -d) → n ≤ 18 → ∃ N, N ≤ 18 ∧ Upto d N := fun n => by
    have : ∀ m n : Nat, m + n = 18 → (∀ i : Nat, i < n → 3 * ((i : Int) + 1) * ((i : Int) + 1) ≤ -d) → ∃ N, N ≤ 18 ∧ Upto d N := fun m => by
      induction m with
      | zero => 
        intro n hn hb
        exact ⟨n, by omega, hb, by rw [show n = 18 by omega]; omega⟩
      | succ m ih =>
        intro n hn hb
        by_cases c : 3 * ((n : Int) + 1) * ((n : Int) + 1) ≤ -d
        · refine ih (n + 1) (by omega) fun i hi => ?_
          rcases Nat.lt_succ_iff_lt_or_eq.1 hi with h | rfl
          · exact hb i h
          · exact c
        · exact ⟨n, by omega, hb, c⟩
    exact fun hb hn => this (18 - n) n (by omega) hb
  exact key 0 (fun i hi => by omega) (by omega)
end Go.Proofs.Ytbaaelampabhdaa
