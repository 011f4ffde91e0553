/-
  CONTRACTS: rows made primitive, of both packages.
-/
import Derived.Test.YtbgeooalhoaemaabMat
import Derived.Test.YtbgeooalhoaemaapEch
set_option linter.unusedVariables false
set_option linter.unusedSimpArgs false
namespace Go.Proofs.Ytbgeooalhoaemaa
open Go.RowKit

theorem off_nat {off k : Nat} : off + ((k : Int)).toNat = off + k := by omega
theorem tdiv_abs {x : Int} (h : x ≠ 0) : x.tdiv (x.natAbs : Int) = x.sign := by
  rcases Int.lt_or_le x 0 with c | c
  · rw [show ((x.natAbs : Nat) : Int) = -x by omega, Int.tdiv_neg, Int.tdiv_self h, Int.sign_eq_neg_one_of_neg c]
  · rw [show ((x.natAbs : Nat) : Int) = x by omega, Int.tdiv_self h, Int.sign_eq_one_of_pos (by omega)]
theorem sgn_cases {xs : List Int} {off : Nat} : ∀ n, sgnTo xs off n = 0 ∨ sgnTo xs off n = 1 ∨ sgnTo xs off n = -1
  | 0 => .inl rfl
  | n + 1 => by
    rw [sgnTo]
    split
    · rcases Int.lt_trichotomy (xs.getD (off + n) 0) 0 with c | c | c
      · rw [Int.sign_eq_neg_one_of_neg c]; simp
      · rw [c]; simp
      · rw [Int.sign_eq_one_of_pos c]; simp
    · exact sgn_cases n
theorem sgn_mul {s v : Int} (hs : s = 0 ∨ s = 1 ∨ s = -1) (hv : -400000000 ≤ v ∧ v ≤ 400000000) : -400000000 ≤ s * v ∧ s * v ≤ 400000000 := by
  rcases hs with rfl | rfl | rfl <;> omega
theorem sgn_gcd {xs : List Int} {off : Nat} : ∀ {n : Nat}, sgnTo xs off n = 0 → rowGcd xs off n = 0
  | 0, _ => rfl
  | n + 1, h => by
    rw [sgnTo] at h
    split at h
    · rename_i h0
      have := Int.sign_eq_zero_iff_zero.1 h
      rw [rowGcd, sgn_gcd h0, this]; rfl
    · rename_i h0; exact absurd h h0
end Go.Proofs.Ytbgeooalhoaemaa
