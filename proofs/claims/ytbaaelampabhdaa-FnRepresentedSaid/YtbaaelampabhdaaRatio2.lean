/-
  WALKS: sums and quotients of ratios.
-/
import Derived.Test.YtbaaelampabhdaaRatio
set_option linter.unusedVariables false
set_option linter.unusedSimpArgs false
namespace Go.Proofs.Ytbaaelampabhdaa
open Go.RowKit
attribute [-go_sem] alloc_frozen

theorem prod_bd {a b : Int} (h1 : -400000000 ≤ a) (h2 : a ≤ 400000000) (h3 : -400000000 ≤ b) (h4 : b ≤ 400000000) : -160000000000000000 ≤ a * b ∧ a * b ≤ 160000000000000000 := by
  have h : (a * b).natAbs ≤ 400000000 * 400000000 := by
    rw [Int.natAbs_mul]; exact Nat.mul_le_mul (by omega) (by omega)
  omega
def addR (a b c d : Int) : Int × Int := if ratioB a b && ratioB c d then lowR (a * d + c * b) (b * d) else (0, 0)
def divR (a b c d : Int) : Int × Int := if ratioB a b && ratioB c d && !(c == 0) then lowR (a * d) (b * c) else (0, 0)
theorem addR_val {a b c d : Int} (h1 : ratioB a b = true) (h2 : ratioB c d = true) : Value.agg #[.int .i64 (lowR (a * d + c * b) (b * d)).1, .int .i64 (lowR (a * d + c * b) (b * d)).2] = .agg #[.int .i64 (addR a b c d).1, .int .i64 (addR a b c d).2] := by simp [addR, h1, h2]
theorem divR_val {a b c d : Int} (h1 : ratioB a b = true) (h2 : ratioB c d = true) (h3 : (c == 0) = false) : Value.agg #[.int .i64 (lowR (a * d) (b * c)).1, .int .i64 (lowR (a * d) (b * c)).2] = .agg #[.int .i64 (divR a b c d).1, .int .i64 (divR a b c d).2] := by simp [divR, h1, h2, h3]
end Go.Proofs.Ytbaaelampabhdaa
