/-
  PLAIN LAW: what making a ratio gives.
-/
import Derived.Test.YtbaaelampabhdaabRatio
set_option linter.unusedVariables false
set_option linter.unusedSimpArgs false
namespace Go.Proofs.Ytbaaelampabhdaa

theorem mk_spec {n d : Int} (h1 : 1 ≤ d) (h2 : d ≤ 400000000) (h3 : numB n = true) : ∃ k : Int, 1 ≤ k ∧ n = k * (mkR n d).1 ∧ d = k * (mkR n d).2 ∧ ratioB (mkR n d).1 (mkR n d).2 = true := by
  have hd : numB d = true := numB_true.2 (by omega)
  have h0 : d ≠ 0 := by omega
  have hg := gcd_pos_of (n := n) h0
  have hgn : (Int.gcd n d : Int) ∣ n := Int.gcd_dvd_left ..
  have hgd : (Int.gcd n d : Int) ∣ d := Int.gcd_dvd_right ..
  have e1 := Int.mul_ediv_cancel' hgn
  have e2 := Int.mul_ediv_cancel' hgd
  have hn := numB_true.1 h3
  have hr : ratioB (n / (Int.gcd n d : Int)) (d / (Int.gcd n d : Int)) = true := by
    have hq : 1 ≤ d / (Int.gcd n d : Int) := by
      rcases Int.lt_or_le 0 (d / (Int.gcd n d : Int)) with h | h
      · omega
      · have := Int.mul_le_mul_of_nonneg_left h (Int.le_of_lt hg)
        omega
    have hq2 : d / (Int.gcd n d : Int) ≤ d := by
      have := Int.mul_le_mul_of_nonneg_right (show (1 : Int) ≤ (Int.gcd n d : Int) by omega) (show 0 ≤ d / (Int.gcd n d : Int) by omega)
      omega
    have hq3 : -400000000 ≤ n / (Int.gcd n d : Int) ∧ n / (Int.gcd n d : Int) ≤ 400000000 := by
      have a1 := Int.natAbs_mul (Int.gcd n d : Int) (n / (Int.gcd n d : Int))
      rw [e1] at a1
      have a2 := Nat.mul_le_mul_right (n / (Int.gcd n d : Int)).natAbs (show 1 ≤ (Int.gcd n d : Int).natAbs by omega)
      omega
    have hc : Int.gcd (n / (Int.gcd n d : Int)) (d / (Int.gcd n d : Int)) = 1 := by
      rw [Int.gcd_ediv_gcd_ediv_gcd (by omega)]
    simp only [ratioB, Bool.and_eq_true, decide_eq_true_eq, beq_iff_eq]
    refine ⟨⟨hq, by omega, hq3.1, hq3.2⟩, by omega⟩
  have hm : mkR n d = (n / (Int.gcd n d : Int), d / (Int.gcd n d : Int)) := by
    simp only [mkR, h3, hd, lowR, redR, hr, if_neg (show ¬d < 0 by omega)]
    simp [h0]
  rw [hm]
  exact ⟨_, by omega, e1.symm, e2.symm, hr⟩
theorem mk_low {p : Int × Int} (h : ratioB p.1 p.2 = true) : mkR p.1 p.2 = p := by
  obtain ⟨h1, h2, h3, h4, h5⟩ := ratioB_true h
  have hn : numB p.1 = true := numB_true.2 ⟨h3, h4⟩
  have hd : numB p.2 = true := numB_true.2 (by omega)
  have h0 : ¬p.2 = 0 := by omega
  simp only [mkR, hn, hd, lowR, redR, h5, if_neg (show ¬p.2 < 0 by omega)]
  simp [h0, h]
end Go.Proofs.Ytbaaelampabhdaa
