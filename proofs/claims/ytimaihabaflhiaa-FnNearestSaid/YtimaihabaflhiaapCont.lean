/-
  PLAIN LAW of continued fractions: they are read back, their last term, the determinants of convergents.
-/
import Derived.Test.YtimaihabaflhiaapConv
set_option linter.unusedVariables false
set_option linter.unusedSimpArgs false
namespace Go.Proofs.Ytimaihabaflhiaa

theorem cP_all : ∀ {d : Nat} {n : Int}, ∃ g : Int, n = g * (cP (cfTerms n d)).1 ∧ (d : Int) = g * (cP (cfTerms n d)).2 ∧ (d = 0 ∨ 1 ≤ g) := fun {d n} => by
  by_cases h0 : d = 0
  · subst h0
    rw [cfTerms_zero]
    exact ⟨n, by simp [cP], by simp [cP], .inl rfl⟩
  · rw [cfTerms_succ h0]
    have h1 := Int.emod_lt_of_pos n (show 0 < (d : Int) by omega)
    have h2 := Int.emod_nonneg n (show (d : Int) ≠ 0 by omega)
    have h3 := Int.mul_ediv_add_emod n d
    obtain ⟨g, g1, g2, g3⟩ := cP_all (d := (n % (d : Int)).toNat) (n := d)
    have e : (((n % (d : Int)).toNat : Nat) : Int) = n % (d : Int) := Int.toNat_of_nonneg h2
    rw [e] at g2
    refine ⟨g, ?_, g1, .inr ?_⟩
    · simp only [cP]
      rw [Int.mul_add, Int.mul_left_comm, ← g1, ← g2, Int.mul_comm]; omega
    · rcases g3 with g3 | g3
      · have : n % (d : Int) = 0 := by omega
        rw [g3, cfTerms_zero] at g1
        simp [cP] at g1
        omega
      · exact g3
termination_by d => d
theorem cP_back {n d : Int} (h : ratioB n d = true) : cP (cfOf n d) = (n, d) := by
  obtain ⟨h1, h2, h3, h4, h5⟩ := ratioB_true h
  have hcf : cfOf n d = cfTerms n d.toNat := by simp [cfOf, h]
  rw [hcf]
  obtain ⟨g, g1, g2, g3⟩ := cP_all (d := d.toNat) (n := n)
  rw [Int.toNat_of_nonneg (by omega)] at g2
  have hg : g ∣ (Int.gcd n d : Int) := Int.dvd_coe_gcd ⟨_, g1⟩ ⟨_, g2⟩
  rw [h5] at hg
  have hg1 : g = 1 := by
    have h6 := Int.le_of_dvd (by omega) hg
    omega
  subst hg1
  rw [Int.one_mul] at g1 g2
  exact Prod.ext g1.symm g2.symm
theorem cf_last : ∀ {d : Nat} {n : Int}, (d : Int) < n → d ≠ 0 → ∀ h : cfTerms n d ≠ [], 2 ≤ (cfTerms n d).getLast h := fun {d n} hlt h0 h => by
  have h1 := Int.emod_lt_of_pos n (show 0 < (d : Int) by omega)
  have h2 := Int.emod_nonneg n (show (d : Int) ≠ 0 by omega)
  have h3 := Int.mul_ediv_add_emod n d
  by_cases hr : (n % (d : Int)).toNat = 0
  · have e : cfTerms n d = [n / (d : Int)] := by rw [cfTerms_succ h0, hr, cfTerms_zero]
    simp only [e, List.getLast_singleton]
    rcases Int.lt_or_le (n / (d : Int)) 2 with c | c
    · have := Int.mul_le_mul_of_nonneg_left (show n / (d : Int) ≤ 1 by omega) (show 0 ≤ (d : Int) by omega)
      omega
    · exact c
  · have e : cfTerms n d = n / (d : Int) :: cfTerms d (n % (d : Int)).toNat := cfTerms_succ h0
    have hne : cfTerms d (n % (d : Int)).toNat ≠ [] := by rw [cfTerms_succ hr]; simp
    simp only [e]
    rw [List.getLast_cons hne]
    exact cf_last (d := (n % (d : Int)).toNat) (n := d) (by omega) hr hne
termination_by d => d
theorem cf_last2 {n d : Int} (h : 1 < (cfOf n d).length) : 2 ≤ (cfOf n d).getD ((cfOf n d).length - 1) 0 := by
  cases hr : ratioB n d
  · have : cfOf n d = [] := by simp [cfOf, hr]
    rw [this] at h; simp at h
  · obtain ⟨h1, h2, h3, h4, h5⟩ := ratioB_true hr
    have hcf : cfOf n d = cfTerms n d.toNat := by simp [cfOf, hr]
    rw [hcf] at h ⊢
    have hd : d.toNat ≠ 0 := by omega
    have e : cfTerms n d.toNat = n / (d.toNat : Int) :: cfTerms d.toNat (n % (d.toNat : Int)).toNat := cfTerms_succ hd
    have h6 := Int.emod_lt_of_pos n (show 0 < (d.toNat : Int) by omega)
    have h7 := Int.emod_nonneg n (show (d.toNat : Int) ≠ 0 by omega)
    have hr0 : (n % (d.toNat : Int)).toNat ≠ 0 := by
      intro e0
      rw [e, e0, cfTerms_zero] at h
      simp at h
    have hne : cfTerms (d.toNat : Int) (n % (d.toNat : Int)).toNat ≠ [] := by rw [cfTerms_succ hr0]; simp
    have := cf_last (d := (n % (d.toNat : Int)).toNat) (n := d.toNat) (by omega) hr0 hne
    rw [e]
    simp only [List.length_cons, Nat.add_sub_cancel]
    have hl : 0 < (cfTerms (d.toNat : Int) (n % (d.toNat : Int)).toNat).length := List.length_pos_iff.2 hne
    rw [List.getLast_eq_getElem] at this
    obtain ⟨j, hj⟩ : ∃ j, (cfTerms (d.toNat : Int) (n % (d.toNat : Int)).toNat).length = j + 1 := ⟨_, (Nat.succ_pred_eq_of_pos hl).symm⟩
    rw [hj, List.getD_cons_succ]
    simp only [hj, Nat.add_sub_cancel] at this
    rw [List.getD_eq_getElem?_getD, List.getElem?_eq_getElem (by omega)]
    exact this
/-- the determinant of two convergents -/
theorem cP_det : ∀ (zs : List Int) (a : Int), (cP (zs ++ [a])).1 * (cP zs).2 - (cP zs).1 * (cP (zs ++ [a])).2 = if zs.length % 2 = 1 then 1 else -1
  | [], a => by simp [cP]
  | z :: zs, a => by
    have ih := cP_det zs a
    simp only [List.cons_append, cP, List.length_cons]
    generalize (cP (zs ++ [a])).1 = p at *
    generalize (cP (zs ++ [a])).2 = q at *
    generalize (cP zs).1 = r at *
    generalize (cP zs).2 = s at *
    have e : (z * p + q) * r - (z * r + s) * p = -(p * s - r * q) := by grind
    rw [e, ih]
    split <;> split <;> first | rfl | omega
end Go.Proofs.Ytimaihabaflhiaa
