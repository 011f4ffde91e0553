/-
  PLAIN LAW: sums of floors along a side.
-/
import Derived.Test.YtbgeooalhoaemaapDil
set_option linter.unusedVariables false
set_option linter.unusedSimpArgs false
namespace Go.Proofs.Ytbgeooalhoaemaa

def sumN (f : Nat → Int) : Nat → Int
  | 0 => 0
  | n + 1 => sumN f n + f n
theorem sumN_congr {f g : Nat → Int} : ∀ {n : Nat}, (∀ i, i < n → f i = g i) → sumN f n = sumN g n
  | 0, _ => rfl
  | n + 1, h => by rw [sumN, sumN, sumN_congr fun i hi => h i (by omega), h n (by omega)]
theorem sumN_add {f g : Nat → Int} : ∀ n : Nat, sumN (fun i => f i + g i) n = sumN f n + sumN g n
  | 0 => rfl
  | n + 1 => by simp only [sumN, sumN_add n]; omega
theorem sumN_sub {f g : Nat → Int} : ∀ n : Nat, sumN (fun i => f i - g i) n = sumN f n - sumN g n
  | 0 => rfl
  | n + 1 => by simp only [sumN, sumN_sub n]; omega
theorem sumN_mul {f : Nat → Int} {c : Int} : ∀ n : Nat, sumN (fun i => c * f i) n = c * sumN f n
  | 0 => by simp [sumN]
  | n + 1 => by simp only [sumN, sumN_mul n, Int.mul_add]
theorem sumN_const {c : Int} : ∀ n : Nat, sumN (fun _ => c) n = n * c
  | 0 => by simp [sumN]
  | n + 1 => by simp only [sumN, sumN_const n]; rw [Int.natCast_succ, Int.add_mul]; omega
theorem sumN_front {f : Nat → Int} : ∀ n : Nat, sumN f (n + 1) = f 0 + sumN (fun i => f (i + 1)) n
  | 0 => by simp [sumN]
  | n + 1 => by rw [sumN, sumN_front n, sumN]; omega
theorem sumN_rev {f : Nat → Int} : ∀ n : Nat, sumN (fun i => f (n - 1 - i)) n = sumN f n
  | 0 => rfl
  | n + 1 => by
    rw [sumN_front, sumN]
    have : sumN (fun i => f (n + 1 - 1 - (i + 1))) n = sumN (fun i => f (n - 1 - i)) n := sumN_congr fun i hi => by congr 1; omega
    rw [this, sumN_rev n]
    simp only [Nat.add_sub_cancel, Nat.sub_zero]
    omega
theorem floor_pair {a : Int} {h : Int} (hh : 0 < h) : a / h + (-a) / h = (if h ∣ a then 1 else 0) - 1 := by
  rw [Int.neg_ediv, Int.sign_eq_one_of_pos hh]
  split <;> omega
theorem mult_iff {d h g j : Nat} (hg : 0 < g) (hd : g ∣ d) (hc : Nat.Coprime (d / g) h) : h * g ∣ d * j ↔ h ∣ j := by
  obtain ⟨e, rfl⟩ := hd
  rw [Nat.mul_div_cancel_left _ hg] at hc
  have e1 : g * e * j = g * (e * j) := Nat.mul_assoc _ _ _
  rw [Nat.mul_comm h g, e1, Nat.mul_dvd_mul_iff_left hg]
  constructor
  · intro hx
    exact Nat.Coprime.dvd_of_dvd_mul_left hc.symm hx
  · intro hx
    exact Nat.dvd_trans hx (Nat.dvd_mul_left _ _)
theorem mult_cnt {m : Nat} (hm : 0 < m) : ∀ n : Nat, sumN (fun j => if m ∣ j + 1 then 1 else 0) n = ((n / m : Nat) : Int)
  | 0 => by simp [sumN]
  | n + 1 => by
    rw [sumN, mult_cnt hm n, Nat.succ_div]
    split <;> omega
/-- the floors of D*j/h, from 0 to h - 1, twice -/
theorem floor_sum {D : Int} {h : Nat} (hh : 0 < h) : 2 * sumN (fun j => D * j / h) h = D * h - D - h + Int.gcd D h := by
  obtain ⟨g, hg⟩ : ∃ g, g = Nat.gcd D.natAbs h := ⟨_, rfl⟩
  have hg' : Int.gcd D h = g := by rw [hg]; rfl
  rw [hg']
  have hg0 : 0 < g := by rw [hg]; exact Nat.gcd_pos_of_pos_right _ hh
  have hgh : g ∣ h := by rw [hg]; exact Nat.gcd_dvd_right _ _
  have hgD : g ∣ D.natAbs := by rw [hg]; exact Nat.gcd_dvd_left _ _
  have hc : Nat.Coprime (D.natAbs / g) (h / g) := by
    have := Nat.coprime_div_gcd_div_gcd (m := D.natAbs) (n := h) (by rw [← hg]; exact hg0)
    rwa [← hg] at this
  obtain ⟨m, hm⟩ := hgh
  have hm0 : 0 < m := by
    rcases Nat.eq_zero_or_pos m with h0 | h0
    · rw [h0] at hm; omega
    · exact h0
  have hdm : h / g = m := by rw [hm, Nat.mul_div_cancel_left _ hg0]
  rw [hdm] at hc
  clear hg hg' hdm
  obtain ⟨n, rfl⟩ : ∃ n, h = n + 1 := ⟨h - 1, by omega⟩
  rw [sumN_front]
  have h0 : D * ((0 : Nat) : Int) / ((n + 1 : Nat) : Int) = 0 := by simp
  rw [h0, Int.zero_add]
  have hr := sumN_rev (f := fun i => D * ((i + 1 : Nat) : Int) / ((n + 1 : Nat) : Int)) n
  have hs : sumN (fun i => D * ((i + 1 : Nat) : Int) / ((n + 1 : Nat) : Int)) n + sumN (fun i => D * ((n - 1 - i + 1 : Nat) : Int) / ((n + 1 : Nat) : Int)) n = sumN (fun i => (if m ∣ i + 1 then 1 else 0) + (D - 1)) n := by
    rw [← sumN_add]
    refine sumN_congr fun i hi => ?_
    have e : D * ((n - 1 - i + 1 : Nat) : Int) = -(D * ((i + 1 : Nat) : Int)) + D * ((n + 1 : Nat) : Int) := by
      have : ((n - 1 - i + 1 : Nat) : Int) = ((n + 1 : Nat) : Int) - ((i + 1 : Nat) : Int) := by omega
      rw [this, Int.mul_sub]; omega
    rw [e, Int.add_mul_ediv_right _ _ (by omega)]
    have hp := floor_pair (a := D * ((i + 1 : Nat) : Int)) (h := ((n + 1 : Nat) : Int)) (by omega)
    have hd : (((n + 1 : Nat) : Int) ∣ D * ((i + 1 : Nat) : Int)) ↔ m ∣ i + 1 := by
      have h1 := mult_iff (d := D.natAbs) (h := m) (g := g) (j := i + 1) hg0 hgD hc
      rw [← Int.natAbs_dvd_natAbs, Int.natAbs_mul, Int.natAbs_natCast, Int.natAbs_natCast, ← h1, hm, Nat.mul_comm g m]
    simp only [hd] at hp
    omega
  rw [sumN_add, mult_cnt hm0, sumN_const] at hs
  have hq : n / m = g - 1 := by
    have e : n = m * (g - 1) + (m - 1) := by
      have : n + 1 = m * g := by rw [hm, Nat.mul_comm]
      have h2 : m * g = m * (g - 1) + m := by
        conv => lhs; rw [show g = (g - 1) + 1 by omega]
        rw [Nat.mul_add, Nat.mul_one]
      omega
    rw [e, Nat.mul_add_div hm0, Nat.div_eq_of_lt (by omega)]; omega
  rw [hq] at hs
  have e3 : D * ((n + 1 : Nat) : Int) = n * D + D := by rw [Int.natCast_succ, Int.mul_add, Int.mul_comm]; omega
  have e4 : (n : Int) * (D - 1) = n * D - n := by rw [Int.mul_sub]; omega
  rw [e4] at hs
  rw [hr] at hs
  omega
end Go.Proofs.Ytbgeooalhoaemaa
