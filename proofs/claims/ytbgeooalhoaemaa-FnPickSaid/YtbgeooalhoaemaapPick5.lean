/-
  PLAIN LAW: Pick's formula for the polygons of the program and their multiples.
-/
import Derived.Test.YtbgeooalhoaemaapPick4
set_option linter.unusedVariables false
set_option linter.unusedSimpArgs false
namespace Go.Proofs.Ytbgeooalhoaemaa

def pX (k : Int) (ps : List (Int × Int)) (i : Nat) : Int := k * (ptP ps (i % ps.length)).1
def pY (k : Int) (ps : List (Int × Int)) (i : Nat) : Int := k * (ptP ps (i % ps.length)).2
/-- the double area, as both packages add it up -/
def arTo (ps : List (Int × Int)) (m : Nat) : Int := sumN (fun i => turnP (ptP ps 0) (ptP ps (i + 1)) (ptP ps (i + 2))) m
/-- the points of the border, side by side -/
def boTo (ps : List (Int × Int)) (m : Nat) : Int := sumN (fun i => (Int.gcd ((nxP ps i).1 - (ptP ps i).1) ((nxP ps i).2 - (ptP ps i).2) : Int)) m
theorem conv_of {ps : List (Int × Int)} (h : polyP ps = true) {k : Int} (hk : 1 ≤ k) : Conv ps.length (pX k ps) (pY k ps) := by
  obtain ⟨⟨n3, n8⟩, h2, h3⟩ := polyP_no h
  refine ⟨n3, by simp [pX], by simp [pY], fun i j hi hj h1 h4 => ?_⟩
  have hl := h3 i hi j hj
  unfold leftP at hl
  have hl := of_decide_eq_true hl
  have ht : 0 < turnP (ptP ps i) (ptP ps ((i + 1) % ps.length)) (ptP ps j) := by
    rcases hl with c | c | c
    · exact absurd c h1
    · exact absurd c h4
    · exact c
  have e : slk (pX k ps) (pY k ps) i (pX k ps j) (pY k ps j) = k * k * turnP (ptP ps i) (ptP ps ((i + 1) % ps.length)) (ptP ps j) := by
    simp only [slk, dX, dY, pX, pY, Nat.mod_eq_of_lt hi, Nat.mod_eq_of_lt hj, turnP]
    grind
  rw [e]
  exact Int.mul_pos (Int.mul_pos (by omega) (by omega)) ht
theorem pXY_bd {ps : List (Int × Int)} (h : polyP ps = true) {k : Nat} (i : Nat) : (-((10 * k : Nat) : Int) ≤ pX k ps i ∧ pX k ps i ≤ ((10 * k : Nat) : Int)) ∧ -((10 * k : Nat) : Int) ≤ pY k ps i ∧ pY k ps i ≤ ((10 * k : Nat) : Int) := by
  obtain ⟨⟨n3, n8⟩, h2, h3⟩ := polyP_no h
  have hp := pOk_true.1 (h2 (i % ps.length) (Nat.mod_lt _ (by omega)))
  unfold pX pY
  generalize (ptP ps (i % ps.length)).1 = x at *
  generalize (ptP ps (i % ps.length)).2 = y at *
  have a1 := Int.mul_le_mul_of_nonneg_left (show x ≤ 10 by omega) (show (0 : Int) ≤ k by omega)
  have a2 := Int.mul_le_mul_of_nonneg_left (show -10 ≤ x by omega) (show (0 : Int) ≤ k by omega)
  have a3 := Int.mul_le_mul_of_nonneg_left (show y ≤ 10 by omega) (show (0 : Int) ≤ k by omega)
  have a4 := Int.mul_le_mul_of_nonneg_left (show -10 ≤ y by omega) (show (0 : Int) ≤ k by omega)
  omega
theorem inTk_iff {ps : List (Int × Int)} {k x y : Int} : ∀ m, inTk ps k x y m = true ↔ ∀ i, i < m → sdX ps i * x + sdY ps i * y ≤ k * sdB ps i
  | 0 => by simp [inTk]
  | m + 1 => by
    rw [inTk, Bool.and_eq_true, inTk_iff m, decide_eq_true_eq]
    constructor
    · intro ⟨a, b⟩ i hi
      rcases Nat.lt_or_ge i m with c | c
      · exact a i c
      · have : i = m := by omega
        subst this; exact b
    · exact fun a => ⟨fun i hi => a i (by omega), a m (by omega)⟩
theorem ins_eq {ps : List (Int × Int)} {k x y : Int} (hk : 1 ≤ k) : Ins ps.length (pX k ps) (pY k ps) x y ↔ inPk ps k x y = true := by
  unfold inPk
  rw [inTk_iff]
  have e : ∀ i, i < ps.length → (dY (pY k ps) i * x ≤ sR (pX k ps) (pY k ps) i y ↔ sdX ps i * x + sdY ps i * y ≤ k * sdB ps i) := fun i hi => by
    have e1 : dY (pY k ps) i * x = k * (sdX ps i * x) := by
      simp only [dY, pY, sdX, nxP, Nat.mod_eq_of_lt hi]; grind
    have e2 : sR (pX k ps) (pY k ps) i y = k * (k * sdB ps i - sdY ps i * y) := by
      simp only [sR, dX, dY, pX, pY, sdB, sdX, sdY, nxP, Nat.mod_eq_of_lt hi]; grind
    rw [e1, e2]
    constructor
    · intro hh
      have := Int.le_of_mul_le_mul_left hh (by omega)
      omega
    · intro hh
      exact Int.mul_le_mul_of_nonneg_left (by omega) (by omega)
  unfold Ins
  exact ⟨fun hh i hi => (e i hi).1 (hh i hi), fun hh i hi => (e i hi).2 (hh i hi)⟩
theorem dil_rowC {ps : List (Int × Int)} {k : Nat} (hk : 1 ≤ k) : dilN ps k (20 * k + 1) = sumZ (rowC ps.length (pX k ps) (pY k ps) (10 * k)) (-((10 * k : Nat) : Int)) (2 * (10 * k) + 1) := by
  have e1 : (-10 * (k : Int)) = -((10 * k : Nat) : Int) := by omega
  have e2 : 20 * k + 1 = 2 * (10 * k) + 1 := by omega
  unfold dilN
  rw [sumZ_swap, e1, e2]
  refine sumZ_congr fun j _ => ?_
  unfold rowC
  refine sumZ_congr fun i _ => ?_
  congr 1
  rw [Bool.eq_iff_iff, decide_eq_true_eq]
  exact (ins_eq (by omega)).symm
def crP (a b : Int × Int) : Int := a.1 * b.2 - b.1 * a.2
theorem turn_cr (a b c : Int × Int) : turnP a b c = crP a b + crP b c + crP c a := by simp only [turnP, crP]; grind
theorem crP_anti (a b : Int × Int) : crP a b = -crP b a := by simp only [crP]; grind
theorem arTo_cr {ps : List (Int × Int)} : ∀ m, arTo ps m = sumN (fun i => crP (ptP ps i) (ptP ps (i + 1))) (m + 1) + crP (ptP ps (m + 1)) (ptP ps 0)
  | 0 => by
    have := crP_anti (ptP ps 0) (ptP ps 1)
    show (0 : Int) = 0 + crP (ptP ps 0) (ptP ps 1) + crP (ptP ps 1) (ptP ps 0)
    omega
  | m + 1 => by
    have ih := arTo_cr (ps := ps) m
    have e1 : arTo ps (m + 1) = arTo ps m + turnP (ptP ps 0) (ptP ps (m + 1)) (ptP ps (m + 2)) := rfl
    have e2 : sumN (fun i => crP (ptP ps i) (ptP ps (i + 1))) (m + 1 + 1) = sumN (fun i => crP (ptP ps i) (ptP ps (i + 1))) (m + 1) + crP (ptP ps (m + 1)) (ptP ps (m + 2)) := rfl
    have an := crP_anti (ptP ps 0) (ptP ps (m + 1))
    rw [e1, e2, turn_cr, ih, show m + 1 + 1 = m + 2 from rfl]
    omega
theorem area_cr {ps : List (Int × Int)} (h : 3 ≤ ps.length) : sumN (fun i => crP (ptP ps i) (nxP ps i)) ps.length = arTo ps (ps.length - 2) := by
  obtain ⟨m, hm⟩ : ∃ m, ps.length = m + 2 := ⟨ps.length - 2, by omega⟩
  rw [hm, show m + 2 - 2 = m by omega, arTo_cr m]
  have e : sumN (fun i => crP (ptP ps i) (nxP ps i)) (m + 2) = sumN (fun i => crP (ptP ps i) (nxP ps i)) (m + 1) + crP (ptP ps (m + 1)) (nxP ps (m + 1)) := rfl
  have e1 : nxP ps (m + 1) = ptP ps 0 := by unfold nxP; rw [hm, Nat.mod_self]
  have e2 : sumN (fun i => crP (ptP ps i) (nxP ps i)) (m + 1) = sumN (fun i => crP (ptP ps i) (ptP ps (i + 1))) (m + 1) := sumN_congr fun i hi => by
    unfold nxP
    rw [hm, Nat.mod_eq_of_lt (by omega)]
  rw [e, e1, e2]
theorem area_pos {ps : List (Int × Int)} (h : polyP ps = true) : 0 < arTo ps (ps.length - 2) := by
  obtain ⟨⟨n3, n8⟩, h2, h3⟩ := polyP_no h
  have key : ∀ m, m + 2 ≤ ps.length → (m : Int) ≤ arTo ps m := fun m => by
    induction m with
    | zero => intro _; simp [arTo, sumN]
    | succ m ih =>
      intro hm
      have h0 := ih (by omega)
      have hl := of_decide_eq_true (h3 (m + 1) (by omega) 0 (by omega))
      rw [show m + 1 + 1 = m + 2 by omega, Nat.mod_eq_of_lt (show m + 2 < ps.length by omega)] at hl
      have ht : 0 < turnP (ptP ps (m + 1)) (ptP ps (m + 2)) (ptP ps 0) := by omega
      have e : turnP (ptP ps 0) (ptP ps (m + 1)) (ptP ps (m + 2)) = turnP (ptP ps (m + 1)) (ptP ps (m + 2)) (ptP ps 0) := by simp only [turnP]; grind
      have e2 : arTo ps (m + 1) = arTo ps m + turnP (ptP ps 0) (ptP ps (m + 1)) (ptP ps (m + 2)) := rfl
      omega
  have := key (ps.length - 2) (by omega)
  omega
theorem pick_dil {ps : List (Int × Int)} (h : polyP ps = true) (k : Nat) : 2 * dilN ps k (20 * k + 1) = arTo ps (ps.length - 2) * (k : Int) * k + boTo ps ps.length * (k : Int) + 2 := by
  obtain ⟨⟨n3, n8⟩, -, -⟩ := polyP_no h
  rcases Nat.eq_zero_or_pos k with h0 | h0
  · subst h0
    have hin : inPk ps 0 0 0 = true := by
      unfold inPk
      rw [inTk_iff]
      intro i _
      simp
    have e : dilN ps ((0 : Nat) : Int) (20 * 0 + 1) = 1 := by
      simp [dilN, sumZ, hin, bit]
    rw [e]; simp
  · have hp := (conv_of h (k := (k : Int)) (by omega)).pick (K := 10 * k) (fun i _ => (pXY_bd h i).1) (fun i _ => (pXY_bd h i).2)
    rw [← dil_rowC h0] at hp
    have c1 : sumN (fun i => pX k ps i * pY k ps (i + 1) - pX k ps (i + 1) * pY k ps i) ps.length = (k : Int) * k * arTo ps (ps.length - 2) := by
      rw [← area_cr n3, ← sumN_mul]
      refine sumN_congr fun i hi => ?_
      simp only [pX, pY, Nat.mod_eq_of_lt hi, crP, nxP]
      grind
    have c2 : sumN (fun i => (Int.gcd (dX (pX k ps) i) (dY (pY k ps) i) : Int)) ps.length = (k : Int) * boTo ps ps.length := by
      unfold boTo
      rw [← sumN_mul]
      refine sumN_congr fun i hi => ?_
      have e1 : dX (pX k ps) i = (k : Int) * ((nxP ps i).1 - (ptP ps i).1) := by simp only [dX, pX, Nat.mod_eq_of_lt hi, nxP]; grind
      have e2 : dY (pY k ps) i = (k : Int) * ((nxP ps i).2 - (ptP ps i).2) := by simp only [dY, pY, Nat.mod_eq_of_lt hi, nxP]; grind
      rw [e1, e2, Int.gcd_mul_left, Int.natAbs_natCast, Int.natCast_mul]
    rw [c1, c2] at hp
    rw [hp]
    grind
end Go.Proofs.Ytbgeooalhoaemaa
