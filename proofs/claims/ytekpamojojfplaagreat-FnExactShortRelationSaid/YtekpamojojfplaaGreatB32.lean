/-
  TEXTS OF THE PROOF, put together: bRat2, pAcc, pRedG, bKer, pRel2, pMinO.
-/
import Derived.Test.YtekpamojojfplaaGreatB31
import Derived.Test.YtekpamojojfplaaGreatB24
import Derived.Test.YtekpamojojfplaaGreatB20
import Derived.Test.YtekpamojojfplaaGreatB23
import Derived.Test.YtekpamojojfplaaGreatB21
import Derived.Test.YtekpamojojfplaaGreatB10
import Derived.Test.YtekpamojojfplaaGreatB26
import Derived.Test.YtekpamojojfplaaGreatB27
set_option linter.unusedVariables false
set_option linter.unusedSimpArgs false
namespace Go.Proofs.YtekpamojojfplaaGreat
open Go.RowKit
def mulR (a b c d : Int) : Int × Int := if ratioB a b && ratioB c d then lowR (a * c) (b * d) else (0, 0)
def negR (n d : Int) : Int × Int := if ratioB n d then (-n, d) else (0, 0)
def subR (a b c d : Int) : Int × Int := addR a b (negR c d).1 (negR c d).2
def cmpR (a b c d : Int) : Int := if ratioB a b && ratioB c d then (if a * d < c * b then -1 else if c * b < a * d then 1 else 0) else 2
def rndR (n d : Int) : Int := if ratioB n d then (2 * n + d) / (2 * d) else 0
theorem ratio_mul {a b c d : Int} (h1 : ratioB a b = true) (h2 : ratioB c d = true) : -160000000000000000 ≤ a * c ∧ a * c ≤ 160000000000000000 := by
  have ⟨a1, a2, a3⟩ := ratio_in h1
  have ⟨b1, b2, b3⟩ := ratio_in h2
  exact prod_in a1 b1
theorem d_mulRI (a b c d : Int) : Does Tryz.prog 194 [.agg [.int a, .int b], .agg [.int c, .int d]] [] 1 (Ret (vR (mulR a b c d)) 1) := by
 have hp := @ratio_prods a b c d
 have hq := @ratio_mul a b c d
 refine Does.intro TT Tryz.func194 rfl (by kernel_rfl) Zz Zz fun E hE => ?_
 cases h1 : ratioB a b <;> cases h2 : ratioB c d
 all_goals simp only [h1, h2, forall_const] at hp hq
 all_goals (repeat' (first | refine stx ?_ | (refine zqc (d_ratioI _ _) ?_ <;> simp only [h1, h2]) | (first | refine w_z (d_lowest _ _ (by omega) (by omega) (by omega)) Zz Zz Zz Zz Zz Zz Zz Zz ft Zz Zz ?_ | refine w_A (d_lowest _ _ (by omega) (by omega) (by omega)) Zz Zz Zz Zz Zz Zz Zz Zz ft Zz Zz ?_) | (refine stq ?_ ?_ <;> (intro hc; ((try simp at hc) <;> try contradiction))) | fail))
 all_goals refine fin_ret rfl w_3 (vR_eq ?_) rfl
 all_goals simp_all [mulR]
theorem d_mulRS (a b c d : Int) : Does Tryz.prog 182 [.agg [.int a, .int b], .agg [.int c, .int d]] [] 1 (Ret (vR (mulR a b c d)) 1) := by
 have hp := @ratio_prods a b c d
 have hq := @ratio_mul a b c d
 refine Does.intro TT Tryz.func182 rfl (by kernel_rfl) Zz Zz fun E hE => ?_
 cases h1 : ratioB a b <;> cases h2 : ratioB c d
 all_goals simp only [h1, h2, forall_const] at hp hq
 all_goals (repeat' (first | refine stx ?_ | (refine zqc (d_ratioS _ _) ?_ <;> simp only [h1, h2]) | (first | refine w_z (d_l2Make _ _ (by omega) (by omega)) Zz Zz Zz Zz Zz Zz Zz Zz ft Zz Zz ?_ | refine w_A (d_l2Make _ _ (by omega) (by omega)) Zz Zz Zz Zz Zz Zz Zz Zz ft Zz Zz ?_) | (refine stq ?_ ?_ <;> (intro hc; ((try simp at hc) <;> try contradiction))) | fail))
 all_goals refine fin_ret rfl w_3 (vR_eq ?_) rfl
 all_goals simp_all [mulR]
 all_goals try rw [if_neg (by intro e; rcases Int.mul_eq_zero.1 e with e | e <;> omega)]
theorem d_negRI (n d : Int) : Does Tryz.prog 216 [.agg [.int n, .int d]] [] 1 (Ret (vR (negR n d)) 1) := by
 refine Does.intro TT Tryz.func216 rfl (by kernel_rfl) Zz Zz fun E hE => ?_
 cases h1 : ratioB n d
 ·(repeat' (first | refine stx ?_ | (refine zqc (d_ratioI _ _) ?_ <;> simp only [h1]) | (refine stq ?_ ?_ <;> (intro hc; ((try simp at hc) <;> try contradiction))) | fail))
  all_goals refine fin_ret rfl w_3 (vR_eq (by rw [negR, h1]; rfl)) rfl
 ·have ⟨a1, a2, a3⟩ := ratio_in h1
  (repeat' (first | refine stx ?_ | (refine zqc (d_ratioI _ _) ?_ <;> simp only [h1]) | (refine stq ?_ ?_ <;> (intro hc; ((try simp at hc) <;> try contradiction))) | fail))
  all_goals refine fin_ret rfl w_3 (vR_eq (by rw [negR, h1]; rfl)) rfl
theorem d_negRS (n d : Int) : Does Tryz.prog 181 [.agg [.int n, .int d]] [] 1 (Ret (vR (negR n d)) 1) := by
 refine Does.intro TT Tryz.func181 rfl (by kernel_rfl) Zz Zz fun E hE => ?_
 cases h1 : ratioB n d
 ·(repeat' (first | refine stx ?_ | (refine zqc (d_ratioS _ _) ?_ <;> simp only [h1]) | (refine stq ?_ ?_ <;> (intro hc; ((try simp at hc) <;> try contradiction))) | fail))
  all_goals refine fin_ret rfl w_3 (vR_eq (by rw [negR, h1]; rfl)) rfl
 ·have ⟨a1, a2, a3⟩ := ratio_in h1
  (repeat' (first | refine stx ?_ | (refine zqc (d_ratioS _ _) ?_ <;> simp only [h1]) | (refine stq ?_ ?_ <;> (intro hc; ((try simp at hc) <;> try contradiction))) | fail))
  all_goals refine fin_ret rfl w_3 (vR_eq (by rw [negR, h1]; rfl)) rfl
theorem d_subRI (a b c d : Int) : Does Tryz.prog 193 [.agg [.int a, .int b], .agg [.int c, .int d]] [] 1 (Ret (vR (subR a b c d)) 1) := by
 refine Does.intro TT Tryz.func193 rfl (by kernel_rfl) Zz Zz fun E hE => ?_
 ((repeat' (first | refine stp ?_ | (refine stq ?_ ?_ <;> (intro hc; ((try simp at hc) <;> try contradiction))) | fail)) <;> try (exfalso; omega))
 refine awp_held TM [(1, _), (2, _)] sb rfl (fun ρs => ?_)
 refine zt0 ?_
 refine zt1 ?_
 refine w_u [2] kr rfl ⟨?_, trivial⟩
 first | (refine zho ?_) | refine zqb (d_negRI _ _) ?_ | refine zqb (d_addRI a b (negR c d).1 (negR c d).2) ?_
 refine w_u [3] kr rfl ⟨?_, trivial⟩
 first | (refine zho ?_) | refine zqb (d_negRI _ _) ?_ | refine zqb (d_addRI a b (negR c d).1 (negR c d).2) ?_
 refine w_u [4] kr rfl ⟨?_, trivial⟩
 first | (refine zho ?_) | refine zqb (d_negRI _ _) ?_ | refine zqb (d_addRI a b (negR c d).1 (negR c d).2) ?_
 refine w_v kr ?_
 rotate_left
 all_goals ((repeat' (first | refine stx ?_ | (refine stq ?_ ?_ <;> (intro hc; ((try simp at hc) <;> try contradiction))) | fail)) <;> try (exfalso; omega))
 all_goals refine fin_ret rfl w_3 (rfl) rfl
theorem d_cmpRI (a b c d : Int) : Does Tryz.prog 221 [.agg [.int a, .int b], .agg [.int c, .int d]] [] 1 (Ret (vI (cmpR a b c d)) 1) := by
 have hp := @ratio_prods a b c d
 refine Does.intro TT Tryz.func221 rfl (by kernel_rfl) Zz Zz fun E hE => ?_
 cases h1 : ratioB a b <;> cases h2 : ratioB c d
 all_goals simp only [h1, h2, forall_const] at hp
 all_goals ((repeat' (first | refine stx ?_ | (refine zqc (d_ratioI _ _) ?_ <;> simp only [h1, h2]) | (refine stq ?_ ?_ <;> (intro hc; ((try simp at hc) <;> try contradiction))) | fail)) <;> try (exfalso; omega))
 all_goals refine fin_ret rfl w_3 (congrArg vI (by simp only [cmpR, h1, h2]; simp; try (split <;> omega))) rfl
theorem d_cmpRS (a b c d : Int) : Does Tryz.prog 187 [.agg [.int a, .int b], .agg [.int c, .int d]] [] 1 (Ret (vI (cmpR a b c d)) 1) := by
 have hp := @ratio_prods a b c d
 refine Does.intro TT Tryz.func187 rfl (by kernel_rfl) Zz Zz fun E hE => ?_
 cases h1 : ratioB a b <;> cases h2 : ratioB c d
 all_goals simp only [h1, h2, forall_const] at hp
 all_goals ((repeat' (first | refine stx ?_ | (refine zqc (d_ratioS _ _) ?_ <;> simp only [h1, h2]) | (refine stq ?_ ?_ <;> (intro hc; ((try simp at hc) <;> try contradiction))) | fail)) <;> try (exfalso; omega))
 all_goals refine fin_ret rfl w_3 (congrArg vI (by simp only [cmpR, h1, h2]; simp; try (split <;> omega))) rfl
theorem d_rndRI (n d : Int) : Does Tryz.prog 197 [.agg [.int n, .int d]] [] 1 (Ret (vI (rndR n d)) 1) := by
 refine Does.intro TT Tryz.func197 rfl (by kernel_rfl) Zz Zz fun E hE => ?_
 cases h1 : ratioB n d
 ·((repeat' (first | refine stx ?_ | (refine zqc (d_ratioI _ _) ?_ <;> simp only [h1]) | (refine stq ?_ ?_ <;> (intro hc; ((try simp at hc) <;> try contradiction))) | fail)) <;> try (exfalso; omega))
  all_goals refine fin_ret rfl w_3 (congrArg vI (by rw [rndR, h1]; rfl)) rfl
 ·have ⟨a1, a2, a3⟩ := ratio_in h1
  ((repeat' (first | refine stx ?_ | (refine zqc (d_ratioI _ _) ?_ <;> simp only [h1]) | (first | refine w_z (d_floorI _ _ (by omega) (by omega) (by omega)) Zz Zz Zz Zz Zz Zz Zz Zz ft Zz Zz ?_ | refine w_A (d_floorI _ _ (by omega) (by omega) (by omega)) Zz Zz Zz Zz Zz Zz Zz Zz ft Zz Zz ?_) | (refine stq ?_ ?_ <;> (intro hc; ((try simp at hc) <;> try contradiction))) | fail)) <;> try (exfalso; omega))
  all_goals refine fin_ret rfl w_3 (congrArg vI (by rw [rndR, h1]; rfl)) rfl
theorem d_rndRS (n d : Int) : Does Tryz.prog 151 [.agg [.int n, .int d]] [] 1 (Ret (vI (rndR n d)) 1) := by
 refine Does.intro TT Tryz.func151 rfl (by kernel_rfl) Zz Zz fun E hE => ?_
 cases h1 : ratioB n d
 ·((repeat' (first | refine stx ?_ | (refine zqc (d_ratioS _ _) ?_ <;> simp only [h1]) | (refine stq ?_ ?_ <;> (intro hc; ((try simp at hc) <;> try contradiction))) | fail)) <;> try (exfalso; omega))
  all_goals refine fin_ret rfl w_3 (congrArg vI (by rw [rndR, h1]; rfl)) rfl
 ·have ⟨a1, a2, a3⟩ := ratio_in h1
  ((repeat' (first | refine stx ?_ | (refine zqc (d_ratioS _ _) ?_ <;> simp only [h1]) | (first | refine w_z (d_floorS _ _ (by omega) (by omega) (by omega)) Zz Zz Zz Zz Zz Zz Zz Zz ft Zz Zz ?_ | refine w_A (d_floorS _ _ (by omega) (by omega) (by omega)) Zz Zz Zz Zz Zz Zz Zz Zz ft Zz Zz ?_) | (refine stq ?_ ?_ <;> (intro hc; ((try simp at hc) <;> try contradiction))) | fail)) <;> try (exfalso; omega))
  all_goals refine fin_ret rfl w_3 (congrArg vI (by rw [rndR, h1]; rfl)) rfl
end Go.Proofs.YtekpamojojfplaaGreat
namespace Go.Proofs.YtekpamojojfplaaGreat
abbrev RP := Int × Int
def mulP (p q : RP) : RP := mulR p.1 p.2 q.1 q.2
def subP (p q : RP) : RP := subR p.1 p.2 q.1 q.2
def divP (p q : RP) : RP := divR p.1 p.2 q.1 q.2
def ratP (p : RP) : Bool := ratioB p.1 p.2
def cmpP (p q : RP) : Int := cmpR p.1 p.2 q.1 q.2
def rndP2 (p : RP) : Int := rndR p.1 p.2
def acR (x : Int) (row other s : List RP) : Nat → RP
  | 0 => (x, 1)
  | k + 1 => subP (acR x row other s k) (mulP (mulP (row.getD k (0, 0)) (other.getD k (0, 0))) (s.getD k (0, 0)))
def acRow (xs : List Int) (n i : Nat) (mu : List (List RP)) (s : List RP) : Nat → Option (List RP)
  | 0 => some []
  | j + 1 => (acRow xs n i mu s j).bind fun row => if ratP (acR (xs.getD (i * n + j) 0) row (mu.getD j []) s j) then some (row ++ [divP (acR (xs.getD (i * n + j) 0) row (mu.getD j []) s j) (s.getD j (0, 0))]) else none
def acTo (xs : List Int) (n : Nat) : Nat → Option (List (List RP) × List RP)
  | 0 => some ([], [])
  | i + 1 => (acTo xs n i).bind fun st => (acRow xs n i st.1 st.2 i).bind fun row => if ratP (acR (xs.getD (i * n + i) 0) row row st.2 i) && decide (0 < (acR (xs.getD (i * n + i) 0) row row st.2 i).1) then some (st.1 ++ [row], st.2 ++ [acR (xs.getD (i * n + i) 0) row row st.2 i]) else none
theorem acRow_len {xs : List Int} {n i : Nat} {mu : List (List RP)} {s : List RP} : ∀ {j : Nat} {row : List RP}, acRow xs n i mu s j = some row → row.length = j
  | 0, row, h => by cases h; rfl
  | j + 1, row, h => by
    rw [acRow, Option.bind_eq_some_iff] at h
    obtain ⟨r, h1, h2⟩ := h
    split at h2
    · cases h2
      rw [List.length_append, acRow_len h1]; rfl
    · cases h2
theorem acTo_len {xs : List Int} {n : Nat} : ∀ {i : Nat} {st : List (List RP) × List RP}, acTo xs n i = some st → st.1.length = i ∧ st.2.length = i ∧ ∀ p, p < i → (st.1.getD p []).length = p
  | 0, st, h => by cases h; exact ⟨rfl, rfl, fun p hp => by omega⟩
  | i + 1, st, h => by
    rw [acTo, Option.bind_eq_some_iff] at h
    obtain ⟨st0, h1, h2⟩ := h
    rw [Option.bind_eq_some_iff] at h2
    obtain ⟨row, h3, h4⟩ := h2
    split at h4
    · cases h4
      obtain ⟨e1, e2, e3⟩ := acTo_len h1
      refine ⟨by rw [List.length_append, e1]; rfl, by rw [List.length_append, e2]; rfl, fun p hp => ?_⟩
      by_cases c : p < i
      · rw [List.getD_eq_getElem?_getD, List.getElem?_append_left (by omega), ← List.getD_eq_getElem?_getD]
        exact e3 p c
      · obtain rfl : p = i := by omega
        rw [List.getD_eq_getElem?_getD, List.getElem?_append_right (by omega), e1, Nat.sub_self]
        exact acRow_len h3
    · cases h4
theorem acRow_none {xs : List Int} {n i : Nat} {mu : List (List RP)} {s : List RP} {j : Nat} (h : acRow xs n i mu s j = none) : ∀ m, acRow xs n i mu s (j + m) = none
  | 0 => h
  | m + 1 => by rw [← Nat.add_assoc, acRow, acRow_none h m]; rfl
theorem acTo_none {xs : List Int} {n i : Nat} (h : acTo xs n i = none) : ∀ m, acTo xs n (i + m) = none
  | 0 => h
  | m + 1 => by rw [← Nat.add_assoc, acTo, acTo_none h m]; rfl
def rdJ (row : List RP) : Nat → Option (Option Nat)
  | 0 => some none
  | j + 1 => if ratP (row.getD j (0, 0)) then (if rndP2 (row.getD j (0, 0)) = 0 then rdJ row j else some (some j)) else none
def ordC (mu : List (List RP)) (sq : List RP) (k : Nat) : Int := cmpP (sq.getD k (0, 0)) (mulP (subP (3, 4) (mulP ((mu.getD k []).getD (k - 1) (0, 0)) ((mu.getD k []).getD (k - 1) (0, 0)))) (sq.getD (k - 1) (0, 0)))
def redStep (n k : Nat) (s : S3) : Option (S3 × Nat) := (acTo s.1 n n).bind fun st => match rdJ (st.1.getD k []) k with
  | none => none
  | some (some j) => ((row3 n n k j (-rndP2 ((st.1.getD k []).getD j (0, 0))) s).bind fun s' => col3 n n k j (-rndP2 ((st.1.getD k []).getD j (0, 0))) s').map fun s' => (s', k)
  | some none => if ordC st.1 st.2 k = 2 then none else if ordC st.1 st.2 k = 0 ∨ ordC st.1 st.2 k = 1 then some (s, k + 1) else some (swC n n k (k - 1) (swR n n k (k - 1) s), max 1 (k - 1))
def redG (n : Nat) : Nat → S3 → Nat → Option S3
  | 0, s, k => if k < n then none else some s
  | f + 1, s, k => if k < n then (redStep n k s).bind fun x => redG n f x.1 x.2 else some s
end Go.Proofs.YtekpamojojfplaaGreat
namespace Go.Proofs.YtekpamojojfplaaGreat
def TurnS (n : Nat) (s : S3) : Prop := OK3 n n s ∧ s.2.2 = turnM s.2.1 n n
def bothO (n i j : Nat) (q : Int) (s : S3) : Option S3 := (row3 n n i j q s).bind (col3 n n i j q)
theorem turn_bad {xs : List Int} {n : Nat} (h : xs.length = n * n) : hasB (turnM xs n n) ↔ hasB xs := ⟨fun hb => by have := turnM_bad turnM_len hb; rwa [trX_tr h] at this, turnM_bad h⟩
theorem both_marks {n i j : Nat} {q : Int} {s : S3} (h : TurnS n s) (hi : i < n) (hq : q ≠ badN) :
    (bothO n i j q s = none ↔ hasB (dcX (doX s.1 n i j q) n n i j q) ∨ hasB (doX s.2.1 n i j q)) ∧ ∀ s', bothO n i j q s = some s' → s' = (dcX (doX s.1 n i j q) n n i j q, doX s.2.1 n i j q, turnM (doX s.2.1 n i j q) n n) ∧ TurnS n s' := by
  obtain ⟨ho, ht⟩ := h
  have h1 := ((Sp3.of ho).row (j := j) hi hq).col (j := j) hi hq
  have e : dcX s.2.2 n n i j q = turnM (doX s.2.1 n i j q) n n := by rw [dcX, ht, trX_tr ho.u]
  have hl : (doX s.2.1 n i j q).length = n * n := updTo_len.trans ho.u
  have hb : bothO n i j q s = ((some s).bind (row3 n n i j q)).bind (col3 n n i j q) := rfl
  rw [← hb] at h1
  dsimp only at h1
  rw [e] at h1
  constructor
  · constructor
    · intro hn
      refine Classical.byContradiction fun hc => ?_
      have := (h1.ok fun hh => hc (by
        rcases hh with a | a | a
        · exact .inl a
        · exact .inr a
        · exact .inr ((turn_bad hl).1 a))).1
      rw [hn] at this; cases this
    · intro hh
      refine h1.bad ?_
      rcases hh with a | a
      · exact .inl a
      · exact .inr (.inl a)
  · intro s' hs
    have hnb : ¬ (hasB (dcX (doX s.1 n i j q) n n i j q) ∨ hasB (doX s.2.1 n i j q) ∨ hasB (turnM (doX s.2.1 n i j q) n n)) := fun hh => by
      have := h1.bad hh
      rw [hs] at this; cases this
    obtain ⟨a1, a2⟩ := h1.ok hnb
    rw [hs] at a1
    cases a1
    exact ⟨rfl, a2, rfl⟩
theorem swap_turn {n i j : Nat} {s : S3} (h : TurnS n s) (hij : i ≠ j) : TurnS n (swC n n i j (swR n n i j s)) ∧ swC n n i j (swR n n i j s) = (turnM (swapTo (turnM (swapTo s.1 (i * n) (j * n) n) n n) (i * n) (j * n) n) n n, swapTo s.2.1 (i * n) (j * n) n, turnM (swapTo s.2.1 (i * n) (j * n) n) n n) := by
  obtain ⟨ho, ht⟩ := h
  have e : swC n n i j (swR n n i j s) = (turnM (swapTo (turnM (swapTo s.1 (i * n) (j * n) n) n n) (i * n) (j * n) n) n n, swapTo s.2.1 (i * n) (j * n) n, turnM (swapTo s.2.1 (i * n) (j * n) n) n n) := by
    rw [swC, if_neg hij, swR, if_neg hij]
    dsimp only
    rw [ht, trX_tr ho.u]
  exact ⟨⟨swC_ok (swR_ok ho), by rw [e]⟩, e⟩
theorem rnd_bd (p : RP) : -1000000000000 ≤ rndP2 p ∧ rndP2 p ≤ 1000000000000 := by
  unfold rndP2 rndR
  split
  · rename_i h
    obtain ⟨⟨a1, a2⟩, ⟨b1, b2⟩, b3⟩ := ratio_in h
    have h1 : (2 * p.1 + p.2) / (2 * p.2) ≤ 1200000000 := Int.ediv_le_of_le_mul (by omega) (by
      have := Int.mul_le_mul_of_nonneg_left (show (2 : Int) ≤ 2 * p.2 by omega) (show (0 : Int) ≤ 1200000000 by omega)
      omega)
    have h2 : -1200000000 ≤ (2 * p.1 + p.2) / (2 * p.2) := Int.le_ediv_of_mul_le (by omega) (by
      have := Int.mul_le_mul_of_nonneg_left (show (2 : Int) ≤ 2 * p.2 by omega) (show (0 : Int) ≤ 1200000000 by omega)
      omega)
    omega
  · omega
theorem rnd_num (p : RP) : numB (-rndP2 p) = true := by
  rw [numB_true]
  unfold rndP2 rndR
  split
  · rename_i h
    obtain ⟨⟨a1, a2⟩, ⟨b1, b2⟩, b3⟩ := ratio_in h
    have h1 : (2 * p.1 + p.2) / (2 * p.2) < 400000001 := Int.ediv_lt_of_lt_mul (by omega) (by omega)
    have h2 : -400000000 ≤ (2 * p.1 + p.2) / (2 * p.2) := Int.le_ediv_of_mul_le (by omega) (by omega)
    omega
  · omega
theorem redStep_turn {n k : Nat} {s s' : S3} {k' : Nat} (h : TurnS n s) (hk : 1 ≤ k ∧ k < n) (hs : redStep n k s = some (s', k')) : TurnS n s' ∧ 1 ≤ k' ∧ k' ≤ n := by
  rw [redStep, Option.bind_eq_some_iff] at hs
  obtain ⟨st, h1, h2⟩ := hs
  split at h2
  · cases h2
  · rename_i j hj
    obtain ⟨s1, h3, h4⟩ := Option.map_eq_some_iff.1 h2
    cases h4
    exact ⟨((both_marks h (i := k) hk.2 (q := -rndP2 ((st.1.getD k []).getD j (0, 0))) (by
      intro hb
      have hr : -1000000000000 ≤ rndP2 ((st.1.getD k []).getD j (0, 0)) ∧ rndP2 ((st.1.getD k []).getD j (0, 0)) ≤ 1000000000000 := rnd_bd _
      unfold badN at hb; omega)).2 _ h3).2, hk.1, by omega⟩
  · split at h2
    · cases h2
    · split at h2
      · cases h2; exact ⟨h, by omega, by omega⟩
      · cases h2; exact ⟨(swap_turn h (by omega)).1, by omega, by omega⟩
end Go.Proofs.YtekpamojojfplaaGreat
namespace Go.Proofs.YtekpamojojfplaaGreat
open Go.RowKit
def kerB (r c : Int) (xs : List Int) : Option (List Int × Nat) := if isM r c xs then kerO r.toNat c.toNat xs else none
def zerosB (r c : Int) (xs : List Int) : Option (List Int × Nat) := if isM r c xs then kerO c.toNat r.toNat (turnM xs r.toNat c.toNat) else none
def zrs (t i : Nat) : List Nat := (List.range (i - t)).map (t + ·)
theorem zrs_lo {t i : Nat} (h : i ≤ t) : zrs t i = [] := by simp [zrs, show i - t = 0 by omega]
theorem zrs_hi {t i : Nat} (h : t ≤ i) : zrs t (i + 1) = zrs t i ++ [i] := by
  unfold zrs
  rw [show i + 1 - t = (i - t) + 1 by omega, List.range_succ, List.map_append]
  simp; omega
theorem zrs_len {t i : Nat} : (zrs t i).length = i - t := by simp [zrs]
theorem zrs_lt {t i : Nat} : ∀ p ∈ zrs t i, p < i := fun p hp => by
  obtain ⟨q, hq, rfl⟩ := List.mem_map.1 hp
  rw [List.mem_range] at hq; omega
theorem pickR_zrs {xs : List Int} {r c t : Nat} (hx : xs.length = r * c) (ht : t ≤ r) : pickR xs c (zrs t r) = xs.drop (t * c) := by
  have h : ∀ n, pickR xs c ((List.range n).map (t + ·)) = (xs.drop (t * c)).take (n * c) := fun n => by
    induction n with
    | zero => simp [pickR]
    | succ n ih =>
      rw [List.range_succ, List.map_append]
      simp only [pickR, List.flatMap_append, List.map_cons, List.map_nil, List.flatMap_cons, List.flatMap_nil, List.append_nil] at ih ⊢
      rw [ih, Nat.succ_mul, List.take_add, List.drop_drop, Nat.add_mul]
  unfold zrs
  rw [h, List.take_of_length_le]
  rw [List.length_drop, hx, Nat.sub_mul]; exact Nat.le_refl _
def SplitZ (ti : TypeId) (t a : Nat) (v : AV) (Hout : List (Nat × Blk)) (n1 : Nat) : Prop := ∃ (c1 c2 : Nat), a - t ≤ c2 ∧ v = .tup [.one (.sl 2 1 0 t c1), .one (.sl 3 1 0 (a - t) c2)] ∧ Hout = [(2, .own ti c1 (.ints (natsI (List.range t)))), (3, .own ti c2 (.ints (natsI (zrs t a))))] ∧ n1 = 4
set_option maxHeartbeats 2000000 in
theorem d_splitZ (a b t n ca : Nat) (xs : List Int) (hn : n = xs.length) (hx : xs.length = a * b) (hca : xs.length ≤ ca) (ha : a ≤ 24) (hb : b ≤ 24) (hs : Split a b t xs) : Does Tryz.prog 120 [vM a b 1 n ca] [(1, .ro (.ints xs))] 2 (SplitZ 3 t a) := by
 subst hn
 refine Does.intro TT Tryz.func120 rfl (by kernel_rfl) Zz Zz fun E hE => ?_
 have hta := hs.le
 have hab : a * b ≤ 24 * 24 := Nat.mul_le_mul ha hb
 ((repeat' (first | refine stx ?_ | (refine stq ?_ ?_ <;> (intro hc; ((try simp at hc) <;> try contradiction))) | fail)) <;> try (exfalso; omega))
 refine w_G hE (fun x : Nat × Nat × Nat => x.1 ≤ a ∧ min x.1 t ≤ x.2.1 ∧ x.1 - t ≤ x.2.2) (fun x => a - x.1)
  (fun x => [(1, .one (.ptr 4 3 0 0)), (4, vS 2 1 0 (min x.1 t) x.2.1), (5, vS 3 1 0 (x.1 - t) x.2.2), (6, vI x.1)]) (fun x => [(1, .ro (.ints xs)), (2, .own 3 x.2.1 (.ints (natsI (List.range (min x.1 t))))), (3, .own 3 x.2.2 (.ints (natsI (zrs t x.1)))), (4, .own 26 1 (.lit [.int a, .int b, .sl 1 1 0 xs.length ca]))]) 5 [(2, 3), (3, 4), (4, 2)] (0, 0, 0) ⟨Nat.zero_le _, by simp, by simp⟩ ⟨⟨rfl, sl_eqA (by simp), sl_eqA (by simp), rfl, trivial⟩, ⟨rfl, own_ints (by simp [natsI]), own_ints (by simp [natsI, zrs]), rfl, trivial⟩, rfl⟩ ?_
 rintro ⟨i, c1, c2⟩ ⟨hi, h1, h2⟩
 dsimp only at hi h1 h2 ⊢
 have hnl : (natsI (List.range (min i t))).length = min i t := by rw [natsI_len, List.length_range]
 have hzl : (natsI (zrs t i)).length = i - t := by rw [natsI_len, zrs_len]
 by_cases hia : i < a
 ·have hin := row_in (c := b) hia
  have hz := fun c => d_zeroO xs (i * b) b c (by omega) (by omega)
  rw [hs.zo hia] at hz
  by_cases hti : t ≤ i
  ·have e1 : min i t = t := by omega
   have e2 : min (i + 1) t = t := by omega
   have e3 : natsI (zrs t (i + 1)) = natsI (zrs t i) ++ [(i : Int)] := by rw [zrs_hi hti]; simp [natsI]
   rw [decide_eq_true hti] at hz
   rw [e1] at hnl h1
   rw [e1]
   ((repeat' (first | refine stx ?_ | ((refine zqe (d_rowAt a b i xs.length ca xs rfl hx hca ha hb hia) ?_); rintro v Hout n1 ⟨cp, rfl, rfl, rfl⟩) | refine zqc (hz _) ?_ | (refine zqx ?_; intro cap hcap) | (refine stq ?_ ?_ <;> (intro hc; ((try simp at hc) <;> try contradiction))) | fail)) <;> try (exfalso; omega))
   refine ⟨[(3, 6)], (i + 1, c1, cap), ⟨hia, by dsimp only; omega, by dsimp only at hcap ⊢; omega⟩, w_4, ⟨⟨rfl, sl_eqA (by dsimp only; omega), sl_eqA (by dsimp only; omega), congrArg some (congrArg vI (by dsimp only; omega)), trivial⟩, ⟨rfl, own_ints (by dsimp only; rw [e2]), own_ints (by dsimp only; rw [e3]; rfl), rfl, trivial⟩, rfl⟩⟩
  ·have e1 : min i t = i := by omega
   have e2 : min (i + 1) t = i + 1 := by omega
   have e3 : zrs t i = [] := zrs_lo (by omega)
   have e4 : zrs t (i + 1) = [] := zrs_lo (by omega)
   rw [decide_eq_false hti] at hz
   rw [e1] at hnl h1
   rw [e1]
   ((repeat' (first | refine stx ?_ | ((refine zqe (d_rowAt a b i xs.length ca xs rfl hx hca ha hb hia) ?_); rintro v Hout n1 ⟨cp, rfl, rfl, rfl⟩) | refine zqc (hz _) ?_ | (refine zqx ?_; intro cap hcap) | (refine stq ?_ ?_ <;> (intro hc; ((try simp at hc) <;> try contradiction))) | fail)) <;> try (exfalso; omega))
   refine ⟨[(2, 6)], (i + 1, cap, c2), ⟨hia, by dsimp only at hcap ⊢; omega, by dsimp only; omega⟩, w_4, ⟨⟨rfl, sl_eqA (by dsimp only; omega), sl_eqA (by dsimp only; omega), congrArg some (congrArg vI (by dsimp only; omega)), trivial⟩, ⟨rfl, own_ints (by dsimp only; rw [e2, natsI_snoc]; rfl), own_ints (by dsimp only; rw [e3, e4]), rfl, trivial⟩, rfl⟩⟩
 ·obtain rfl : i = a := by omega
  have e1 : min i t = t := by omega
  rw [e1] at h1
  rw [e1]
  ((repeat' (first | refine stx ?_ | (refine stq ?_ ?_ <;> (intro hc; ((try simp at hc) <;> try contradiction))) | fail)) <;> try (exfalso; omega))
  exact fin rfl w_3 [] (.tup [.one (.sl 2 1 0 t c1), .one (.sl 3 1 0 (i - t) c2)]) [(2, .own 3 c1 (.ints (natsI (List.range t)))), (3, .own 3 c2 (.ints (natsI (zrs t i))))] 4 ⟨c1, c2, h2, rfl, rfl, rfl⟩ rfl ⟨trivial, ⟨rfl, rfl, trivial⟩, rfl⟩ rfl
set_option maxHeartbeats 4000000 in
theorem d_kerI (r c : Int) (xs : List Int) (ca : Nat) (hl : xs.length ≤ 1099511627776) : Does Tryz.prog 69 [vM r c 1 xs.length ca] [(1, .ro (.ints xs))] 2 (BasR 3 r (kerB r c xs) 2) := by
 refine Does.intro TT Tryz.func69 rfl (by kernel_rfl) Zz Zz fun E hE => ?_
 have hh := d_hermI r c xs ca hl
 cases hm : isM r c xs
 ·have hR : kerB r c xs = none := by simp [kerB, hm]
  have hR2 : hermO r c xs = none := by simp [hermO, hm]
  rw [hR]
  rw [hR2] at hh
  ((repeat' (first | refine stx ?_ | ((refine zqe (hh) ?_); rintro v Hout n1 ⟨rfl, rfl, rfl⟩) | (refine stq ?_ ?_ <;> (intro hc; ((try simp at hc) <;> try contradiction))) | fail)) <;> try (exfalso; omega))
  all_goals exact fin rfl w_3 [] (.tup [.agg zeroM, .one (.bool false)]) [] 2 ⟨rfl, rfl, rfl⟩ rfl ⟨trivial, trivial, rfl⟩ rfl
 ·obtain ⟨a, b, rfl, rfl, ha, hb, hx, hnum⟩ := isM_dimsH hm
  have hR2 : hermO a b xs = (hTo a b (xs, idTo a a) b).map (·.1) := by simp [hermO, hm]
  have o0 : OKs a b (xs, idTo a a) := ⟨hx, idTo_len, hnum, id_num⟩
  rw [hR2] at hh
  cases hT : hTo a b (xs, idTo a a) b with
  | none =>
   have hR : kerB a b xs = none := by simp [kerB, hm, kerO, hT]
   rw [hR]
   rw [hT] at hh
   dsimp only [Option.map_none] at hh ⊢
   ((repeat' (first | refine stx ?_ | ((refine zqe (hh) ?_); rintro v Hout n1 ⟨rfl, rfl, rfl⟩) | (refine stq ?_ ?_ <;> (intro hc; ((try simp at hc) <;> try contradiction))) | fail)) <;> try (exfalso; omega))
   all_goals exact fin rfl w_3 [] (.tup [.agg zeroM, .one (.bool false)]) [] 2 ⟨rfl, rfl, rfl⟩ rfl ⟨trivial, trivial, rfl⟩ rfl
  | some st =>
   obtain ⟨s, t⟩ := st
   have hR : kerB a b xs = basO ((a - t : Nat) : Int) (a : Int) (s.2.drop (t * a)) := by simp [kerB, hm, kerO, hT]
   rw [hR]
   rw [hT] at hh
   dsimp only [Option.map_some] at hh ⊢
   obtain ⟨o1, o2, o3⟩ := hTo_ok o0 hT
   obtain ⟨pv, hsh⟩ := hTo_shape o0 (Nat.le_refl _) hT
   have hsp := hsh.split o2
   dsimp only at o1 o2 hsp
   have l1 : s.1.length = a * b := o1.1
   have l2 : s.2.length = a * a := o1.2.1
   have hab : a * b ≤ 24 * 24 := Nat.mul_le_mul ha hb
   have haa : a * a ≤ 24 * 24 := Nat.mul_le_mul ha ha
   have hdl : (s.2.drop (t * a)).length ≤ 576 := by rw [List.length_drop, l2]; omega
   have hspl := fun cx h => d_splitZ a b t s.1.length cx s.1 rfl l1 h ha hb hsp
   have htk := fun cx cp h => d_takeRows a a s.2 (zrs t a) cx cp s.2.length (a - t) rfl zrs_len.symm l2 h ha ha zrs_lt (by rw [zrs_len]; omega)
   rw [pickR_zrs l2 o2, zrs_len] at htk
   have hbs := fun cx => d_basI ((a - t : Nat) : Int) (a : Int) (s.2.drop (t * a)) cx (by omega)
   cases hB : basO ((a - t : Nat) : Int) (a : Int) (s.2.drop (t * a)) with
   | none =>
    rw [hB] at hbs
    ((repeat' (first | refine stx ?_ | ((refine zqe (hh) ?_); rintro v Hout n1 ⟨cx, cu, hcx, hcu, rfl, rfl, rfl⟩) | ((refine zqe (hspl _ hcx) ?_); rintro v Hout n1 ⟨e1, e2, he1, rfl, rfl, rfl⟩) | ((refine zqe (htk _ _ hcu) ?_); rintro v Hout n1 ⟨cap, hcap, rfl, rfl, rfl⟩) | ((refine zqe (hbs _) ?_); rintro v Hout n1 ⟨rfl, rfl, rfl⟩) | (refine stq ?_ ?_ <;> (intro hc; ((try simp at hc) <;> try contradiction))) | fail)) <;> try (exfalso; omega))
    exact fin rfl w_3 [] (.tup [.agg zeroM, .one (.bool false)]) [] 2 ⟨rfl, rfl, rfl⟩ rfl ⟨trivial, trivial, rfl⟩ rfl
   | some y =>
    rw [hB] at hbs
    ((repeat' (first | refine stx ?_ | ((refine zqe (hh) ?_); rintro v Hout n1 ⟨cx, cu, hcx, hcu, rfl, rfl, rfl⟩) | ((refine zqe (hspl _ hcx) ?_); rintro v Hout n1 ⟨e1, e2, he1, rfl, rfl, rfl⟩) | ((refine zqe (htk _ _ hcu) ?_); rintro v Hout n1 ⟨cap, hcap, rfl, rfl, rfl⟩) | ((refine zqe (hbs _) ?_); rintro v Hout n1 ⟨cap2, hcap2, rfl, rfl, rfl⟩) | (refine stq ?_ ?_ <;> (intro hc; ((try simp at hc) <;> try contradiction))) | fail)) <;> try (exfalso; omega))
    exact fin rfl w_3 [(2, 11)] (.tup [.agg [.int y.2, .int a, .sl 2 1 0 y.1.length cap2], .one (.bool true)]) [(2, .own 3 cap2 (.ints y.1))] 3 ⟨cap2, hcap2, rfl, rfl, rfl⟩ rfl ⟨trivial, ⟨rfl, trivial⟩, rfl⟩ rfl
set_option maxHeartbeats 4000000 in
theorem d_kerS (r c : Int) (xs : List Int) (ca : Nat) (hl : xs.length ≤ 1099511627776) : Does Tryz.prog 66 [vM r c 1 xs.length ca] [(1, .ro (.ints xs))] 2 (BasR 3 r (kerB r c xs) 2) := by
 refine Does.intro TT Tryz.func66 rfl (by kernel_rfl) Zz Zz fun E hE => ?_
 have hh := d_hermS r c xs ca hl
 cases hm : isM r c xs
 ·have hR : kerB r c xs = none := by simp [kerB, hm]
  have hR2 : hermO r c xs = none := by simp [hermO, hm]
  rw [hR]
  rw [hR2] at hh
  ((repeat' (first | refine stx ?_ | ((refine zqe (hh) ?_); rintro v Hout n1 ⟨rfl, rfl, rfl⟩) | (refine stq ?_ ?_ <;> (intro hc; ((try simp at hc) <;> try contradiction))) | fail)) <;> try (exfalso; omega))
  all_goals exact fin rfl w_3 [] (.tup [.agg zeroM, .one (.bool false)]) [] 2 ⟨rfl, rfl, rfl⟩ rfl ⟨trivial, trivial, rfl⟩ rfl
 ·obtain ⟨a, b, rfl, rfl, ha, hb, hx, hnum⟩ := isM_dimsH hm
  have hR2 : hermO a b xs = (hTo a b (xs, idTo a a) b).map (·.1) := by simp [hermO, hm]
  have o0 : OKs a b (xs, idTo a a) := ⟨hx, idTo_len, hnum, id_num⟩
  rw [hR2] at hh
  cases hT : hTo a b (xs, idTo a a) b with
  | none =>
   have hR : kerB a b xs = none := by simp [kerB, hm, kerO, hT]
   rw [hR]
   rw [hT] at hh
   dsimp only [Option.map_none] at hh ⊢
   ((repeat' (first | refine stx ?_ | ((refine zqe (hh) ?_); rintro v Hout n1 ⟨rfl, rfl, rfl⟩) | (refine stq ?_ ?_ <;> (intro hc; ((try simp at hc) <;> try contradiction))) | fail)) <;> try (exfalso; omega))
   all_goals exact fin rfl w_3 [] (.tup [.agg zeroM, .one (.bool false)]) [] 2 ⟨rfl, rfl, rfl⟩ rfl ⟨trivial, trivial, rfl⟩ rfl
  | some st =>
   obtain ⟨s, t⟩ := st
   have hR : kerB a b xs = basO ((a - t : Nat) : Int) (a : Int) (s.2.drop (t * a)) := by simp [kerB, hm, kerO, hT]
   rw [hR]
   rw [hT] at hh
   dsimp only [Option.map_some] at hh ⊢
   obtain ⟨o1, o2, o3⟩ := hTo_ok o0 hT
   obtain ⟨pv, hsh⟩ := hTo_shape o0 (Nat.le_refl _) hT
   have hsp := hsh.split o2
   dsimp only at o1 o2 hsp
   have l1 : s.1.length = a * b := o1.1
   have l2 : s.2.length = a * a := o1.2.1
   have hab : a * b ≤ 24 * 24 := Nat.mul_le_mul ha hb
   have haa : a * a ≤ 24 * 24 := Nat.mul_le_mul ha ha
   have hta : t * a ≤ a * a := Nat.mul_le_mul_right _ o2
   have hdl : (s.2.drop (t * a)).length = s.2.length - t * a := List.length_drop
   have hr := fun cx => d_l12Rows a b t s.1.length cx s.1 rfl l1 ha hb hsp
   have e0 : ((a - t : Nat) : Int) = (a : Int) - t := by omega
   have e1 : (t : Int) * a = ((t * a : Nat) : Int) := by simp
   have hnt : ((t : Int) * a).toNat = t * a := by omega
   have hbd : 0 ≤ (t : Int) * a ∧ (t : Int) * a ≤ s.2.length := by omega
   ((repeat' (first | refine stp ?_ | ((refine zqe (hh) ?_); rintro v Hout n1 ⟨cx, cu, hcx, hcu, rfl, rfl, rfl⟩) | refine zqc (hr _) ?_ | (refine stq ?_ ?_ <;> (intro hc; ((try simp at hc) <;> try contradiction))) | fail)) <;> try (exfalso; omega))
   have hof : slOff 0 ((t : Int) * a).toNat cu + (s.2.length - ((t : Int) * a).toNat) ≤ s.2.length := by
    unfold slOff; split <;> omega
   have hLe : ([] : List Int) ++ (s.2.drop (slOff 0 ((t : Int) * a).toNat cu)).take (s.2.length - ((t : Int) * a).toNat) = s.2.drop (t * a) := by
    rw [List.nil_append]
    unfold slOff
    split
    ·rw [show s.2.length - ((t : Int) * a).toNat = 0 by omega, List.take_zero, List.drop_of_length_le (by omega)]
    ·rw [Nat.zero_add, hnt, List.take_of_length_le (by rw [List.length_drop]; exact Nat.le_refl _)]
   have hbs := fun cx => d_basS ((a : Int) - t) (a : Int) (([] : List Int) ++ (s.2.drop (slOff 0 ((t : Int) * a).toNat cu)).take (s.2.length - ((t : Int) * a).toNat)) cx (by rw [hLe, hdl]; omega)
   have hLl : (([] : List Int) ++ (s.2.drop (slOff 0 ((t : Int) * a).toNat cu)).take (s.2.length - ((t : Int) * a).toNat)).length = 0 + (s.2.length - ((t : Int) * a).toNat) := by rw [hLe, hdl, hnt]; omega
   rw [hLl] at hbs
   have hB0 : basO ((a : Int) - t) (a : Int) (([] : List Int) ++ (s.2.drop (slOff 0 ((t : Int) * a).toNat cu)).take (s.2.length - ((t : Int) * a).toNat)) = basO ((a - t : Nat) : Int) (a : Int) (s.2.drop (t * a)) := by rw [hLe, e0]
   rw [hB0] at hbs
   cases hB : basO ((a - t : Nat) : Int) (a : Int) (s.2.drop (t * a)) with
   | none =>
    rw [hB] at hbs
    refine awp_held TM [(2, _), (7, _)] sb rfl (fun ρs => ?_)
    refine zt0 ?_
    refine zt1 ?_
    refine zt2 ?_
    refine zt3 ?_
    refine zt4 ?_
    refine zt5 ?_
    refine zt7 ?_
    refine zt8 ?_
    refine zt9 ?_
    refine zt10 ?_
    refine zt11 ?_
    refine zt12 ?_
    refine zt13 ?_
    refine w_u [6, 20] kr rfl ⟨?_, ?_, trivial⟩
    first | (refine zho ?_) | (refine zqy ?_; intro cap hcap) | (refine zqf (hbs _) ?_; rintro v Hout n1 ⟨rfl, rfl, rfl⟩; refine ⟨sb, ?_⟩)
    refine w_u [14, 20] kr rfl ⟨?_, ?_, trivial⟩
    first | (refine zho ?_) | (refine zqy ?_; intro cap hcap) | (refine zqf (hbs _) ?_; rintro v Hout n1 ⟨rfl, rfl, rfl⟩; refine ⟨sb, ?_⟩)
    refine zt15 ?_
    refine w_u [16, 20] kr rfl ⟨?_, ?_, trivial⟩
    first | (refine zho ?_) | (refine zqy ?_; intro cap hcap) | (refine zqf (hbs _) ?_; rintro v Hout n1 ⟨rfl, rfl, rfl⟩; refine ⟨sb, ?_⟩)
    refine zt17 ?_
    refine zt18 ?_
    refine zt19 ?_
    refine w_u [20] kr rfl ⟨?_, trivial⟩
    first | (refine zho ?_) | (refine zqy ?_; intro cap hcap) | (refine zqf (hbs _) ?_; rintro v Hout n1 ⟨rfl, rfl, rfl⟩; refine ⟨sb, ?_⟩)
    refine w_u [21] kr rfl ⟨?_, trivial⟩
    first | (refine zho ?_) | (refine zqy ?_; intro cap hcap) | (refine zqf (hbs _) ?_; rintro v Hout n1 ⟨rfl, rfl, rfl⟩; refine ⟨sb, ?_⟩)
    refine zt22 ?_
    refine w_v kr ?_
    rotate_left
    first | (refine zho ?_) | (refine zqy ?_; intro cap hcap) | (refine zqf (hbs _) ?_; rintro v Hout n1 ⟨rfl, rfl, rfl⟩; refine ⟨sb, ?_⟩)
    refine w_u [16] kr rfl ⟨?_, trivial⟩
    first | (refine zho ?_) | (refine zqy ?_; intro cap hcap) | (refine zqf (hbs _) ?_; rintro v Hout n1 ⟨rfl, rfl, rfl⟩; refine ⟨sb, ?_⟩)
    refine zt17 ?_
    refine zt18 ?_
    refine zt19 ?_
    refine w_u [21] kr rfl ⟨?_, trivial⟩
    first | (refine zho ?_) | (refine zqy ?_; intro cap hcap) | (refine zqf (hbs _) ?_; rintro v Hout n1 ⟨rfl, rfl, rfl⟩; refine ⟨sb, ?_⟩)
    refine zt22 ?_
    refine w_v kr ?_
    rotate_left
    first | (refine zho ?_) | (refine zqy ?_; intro cap hcap) | (refine zqf (hbs _) ?_; rintro v Hout n1 ⟨rfl, rfl, rfl⟩; refine ⟨sb, ?_⟩)
    refine w_u [14] kr rfl ⟨?_, trivial⟩
    first | (refine zho ?_) | (refine zqy ?_; intro cap hcap) | (refine zqf (hbs _) ?_; rintro v Hout n1 ⟨rfl, rfl, rfl⟩; refine ⟨sb, ?_⟩)
    refine zt15 ?_
    refine w_u [16] kr rfl ⟨?_, trivial⟩
    first | (refine zho ?_) | (refine zqy ?_; intro cap hcap) | (refine zqf (hbs _) ?_; rintro v Hout n1 ⟨rfl, rfl, rfl⟩; refine ⟨sb, ?_⟩)
    refine zt17 ?_
    refine zt18 ?_
    refine zt19 ?_
    refine w_u [21] kr rfl ⟨?_, trivial⟩
    first | (refine zho ?_) | (refine zqy ?_; intro cap hcap) | (refine zqf (hbs _) ?_; rintro v Hout n1 ⟨rfl, rfl, rfl⟩; refine ⟨sb, ?_⟩)
    refine zt22 ?_
    refine w_v kr ?_
    rotate_left
    first | (refine zho ?_) | (refine zqy ?_; intro cap hcap) | (refine zqf (hbs _) ?_; rintro v Hout n1 ⟨rfl, rfl, rfl⟩; refine ⟨sb, ?_⟩)
    refine w_u [6] kr rfl ⟨?_, trivial⟩
    first | (refine zho ?_) | (refine zqy ?_; intro cap hcap) | (refine zqf (hbs _) ?_; rintro v Hout n1 ⟨rfl, rfl, rfl⟩; refine ⟨sb, ?_⟩)
    refine w_u [14] kr rfl ⟨?_, trivial⟩
    first | (refine zho ?_) | (refine zqy ?_; intro cap hcap) | (refine zqf (hbs _) ?_; rintro v Hout n1 ⟨rfl, rfl, rfl⟩; refine ⟨sb, ?_⟩)
    refine zt15 ?_
    refine w_u [16] kr rfl ⟨?_, trivial⟩
    first | (refine zho ?_) | (refine zqy ?_; intro cap hcap) | (refine zqf (hbs _) ?_; rintro v Hout n1 ⟨rfl, rfl, rfl⟩; refine ⟨sb, ?_⟩)
    refine zt17 ?_
    refine zt18 ?_
    refine zt19 ?_
    refine w_u [21] kr rfl ⟨?_, trivial⟩
    first | (refine zho ?_) | (refine zqy ?_; intro cap hcap) | (refine zqf (hbs _) ?_; rintro v Hout n1 ⟨rfl, rfl, rfl⟩; refine ⟨sb, ?_⟩)
    refine zt22 ?_
    refine w_v kr ?_
    rotate_left
    all_goals ((repeat' (first | refine stx ?_ | (refine stq ?_ ?_ <;> (intro hc; ((try simp at hc) <;> try contradiction))) | fail)) <;> try (exfalso; omega))
    all_goals exact fin rfl w_3 [] (.tup [.agg zeroM, .one (.bool false)]) [] 2 ⟨rfl, rfl, rfl⟩ rfl ⟨trivial, trivial, rfl⟩ rfl
   | some y =>
    rw [hB] at hbs
    refine awp_held TM [(2, _), (7, _)] sb rfl (fun ρs => ?_)
    refine zt0 ?_
    refine zt1 ?_
    refine zt2 ?_
    refine zt3 ?_
    refine zt4 ?_
    refine zt5 ?_
    refine zt7 ?_
    refine zt8 ?_
    refine zt9 ?_
    refine zt10 ?_
    refine zt11 ?_
    refine zt12 ?_
    refine zt13 ?_
    refine w_u [6, 20] kr rfl ⟨?_, ?_, trivial⟩
    first | (refine zho ?_) | (refine zqy ?_; intro cap hcap) | (refine zqf (hbs _) ?_; rintro v Hout n1 ⟨cap2, hcap2, rfl, rfl, rfl⟩; refine ⟨sb, ?_⟩)
    refine w_u [14, 20] kr rfl ⟨?_, ?_, trivial⟩
    first | (refine zho ?_) | (refine zqy ?_; intro cap hcap) | (refine zqf (hbs _) ?_; rintro v Hout n1 ⟨cap2, hcap2, rfl, rfl, rfl⟩; refine ⟨sb, ?_⟩)
    refine zt15 ?_
    refine w_u [16, 20] kr rfl ⟨?_, ?_, trivial⟩
    first | (refine zho ?_) | (refine zqy ?_; intro cap hcap) | (refine zqf (hbs _) ?_; rintro v Hout n1 ⟨cap2, hcap2, rfl, rfl, rfl⟩; refine ⟨sb, ?_⟩)
    refine zt17 ?_
    refine zt18 ?_
    refine zt19 ?_
    refine w_u [20] kr rfl ⟨?_, trivial⟩
    first | (refine zho ?_) | (refine zqy ?_; intro cap hcap) | (refine zqf (hbs _) ?_; rintro v Hout n1 ⟨cap2, hcap2, rfl, rfl, rfl⟩; refine ⟨sb, ?_⟩)
    refine w_u [21] kr rfl ⟨?_, trivial⟩
    first | (refine zho ?_) | (refine zqy ?_; intro cap hcap) | (refine zqf (hbs _) ?_; rintro v Hout n1 ⟨cap2, hcap2, rfl, rfl, rfl⟩; refine ⟨sb, ?_⟩)
    refine zt22 ?_
    refine w_v kr ?_
    rotate_left
    first | (refine zho ?_) | (refine zqy ?_; intro cap hcap) | (refine zqf (hbs _) ?_; rintro v Hout n1 ⟨cap2, hcap2, rfl, rfl, rfl⟩; refine ⟨sb, ?_⟩)
    refine w_u [16] kr rfl ⟨?_, trivial⟩
    first | (refine zho ?_) | (refine zqy ?_; intro cap hcap) | (refine zqf (hbs _) ?_; rintro v Hout n1 ⟨cap2, hcap2, rfl, rfl, rfl⟩; refine ⟨sb, ?_⟩)
    refine zt17 ?_
    refine zt18 ?_
    refine zt19 ?_
    refine w_u [21] kr rfl ⟨?_, trivial⟩
    first | (refine zho ?_) | (refine zqy ?_; intro cap hcap) | (refine zqf (hbs _) ?_; rintro v Hout n1 ⟨cap2, hcap2, rfl, rfl, rfl⟩; refine ⟨sb, ?_⟩)
    refine zt22 ?_
    refine w_v kr ?_
    rotate_left
    first | (refine zho ?_) | (refine zqy ?_; intro cap hcap) | (refine zqf (hbs _) ?_; rintro v Hout n1 ⟨cap2, hcap2, rfl, rfl, rfl⟩; refine ⟨sb, ?_⟩)
    refine w_u [14] kr rfl ⟨?_, trivial⟩
    first | (refine zho ?_) | (refine zqy ?_; intro cap hcap) | (refine zqf (hbs _) ?_; rintro v Hout n1 ⟨cap2, hcap2, rfl, rfl, rfl⟩; refine ⟨sb, ?_⟩)
    refine zt15 ?_
    refine w_u [16] kr rfl ⟨?_, trivial⟩
    first | (refine zho ?_) | (refine zqy ?_; intro cap hcap) | (refine zqf (hbs _) ?_; rintro v Hout n1 ⟨cap2, hcap2, rfl, rfl, rfl⟩; refine ⟨sb, ?_⟩)
    refine zt17 ?_
    refine zt18 ?_
    refine zt19 ?_
    refine w_u [21] kr rfl ⟨?_, trivial⟩
    first | (refine zho ?_) | (refine zqy ?_; intro cap hcap) | (refine zqf (hbs _) ?_; rintro v Hout n1 ⟨cap2, hcap2, rfl, rfl, rfl⟩; refine ⟨sb, ?_⟩)
    refine zt22 ?_
    refine w_v kr ?_
    rotate_left
    first | (refine zho ?_) | (refine zqy ?_; intro cap hcap) | (refine zqf (hbs _) ?_; rintro v Hout n1 ⟨cap2, hcap2, rfl, rfl, rfl⟩; refine ⟨sb, ?_⟩)
    refine w_u [6] kr rfl ⟨?_, trivial⟩
    first | (refine zho ?_) | (refine zqy ?_; intro cap hcap) | (refine zqf (hbs _) ?_; rintro v Hout n1 ⟨cap2, hcap2, rfl, rfl, rfl⟩; refine ⟨sb, ?_⟩)
    refine w_u [14] kr rfl ⟨?_, trivial⟩
    first | (refine zho ?_) | (refine zqy ?_; intro cap hcap) | (refine zqf (hbs _) ?_; rintro v Hout n1 ⟨cap2, hcap2, rfl, rfl, rfl⟩; refine ⟨sb, ?_⟩)
    refine zt15 ?_
    refine w_u [16] kr rfl ⟨?_, trivial⟩
    first | (refine zho ?_) | (refine zqy ?_; intro cap hcap) | (refine zqf (hbs _) ?_; rintro v Hout n1 ⟨cap2, hcap2, rfl, rfl, rfl⟩; refine ⟨sb, ?_⟩)
    refine zt17 ?_
    refine zt18 ?_
    refine zt19 ?_
    refine w_u [21] kr rfl ⟨?_, trivial⟩
    first | (refine zho ?_) | (refine zqy ?_; intro cap hcap) | (refine zqf (hbs _) ?_; rintro v Hout n1 ⟨cap2, hcap2, rfl, rfl, rfl⟩; refine ⟨sb, ?_⟩)
    refine zt22 ?_
    refine w_v kr ?_
    rotate_left
    all_goals ((repeat' (first | refine stx ?_ | (refine stq ?_ ?_ <;> (intro hc; ((try simp at hc) <;> try contradiction))) | fail)) <;> try (exfalso; omega))
    all_goals first | exact fin rfl w_3 [(2, 10)] (.tup [.agg [.int y.2, .int a, .sl 2 1 0 y.1.length cap2], .one (.bool true)]) [(2, .own 3 cap2 (.ints y.1))] 3 ⟨cap2, hcap2, rfl, rfl, rfl⟩ rfl ⟨trivial, ⟨rfl, trivial⟩, rfl⟩ rfl | exact fin rfl w_3 [(2, 11)] (.tup [.agg [.int y.2, .int a, .sl 2 1 0 y.1.length cap2], .one (.bool true)]) [(2, .own 3 cap2 (.ints y.1))] 3 ⟨cap2, hcap2, rfl, rfl, rfl⟩ rfl ⟨trivial, ⟨rfl, trivial⟩, rfl⟩ rfl | exact fin rfl w_3 [(2, 9)] (.tup [.agg [.int y.2, .int a, .sl 2 1 0 y.1.length cap2], .one (.bool true)]) [(2, .own 3 cap2 (.ints y.1))] 3 ⟨cap2, hcap2, rfl, rfl, rfl⟩ rfl ⟨trivial, ⟨rfl, trivial⟩, rfl⟩ rfl | exact fin rfl w_3 [(2, 12)] (.tup [.agg [.int y.2, .int a, .sl 2 1 0 y.1.length cap2], .one (.bool true)]) [(2, .own 3 cap2 (.ints y.1))] 3 ⟨cap2, hcap2, rfl, rfl, rfl⟩ rfl ⟨trivial, ⟨rfl, trivial⟩, rfl⟩ rfl
end Go.Proofs.YtekpamojojfplaaGreat
namespace Go.Proofs.YtekpamojojfplaaGreat
def gramZ (r c : Int) (xs : List Int) : Option (List Int) := if isM r c xs then mulZ r c c r xs (turnM xs r.toNat c.toNat) else none
def redO (r c : Int) (xs : List Int) : Option S3 := if defB r c xs then redG r.toNat 200 (xs, idTo r.toNat r.toNat, idTo r.toNat r.toNat) 1 else none
def rbasO (r c : Int) (xs : List Int) : Option (List Int × List Int) := (gramZ r c xs).bind fun g => (redO r r g).bind fun s => (mulZ r r r c s.2.1 xs).map fun p => (p, s.2.1)
def relsO (v : List Int) : Option (List Int × Nat) := if decide (v.length ≤ 6) && v.all numB then (kerB v.length 1 v).bind fun st => (rbasO st.2 v.length st.1).map fun p => (p.1, st.2) else none
end Go.Proofs.YtekpamojojfplaaGreat
namespace Go.Proofs.YtekpamojojfplaaGreat
def mdTo (g : List Int) (n : Nat) : Nat → Int
  | 0 => g.getD 0 0
  | i + 1 => min (mdTo g n i) (g.getD (i * n + i) 0)
def headO (r c : Int) (g : List Int) : Option (List (List Int)) → Option Int
  | none => none
  | some [] => none
  | some (v :: _) => vatO r c g v
def minO (r c : Int) (g : List Int) : Option Int := if defB r c g = true ∧ r ≠ 0 then headO r c g (shO r c g (mdTo g r.toNat r.toNat)) else none
def shstO (r c : Int) (g : List Int) : Option (List (List Int)) := match minO r c g with
  | none => none
  | some z => shO r c g z
def firstO (k : Nat) (n : Int) (b : List Int) : Option (List (List Int)) → Option (List Int)
  | none => none
  | some [] => none
  | some (v :: _) => mulZ 1 k k n v b
def srO (v : List Int) : Option (List Int) := match relsO v with
  | none => none
  | some s => if s.2 = 0 then none else match gramZ s.2 v.length s.1 with
    | none => none
    | some G => firstO s.2 v.length s.1 (shstO s.2 s.2 G)
theorem mdTo_bd {g : List Int} (hg : g.all numB = true) {n : Nat} : ∀ i, -400000000 ≤ mdTo g n i ∧ mdTo g n i ≤ 400000000
  | 0 => num_getD hg 0
  | i + 1 => by
    have := mdTo_bd hg (n := n) i
    have := num_getD hg (i * n + i)
    rw [mdTo]; omega
theorem sh_len {r c : Int} {g : List Int} {b : Int} {S : List (List Int)} (h : shO r c g b = some S) {v : List Int} (hv : v ∈ S) : (v.length : Int) = r ∧ v.all numB = true ∧ r ≤ 6 := by
  obtain ⟨-, z, hz, -, -⟩ := (sh_iff h v).1 hv
  obtain ⟨n, rfl, rfl, hg, hl, hn, -, -⟩ := vatO_some hz
  obtain ⟨n', e, -, h6, -⟩ := gramB_nat hg
  exact ⟨by omega, hn, by omega⟩
end Go.Proofs.YtekpamojojfplaaGreat
