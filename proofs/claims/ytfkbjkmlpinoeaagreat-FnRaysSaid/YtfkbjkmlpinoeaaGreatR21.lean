/-
  TEXTS OF THE PROOF, put together: bEchS, bMatLaw, bConeM, bEqM, bPoint.
-/
import Derived.Test.YtfkbjkmlpinoeaaGreatR20
import Derived.Test.YtfkbjkmlpinoeaaGreatR08
set_option linter.unusedVariables false
set_option linter.unusedSimpArgs false
namespace Go.Proofs.YtfkbjkmlpinoeaaGreat
open Go.RowKit
theorem ech_full {xs ys : List Int} {r c j t : Nat} (he : echTo xs r c j = some (ys, t)) (ht : r ≤ t) : ∀ m, echTo xs r c (j + m) = some (ys, t)
  | 0 => he
  | m + 1 => by
    have hf : findP ys c (j + m) r t = t := by rw [findP, if_neg (by omega)]
    rw [← Nat.add_assoc, echTo, ech_full he ht m, Option.bind_some, colStep]
    dsimp only
    rw [hf, if_neg (by omega)]
theorem rank_full {xs ys : List Int} {r c j t : Nat} (hj : j ≤ c) (he : echTo xs r c j = some (ys, t)) (ht : r ≤ t) : rankO xs r c = some t := by
  have := ech_full he ht (c - j)
  rw [show j + (c - j) = c by omega] at this
  simp [rankO, this]
set_option maxHeartbeats 4000000 in
theorem d_echS (a b : Nat) (xs : List Int) (ca : Nat) (hl : xs.length ≤ 1099511627776) (ha : a ≤ 24) (hb : b ≤ 24) (hx : xs.length = a * b) (hnum : xs.all numB = true) : Does Tryz.prog 106 [vM a b 1 xs.length ca] [(1, .ro (.ints xs))] 2 (EchO a b 3 (rankO xs a b)) := by
 refine Does.intro TT Tryz.func106 rfl (by kernel_rfl) Zz Zz fun E hE => ?_
 ((repeat' (first | refine stx ?_ | (refine w_C (d_copyS _ _ xs _ hl) Zz Zz Zz Zz Zz Zz Zz ft Zz Zz (CopyM.out) ?_; rintro v b ⟨c1, hc1, rfl, he, -⟩; cases he) | (refine stq ?_ ?_ <;> (intro hc; ((try simp at hc) <;> try contradiction))) | fail)) <;> try (exfalso; omega))
 ·have hlen := hx
  refine w_G hE (fun i : Nat => i ≤ a) (fun i => a - i)
   (fun i => [(2, .one (.ptr 3 3 0 0)), (5, .one (.ptr 5 3 0 0)), (6, vS 6 1 0 0 0), (7, vI i)]) (fun i => [(3, .own 26 1 (.lit zeroM)), (4, .own 3 c1 (.ints (primAll xs b i))), (5, .own 26 1 (.lit [.int a, .int b, .sl 4 1 0 xs.length c1])), (6, .own 3 0 (.ints []))]) 7 [] 0 (Nat.zero_le _) ⟨w_1, w_2, rfl⟩ ?_
  intro i hi
  obtain ⟨p1, p2⟩ := primAll_ok (c := b) hnum i
  by_cases hia : i < a
  ·have hin := row_in (c := b) hia
   ((repeat' (first | refine stx ?_ | ((refine w_E (d_primS a b i (primAll xs b i) xs.length c1 c1 p2.symm (by omega) ha hb hia p1) Zz Zz Zz Zz Zz Zz Zz ft rfl ?_); rintro v Hout n1 ⟨rfl, rfl, rfl⟩) | (refine stq ?_ ?_ <;> (intro hc; ((try simp at hc) <;> try contradiction))) | fail)) <;> try (exfalso; omega))
   refine ⟨[], i + 1, hia, w_4, ⟨w_1, ⟨rfl, rfl, rfl, rfl, trivial⟩, rfl⟩⟩
  ·obtain rfl : i = a := by omega
   ((repeat' (first | refine stx ?_ | (refine stq ?_ ?_ <;> (intro hc; ((try simp at hc) <;> try contradiction))) | fail)) <;> try (exfalso; omega))
   refine w_G hE (fun p : Nat × (List Int × Nat) × List Int × Nat => p.1 ≤ b ∧ echTo xs i b p.1 = some p.2.1 ∧ p.2.2.1.length = p.2.1.2 ∧ p.2.2.1.length ≤ p.2.2.2) (fun p => b - p.1)
    (fun p => [(2, .one (.ptr 3 3 0 0)), (5, .one (.ptr 5 3 0 0)), (6, vS 6 1 0 p.2.2.1.length p.2.2.2), (8, vI p.1)]) (fun p => [(3, .own 26 1 (.lit zeroM)), (4, .own 3 c1 (.ints p.2.1.1)), (5, .own 26 1 (.lit [.int i, .int b, .sl 4 1 0 xs.length c1])), (6, .own 3 p.2.2.2 (.ints p.2.2.1))]) 7 [] (0, (primAll xs b i, 0), [], 0) ⟨Nat.zero_le _, rfl, rfl, Nat.le_refl _⟩ ⟨w_1, w_2, rfl⟩ ?_
   rintro ⟨j, ⟨ys, t⟩, pv, pc⟩ ⟨hj, he, hpv, hpc⟩
   dsimp only at hj he hpv hpc ⊢
   obtain ⟨y1, y2, y3, y4⟩ := echTo_ok hnum he
   dsimp only at y1 y2 y3 y4
   subst hpv
   by_cases hgo : j < b ∧ pv.length < i
   ·obtain ⟨hjb, hti⟩ := hgo
    ((repeat' (first | refine stx ?_ | (refine stq ?_ ?_ <;> (intro hc; ((try simp at hc) <;> try contradiction))) | fail)) <;> try (exfalso; omega))
    refine w_G hE (fun p : Nat => pv.length ≤ p ∧ p ≤ i ∧ findP ys b j i p = findP ys b j i pv.length) (fun p => i - p)
     (fun p => [(2, .one (.ptr 3 3 0 0)), (5, .one (.ptr 5 3 0 0)), (6, vS 6 1 0 pv.length pc), (8, vI j), (9, vI pv.length), (10, vI p)]) (fun _ => [(3, .own 26 1 (.lit zeroM)), (4, .own 3 c1 (.ints ys)), (5, .own 26 1 (.lit [.int i, .int b, .sl 4 1 0 xs.length c1])), (6, .own 3 pc (.ints pv))]) 7 [] pv.length ⟨Nat.le_refl _, y4, rfl⟩ ⟨w_1, w_2, rfl⟩ ?_
    rintro p ⟨q1, q2, q3⟩
    by_cases hpi : p < i
    ·have hcell := cell_facts hpi hjb ha hb
     have ecell := cell_nat (p := p) (k := j) (c := b)
     have hraw : ys[((p : Int) * b + j).toNat]?.getD 0 = ys.getD (p * b + j) 0 := by rw [← ecell, Nat.zero_add, List.getD_eq_getElem?_getD]
     have hf : findP ys b j i p = if ys.getD (p * b + j) 0 = 0 then findP ys b j i (p + 1) else p := by rw [findP, if_pos hpi]
     ((repeat' (first | refine stx ?_ | ((refine w_E (d_swapS i b p pv.length xs.length c1 c1 ys y2.symm (by omega) ha hb hpi (by omega) (by omega)) Zz Zz Zz Zz Zz Zz Zz ft rfl ?_); rintro v Hout n1 ⟨rfl, rfl, rfl⟩) | (refine stq ?_ ?_ <;> (intro hc; ((try simp at hc) <;> try contradiction))) | fail)) <;> try (exfalso; omega))
     ·refine ⟨[], p + 1, ⟨by omega, by omega, ?_⟩, w_4, ⟨w_1, w_2, rfl⟩⟩
      rw [← q3, hf, if_pos (by rw [← hraw]; exact hc)]
     all_goals
      have hne0 : ys.getD (p * b + j) 0 ≠ 0 := by rw [← hraw]; assumption
      have hfp : findP ys b j i pv.length = p := by rw [← q3, hf, if_neg hne0]
      have hX1 : (swX ys p pv.length b).all numB = true ∧ (swX ys p pv.length b).length = xs.length := by
       unfold swX
       split
       ·exact ⟨y1, y2⟩
       ·exact ⟨swapTo_num y1, by rw [swapTo_len, y2]⟩
      refine w_G hE (fun q : Nat × List Int => q.1 ≤ i ∧ elimTo (swX ys p pv.length b) b pv.length j q.1 = some q.2) (fun q => i - q.1)
       (fun q => [(2, .one (.ptr 3 3 0 0)), (5, .one (.ptr 5 3 0 0)), (6, vS 6 1 0 pv.length pc), (8, vI j), (9, vI pv.length), (11, vI q.1)]) (fun q => [(3, .own 26 1 (.lit zeroM)), (4, .own 3 c1 (.ints q.2)), (5, .own 26 1 (.lit [.int i, .int b, .sl 4 1 0 xs.length c1])), (6, .own 3 pc (.ints pv))]) 7 [] (0, swX ys p pv.length b) ⟨Nat.zero_le _, rfl⟩ ⟨w_1, ⟨rfl, own_ints (by dsimp only; unfold swX; first | exact (if_pos (by omega)).symm | exact (if_neg (by omega)).symm), rfl, rfl, trivial⟩, rfl⟩ ?_
      rintro ⟨k, zs⟩ ⟨r1, r2⟩
      dsimp only at r1 r2 ⊢
      obtain ⟨z1, z2⟩ := elimTo_ok hX1.1 r2
      rw [hX1.2] at z2
      have ht : pv.length < i := by omega
      by_cases hki : k < i
      ·have cellk := cell_facts hki hjb ha hb
       have cellt := cell_facts ht hjb ha hb
       have ek := cell_nat (p := k) (k := j) (c := b)
       have et := cell_nat (p := pv.length) (k := j) (c := b)
       have rawk : zs[((k : Int) * b + j).toNat]?.getD 0 = zs.getD (k * b + j) 0 := by rw [← ek, Nat.zero_add, List.getD_eq_getElem?_getD]
       by_cases hskip : k = pv.length ∨ zs.getD (k * b + j) 0 = 0
       ·((repeat' (first | refine stx ?_ | (refine stq ?_ ?_ <;> (intro hc; ((try simp at hc) <;> try contradiction))) | fail)) <;> try (exfalso; omega))
        all_goals exact ⟨[], (k + 1, zs), ⟨by omega, elim_skip r2 hskip⟩, w_4, ⟨w_1, w_2, rfl⟩⟩
       ·have hk1 : k ≠ pv.length := fun h => hskip (.inl h)
        have hk2 : zs.getD (k * b + j) 0 ≠ 0 := fun h => hskip (.inr h)
        have nx := num_getD z1 (0 + ((k : Int) * b + j).toNat)
        have ny := num_getD z1 (0 + ((pv.length : Int) * b + j).toNat)
        have hG : (Int.gcd (zs.getD (0 + ((k : Int) * b + j).toNat) 0) (zs.getD (0 + ((pv.length : Int) * b + j).toNat) 0) : Int) ≠ 0 := by
         intro h
         have h' : Int.gcd (zs.getD (0 + ((k : Int) * b + j).toNat) 0) (zs.getD (0 + ((pv.length : Int) * b + j).toNat) 0) = 0 := by exact_mod_cast h
         rw [Int.gcd_eq_zero_iff] at h'
         exact hk2 (by rw [← ek]; exact h'.1)
        have g1 := tdiv_bd (zs.getD (0 + ((pv.length : Int) * b + j).toNat) 0) (Int.gcd (zs.getD (0 + ((k : Int) * b + j).toNat) 0) (zs.getD (0 + ((pv.length : Int) * b + j).toNat) 0) : Int)
        have g2 := tdiv_bd (zs.getD (0 + ((k : Int) * b + j).toNat) 0) (Int.gcd (zs.getD (0 + ((k : Int) * b + j).toNat) 0) (zs.getD (0 + ((pv.length : Int) * b + j).toNat) 0) : Int)
        have hap := row_apart (c := b) hk1
        have hgc := gcdOf_num (numB_true.2 nx) (numB_true.2 ny)
        ((repeat' (first | refine stx ?_ | ((first | refine w_z (d_gcdOf _ _) Zz Zz Zz Zz Zz Zz Zz Zz ft Zz Zz ?_ | refine w_A (d_gcdOf _ _) Zz Zz Zz Zz Zz Zz Zz Zz ft Zz Zz ?_) <;> simp only [hgc]) | (refine stq ?_ ?_ <;> (intro hc; ((try simp at hc) <;> try contradiction))) | fail)) <;> try (exfalso; omega))
        all_goals
         refine w_G hE (fun m : Nat => m ≤ b ∧ elimOK zs b k pv.length j m = true) (fun m => b - m)
          (fun m => [(2, .one (.ptr 3 3 0 0)), (5, .one (.ptr 5 3 0 0)), (6, vS 6 1 0 pv.length pc), (8, vI j), (9, vI pv.length), (11, vI k), (12, vI (zs.getD (0 + ((k : Int) * b + j).toNat) 0)), (13, vI (zs.getD (0 + ((pv.length : Int) * b + j).toNat) 0)), (14, vI (Int.gcd (zs.getD (0 + ((k : Int) * b + j).toNat) 0) (zs.getD (0 + ((pv.length : Int) * b + j).toNat) 0) : Int)), (15, vI m)]) (fun m => [(3, .own 26 1 (.lit zeroM)), (4, .own 3 c1 (.ints (updTo zs (k * b) (elimF zs b k pv.length j) m))), (5, .own 26 1 (.lit [.int i, .int b, .sl 4 1 0 xs.length c1])), (6, .own 3 pc (.ints pv))]) 7 [] 0 ⟨Nat.zero_le _, rfl⟩ ⟨w_1, w_2, rfl⟩ ?_
         rintro m ⟨hm1, hm2⟩
         have hU : (updTo zs (k * b) (elimF zs b k pv.length j) m).length = xs.length := updTo_len.trans z2
         by_cases hmb : m < b
         ·have cm := cell_facts hki hmb ha hb
          have ct := cell_facts ht hmb ha hb
          have em := cell_nat (p := k) (k := m) (c := b)
          have etm := cell_nat (p := pv.length) (k := m) (c := b)
          have am := updTo_at (xs := zs) (off := k * b) (f := elimF zs b k pv.length j) (p := k * b + m) (k := m) (by omega)
          have atm := updTo_at (xs := zs) (off := k * b) (f := elimF zs b k pv.length j) (p := pv.length * b + m) (k := m) (by omega)
          have nv := num_getD z1 (k * b + m)
          have nw := num_getD z1 (pv.length * b + m)
          rw [← am, ← em] at nv
          rw [← atm, ← etm] at nw
          have m1 := mul_bd (A := 400000000) (B := 400000000) (a := (zs.getD (0 + ((pv.length : Int) * b + j).toNat) 0).tdiv (Int.gcd (zs.getD (0 + ((k : Int) * b + j).toNat) 0) (zs.getD (0 + ((pv.length : Int) * b + j).toNat) 0) : Int)) (by omega) (by omega) nv.1 nv.2
          have m2 := mul_bd (A := 400000000) (B := 400000000) (a := (zs.getD (0 + ((k : Int) * b + j).toNat) 0).tdiv (Int.gcd (zs.getD (0 + ((k : Int) * b + j).toNat) 0) (zs.getD (0 + ((pv.length : Int) * b + j).toNat) 0) : Int)) (by omega) (by omega) nw.1 nw.2
          have hval : (zs.getD (0 + ((pv.length : Int) * b + j).toNat) 0).tdiv (Int.gcd (zs.getD (0 + ((k : Int) * b + j).toNat) 0) (zs.getD (0 + ((pv.length : Int) * b + j).toNat) 0) : Int) * (updTo zs (k * b) (elimF zs b k pv.length j) m).getD (0 + ((k : Int) * b + m).toNat) 0 - (zs.getD (0 + ((k : Int) * b + j).toNat) 0).tdiv (Int.gcd (zs.getD (0 + ((k : Int) * b + j).toNat) 0) (zs.getD (0 + ((pv.length : Int) * b + j).toNat) 0) : Int) * (updTo zs (k * b) (elimF zs b k pv.length j) m).getD (0 + ((pv.length : Int) * b + m).toNat) 0 = elimF zs b k pv.length j m (zs.getD (k * b + m) 0) := by rw [ek, et, em, etm, am, atm]; rfl
          cases hnb : numB (elimF zs b k pv.length j m (zs.getD (k * b + m) 0))
          ·have hnb' : numB ((zs.getD (0 + ((pv.length : Int) * b + j).toNat) 0).tdiv (Int.gcd (zs.getD (0 + ((k : Int) * b + j).toNat) 0) (zs.getD (0 + ((pv.length : Int) * b + j).toNat) 0) : Int) * (updTo zs (k * b) (elimF zs b k pv.length j) m).getD (0 + ((k : Int) * b + m).toNat) 0 - (zs.getD (0 + ((k : Int) * b + j).toNat) 0).tdiv (Int.gcd (zs.getD (0 + ((k : Int) * b + j).toNat) 0) (zs.getD (0 + ((pv.length : Int) * b + j).toNat) 0) : Int) * (updTo zs (k * b) (elimF zs b k pv.length j) m).getD (0 + ((pv.length : Int) * b + m).toNat) 0) = false := by rw [hval]; exact hnb
           have hbad : rankO xs i b = none := rank_bad hjb he hfp hpi r2 hki hk1 hk2 hmb hnb
           rw [hbad]
           ((repeat' (first | refine stx ?_ | (first | refine w_z (d_fitN _ hnb') Zz Zz Zz Zz Zz Zz Zz Zz ft Zz Zz ?_ | refine w_A (d_fitN _ hnb') Zz Zz Zz Zz Zz Zz Zz Zz ft Zz Zz ?_) | (refine stq ?_ ?_ <;> (intro hc; ((try simp at hc) <;> try contradiction))) | fail)) <;> try (exfalso; omega))
           exact fin rfl w_3 [(2, 7)] (.tup [.agg zeroM, .one (.sl 2 1 0 0 0), .one (.bool false)]) [(2, .own 3 0 (.ints []))] 3 ⟨rfl, rfl, rfl⟩ rfl ⟨trivial, ⟨rfl, trivial⟩, rfl⟩ rfl
          ·obtain ⟨z, hz⟩ : ∃ z, z = elimF zs b k pv.length j m (zs.getD (k * b + m) 0) := ⟨_, rfl⟩
           rw [← hz] at hval
           have hnz : numB z = true := by rw [hz]; exact hnb
           have hnn := numB_true.1 hnz
           ((repeat' (first | refine stx ?_ | (first | refine w_z (d_fitE _ z hval hnz) Zz Zz Zz Zz Zz Zz Zz Zz ft Zz Zz ?_ | refine w_A (d_fitE _ z hval hnz) Zz Zz Zz Zz Zz Zz Zz Zz ft Zz Zz ?_) | (refine stq ?_ ?_ <;> (intro hc; ((try simp at hc) <;> try contradiction))) | fail)) <;> try (exfalso; omega))
           refine ⟨[], m + 1, ⟨by omega, by rw [elimOK, hm2, hnb]; rfl⟩, w_4, ⟨w_1, ⟨rfl, own_ints ?_, rfl, rfl, trivial⟩, rfl⟩⟩
           rw [hz, em]; rfl
         ·obtain rfl : m = b := by omega
          have hUn := updTo_num (off := k * m) (f := elimF zs m k pv.length j) z1 (elimOK_at hm2)
          have hkin := row_in (c := m) hki
          ((repeat' (first | refine stx ?_ | ((refine w_E (d_primS i m k (updTo zs (k * m) (elimF zs m k pv.length j) m) xs.length c1 c1 hU.symm (by omega) ha hb hki hUn) Zz Zz Zz Zz Zz Zz Zz ft rfl ?_); rintro v Hout n1 ⟨rfl, rfl, rfl⟩) | (refine stq ?_ ?_ <;> (intro hc; ((try simp at hc) <;> try contradiction))) | fail)) <;> try (exfalso; omega))
          exact ⟨[], (k + 1, primAt (updTo zs (k * m) (elimF zs m k pv.length j) m) (k * m) m), ⟨by omega, elim_do r2 hk1 hk2 hm2⟩, w_4, ⟨w_1, w_2, rfl⟩⟩
      ·obtain rfl : k = i := by omega
       ((repeat' (first | refine stx ?_ | (refine w_x TT Zz Zz Zz Zz Zz sd ?_; intro cap hcap) | (refine stq ?_ ?_ <;> (intro hc; ((try simp at hc) <;> try contradiction))) | fail)) <;> try (exfalso; omega))
       refine ⟨[(6, 8)], (j + 1, (zs, pv.length + 1), pv ++ [(j : Int)], cap), ⟨by omega, col_do he hfp hpi r2, by simp, by simpa using hcap⟩, w_4, ⟨⟨rfl, rfl, sl_eqE (k := 6) (m := mp [(6, 8)]) (by simp), rfl, trivial⟩, ⟨rfl, rfl, rfl, own_ints rfl, trivial⟩, rfl⟩⟩
    ·obtain rfl : p = i := by omega
     have hf : findP ys b j p p = p := by rw [findP, if_neg (by omega)]
     rw [hf] at q3
     ((repeat' (first | refine stx ?_ | (refine stq ?_ ?_ <;> (intro hc; ((try simp at hc) <;> try contradiction))) | fail)) <;> try (exfalso; omega))
     refine ⟨[], (j + 1, (ys, pv.length), pv, pc), ⟨by omega, ?_, rfl, hpc⟩, w_4, ⟨w_1, w_2, rfl⟩⟩
     show (echTo xs p b j).bind (colStep p b j) = _
     rw [he, Option.bind_some, colStep, if_neg (by dsimp only; omega)]
   ·have hrk : rankO xs i b = some pv.length := by
     rcases Nat.lt_or_ge j b with q | q
     ·exact rank_full (by omega) he (by omega)
     ·obtain rfl : j = b := by omega
      simp [rankO, he]
    rw [hrk]
    ((repeat' (first | refine stx ?_ | (refine stq ?_ ?_ <;> (intro hc; ((try simp at hc) <;> try contradiction))) | fail)) <;> try (exfalso; omega))
    all_goals
     refine w_G hE (fun p : Nat × List Int => p.1 ≤ pv.length ∧ p.2.all numB = true ∧ p.2.length = xs.length) (fun p => pv.length - p.1)
      (fun p => [(2, .one (.ptr 3 3 0 0)), (5, .one (.ptr 5 3 0 0)), (6, vS 6 1 0 pv.length pc), (17, vI p.1)]) (fun p => [(3, .own 26 1 (.lit zeroM)), (4, .own 3 c1 (.ints p.2)), (5, .own 26 1 (.lit [.int i, .int b, .sl 4 1 0 xs.length c1])), (6, .own 3 pc (.ints pv))]) 7 [] (0, ys) ⟨Nat.zero_le _, y1, y2⟩ ⟨w_1, w_2, rfl⟩ ?_
     rintro ⟨k, zs⟩ ⟨r1, r2, r3⟩
     dsimp only at r1 r2 r3 ⊢
     ((repeat' (first | refine stx ?_ | ((refine w_E (d_primS i b k zs xs.length c1 c1 r3.symm (by omega) ha hb (by omega) r2) Zz Zz Zz Zz Zz Zz Zz ft rfl ?_); rintro v Hout n1 ⟨rfl, rfl, rfl⟩) | (refine stq ?_ ?_ <;> (intro hc; ((try simp at hc) <;> try contradiction))) | fail)) <;> try (exfalso; omega))
     ·exact ⟨[], (k + 1, primAt zs (k * b) b), ⟨by dsimp only; omega, primAt_num r2, primAt_len.trans r3⟩, w_4, ⟨w_1, w_2, rfl⟩⟩
     ·exact fin rfl w_3 [(2, 4), (3, 6)] (.tup [.agg [.int i, .int b, .sl 2 1 0 zs.length c1], .one (.sl 3 1 0 pv.length pc), .one (.bool true)]) [(2, .own 3 c1 (.ints zs)), (3, .own 3 pc (.ints pv))] 4 ⟨zs, pv, c1, pc, rfl, rfl, rfl, rfl⟩ (by rw [r3]; rfl) ⟨trivial, ⟨rfl, rfl, trivial⟩, rfl⟩ rfl
end Go.Proofs.YtfkbjkmlpinoeaaGreat
namespace Go.Proofs.YtfkbjkmlpinoeaaGreat
open Go.RowKit
def szL (l : Int) (n : Nat) : Int := if l < n then -1 else l - n
def MadeMx (r k : Int) (xs : List Int) (q : Nat) (v : AV) (Hout : List (Nat × Blk)) (n : Nat) : Prop := ∃ c, xs.length ≤ c ∧ v = .agg [.int r, .int k, .sl q 1 0 xs.length c] ∧ Hout = [(q, .own 3 c (.ints xs))] ∧ n = q + 1
theorem MadeMx.out {r k : Int} {xs : List Int} {q : Nat} : ∀ v Hout n1, MadeMx r k xs q v Hout n1 → ∃ b, Hout = [(q, b)] ∧ n1 = q + 1 ∧ b.keys = [] := fun _ _ _ ⟨c, _, _, h2, h3⟩ => ⟨_, h2, h3, by simp [Blk.keys, Elts.keys, Elts.all, ints_keys]⟩
end Go.Proofs.YtfkbjkmlpinoeaaGreat
namespace Go.Proofs.YtfkbjkmlpinoeaaGreat
open Go.RowKit
def coneM (r c : Int) (xs : List Int) : Bool := isM r c xs && decide (r ≤ 8 ∧ 1 ≤ c ∧ c ≤ 3)
theorem d_coneI (r c : Int) (xs : List Int) (ca : Nat) (hl : xs.length ≤ 1099511627776) : Does Tryz.prog 65 [vM r c 1 xs.length ca] [(1, .ro (.ints xs))] 2 (Ret (vB (coneM r c xs)) 2) := by
 refine Does.intro TT Tryz.func65 rfl (by kernel_rfl) Zz Zz fun E hE => ?_
 cases hm : isM r c xs
 all_goals ((repeat' (first | refine stx ?_ | ((first | refine w_z (d_isMatI _ _ _ _ hl) Zz Zz Zz Zz Zz Zz Zz Zz ft Zz Zz ?_ | refine w_A (d_isMatI _ _ _ _ hl) Zz Zz Zz Zz Zz Zz Zz Zz ft Zz Zz ?_) <;> simp only [hm]) | (refine stq ?_ ?_ <;> (intro hc; ((try simp at hc) <;> try contradiction))) | fail)) <;> try (exfalso; omega))
 all_goals refine fin_ret rfl w_3 (congrArg vB (by rw [Bool.eq_iff_iff]; simp [coneM, hm]; try omega)) rfl
theorem d_coneS (r c : Int) (xs : List Int) (ca : Nat) (hl : xs.length ≤ 1099511627776) : Does Tryz.prog 100 [vM r c 1 xs.length ca] [(1, .ro (.ints xs))] 2 (Ret (vB (coneM r c xs)) 2) := by
 refine Does.intro TT Tryz.func100 rfl (by kernel_rfl) Zz Zz fun E hE => ?_
 cases hm : isM r c xs <;> cases hi : inB c 1 3
 all_goals ((repeat' (first | refine stx ?_ | ((first | refine w_z (d_isMatS _ _ _ _ hl) Zz Zz Zz Zz Zz Zz Zz Zz ft Zz Zz ?_ | refine w_A (d_isMatS _ _ _ _ hl) Zz Zz Zz Zz Zz Zz Zz Zz ft Zz Zz ?_) <;> simp only [hm]) | ((first | refine w_z (d_l1In _ _ _) Zz Zz Zz Zz Zz Zz Zz Zz ft Zz Zz ?_ | refine w_A (d_l1In _ _ _) Zz Zz Zz Zz Zz Zz Zz Zz ft Zz Zz ?_) <;> simp only [hi]) | (refine stq ?_ ?_ <;> (intro hc; ((try simp at hc) <;> try contradiction))) | fail)) <;> try (exfalso; omega))
 all_goals first
  | (have h := inB_true.1 hi; refine fin_ret rfl w_3 (congrArg vB (by rw [Bool.eq_iff_iff]; simp [coneM, hm]; try omega)) rfl)
  | (have h := inB_false.1 hi; refine fin_ret rfl w_3 (congrArg vB (by rw [Bool.eq_iff_iff]; simp [coneM, hm]; try omega)) rfl)
theorem coneM_dims {r c : Int} {xs : List Int} (h : coneM r c xs = true) : ∃ a b : Nat, r = a ∧ c = b ∧ a ≤ 8 ∧ 1 ≤ b ∧ b ≤ 3 ∧ xs.length = a * b ∧ xs.all numB = true := by
  simp only [coneM, Bool.and_eq_true, decide_eq_true_eq] at h
  obtain ⟨h1, h2⟩ := h
  obtain ⟨a, b, rfl, rfl⟩ := isM_pos h1
  obtain ⟨_, _, h3, h4⟩ := isM_nat h1
  exact ⟨a, b, rfl, rfl, by omega, by omega, by omega, h3, h4⟩
def bodyM (r c : Int) (xs bs : List Int) : Bool := coneM r c xs && decide ((bs.length : Int) = r) && bs.all numB
end Go.Proofs.YtfkbjkmlpinoeaaGreat
namespace Go.Proofs.YtfkbjkmlpinoeaaGreat
open Go.RowKit
def MarksM (k : Int) (t : TypeId) (c n : Nat) (v : AV) (Hout : List (Nat × Blk)) (n1 : Nat) : Prop := v = vI (k + n) ∧ Hout = [(1, .own t c (.ints (marks k n)))] ∧ n1 = 2
end Go.Proofs.YtfkbjkmlpinoeaaGreat
namespace Go.Proofs.YtfkbjkmlpinoeaaGreat
open Go.RowKit
set_option maxHeartbeats 1000000 in
theorem d_echOfS (r c : Int) (xs : List Int) (ca : Nat) (hl : xs.length ≤ 1099511627776) : Does Tryz.prog 64 [vM r c 1 xs.length ca] [(1, .ro (.ints xs))] 2 (EchO r c 3 (rankB r c xs)) := by
 refine Does.intro TT Tryz.func64 rfl (by kernel_rfl) Zz Zz fun E hE => ?_
 cases hm : isM r c xs
 ·have hR : rankB r c xs = none := by simp [rankB, hm]
  rw [hR]
  ((repeat' (first | refine stx ?_ | ((first | refine w_z (d_isMatS _ _ _ _ hl) Zz Zz Zz Zz Zz Zz Zz Zz ft Zz Zz ?_ | refine w_A (d_isMatS _ _ _ _ hl) Zz Zz Zz Zz Zz Zz Zz Zz ft Zz Zz ?_) <;> simp only [hm]) | (refine stq ?_ ?_ <;> (intro hc; ((try simp at hc) <;> try contradiction))) | fail)) <;> try (exfalso; omega))
  exact fin rfl w_3 [(2, 4)] (.tup [.agg zeroM, .one (.sl 2 1 0 0 0), .one (.bool false)]) [(2, .own 3 0 (.ints []))] 3 ⟨rfl, rfl, rfl⟩ rfl ⟨trivial, ⟨rfl, trivial⟩, rfl⟩ rfl
 ·obtain ⟨a, b, rfl, rfl, ha, hb, hx, hnum⟩ := isM_dims hm
  have hR : rankB a b xs = rankO xs a b := by simp [rankB, hm]
  rw [hR]
  have he := d_echS a b xs ca hl ha hb hx hnum
  cases ho : rankO xs a b with
  | none =>
   rw [ho] at he
   ((repeat' (first | refine stx ?_ | ((first | refine w_z (d_isMatS _ _ _ _ hl) Zz Zz Zz Zz Zz Zz Zz Zz ft Zz Zz ?_ | refine w_A (d_isMatS _ _ _ _ hl) Zz Zz Zz Zz Zz Zz Zz Zz ft Zz Zz ?_) <;> simp only [hm]) | ((refine w_E (he) Zz Zz Zz Zz Zz Zz Zz ft rfl ?_); rintro v Hout n1 ⟨rfl, rfl, rfl⟩) | (refine stq ?_ ?_ <;> (intro hc; ((try simp at hc) <;> try contradiction))) | fail)) <;> try (exfalso; omega))
   exact fin rfl w_3 [(2, 4)] (.tup [.agg zeroM, .one (.sl 2 1 0 0 0), .one (.bool false)]) [(2, .own 3 0 (.ints []))] 3 ⟨rfl, rfl, rfl⟩ rfl ⟨trivial, ⟨rfl, trivial⟩, rfl⟩ rfl
  | some k =>
   rw [ho] at he
   ((repeat' (first | refine stx ?_ | ((first | refine w_z (d_isMatS _ _ _ _ hl) Zz Zz Zz Zz Zz Zz Zz Zz ft Zz Zz ?_ | refine w_A (d_isMatS _ _ _ _ hl) Zz Zz Zz Zz Zz Zz Zz Zz ft Zz Zz ?_) <;> simp only [hm]) | ((refine w_E (he) Zz Zz Zz Zz Zz Zz Zz ft rfl ?_); rintro v Hout n1 ⟨ys, pv, cy, cp, hpv, rfl, rfl, rfl⟩) | (refine stq ?_ ?_ <;> (intro hc; ((try simp at hc) <;> try contradiction))) | fail)) <;> try (exfalso; omega))
   exact fin rfl w_3 [(2, 4), (3, 5)] (.tup [.agg [.int a, .int b, .sl 2 1 0 ys.length cy], .one (.sl 3 1 0 pv.length cp), .one (.bool true)]) [(2, .own 3 cy (.ints ys)), (3, .own 3 cp (.ints pv))] 4 ⟨ys, pv, cy, cp, hpv, rfl, rfl, rfl⟩ rfl ⟨trivial, ⟨rfl, rfl, trivial⟩, rfl⟩ rfl
def rankV : Option Nat → AV
  | some k => .tup [.one (.int k), .one (.bool true)]
  | none => .tup [.one (.int 0), .one (.bool false)]
theorem d_rankI (r c : Int) (xs : List Int) (ca : Nat) (hl : xs.length ≤ 1099511627776) : Does Tryz.prog 18 [vM r c 1 xs.length ca] [(1, .ro (.ints xs))] 2 (Ret (rankV (rankB r c xs)) 2) := by
 have he := d_echI r c xs ca hl
 refine Does.intro TT Tryz.func18 rfl (by kernel_rfl) Zz Zz fun E hE => ?_
 cases ho : rankB r c xs with
 | none =>
  rw [ho] at he
  ((repeat' (first | refine stx ?_ | ((refine w_E (he) Zz Zz Zz Zz Zz Zz Zz ft rfl ?_); rintro v Hout n1 ⟨rfl, rfl, rfl⟩) | (refine stq ?_ ?_ <;> (intro hc; ((try simp at hc) <;> try contradiction))) | fail)) <;> try (exfalso; omega))
  refine fin_ret rfl w_3 (rfl) rfl
 | some k =>
  rw [ho] at he
  ((repeat' (first | refine stx ?_ | ((refine w_E (he) Zz Zz Zz Zz Zz Zz Zz ft rfl ?_); rintro v Hout n1 ⟨ys, pv, cy, cp, rfl, rfl, rfl, rfl⟩) | (refine stq ?_ ?_ <;> (intro hc; ((try simp at hc) <;> try contradiction))) | fail)) <;> try (exfalso; omega))
  refine fin_ret rfl w_3 (rfl) rfl
theorem d_rankS (r c : Int) (xs : List Int) (ca : Nat) (hl : xs.length ≤ 1099511627776) : Does Tryz.prog 14 [vM r c 1 xs.length ca] [(1, .ro (.ints xs))] 2 (Ret (rankV (rankB r c xs)) 2) := by
 have he := d_echOfS r c xs ca hl
 refine Does.intro TT Tryz.func14 rfl (by kernel_rfl) Zz Zz fun E hE => ?_
 cases ho : rankB r c xs with
 | none =>
  rw [ho] at he
  ((repeat' (first | refine stx ?_ | ((refine w_E (he) Zz Zz Zz Zz Zz Zz Zz ft rfl ?_); rintro v Hout n1 ⟨rfl, rfl, rfl⟩) | (refine stq ?_ ?_ <;> (intro hc; ((try simp at hc) <;> try contradiction))) | fail)) <;> try (exfalso; omega))
  refine fin_ret rfl w_3 (rfl) rfl
 | some k =>
  rw [ho] at he
  ((repeat' (first | refine stx ?_ | ((refine w_E (he) Zz Zz Zz Zz Zz Zz Zz ft rfl ?_); rintro v Hout n1 ⟨ys, pv, cy, cp, rfl, rfl, rfl, rfl⟩) | (refine stq ?_ ?_ <;> (intro hc; ((try simp at hc) <;> try contradiction))) | fail)) <;> try (exfalso; omega))
  refine fin_ret rfl w_3 (rfl) rfl
def pointB (r c : Int) (xs : List Int) : Bool := match rankB r c xs with
  | some k => coneM r c xs && decide ((k : Int) = c)
  | none => false
set_option maxHeartbeats 1000000 in
theorem d_pointI (r c : Int) (xs : List Int) (ca : Nat) (hl : xs.length ≤ 1099511627776) : Does Tryz.prog 44 [vM r c 1 xs.length ca] [(1, .ro (.ints xs))] 2 (Ret (vB (pointB r c xs)) 2) := by
 refine Does.intro TT Tryz.func44 rfl (by kernel_rfl) Zz Zz fun E hE => ?_
 cases ho : rankB r c xs <;> cases hc0 : coneM r c xs
 all_goals
  have hr := d_rankI r c xs ca hl
  rw [ho] at hr
  ((repeat' (first | refine stx ?_ | (first | refine w_z (hr) Zz Zz Zz Zz Zz Zz Zz Zz ft Zz Zz ?_ | refine w_A (hr) Zz Zz Zz Zz Zz Zz Zz Zz ft Zz Zz ?_) | ((first | refine w_z (d_coneI _ _ _ _ hl) Zz Zz Zz Zz Zz Zz Zz Zz ft Zz Zz ?_ | refine w_A (d_coneI _ _ _ _ hl) Zz Zz Zz Zz Zz Zz Zz Zz ft Zz Zz ?_) <;> simp only [hc0]) | (refine stq ?_ ?_ <;> (intro hc; ((try simp at hc) <;> try contradiction))) | fail)) <;> try (exfalso; omega))
 all_goals refine fin_ret rfl w_3 (congrArg vB (by rw [Bool.eq_iff_iff]; simp [pointB, ho, hc0]; try omega)) rfl
set_option maxHeartbeats 1000000 in
theorem d_pointS (r c : Int) (xs : List Int) (ca : Nat) (hl : xs.length ≤ 1099511627776) : Does Tryz.prog 58 [vM r c 1 xs.length ca] [(1, .ro (.ints xs))] 2 (Ret (vB (pointB r c xs)) 2) := by
 refine Does.intro TT Tryz.func58 rfl (by kernel_rfl) Zz Zz fun E hE => ?_
 cases ho : rankB r c xs <;> cases hc0 : coneM r c xs
 all_goals
  have hr := d_rankS r c xs ca hl
  rw [ho] at hr
  ((repeat' (first | refine stx ?_ | (first | refine w_z (hr) Zz Zz Zz Zz Zz Zz Zz Zz ft Zz Zz ?_ | refine w_A (hr) Zz Zz Zz Zz Zz Zz Zz Zz ft Zz Zz ?_) | ((first | refine w_z (d_coneS _ _ _ _ hl) Zz Zz Zz Zz Zz Zz Zz Zz ft Zz Zz ?_ | refine w_A (d_coneS _ _ _ _ hl) Zz Zz Zz Zz Zz Zz Zz Zz ft Zz Zz ?_) <;> simp only [hc0]) | (refine stq ?_ ?_ <;> (intro hc; ((try simp at hc) <;> try contradiction))) | fail)) <;> try (exfalso; omega))
 all_goals refine fin_ret rfl w_3 (congrArg vB (by rw [Bool.eq_iff_iff]; simp [pointB, ho, hc0]; try omega)) rfl
end Go.Proofs.YtfkbjkmlpinoeaaGreat
