/-
  TEXTS OF THE PROOF, put together: bHermS, Am12, bSmA, bSmB, bSmS, pRedG, Am13, bRgS.
-/
import Derived.Test.YtekpamojojfplaaGreatA15
import Derived.Test.YtekpamojojfplaaGreatA12
import Derived.Test.YtekpamojojfplaaGreatA16
import Derived.Test.YtekpamojojfplaaGreatA14
import Derived.Test.YtekpamojojfplaaGreatA17
import Derived.Test.YtekpamojojfplaaGreatA19
set_option linter.unusedVariables false
set_option linter.unusedSimpArgs false
namespace Go.Proofs.YtekpamojojfplaaGreat
open Go.RowKit
theorem dfQ_gb (n d : Int) : -400000000 ≤ dfQ n d ∧ dfQ n d ≤ 400000000 := by
  unfold dfQ
  split
  · rename_i h
    have h1 := numB_true.1 h.1
    have h3 := Int.natAbs_ediv_le_natAbs n d
    omega
  · omega
theorem d_cellH (a b i j n cap : Nat) (xs : List Int) (hn : n = xs.length) (hx : xs.length = a * b) (ha : a ≤ 24) (hb : b ≤ 24) (hi : i < a) (hj : j < b) : Does Tryz.prog 101 [vM a b 1 n cap, vI i, vI j] [(1, .ro (.ints xs))] 2 (Ret (vI (xs.getD (i * b + j) 0)) 2) := by
 subst hn
 refine Does.intro TT Tryz.func101 rfl (by kernel_rfl) Zz Zz fun E hE => ?_
 have hcell := cell_facts hi hj ha hb
 have hab : a * b ≤ 24 * 24 := Nat.mul_le_mul ha hb
 have ecell := cell_nat (p := i) (k := j) (c := b)
 ((repeat' (first | refine stx ?_ | (refine stq ?_ ?_ <;> (intro hc; ((try simp at hc) <;> try contradiction))) | fail)) <;> try (exfalso; omega))
 refine fin_ret rfl w_3 (congrArg vI (by rw [ecell])) rfl
theorem d_bads (xs : List Int) (c : Nat) (hl : xs.length ≤ 1099511627776) : Does Tryz.prog 154 [vS 1 1 0 xs.length c] [(1, .ro (.ints xs))] 2 (Ret (vB (decide (badN ∈ xs))) 2) := by
 refine Does.intro TT Tryz.func154 rfl (by kernel_rfl) Zz Zz fun E hE => ?_
 ((repeat' (first | refine stx ?_ | (refine stq ?_ ?_ <;> (intro hc; ((try simp at hc) <;> try contradiction))) | fail)) <;> try (exfalso; omega))
 refine w_G hE (fun i : Nat => i ≤ xs.length ∧ ∀ k, k < i → xs.getD k 0 ≠ badN) (fun i => xs.length - i)
  (fun i => [(0, vS 1 1 0 xs.length c), (3, vI i)]) (fun _ => [(1, .ro (.ints xs))]) 2 [] 0 ⟨Nat.zero_le _, fun k h => by omega⟩ ⟨w_1, w_2, rfl⟩ ?_
 rintro i ⟨hi, hnb⟩
 by_cases hil : i < xs.length
 ·have w1 : xs[i]?.getD 0 = xs.getD (0 + (i : Int).toNat) 0 := by simp
  have w2 : xs.getD (0 + (i : Int).toNat) 0 = xs.getD i 0 := by simp
  by_cases h0 : xs.getD i 0 = -4611686018427387904
  ·have hF : decide (badN ∈ xs) = true := decide_eq_true (hasB_mem.1 ⟨i, h0⟩)
   rw [hF]
   ((repeat' (first | refine stx ?_ | (refine stq ?_ ?_ <;> (intro hc; ((try simp at hc) <;> try contradiction))) | fail)) <;> try (exfalso; omega))
   all_goals refine fin_ret rfl w_3 (rfl) rfl
  ·((repeat' (first | refine stx ?_ | (refine stq ?_ ?_ <;> (intro hc; ((try simp at hc) <;> try contradiction))) | fail)) <;> try (exfalso; omega))
   all_goals exact ⟨[], i + 1, ⟨hil, fun k hk => by
    rcases Nat.lt_or_ge k i with e | e
    ·exact hnb k e
    ·obtain rfl : k = i := by omega
     exact h0⟩, w_4, ⟨w_1, w_2, rfl⟩⟩
 ·obtain rfl : i = xs.length := by omega
  have hF : decide (badN ∈ xs) = false := decide_eq_false fun h => by
   obtain ⟨p, hp⟩ := hasB_mem.2 h
   rcases Nat.lt_or_ge p xs.length with e | e
   ·exact hnb p e hp
   ·rw [List.getD_eq_getElem?_getD, List.getElem?_eq_none e] at hp; cases hp
  rw [hF]
  ((repeat' (first | refine stx ?_ | (refine stq ?_ ?_ <;> (intro hc; ((try simp at hc) <;> try contradiction))) | fail)) <;> try (exfalso; omega))
  all_goals refine fin_ret rfl w_3 (rfl) rfl
theorem d_opsAdd (a b i j nx cx : Nat) (q : Int) (xs us : List Int) (hn : nx = xs.length) (hx : xs.length = a * b) (hu : us.length = a * a) (ha : a ≤ 24) (hb : b ≤ 24) (hi : i < a) (hj : j < a) (hij : i ≠ j) (g1 : GBs xs) (g2 : GBs us) (hq : GB q) :
    Does Tryz.prog 179 [vM a b 1 nx cx, vM a a 2 (a * a) (a * a), vO 2 i j q] [(1, .own 3 cx (.ints xs)), (2, .own 3 (a * a) (.ints us))] 3 (fun v Hout n1 => v = .tup [] ∧ Hout = [(1, .own 3 cx (.ints (doX xs b i j q))), (2, .own 3 (a * a) (.ints (doX us a i j q)))] ∧ n1 = 3) := by
  refine Does.intro TT Tryz.func179 rfl (by kernel_rfl) Zz Zz fun E hE => ?_
  ((repeat' (first | refine stx ?_ | ((refine w_E (d_doS a b i j nx cx cx q xs hn hx ha hb hi hj hij g1 hq) Zz Zz Zz Zz Zz Zz Zz ft rfl ?_); rintro v Hout n1 ⟨rfl, rfl, rfl⟩) | ((refine w_E (d_doS a a i j (a * a) (a * a) (a * a) q us hu.symm hu ha ha hi hj hij g2 hq) Zz Zz Zz Zz Zz Zz Zz ft rfl ?_); rintro v Hout n1 ⟨rfl, rfl, rfl⟩) | (refine stq ?_ ?_ <;> (intro hc; ((try simp at hc) <;> try contradiction))) | fail)) <;> try (exfalso; omega))
  exact fin_n rfl w_3 [] (.tup []) [(1, .own 3 cx (.ints (doX xs b i j q))), (2, .own 3 (a * a) (.ints (doX us a i j q)))] 3 ⟨rfl, rfl, rfl⟩ rfl ⟨trivial, ⟨rfl, rfl, trivial⟩, rfl⟩ rfl
theorem d_opsSwap (a b i j nx cx : Nat) (xs us : List Int) (hn : nx = xs.length) (o : OKs a b (xs, us)) (ha : a ≤ 24) (hb : b ≤ 24) (hi : i < a) (hj : j < a) (hij : i ≠ j) :
    Does Tryz.prog 179 [vM a b 1 nx cx, vM a a 2 (a * a) (a * a), vO 0 i j 0] [(1, .own 3 cx (.ints xs)), (2, .own 3 (a * a) (.ints us))] 3 (fun v Hout n1 => v = .tup [] ∧ Hout = [(1, .own 3 cx (.ints (swapTo xs (i * b) (j * b) b))), (2, .own 3 (a * a) (.ints (swapTo us (i * a) (j * a) a)))] ∧ n1 = 3) := by
  refine Does.intro TT Tryz.func179 rfl (by kernel_rfl) Zz Zz fun E hE => ?_
  have h1 : xs.length = a * b := o.1
  have h2 : us.length = a * a := o.2.1
  ((repeat' (first | refine stx ?_ | ((refine w_E (d_swapS a b i j nx cx cx xs hn h1 ha hb hi hj hij) Zz Zz Zz Zz Zz Zz Zz ft rfl ?_); rintro v Hout n1 ⟨rfl, rfl, rfl⟩) | ((refine w_E (d_swapS a a i j (a * a) (a * a) (a * a) us h2.symm h2 ha ha hi hj hij) Zz Zz Zz Zz Zz Zz Zz ft rfl ?_); rintro v Hout n1 ⟨rfl, rfl, rfl⟩) | (refine stq ?_ ?_ <;> (intro hc; ((try simp at hc) <;> try contradiction))) | fail)) <;> try (exfalso; omega))
  exact fin_n rfl w_3 [] (.tup []) [(1, .own 3 cx (.ints (swapTo xs (i * b) (j * b) b))), (2, .own 3 (a * a) (.ints (swapTo us (i * a) (j * a) a)))] 3 ⟨rfl, rfl, rfl⟩ rfl ⟨trivial, ⟨rfl, rfl, trivial⟩, rfl⟩ rfl
theorem d_opsNeg (a b i nx cx : Nat) (xs us : List Int) (hn : nx = xs.length) (o : OKs a b (xs, us)) (ha : a ≤ 24) (hb : b ≤ 24) (hi : i < a) :
    Does Tryz.prog 179 [vM a b 1 nx cx, vM a a 2 (a * a) (a * a), vO 1 i i 0] [(1, .own 3 cx (.ints xs)), (2, .own 3 (a * a) (.ints us))] 3 (fun v Hout n1 => v = .tup [] ∧ Hout = [(1, .own 3 cx (.ints (negX xs b i))), (2, .own 3 (a * a) (.ints (negX us a i)))] ∧ n1 = 3) := by
  refine Does.intro TT Tryz.func179 rfl (by kernel_rfl) Zz Zz fun E hE => ?_
  have h1 : xs.length = a * b := o.1
  have h2 : us.length = a * a := o.2.1
  have g1 := d_ngS a b i nx cx cx xs hn h1 ha hb hi (GBs.num o.2.2.1)
  have g2 := d_ngS a a i (a * a) (a * a) (a * a) us h2.symm h2 ha ha hi (GBs.num o.2.2.2)
  rw [ngX_ok o.2.2.1] at g1
  rw [ngX_ok o.2.2.2] at g2
  ((repeat' (first | refine stx ?_ | ((refine w_E (g1) Zz Zz Zz Zz Zz Zz Zz ft rfl ?_); rintro v Hout n1 ⟨rfl, rfl, rfl⟩) | ((refine w_E (g2) Zz Zz Zz Zz Zz Zz Zz ft rfl ?_); rintro v Hout n1 ⟨rfl, rfl, rfl⟩) | (refine stq ?_ ?_ <;> (intro hc; ((try simp at hc) <;> try contradiction))) | fail)) <;> try (exfalso; omega))
  exact fin_n rfl w_3 [] (.tup []) [(1, .own 3 cx (.ints (negX xs b i))), (2, .own 3 (a * a) (.ints (negX us a i)))] 3 ⟨rfl, rfl, rfl⟩ rfl ⟨trivial, ⟨rfl, rfl, trivial⟩, rfl⟩ rfl
set_option maxHeartbeats 2000000 in
theorem d_leastS (a b t j nx cx : Nat) (xs : List Int) (hn : nx = xs.length) (hx : xs.length = a * b) (hnum : xs.all numB = true) (ha : a ≤ 24) (hb : b ≤ 24) (ht : t ≤ a) (hj : j < b) :
    Does Tryz.prog 176 [vM a b 1 nx cx, vI t, vI j] [(1, .ro (.ints xs))] 2 (Ret (vI (pI (leastTo xs b t j (a - t)))) 2) := by
  subst hn
  refine Does.intro TT Tryz.func176 rfl (by kernel_rfl) Zz Zz fun E hE => ?_
  ((repeat' (first | refine stx ?_ | (refine stq ?_ ?_ <;> (intro hc; ((try simp at hc) <;> try contradiction))) | fail)) <;> try (exfalso; omega))
  refine w_G hE (fun n : Nat => t + n ≤ a) (fun n => a - (t + n))
    (fun n => [(2, vI j), (3, .one (.ptr 2 3 0 0)), (7, vI (pI (leastTo xs b t j n))), (8, vI ((t + n : Nat) : Int))]) (fun _ => [(1, .ro (.ints xs)), (2, .own 26 1 (.lit [.int a, .int b, .sl 1 1 0 xs.length cx]))]) 3 [] 0 (by omega) ⟨w_1, w_2, rfl⟩ ?_
  intro n hn
  by_cases hna : t + n < a
  · have hd := d_cellH a b (t + n) j xs.length cx xs rfl hx ha hb hna hj
    have b1 := num_getD hnum ((t + n) * b + j)
    have w1 : xs[(t + n) * b + j]?.getD 0 = xs.getD ((t + n) * b + j) 0 := by simp
    cases hl : leastTo xs b t j n with
    | none =>
      have hp0 : pI none = -1 := rfl
      by_cases h0 : xs.getD ((t + n) * b + j) 0 = 0
      · have hnx : pI (leastTo xs b t j (n + 1)) = pI none := by simp only [leastTo, hl]; rw [if_neg (fun h => h h0)]
        ((repeat' (first | refine stx ?_ | (first | refine w_z (hd) Zz Zz Zz Zz Zz Zz Zz Zz ft Zz Zz ?_ | refine w_A (hd) Zz Zz Zz Zz Zz Zz Zz Zz ft Zz Zz ?_) | (first | refine w_z (d_l1Abs _ (by omega) (by omega)) Zz Zz Zz Zz Zz Zz Zz Zz ft Zz Zz ?_ | refine w_A (d_l1Abs _ (by omega) (by omega)) Zz Zz Zz Zz Zz Zz Zz Zz ft Zz Zz ?_) | (refine stq ?_ ?_ <;> (intro hc; ((try simp at hc) <;> try contradiction))) | fail)) <;> try (exfalso; omega))
        all_goals exact ⟨[], n + 1, by omega, w_4, ⟨⟨rfl, rfl, congrArg some (congrArg vI hnx.symm), congrArg some (congrArg vI (by omega)), trivial⟩, ⟨rfl, rfl, trivial⟩, rfl⟩⟩
      · have hnx : pI (leastTo xs b t j (n + 1)) = ((t + n : Nat) : Int) := by simp only [leastTo, hl]; rw [if_pos h0]; rfl
        ((repeat' (first | refine stx ?_ | (first | refine w_z (hd) Zz Zz Zz Zz Zz Zz Zz Zz ft Zz Zz ?_ | refine w_A (hd) Zz Zz Zz Zz Zz Zz Zz Zz ft Zz Zz ?_) | (first | refine w_z (d_l1Abs _ (by omega) (by omega)) Zz Zz Zz Zz Zz Zz Zz Zz ft Zz Zz ?_ | refine w_A (d_l1Abs _ (by omega) (by omega)) Zz Zz Zz Zz Zz Zz Zz Zz ft Zz Zz ?_) | (refine stq ?_ ?_ <;> (intro hc; ((try simp at hc) <;> try contradiction))) | fail)) <;> try (exfalso; omega))
        all_goals exact ⟨[], n + 1, by omega, w_4, ⟨⟨rfl, rfl, congrArg some (congrArg vI hnx.symm), congrArg some (congrArg vI (by omega)), trivial⟩, ⟨rfl, rfl, trivial⟩, rfl⟩⟩
    | some p =>
      have hp0 : pI (some p) = (p : Int) := rfl
      obtain ⟨⟨p1, p2⟩, p3⟩ := leastTo_some hl
      have hd2 := d_cellH a b p j xs.length cx xs rfl hx ha hb (by omega) hj
      have b2 := num_getD hnum (p * b + j)
      have w2 : xs[p * b + j]?.getD 0 = xs.getD (p * b + j) 0 := by simp
      by_cases h0 : xs.getD ((t + n) * b + j) 0 ≠ 0 ∧ (xs.getD ((t + n) * b + j) 0).natAbs < (xs.getD (p * b + j) 0).natAbs
      · have hnx : pI (leastTo xs b t j (n + 1)) = ((t + n : Nat) : Int) := by simp only [leastTo, hl]; rw [if_pos h0]; rfl
        ((repeat' (first | refine stx ?_ | (first | refine w_z (hd) Zz Zz Zz Zz Zz Zz Zz Zz ft Zz Zz ?_ | refine w_A (hd) Zz Zz Zz Zz Zz Zz Zz Zz ft Zz Zz ?_) | (first | refine w_z (hd2) Zz Zz Zz Zz Zz Zz Zz Zz ft Zz Zz ?_ | refine w_A (hd2) Zz Zz Zz Zz Zz Zz Zz Zz ft Zz Zz ?_) | (first | refine w_z (d_l1Abs _ (by omega) (by omega)) Zz Zz Zz Zz Zz Zz Zz Zz ft Zz Zz ?_ | refine w_A (d_l1Abs _ (by omega) (by omega)) Zz Zz Zz Zz Zz Zz Zz Zz ft Zz Zz ?_) | (refine stq ?_ ?_ <;> (intro hc; ((try simp at hc) <;> try contradiction))) | fail)) <;> try (exfalso; omega))
        all_goals exact ⟨[], n + 1, by omega, w_4, ⟨⟨rfl, rfl, congrArg some (congrArg vI hnx.symm), congrArg some (congrArg vI (by omega)), trivial⟩, ⟨rfl, rfl, trivial⟩, rfl⟩⟩
      · have hnx : pI (leastTo xs b t j (n + 1)) = pI (some p) := by simp only [leastTo, hl]; rw [if_neg h0]
        ((repeat' (first | refine stx ?_ | (first | refine w_z (hd) Zz Zz Zz Zz Zz Zz Zz Zz ft Zz Zz ?_ | refine w_A (hd) Zz Zz Zz Zz Zz Zz Zz Zz ft Zz Zz ?_) | (first | refine w_z (hd2) Zz Zz Zz Zz Zz Zz Zz Zz ft Zz Zz ?_ | refine w_A (hd2) Zz Zz Zz Zz Zz Zz Zz Zz ft Zz Zz ?_) | (first | refine w_z (d_l1Abs _ (by omega) (by omega)) Zz Zz Zz Zz Zz Zz Zz Zz ft Zz Zz ?_ | refine w_A (d_l1Abs _ (by omega) (by omega)) Zz Zz Zz Zz Zz Zz Zz Zz ft Zz Zz ?_) | (refine stq ?_ ?_ <;> (intro hc; ((try simp at hc) <;> try contradiction))) | fail)) <;> try (exfalso; omega))
        all_goals exact ⟨[], n + 1, by omega, w_4, ⟨⟨rfl, rfl, congrArg some (congrArg vI hnx.symm), congrArg some (congrArg vI (by omega)), trivial⟩, ⟨rfl, rfl, trivial⟩, rfl⟩⟩
  · have hnt : n = a - t := by omega
    have htn' : ((t + n : Nat) : Int) = a := by omega
    rw [htn', ← hnt]
    ((repeat' (first | refine stx ?_ | (refine stq ?_ ?_ <;> (intro hc; ((try simp at hc) <;> try contradiction))) | fail)) <;> try (exfalso; omega))
    all_goals refine fin_ret rfl w_3 (rfl) rfl
set_option maxHeartbeats 2000000 in
theorem d_aloneS (a b t p j nx cx : Nat) (xs : List Int) (hn : nx = xs.length) (hx : xs.length = a * b) (hnum : xs.all numB = true) (ha : a ≤ 24) (hb : b ≤ 24) (ht : t ≤ a) (hj : j < b) :
    Does Tryz.prog 177 [vM a b 1 nx cx, vI t, vI j, vI p] [(1, .ro (.ints xs))] 2 (Ret (vB (decide (alone xs b t j p (a - t)))) 2) := by
  subst hn
  refine Does.intro TT Tryz.func177 rfl (by kernel_rfl) Zz Zz fun E hE => ?_
  ((repeat' (first | refine stx ?_ | (refine stq ?_ ?_ <;> (intro hc; ((try simp at hc) <;> try contradiction))) | fail)) <;> try (exfalso; omega))
  refine w_G hE (fun n : Nat => t + n ≤ a ∧ alone xs b t j p n) (fun n => a - (t + n))
    (fun n => [(2, vI j), (3, vI p), (4, .one (.ptr 2 3 0 0)), (9, vI ((t + n : Nat) : Int))]) (fun _ => [(1, .ro (.ints xs)), (2, .own 26 1 (.lit [.int a, .int b, .sl 1 1 0 xs.length cx]))]) 3 [] 0 ⟨by omega, fun i hi => by omega⟩ ⟨w_1, w_2, rfl⟩ ?_
  rintro n ⟨hn, hal⟩
  by_cases hna : t + n < a
  · have hd := d_cellH a b (t + n) j xs.length cx xs rfl hx ha hb hna hj
    have b1 := num_getD hnum ((t + n) * b + j)
    have w1 : xs[(t + n) * b + j]?.getD 0 = xs.getD ((t + n) * b + j) 0 := by simp
    by_cases h0 : t + n = p ∨ xs.getD ((t + n) * b + j) 0 = 0
    · have hal' := alone_next hal h0
      ((repeat' (first | refine stx ?_ | (first | refine w_z (hd) Zz Zz Zz Zz Zz Zz Zz Zz ft Zz Zz ?_ | refine w_A (hd) Zz Zz Zz Zz Zz Zz Zz Zz ft Zz Zz ?_) | (refine stq ?_ ?_ <;> (intro hc; ((try simp at hc) <;> try contradiction))) | fail)) <;> try (exfalso; omega))
      all_goals exact ⟨[], n + 1, ⟨by omega, hal'⟩, w_4, ⟨⟨rfl, rfl, rfl, congrArg some (congrArg vI (by omega)), trivial⟩, ⟨rfl, rfl, trivial⟩, rfl⟩⟩
    · have hF : decide (alone xs b t j p (a - t)) = false := decide_eq_false fun ha' => h0 (.inr (ha' n (by omega) fun h => h0 (.inl h)))
      rw [hF]
      ((repeat' (first | refine stx ?_ | (first | refine w_z (hd) Zz Zz Zz Zz Zz Zz Zz Zz ft Zz Zz ?_ | refine w_A (hd) Zz Zz Zz Zz Zz Zz Zz Zz ft Zz Zz ?_) | (refine stq ?_ ?_ <;> (intro hc; ((try simp at hc) <;> try contradiction))) | fail)) <;> try (exfalso; omega))
      all_goals refine fin_ret rfl w_3 (rfl) rfl
  · have hnt : n = a - t := by omega
    have hT : decide (alone xs b t j p (a - t)) = true := decide_eq_true (by rw [← hnt]; exact hal)
    have htn' : ((t + n : Nat) : Int) = a := by omega
    rw [hT, htn']
    ((repeat' (first | refine stx ?_ | (refine stq ?_ ?_ <;> (intro hc; ((try simp at hc) <;> try contradiction))) | fail)) <;> try (exfalso; omega))
    all_goals refine fin_ret rfl w_3 (rfl) rfl
theorem d_identSN (a : Nat) (ha : a ≤ 24) : Does Tryz.prog 106 [vI a] [] 1 (fun v Hout n1 => v = .tup [.agg [.int a, .int a, .sl 1 1 0 (a * a) (a * a)], .one (.bool true)] ∧ Hout = [(1, .own 3 (a * a) (.ints (idTo a a)))] ∧ n1 = 2) := by
  have h := d_identS a
  have e : IdOut (a : Int) 3 = fun v Hout n1 => v = .tup [.agg [.int a, .int a, .sl 1 1 0 (a * a) (a * a)], .one (.bool true)] ∧ Hout = [(1, .own 3 (a * a) (.ints (idTo a a)))] ∧ n1 = 2 := by
    funext v Hout n1
    unfold IdOut
    rw [inB_true.2 (by omega)]
    simp
  rwa [e] at h
end Go.Proofs.YtekpamojojfplaaGreat
namespace Go.Proofs.YtekpamojojfplaaGreat
open Go.RowKit
section
variable {P : Program} {E : Env} {N : Nat} {Q : Post} {fr : Nat → Option AV} {H : Nat → Option Blk} {nx : Nat}
def cutQ {α : Type} (n0 : Nat) (pre : α → Prop) (F : α → List (Nat × AV)) (Hh : α → List (Nat × Blk)) (nx : Nat) (Q : Post) : Post := fun e σ => match e with
  | .normal => ∃ m y, pre y ∧ Weak n0 σ.fr σ.H m (F y) (Hh y) nx
  | e => Q e σ
variable {l0 : List Oper} {ρs : Rho} {nxs : Nat} {hs : List (Nat × Blk)} {fuel : Nat} {listed : Array Bool}
theorem Does.mono {f : FuncId} {args : List AV} {Hin : List (Nat × Blk)} {n0 : Nat} {Out Out' : AV → List (Nat × Blk) → Nat → Prop} (hD : Does P f args Hin n0 Out) (hm : ∀ v Hout n1, Out v Hout n1 → Out' v Hout n1) : Does P f args Hin n0 Out' :=
  ⟨hD.fn, fun ρ w hH hk => Calls.mono (hD.calls ρ w hH hk) fun _ _ ⟨ρ', v, Hout, n1, ho, h⟩ => ⟨ρ', v, Hout, n1, hm _ _ _ ho, h⟩⟩
end
end Go.Proofs.YtekpamojojfplaaGreat
namespace Go.Proofs.YtekpamojojfplaaGreat
open Go.RowKit
theorem isM_of {a b : Nat} {xs : List Int} (ha : a ≤ 24) (hb : b ≤ 24) (hx : xs.length = a * b) (hnum : xs.all numB = true) : isM a b xs = true := by
  simp only [isM, Bool.and_eq_true, decide_eq_true_eq]
  exact ⟨⟨by omega, by omega, by omega, by omega, by exact_mod_cast hx⟩, hnum⟩
theorem d_turnN (a b n ca : Nat) (xs : List Int) (hn : n = xs.length) (hx : xs.length = a * b) (ha : a ≤ 24) (hb : b ≤ 24) (hnum : xs.all numB = true) : Does Tryz.prog 61 [vM a b 1 n ca] [(1, .ro (.ints xs))] 2 (fun v Hout n1 => v = .tup [.agg [.int b, .int a, .sl 2 1 0 (b * a) (b * a)], .one (.bool true)] ∧ Hout = [(2, .own 3 (b * a) (.ints (turnM xs a b)))] ∧ n1 = 3) := by
  subst hn
  have hab : a * b ≤ 24 * 24 := Nat.mul_le_mul ha hb
  have h := d_turnI a b xs ca (by omega)
  have e : TurnZ a b 3 xs = fun v Hout n1 => v = .tup [.agg [.int b, .int a, .sl 2 1 0 (b * a) (b * a)], .one (.bool true)] ∧ Hout = [(2, .own 3 (b * a) (.ints (turnM xs a b)))] ∧ n1 = 3 := by
    funext v Hout n1
    unfold TurnZ
    rw [isM_of ha hb hx hnum]
    simp
  rwa [e] at h
def DidC (t tw : TypeId) (a b cx cu cv : Nat) (o : Option S3) (v : AV) (Hout : List (Nat × Blk)) (n1 : Nat) : Prop := v = .tup [] ∧ n1 = 8 ∧ match o with
  | some s => Hout = [(2, .own tw 1 (.lit (workL 6 4 7 a b (a * b) (a * b) cu (b * b) false))), (6, .own t (a * b) (.ints s.1)), (7, .own t (b * b) (.ints s.2.2))]
  | none => Hout = [(2, .own tw 1 (.lit (workL 6 4 7 a b (a * b) cx cu cv true)))]
theorem col3_if {r c i j : Nat} {q : Int} {s : S3} : col3 r c i j q s = if (addOK (turnM s.1 r c) r i j q r && addOK (turnM s.2.2 c c) c i j q c) = true then some (turnM (addX (turnM s.1 r c) r i j q) c r, s.2.1, turnM (addX (turnM s.2.2 c c) c i j q) c c) else none := by
  unfold col3 colOK
  simp only [Bool.and_eq_true]
set_option maxHeartbeats 4000000 in
theorem d_colsAdd (a b i j cx cu cv : Nat) (q : Int) (s : S3) (hs : OK3 a b s) (ha : a ≤ 24) (hb : b ≤ 24) (hi : i < b) (hj : j < b) (hij : i ≠ j) (hq : numB q = true) :
    Does Tryz.prog 220 [vW, vO 2 i j q] [(2, .own 137 1 (.lit (workL 3 4 5 a b (a * b) cx cu cv false))), (3, .ro (.ints s.1)), (5, .ro (.ints s.2.2))] 6 (DidC 3 137 a b cx cu cv (col3 a b i j q s)) := by
  obtain ⟨h1, h2, h3, h4, h5, h6⟩ := hs
  refine Does.intro TT Tryz.func220 rfl (by kernel_rfl) Zz Zz fun E hE => ?_
  have g0 := d_isOpI 2 i j q b hb ⟨by omega, by omega⟩ ⟨by omega, by omega⟩ hq (.inr (.inr ⟨rfl, by omega⟩))
  have t1 := d_turnN a b (a * b) cx s.1 h1.symm h1 ha hb h4
  have t2 := d_turnN b b (b * b) cv s.2.2 h3.symm h3 hb hb h6
  have l1 : (turnM s.1 a b).length = b * a := turnM_len
  have l2 : (turnM s.2.2 b b).length = b * b := turnM_len
  have g1 := d_addI b a i j (b * a) (b * a) (b * a) q (turnM s.1 a b) l1.symm l1 (by omega) hb ha hi hj hij (trX_num h4) hq
  have g2 := d_addI b b i j (b * b) (b * b) (b * b) q (turnM s.2.2 b b) l2.symm l2 (by omega) hb hb hi hj hij (trX_num h6) hq
  unfold AddR at g1 g2
  rw [col3_if]
  cases k1 : addOK (turnM s.1 a b) a i j q a
  · rw [k1] at g1
    rw [if_neg (fun h => by cases h)]
    ((repeat' (first | refine stx ?_ | (first | refine w_z (g0) Zz Zz Zz Zz Zz Zz Zz Zz ft Zz Zz ?_ | refine w_A (g0) Zz Zz Zz Zz Zz Zz Zz Zz ft Zz Zz ?_) | ((refine w_E (t1) Zz Zz Zz Zz Zz Zz Zz ft rfl ?_); rintro v Hout n1 ⟨rfl, rfl, rfl⟩) | ((refine w_E (t2) Zz Zz Zz Zz Zz Zz Zz ft rfl ?_); rintro v Hout n1 ⟨rfl, rfl, rfl⟩) | ((refine w_E (g1) Zz Zz Zz Zz Zz Zz Zz ft rfl ?_); rintro v Hout n1 ⟨ys, hy1, hy2, rfl, rfl, rfl⟩) | ((refine w_E (g2) Zz Zz Zz Zz Zz Zz Zz ft rfl ?_); rintro v Hout n1 ⟨zs, hz1, hz2, rfl, rfl, rfl⟩) | (refine stq ?_ ?_ <;> (intro hc; ((try simp at hc) <;> try contradiction))) | fail)) <;> try (exfalso; omega))
    all_goals exact fin_n rfl w_3 [(6, 3), (7, 5)] (.tup []) [(2, .own 137 1 (.lit (workL 6 4 7 a b (a * b) cx cu cv true)))] 8 ⟨rfl, rfl, rfl⟩ rfl ⟨trivial, ⟨rfl, trivial⟩, rfl⟩ rfl
  · rw [k1] at g1
    cases k2 : addOK (turnM s.2.2 b b) b i j q b
    · rw [k2] at g2
      rw [if_neg (fun h => by cases h)]
      ((repeat' (first | refine stx ?_ | (first | refine w_z (g0) Zz Zz Zz Zz Zz Zz Zz Zz ft Zz Zz ?_ | refine w_A (g0) Zz Zz Zz Zz Zz Zz Zz Zz ft Zz Zz ?_) | ((refine w_E (t1) Zz Zz Zz Zz Zz Zz Zz ft rfl ?_); rintro v Hout n1 ⟨rfl, rfl, rfl⟩) | ((refine w_E (t2) Zz Zz Zz Zz Zz Zz Zz ft rfl ?_); rintro v Hout n1 ⟨rfl, rfl, rfl⟩) | ((refine w_E (g1) Zz Zz Zz Zz Zz Zz Zz ft rfl ?_); rintro v Hout n1 ⟨ys, hy1, hy2, rfl, rfl, rfl⟩) | ((refine w_E (g2) Zz Zz Zz Zz Zz Zz Zz ft rfl ?_); rintro v Hout n1 ⟨zs, hz1, hz2, rfl, rfl, rfl⟩) | (refine stq ?_ ?_ <;> (intro hc; ((try simp at hc) <;> try contradiction))) | fail)) <;> try (exfalso; omega))
      all_goals exact fin_n rfl w_3 [(6, 3), (7, 5)] (.tup []) [(2, .own 137 1 (.lit (workL 6 4 7 a b (a * b) cx cu cv true)))] 8 ⟨rfl, rfl, rfl⟩ rfl ⟨trivial, ⟨rfl, trivial⟩, rfl⟩ rfl
    · rw [k2] at g2
      rw [if_pos (show (true && true) = true from rfl)]
      have m1 := addX_num (trX_num h4) k1
      have m2 := addX_num (trX_num h6) k2
      have e1 := (addX_len (xs := turnM s.1 a b) (c := a) (i := i) (j := j) (q := q)).trans l1
      have e2 := (addX_len (xs := turnM s.2.2 b b) (c := b) (i := i) (j := j) (q := q)).trans l2
      have t3 := d_turnN b a (b * a) (b * a) _ e1.symm e1 hb ha m1
      have t4 := d_turnN b b (b * b) (b * b) _ e2.symm e2 hb hb m2
      have y1 : ∀ ys : List Int, ys.length = (turnM s.1 a b).length → (true = true → ys = addX (turnM s.1 a b) a i j q) → ys = addX (turnM s.1 a b) a i j q := fun _ _ h => h rfl
      have y2 : ∀ ys : List Int, ys.length = (turnM s.2.2 b b).length → (true = true → ys = addX (turnM s.2.2 b b) b i j q) → ys = addX (turnM s.2.2 b b) b i j q := fun _ _ h => h rfl
      ((repeat' (first | refine stx ?_ | (first | refine w_z (g0) Zz Zz Zz Zz Zz Zz Zz Zz ft Zz Zz ?_ | refine w_A (g0) Zz Zz Zz Zz Zz Zz Zz Zz ft Zz Zz ?_) | ((refine w_E (t1) Zz Zz Zz Zz Zz Zz Zz ft rfl ?_); rintro v Hout n1 ⟨rfl, rfl, rfl⟩) | ((refine w_E (t2) Zz Zz Zz Zz Zz Zz Zz ft rfl ?_); rintro v Hout n1 ⟨rfl, rfl, rfl⟩) | ((refine w_E (g1) Zz Zz Zz Zz Zz Zz Zz ft rfl ?_); rintro v Hout n1 ⟨ys, hy1, hy2, rfl, rfl, rfl⟩; obtain rfl := y1 _ hy1 hy2) | ((refine w_E (g2) Zz Zz Zz Zz Zz Zz Zz ft rfl ?_); rintro v Hout n1 ⟨zs, hz1, hz2, rfl, rfl, rfl⟩; obtain rfl := y2 _ hz1 hz2) | ((refine w_E (t3) Zz Zz Zz Zz Zz Zz Zz ft rfl ?_); rintro v Hout n1 ⟨rfl, rfl, rfl⟩) | ((refine w_E (t4) Zz Zz Zz Zz Zz Zz Zz ft rfl ?_); rintro v Hout n1 ⟨rfl, rfl, rfl⟩) | (refine stq ?_ ?_ <;> (intro hc; ((try simp at hc) <;> try contradiction))) | fail)) <;> try (exfalso; omega))
      all_goals exact fin_n rfl w_3 [(6, 11), (7, 12)] (.tup []) [(2, .own 137 1 (.lit (workL 6 4 7 a b (a * b) (a * b) cu (b * b) false))), (6, .own 3 (a * b) (.ints (turnM (addX (turnM s.1 a b) a i j q) b a))), (7, .own 3 (b * b) (.ints (turnM (addX (turnM s.2.2 b b) b i j q) b b)))] 8 ⟨rfl, rfl, rfl⟩ rfl ⟨trivial, ⟨rfl, rfl, rfl, trivial⟩, rfl⟩ rfl
set_option maxHeartbeats 4000000 in
theorem d_colsSwap (a b i j cx cu cv : Nat) (s : S3) (hs : OK3 a b s) (ha : a ≤ 24) (hb : b ≤ 24) (hi : i < b) (hj : j < b) (hij : i ≠ j) :
    Does Tryz.prog 220 [vW, vO 0 i j 0] [(2, .own 137 1 (.lit (workL 3 4 5 a b (a * b) cx cu cv false))), (3, .ro (.ints s.1)), (5, .ro (.ints s.2.2))] 6 (DidC 3 137 a b cx cu cv (some (swC a b i j s))) := by
  obtain ⟨h1, h2, h3, h4, h5, h6⟩ := hs
  refine Does.intro TT Tryz.func220 rfl (by kernel_rfl) Zz Zz fun E hE => ?_
  have g0 := d_isOpI 0 i j 0 b hb ⟨by omega, by omega⟩ ⟨by omega, by omega⟩ (by decide) (.inl ⟨rfl, by omega, rfl⟩)
  have t1 := d_turnN a b (a * b) cx s.1 h1.symm h1 ha hb h4
  have t2 := d_turnN b b (b * b) cv s.2.2 h3.symm h3 hb hb h6
  have l1 : (turnM s.1 a b).length = b * a := turnM_len
  have l2 : (turnM s.2.2 b b).length = b * b := turnM_len
  have g1 := d_swapI b a i j (b * a) (b * a) (b * a) (turnM s.1 a b) l1.symm l1 (by omega) hb ha hi hj hij
  have g2 := d_swapI b b i j (b * b) (b * b) (b * b) (turnM s.2.2 b b) l2.symm l2 (by omega) hb hb hi hj hij
  have e1 := (swapTo_len (xs := turnM s.1 a b) (o1 := i * a) (o2 := j * a) (k := a)).trans l1
  have e2 := (swapTo_len (xs := turnM s.2.2 b b) (o1 := i * b) (o2 := j * b) (k := b)).trans l2
  have t3 := d_turnN b a (b * a) (b * a) _ e1.symm e1 hb ha (swapTo_num (trX_num h4))
  have t4 := d_turnN b b (b * b) (b * b) _ e2.symm e2 hb hb (swapTo_num (trX_num h6))
  have hsw : swC a b i j s = (turnM (swapTo (turnM s.1 a b) (i * a) (j * a) a) b a, s.2.1, turnM (swapTo (turnM s.2.2 b b) (i * b) (j * b) b) b b) := if_neg hij
  rw [hsw]
  ((repeat' (first | refine stx ?_ | (first | refine w_z (g0) Zz Zz Zz Zz Zz Zz Zz Zz ft Zz Zz ?_ | refine w_A (g0) Zz Zz Zz Zz Zz Zz Zz Zz ft Zz Zz ?_) | ((refine w_E (t1) Zz Zz Zz Zz Zz Zz Zz ft rfl ?_); rintro v Hout n1 ⟨rfl, rfl, rfl⟩) | ((refine w_E (t2) Zz Zz Zz Zz Zz Zz Zz ft rfl ?_); rintro v Hout n1 ⟨rfl, rfl, rfl⟩) | ((refine w_E (g1) Zz Zz Zz Zz Zz Zz Zz ft rfl ?_); rintro v Hout n1 ⟨rfl, rfl, rfl⟩) | ((refine w_E (g2) Zz Zz Zz Zz Zz Zz Zz ft rfl ?_); rintro v Hout n1 ⟨rfl, rfl, rfl⟩) | ((refine w_E (t3) Zz Zz Zz Zz Zz Zz Zz ft rfl ?_); rintro v Hout n1 ⟨rfl, rfl, rfl⟩) | ((refine w_E (t4) Zz Zz Zz Zz Zz Zz Zz ft rfl ?_); rintro v Hout n1 ⟨rfl, rfl, rfl⟩) | (refine stq ?_ ?_ <;> (intro hc; ((try simp at hc) <;> try contradiction))) | fail)) <;> try (exfalso; omega))
  all_goals exact fin_n rfl w_3 [(6, 11), (7, 12)] (.tup []) [(2, .own 137 1 (.lit (workL 6 4 7 a b (a * b) (a * b) cu (b * b) false))), (6, .own 3 (a * b) (.ints (turnM (swapTo (turnM s.1 a b) (i * a) (j * a) a) b a))), (7, .own 3 (b * b) (.ints (turnM (swapTo (turnM s.2.2 b b) (i * b) (j * b) b) b b)))] 8 ⟨rfl, rfl, rfl⟩ rfl ⟨trivial, ⟨rfl, rfl, rfl, trivial⟩, rfl⟩ rfl
def pA : Option (Nat × Nat) → Int
  | none => -1
  | some p => p.1
def pB : Option (Nat × Nat) → Int
  | none => -1
  | some p => p.2
end Go.Proofs.YtekpamojojfplaaGreat
namespace Go.Proofs.YtekpamojojfplaaGreat
open Go.RowKit
end Go.Proofs.YtekpamojojfplaaGreat
namespace Go.Proofs.YtekpamojojfplaaGreat
open Go.RowKit
set_option maxHeartbeats 4000000 in
theorem d_colSA (r c i j n ca cap : Nat) (q : Int) (xs : List Int) (hn : n = xs.length) (hx : xs.length = r * c) (hr : r ≤ 24) (hc24 : c ≤ 24) (hi : i < c) (hj : j < c) (hij : i ≠ j) (hg : GBs xs) (hq : GB q) :
    Does Tryz.prog 186 [vM r c 1 n ca, vO 2 i j q] [(1, .own 3 cap (.ints xs))] 2 (SetM 3 cap (dcX xs r c i j q)) := by
  have hqr := hq.rng
  refine Does.intro TT Tryz.func186 rfl (by kernel_rfl) Zz Zz fun E hE => ?_
  ((repeat' (first | refine stx ?_ | (refine stq ?_ ?_ <;> (intro hc; ((try simp at hc) <;> try contradiction))) | fail)) <;> try (exfalso; omega))
  refine w_G hE (fun k : Nat => k ≤ r) (fun k => r - k)
    (fun k => [(2, .one (.ptr 2 3 0 0)), (3, .one (.ptr 3 4 0 0)), (4, vI k)]) (fun k => [(1, .own 3 cap (.ints (cupTo xs c i (dcF xs c j q) k))), (2, .own 26 1 (.lit [.int r, .int c, .sl 1 1 0 n ca])), (3, .own 74 1 (.lit [.int 2, .int i, .int j, .int q]))]) 4 [] 0 (Nat.zero_le _) ⟨w_1, w_2, rfl⟩ ?_
  intro k hk
  have hlen : (cupTo xs c i (dcF xs c j q) k).length = xs.length := cupTo_len
  by_cases hkr : k < r
  · have hkn : ¬ (r ≤ k) := by omega
    have b1 := cell_facts hkr hi hr hc24
    have b2 := cell_facts hkr hj hr hc24
    have e1 := cell_nat (p := k) (k := i) (c := c)
    have e2 := cell_nat (p := k) (k := j) (c := c)
    have a1 : (cupTo xs c i (dcF xs c j q) k).getD (k * c + i) 0 = xs.getD (k * c + i) 0 := by rw [cupTo_cell hx hi hi hkr (by omega), if_neg (by omega)]
    have a2 : (cupTo xs c i (dcF xs c j q) k).getD (k * c + j) 0 = xs.getD (k * c + j) 0 := by rw [cupTo_cell hx hi hj hkr (by omega), if_neg (by omega)]
    have v1 := hg (k * c + i)
    have v2 := hg (k * c + j)
    rw [← a1, ← e1] at v1
    rw [← a2, ← e2] at v2
    have g1 := d_mulV _ q v2 hq
    have g2 := d_addV _ _ v1 (GB.mul ((cupTo xs c i (dcF xs c j q) k).getD (0 + ((k : Int) * c + j).toNat) 0) q)
    have hv : addV ((cupTo xs c i (dcF xs c j q) k).getD (0 + ((k : Int) * c + i).toNat) 0) (mulV ((cupTo xs c i (dcF xs c j q) k).getD (0 + ((k : Int) * c + j).toNat) 0) q) = dcF xs c j q k (xs.getD (k * c + i) 0) := by rw [e1, e2, a1, a2]; rfl
    have r1 := v1.rng
    have r2 := v2.rng
    ((repeat' (first | refine stp ?_ | (refine stq ?_ ?_ <;> (intro hc; ((try simp at hc) <;> try contradiction))) | fail)) <;> try (exfalso; omega))
    refine awp_held TM [(2, _), (3, _)] sb rfl (fun ρs => ?_)
    refine zt0 ?_
    refine zt1 ?_
    refine zt2 ?_
    refine zt3 ?_
    refine zt4 ?_
    refine zt5 ?_
    refine zt6 ?_
    refine zt7 ?_
    refine zt8 ?_
    refine zt9 ?_
    refine zt10 ?_
    refine zt11 ?_
    refine zt12 ?_
    refine w_u [13] kr rfl ⟨?_, trivial⟩
    first | (refine zho ?_) | refine w_B _ (g1) Zz Zz Zz Zz Zz Zz Zz Zz Zz ft Zz Zz sb rfl ?_ | refine w_B _ (g2) Zz Zz Zz Zz Zz Zz Zz Zz Zz ft Zz Zz sb rfl ?_
    refine w_u [14] kr rfl ⟨?_, trivial⟩
    first | (refine zho ?_) | refine w_B _ (g1) Zz Zz Zz Zz Zz Zz Zz Zz Zz ft Zz Zz sb rfl ?_ | refine w_B _ (g2) Zz Zz Zz Zz Zz Zz Zz Zz Zz ft Zz Zz sb rfl ?_
    refine zt15 ?_
    refine w_u [16] kr rfl ⟨?_, trivial⟩
    first | (refine zho ?_) | refine w_B _ (g1) Zz Zz Zz Zz Zz Zz Zz Zz Zz ft Zz Zz sb rfl ?_ | refine w_B _ (g2) Zz Zz Zz Zz Zz Zz Zz Zz Zz ft Zz Zz sb rfl ?_
    refine w_v kr ?_
    rotate_left
    all_goals ((repeat' (first | refine stp ?_ | (refine stq ?_ ?_ <;> (intro hc; ((try simp at hc) <;> try contradiction))) | fail)) <;> try (exfalso; omega))
    all_goals
      refine ⟨[], k + 1, hkr, w_4, ⟨w_1, ⟨own_ints ?_, rfl, rfl, trivial⟩, rfl⟩⟩
      rw [hv, e1]; rfl
  · obtain rfl : k = r := by omega
    rw [cup_dcX hx hi hj]
    ((repeat' (first | refine stx ?_ | (refine stq ?_ ?_ <;> (intro hc; ((try simp at hc) <;> try contradiction))) | fail)) <;> try (exfalso; omega))
    exact fin_n rfl w_3 [] (.tup []) [(1, .own 3 cap (.ints (dcX xs k c i j q)))] 2 ⟨rfl, rfl, rfl⟩ rfl ⟨trivial, ⟨rfl, trivial⟩, rfl⟩ rfl
set_option maxHeartbeats 4000000 in
theorem d_colSW (r c i j n ca cap : Nat) (xs : List Int) (hn : n = xs.length) (hx : xs.length = r * c) (hr : r ≤ 24) (hc24 : c ≤ 24) (hi : i < c) (hj : j < c) (hij : i ≠ j) (hg : GBs xs) :
    Does Tryz.prog 186 [vM r c 1 n ca, vO 0 i j 0] [(1, .own 3 cap (.ints xs))] 2 (SetM 3 cap (turnM (swapTo (turnM xs r c) (i * r) (j * r) r) c r)) := by
  refine Does.intro TT Tryz.func186 rfl (by kernel_rfl) Zz Zz fun E hE => ?_
  ((repeat' (first | refine stx ?_ | (refine stq ?_ ?_ <;> (intro hc; ((try simp at hc) <;> try contradiction))) | fail)) <;> try (exfalso; omega))
  refine w_G hE (fun k : Nat => k ≤ r) (fun k => r - k)
    (fun k => [(2, .one (.ptr 2 3 0 0)), (3, .one (.ptr 3 4 0 0)), (4, vI k)]) (fun k => [(1, .own 3 cap (.ints (cswTo xs c i j k))), (2, .own 26 1 (.lit [.int r, .int c, .sl 1 1 0 n ca])), (3, .own 74 1 (.lit [.int 0, .int i, .int j, .int 0]))]) 4 [] 0 (Nat.zero_le _) ⟨w_1, w_2, rfl⟩ ?_
  intro k hk
  have hlen : (cswTo xs c i j k).length = xs.length := cswTo_len
  by_cases hkr : k < r
  · have hkn : ¬ (r ≤ k) := by omega
    have b1 := cell_facts hkr hi hr hc24
    have b2 := cell_facts hkr hj hr hc24
    have e1 := cell_nat (p := k) (k := i) (c := c)
    have e2 := cell_nat (p := k) (k := j) (c := c)
    have a1 : (cswTo xs c i j k).getD (k * c + i) 0 = xs.getD (k * c + i) 0 := by rw [cswTo_cell hx hi hj hij hi hkr (by omega), if_neg (by omega), if_neg (by omega)]
    have a2 : (cswTo xs c i j k).getD (k * c + j) 0 = xs.getD (k * c + j) 0 := by rw [cswTo_cell hx hi hj hij hj hkr (by omega), if_neg (by omega), if_neg (by omega)]
    ((repeat' (first | refine stp ?_ | (refine stq ?_ ?_ <;> (intro hc; ((try simp at hc) <;> try contradiction))) | fail)) <;> try (exfalso; omega))
    all_goals
      refine ⟨[], k + 1, hkr, w_4, ⟨w_1, ⟨own_ints ?_, rfl, rfl, trivial⟩, rfl⟩⟩
      rw [e1, e2, a1, a2]; rfl
  · obtain rfl : k = r := by omega
    rw [csw_swC hx hi hj hij]
    ((repeat' (first | refine stx ?_ | (refine stq ?_ ?_ <;> (intro hc; ((try simp at hc) <;> try contradiction))) | fail)) <;> try (exfalso; omega))
    exact fin_n rfl w_3 [] (.tup []) [(1, .own 3 cap (.ints (turnM (swapTo (turnM xs k c) (i * k) (j * k) k) c k)))] 2 ⟨rfl, rfl, rfl⟩ rfl ⟨trivial, ⟨rfl, trivial⟩, rfl⟩ rfl
end Go.Proofs.YtekpamojojfplaaGreat
namespace Go.Proofs.YtekpamojojfplaaGreat
def TurnS (n : Nat) (s : S3) : Prop := OK3 n n s ∧ s.2.2 = turnM s.2.1 n n
def bothO (n i j : Nat) (q : Int) (s : S3) : Option S3 := (row3 n n i j q s).bind (col3 n n i j q)
theorem turn_bad {xs : List Int} {n : Nat} (h : xs.length = n * n) : hasB (turnM xs n n) ↔ hasB xs := ⟨fun hb => by have := turnM_bad turnM_len hb; rwa [trX_tr h] at this, turnM_bad h⟩
theorem both_marks {n i j : Nat} {q : Int} {s : S3} (h : TurnS n s) (hi : i < n) (hq : q ≠ badN) :
    (bothO n i j q s = none ↔ hasB (dcX (doX s.1 n i j q) n n i j q) ∨ hasB (doX s.2.1 n i j q)) ∧ ∀ s', bothO n i j q s = some s' → s' = (dcX (doX s.1 n i j q) n n i j q, doX s.2.1 n i j q, turnM (doX s.2.1 n i j q) n n) ∧ TurnS n s' := by
  obtain ⟨ho, ht⟩ := h
  have h1 := ((Sp3.of ho).row (j := j) hi hq).col (j := j) hi hq
  have e : dcX s.2.2 n n i j q = turnM (doX s.2.1 n i j q) n n := by rw [dcX, ht, trX_tr ho.u]
  have hl : (doX s.2.1 n i j q).length = n * n := updTo_len.trans ho.u
  have hb : bothO n i j q s = ((some s).bind (row3 n n i j q)).bind (col3 n n i j q) := rfl
  rw [← hb] at h1
  dsimp only at h1
  rw [e] at h1
  constructor
  · constructor
    · intro hn
      refine Classical.byContradiction fun hc => ?_
      have := (h1.ok fun hh => hc (by
        rcases hh with a | a | a
        · exact .inl a
        · exact .inr a
        · exact .inr ((turn_bad hl).1 a))).1
      rw [hn] at this; cases this
    · intro hh
      refine h1.bad ?_
      rcases hh with a | a
      · exact .inl a
      · exact .inr (.inl a)
  · intro s' hs
    have hnb : ¬ (hasB (dcX (doX s.1 n i j q) n n i j q) ∨ hasB (doX s.2.1 n i j q) ∨ hasB (turnM (doX s.2.1 n i j q) n n)) := fun hh => by
      have := h1.bad hh
      rw [hs] at this; cases this
    obtain ⟨a1, a2⟩ := h1.ok hnb
    rw [hs] at a1
    cases a1
    exact ⟨rfl, a2, rfl⟩
theorem swap_turn {n i j : Nat} {s : S3} (h : TurnS n s) (hij : i ≠ j) : TurnS n (swC n n i j (swR n n i j s)) ∧ swC n n i j (swR n n i j s) = (turnM (swapTo (turnM (swapTo s.1 (i * n) (j * n) n) n n) (i * n) (j * n) n) n n, swapTo s.2.1 (i * n) (j * n) n, turnM (swapTo s.2.1 (i * n) (j * n) n) n n) := by
  obtain ⟨ho, ht⟩ := h
  have e : swC n n i j (swR n n i j s) = (turnM (swapTo (turnM (swapTo s.1 (i * n) (j * n) n) n n) (i * n) (j * n) n) n n, swapTo s.2.1 (i * n) (j * n) n, turnM (swapTo s.2.1 (i * n) (j * n) n) n n) := by
    rw [swC, if_neg hij, swR, if_neg hij]
    dsimp only
    rw [ht, trX_tr ho.u]
  exact ⟨⟨swC_ok (swR_ok ho), by rw [e]⟩, e⟩
theorem rnd_bd (p : RP) : -1000000000000 ≤ rndP2 p ∧ rndP2 p ≤ 1000000000000 := by
  unfold rndP2 rndR
  split
  · rename_i h
    obtain ⟨⟨a1, a2⟩, ⟨b1, b2⟩, b3⟩ := ratio_in h
    have h1 : (2 * p.1 + p.2) / (2 * p.2) ≤ 1200000000 := Int.ediv_le_of_le_mul (by omega) (by
      have := Int.mul_le_mul_of_nonneg_left (show (2 : Int) ≤ 2 * p.2 by omega) (show (0 : Int) ≤ 1200000000 by omega)
      omega)
    have h2 : -1200000000 ≤ (2 * p.1 + p.2) / (2 * p.2) := Int.le_ediv_of_mul_le (by omega) (by
      have := Int.mul_le_mul_of_nonneg_left (show (2 : Int) ≤ 2 * p.2 by omega) (show (0 : Int) ≤ 1200000000 by omega)
      omega)
    omega
  · omega
theorem rnd_num (p : RP) : numB (-rndP2 p) = true := by
  rw [numB_true]
  unfold rndP2 rndR
  split
  · rename_i h
    obtain ⟨⟨a1, a2⟩, ⟨b1, b2⟩, b3⟩ := ratio_in h
    have h1 : (2 * p.1 + p.2) / (2 * p.2) < 400000001 := Int.ediv_lt_of_lt_mul (by omega) (by omega)
    have h2 : -400000000 ≤ (2 * p.1 + p.2) / (2 * p.2) := Int.le_ediv_of_mul_le (by omega) (by omega)
    omega
  · omega
theorem redStep_turn {n k : Nat} {s s' : S3} {k' : Nat} (h : TurnS n s) (hk : 1 ≤ k ∧ k < n) (hs : redStep n k s = some (s', k')) : TurnS n s' ∧ 1 ≤ k' ∧ k' ≤ n := by
  rw [redStep, Option.bind_eq_some_iff] at hs
  obtain ⟨st, h1, h2⟩ := hs
  split at h2
  · cases h2
  · rename_i j hj
    obtain ⟨s1, h3, h4⟩ := Option.map_eq_some_iff.1 h2
    cases h4
    exact ⟨((both_marks h (i := k) hk.2 (q := -rndP2 ((st.1.getD k []).getD j (0, 0))) (by
      intro hb
      have hr : -1000000000000 ≤ rndP2 ((st.1.getD k []).getD j (0, 0)) ∧ rndP2 ((st.1.getD k []).getD j (0, 0)) ≤ 1000000000000 := rnd_bd _
      unfold badN at hb; omega)).2 _ h3).2, hk.1, by omega⟩
  · split at h2
    · cases h2
    · split at h2
      · cases h2; exact ⟨h, by omega, by omega⟩
      · cases h2; exact ⟨(swap_turn h (by omega)).1, by omega, by omega⟩
end Go.Proofs.YtekpamojojfplaaGreat
namespace Go.Proofs.YtekpamojojfplaaGreat
open Go.RowKit
section
variable {P : Program} {E : Env} {N : Nat} {Q : Post} {fr : Nat → Option AV} {H : Nat → Option Blk} {nx : Nat}
theorem awp_cutR {α : Type} (i : Nat) {ops : Array Oper} {dr : Bool} {y : Code} {n0 : Nat} (hn : E.n0 = n0) (pre : α → Prop) (F : α → List (Nat × AV)) (Hh : α → List (Nat × Blk)) (nx1 : Nat)
    (h : awp P E N (.region i ops dr) (cutQ n0 pre F Hh nx1 Q) ⟨fr, H, nx⟩)
    (hr : ∀ z, pre z → awp P E N y Q ⟨lk (F z), lk (Hh z), nx1⟩) : awp P E N (.seq (.region i ops dr) y) Q ⟨fr, H, nx⟩ := by
  unfold awp at *
  intro ρ a w hI
  refine wp_seq (Code.wp_mono (fun e a' w' hq => ?_) (h ρ a w hI))
  obtain ⟨ρ', σ', hI', hq⟩ := hq
  cases e with
  | normal =>
    obtain ⟨m, z, hp, hw⟩ := hq
    exact hr z hp _ a' w' (hI'.weak hn hw.f hw.h hw.ok)
  | exit id => exact ⟨ρ', σ', hI', hq⟩
  | goto l => exact ⟨ρ', σ', hI', hq⟩
  | ret => exact ⟨ρ', σ', hI', hq⟩
  | panic => exact ⟨ρ', σ', hI', hq⟩
  | outgrown => exact ⟨ρ', σ', hI', hq⟩
end
end Go.Proofs.YtekpamojojfplaaGreat
namespace Go.Proofs.YtekpamojojfplaaGreat
open Go.RowKit
theorem cmpR_rng {a b c d : Int} : cmpR a b c d = -1 ∨ cmpR a b c d = 0 ∨ cmpR a b c d = 1 ∨ cmpR a b c d = 2 := by
  unfold cmpR
  split
  · split
    · exact .inl rfl
    · split
      · exact .inr (.inr (.inl rfl))
      · exact .inr (.inl rfl)
  · exact .inr (.inr (.inr rfl))
set_option maxRecDepth 100000 in
set_option maxHeartbeats 4000000 in
theorem d_goodS (M S0 S1 : RP) (c : Int) (hc : cmpP S1 (mulP (subP (3, 4) (mulP M M)) S0) = c) :
    Does Tryz.prog 153 [.agg [.int M.1, .int M.2], .agg [.int S0.1, .int S0.2], .agg [.int S1.1, .int S1.2]] [] 1 (Ret (.tup [.one (.bool (decide (c = 0 ∨ c = 1))), .one (.bool (!decide (c = 2)))]) 1) := by
  have hce : cmpR S1.1 S1.2 (mulR (subR 3 4 (mulR M.1 M.2 M.1 M.2).1 (mulR M.1 M.2 M.1 M.2).2).1 (subR 3 4 (mulR M.1 M.2 M.1 M.2).1 (mulR M.1 M.2 M.1 M.2).2).2 S0.1 S0.2).1 (mulR (subR 3 4 (mulR M.1 M.2 M.1 M.2).1 (mulR M.1 M.2 M.1 M.2).2).1 (subR 3 4 (mulR M.1 M.2 M.1 M.2).1 (mulR M.1 M.2 M.1 M.2).2).2 S0.1 S0.2).2 = c := hc
  have hcr : c = -1 ∨ c = 0 ∨ c = 1 ∨ c = 2 := by rw [← hce]; exact cmpR_rng
  refine Does.intro TT Tryz.func153 rfl (by kernel_rfl) Zz Zz fun E hE => ?_
  ((repeat' (first | refine stp ?_ | (first | refine w_z (d_mulRS _ _ _ _) Zz Zz Zz Zz Zz Zz Zz Zz ft Zz Zz ?_ | refine w_A (d_mulRS _ _ _ _) Zz Zz Zz Zz Zz Zz Zz Zz ft Zz Zz ?_) | (first | refine w_z (d_negRS _ _) Zz Zz Zz Zz Zz Zz Zz Zz ft Zz Zz ?_ | refine w_A (d_negRS _ _) Zz Zz Zz Zz Zz Zz Zz Zz ft Zz Zz ?_) | (first | refine w_z (d_addRS _ _ _ _) Zz Zz Zz Zz Zz Zz Zz Zz ft Zz Zz ?_ | refine w_A (d_addRS _ _ _ _) Zz Zz Zz Zz Zz Zz Zz Zz ft Zz Zz ?_) | (refine stq ?_ ?_ <;> (intro hc; ((try simp at hc) <;> try contradiction))) | fail)) <;> try (exfalso; omega))
  refine awp_held TM [(2, _), (3, _), (4, _)] sb rfl (fun ρs => ?_)
  refine zt0 ?_
  refine zt1 ?_
  refine zt2 ?_
  refine w_u [3] kr rfl ⟨?_, trivial⟩
  first | (refine zho ?_) | refine w_B _ (d_mulRS _ _ _ _) Zz Zz Zz Zz Zz Zz Zz Zz Zz ft Zz Zz sb rfl ?_ | refine w_B _ (d_cmpRS _ _ _ _) Zz Zz Zz Zz Zz Zz Zz Zz Zz ft Zz Zz sb rfl ?_
  refine w_u [4] kr rfl ⟨?_, trivial⟩
  first | (refine zho ?_) | refine w_B _ (d_mulRS _ _ _ _) Zz Zz Zz Zz Zz Zz Zz Zz Zz ft Zz Zz sb rfl ?_ | refine w_B _ (d_cmpRS _ _ _ _) Zz Zz Zz Zz Zz Zz Zz Zz Zz ft Zz Zz sb rfl ?_
  refine zt5 ?_
  refine w_v kr ?_
  rotate_left
  all_goals rw [show addR 3 4 (negR (mulR M.1 M.2 M.1 M.2).1 (mulR M.1 M.2 M.1 M.2).2).1 (negR (mulR M.1 M.2 M.1 M.2).1 (mulR M.1 M.2 M.1 M.2).2).2 = subR 3 4 (mulR M.1 M.2 M.1 M.2).1 (mulR M.1 M.2 M.1 M.2).2 from rfl, hce]
  all_goals rcases hcr with rfl | rfl | rfl | rfl
  all_goals ((repeat' (first | refine stx ?_ | (refine stq ?_ ?_ <;> (intro hc; ((try simp at hc) <;> try contradiction))) | fail)) <;> try (exfalso; omega))
  all_goals refine fin_ret rfl w_3 (rfl) rfl
def BothS (t : TypeId) (cx cu : Nat) (xs us : List Int) (v : AV) (Hout : List (Nat × Blk)) (n1 : Nat) : Prop := v = .tup [] ∧ Hout = [(1, .own t cx (.ints xs)), (2, .own t cu (.ints us))] ∧ n1 = 3
set_option maxHeartbeats 4000000 in
theorem d_bothSA (n i j cx : Nat) (q : Int) (xs us : List Int) (hx : xs.length = n * n) (hu : us.length = n * n) (hn : n ≤ 24) (hi : i < n) (hj : j < n) (hij : i ≠ j) (g1 : GBs xs) (g2 : GBs us) (hq : GB q) :
    Does Tryz.prog 152 [vM n n 1 (n * n) cx, vM n n 2 (n * n) (n * n), vO 2 i j q] [(1, .own 3 cx (.ints xs)), (2, .own 3 (n * n) (.ints us))] 3 (BothS 3 cx (n * n) (dcX (doX xs n i j q) n n i j q) (doX us n i j q)) := by
  refine Does.intro TT Tryz.func152 rfl (by kernel_rfl) Zz Zz fun E hE => ?_
  have hl : (doX xs n i j q).length = n * n := updTo_len.trans hx
  have h1 := d_opsAdd n n i j (n * n) cx q xs us hx.symm hx hu hn hn hi hj hij g1 g2 hq
  have h2 := d_colSA n n i j (n * n) cx cx q (doX xs n i j q) hl.symm hl hn hn hi hj hij (g1.upd (fun _ _ => GB.add _ _) _) hq
  ((repeat' (first | refine stx ?_ | ((refine w_E (h1) Zz Zz Zz Zz Zz Zz Zz ft rfl ?_); rintro v Hout n1 ⟨rfl, rfl, rfl⟩) | ((refine w_E (h2) Zz Zz Zz Zz Zz Zz Zz ft rfl ?_); rintro v Hout n1 ⟨rfl, rfl, rfl⟩) | (refine stq ?_ ?_ <;> (intro hc; ((try simp at hc) <;> try contradiction))) | fail)) <;> try (exfalso; omega))
  all_goals exact fin_n rfl w_3 [] (.tup []) [(1, .own 3 cx (.ints (dcX (doX xs n i j q) n n i j q))), (2, .own 3 (n * n) (.ints (doX us n i j q)))] 3 ⟨rfl, rfl, rfl⟩ rfl ⟨trivial, ⟨rfl, rfl, trivial⟩, rfl⟩ rfl
set_option maxHeartbeats 4000000 in
theorem d_bothSS (n i j cx : Nat) (xs us : List Int) (o : OKs n n (xs, us)) (hn : n ≤ 24) (hi : i < n) (hj : j < n) (hij : i ≠ j) :
    Does Tryz.prog 152 [vM n n 1 (n * n) cx, vM n n 2 (n * n) (n * n), vO 0 i j 0] [(1, .own 3 cx (.ints xs)), (2, .own 3 (n * n) (.ints us))] 3 (BothS 3 cx (n * n) (turnM (swapTo (turnM (swapTo xs (i * n) (j * n) n) n n) (i * n) (j * n) n) n n) (swapTo us (i * n) (j * n) n)) := by
  refine Does.intro TT Tryz.func152 rfl (by kernel_rfl) Zz Zz fun E hE => ?_
  have hx : xs.length = n * n := o.1
  have hl : (swapTo xs (i * n) (j * n) n).length = n * n := swapTo_len.trans hx
  have h1 := d_opsSwap n n i j (n * n) cx xs us hx.symm o hn hn hi hj hij
  have h2 := d_colSW n n i j (n * n) cx cx (swapTo xs (i * n) (j * n) n) hl.symm hl hn hn hi hj hij (GBs.num (swapTo_num o.2.2.1))
  ((repeat' (first | refine stx ?_ | ((refine w_E (h1) Zz Zz Zz Zz Zz Zz Zz ft rfl ?_); rintro v Hout n1 ⟨rfl, rfl, rfl⟩) | ((refine w_E (h2) Zz Zz Zz Zz Zz Zz Zz ft rfl ?_); rintro v Hout n1 ⟨rfl, rfl, rfl⟩) | (refine stq ?_ ?_ <;> (intro hc; ((try simp at hc) <;> try contradiction))) | fail)) <;> try (exfalso; omega))
  all_goals exact fin_n rfl w_3 [] (.tup []) [(1, .own 3 cx (.ints (turnM (swapTo (turnM (swapTo xs (i * n) (j * n) n) n n) (i * n) (j * n) n) n n))), (2, .own 3 (n * n) (.ints (swapTo us (i * n) (j * n) n)))] 3 ⟨rfl, rfl, rfl⟩ rfl ⟨trivial, ⟨rfl, rfl, trivial⟩, rfl⟩ rfl
end Go.Proofs.YtekpamojojfplaaGreat
