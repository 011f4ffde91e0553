/-
  TEXTS OF THE PROOF, put together: bAdj, Am15, pLead, bCell.
-/
import Derived.Test.YtekpamojojfplaaGreatD15
import Derived.Test.YtekpamojojfplaaGreatD16
import Derived.Test.YtekpamojojfplaaGreatD07
import Derived.Test.YtekpamojojfplaaGreatD14
import Derived.Test.YtekpamojojfplaaGreatD08
import Derived.Test.YtekpamojojfplaaGreatD09
set_option linter.unusedVariables false
set_option linter.unusedSimpArgs false
namespace Go.Proofs.YtekpamojojfplaaGreat
open Go.RowKit
def cofV (xs : List Int) (n i j : Nat) : Int := match detZ (n - 1) (minM xs n i j n) with
  | some d => if (i + j) % 2 = 1 then -d else d
  | none => badN
def cofL (xs : List Int) (n : Nat) : List Int := (List.range (n * n)).map fun p => cofV xs n (p / n) (p % n)
theorem cofL_len {xs : List Int} {n : Nat} : (cofL xs n).length = n * n := by simp [cofL]
theorem cofL_at {xs : List Int} {n i j : Nat} (hi : i < n) (hj : j < n) : (cofL xs n).getD (i * n + j) 0 = cofV xs n i j := by
  have h : i * n + j < n * n := cell_lt hi hj
  rw [List.getD_eq_getElem?_getD, List.getElem?_eq_getElem (by rw [cofL_len]; exact h), Option.getD_some]
  obtain ⟨e1, e2⟩ := turn_idx (r := n) (i := j) (j := i) hj
  simp only [cofL, List.getElem_map, List.getElem_range, e1, e2]
def adjZ (r c : Int) (xs : List Int) : Option (List Int) := if sqB r c xs && (cofL xs r.toNat).all numB then some (turnM (cofL xs r.toNat) r.toNat r.toNat) else none
theorem adjZ_no {r c : Int} {xs : List Int} (h : sqB r c xs = false) : adjZ r c xs = none := by simp [adjZ, h]
theorem adjZ_n {n : Nat} {xs : List Int} (h : sqB n n xs = true) : adjZ n n xs = if (cofL xs n).all numB then some (turnM (cofL xs n) n n) else none := by simp [adjZ, h]
theorem cofL_bad {xs : List Int} {n i j : Nat} (hi : i < n) (hj : j < n) (h : cofV xs n i j = badN) : (cofL xs n).all numB = false := by
  rw [Bool.eq_false_iff]
  intro ha
  have := num_getD ha (i * n + j)
  rw [cofL_at hi hj, h] at this
  unfold badN at this; omega
theorem turnM_all {xs : List Int} {n : Nat} (hx : xs.length = n * n) (hn : n ≤ 24) : isM n n (turnM xs n n) = xs.all numB := by
  have h : (turnM xs n n).all numB = xs.all numB := by
    rw [Bool.eq_iff_iff]
    constructor
    · intro h
      rw [← trX_tr hx]; exact trX_num h
    · exact trX_num
  simp only [isM, h]
  rw [decide_eq_true (by rw [turnM_len]; exact ⟨by omega, by omega, by omega, by omega, by simp⟩), Bool.true_and]
def cofOK (xs : List Int) (n i j : Nat) : Prop := ∀ a b, (a < i ∧ b < n) ∨ (a = i ∧ b < j) → numB (cofV xs n a b) = true
theorem cofOK.next {xs : List Int} {n i j : Nat} (h : cofOK xs n i j) (hv : numB (cofV xs n i j) = true) : cofOK xs n i (j + 1) := fun a b hab => by
  by_cases c : a = i ∧ b = j
  · rw [c.1, c.2]; exact hv
  · exact h a b (by omega)
theorem cofOK.row {xs : List Int} {n i : Nat} (h : cofOK xs n i n) : cofOK xs n (i + 1) 0 := fun a b hab => h a b (by omega)
theorem cofOK.all {xs : List Int} {n : Nat} (h : cofOK xs n n 0) : (cofL xs n).all numB = true := by
  rw [List.all_eq_true]
  intro x hx
  obtain ⟨p, hp, rfl⟩ := List.mem_map.1 hx
  have hp := List.mem_range.1 hp
  have hn : 0 < n := by
    rcases Nat.eq_zero_or_pos n with h | h
    · subst h; omega
    · exact h
  exact h _ _ (.inl ⟨div_lt_c hp, Nat.mod_lt _ hn⟩)
set_option maxRecDepth 100000 in
set_option maxHeartbeats 4000000 in
theorem d_adjI (r c : Int) (xs : List Int) (ca : Nat) (hl : xs.length ≤ 1099511627776) : Does Tryz.prog 136 [vM r c 1 xs.length ca] [(1, .ro (.ints xs))] 2 (GotZ r r 3 (adjZ r c xs) 2) := by
 refine Does.intro TT Tryz.func136 rfl (by kernel_rfl) Zz Zz fun E hE => ?_
 have hsq := d_sqI r c xs ca hl
 cases hs : sqB r c xs with
 | false =>
  rw [hs] at hsq
  ((repeat' (first | refine stx ?_ | refine zqc (hsq) ?_ | (refine stq ?_ ?_ <;> (intro hc; ((try simp at hc) <;> try contradiction))) | fail)) <;> try (exfalso; omega))
  all_goals exact fin rfl w_3 [] (.tup [.agg zeroM, .one (.bool false)]) [] 2 (GotZ.no (adjZ_no hs)) rfl ⟨trivial, trivial, rfl⟩ rfl
 | true =>
  rw [hs] at hsq
  obtain ⟨n, rfl, rfl, hn, hx, hnum⟩ := sqB_dims hs
  rw [adjZ_n hs]
  have hn24 : n ≤ 24 := by omega
  have hnn : n * n ≤ 36 := Nat.mul_le_mul hn hn
  ((repeat' (first | refine stx ?_ | refine zqc (hsq) ?_ | (refine w_C (d_newI _ _ hn24 hn24) Zz Zz Zz Zz Zz Zz Zz ft Zz Zz (NewM.out) ?_; rintro v b ⟨rfl, he, -⟩; cases he) | (refine stq ?_ ?_ <;> (intro hc; ((try simp at hc) <;> try contradiction))) | fail)) <;> try (exfalso; omega))
  refine w_G hE (fun i : Nat => i ≤ n ∧ cofOK xs n i 0) (fun i => n - i)
   (fun i => [(1, .one (.ptr 2 3 0 0)), (2, .one (.ptr 3 3 0 0)), (4, .one (.ptr 5 3 0 0)), (5, vI i)])
   (fun i => [(1, .ro (.ints xs)), (2, .own 26 1 (.lit [.int n, .int n, .sl 1 1 0 xs.length ca])), (3, .own 26 1 (.lit zeroM)), (4, .own 3 (n * n) (.ints (turnP (cofL xs n) n n i 0))), (5, .own 26 1 (.lit [.int n, .int n, .sl 4 1 0 (n * n) (n * n)]))]) 6 [] 0 ⟨Nat.zero_le _, fun a b h => by omega⟩ ⟨w_1, ⟨rfl, rfl, rfl, own_ints turnP_zero, rfl, trivial⟩, rfl⟩ ?_
  rintro i ⟨hi, hok⟩
  by_cases hin : i < n
  ·have hin2 : ¬ n ≤ i := by omega
   ((repeat' (first | refine stx ?_ | (refine stq ?_ ?_ <;> (intro hc; ((try simp at hc) <;> try contradiction))) | fail)) <;> try (exfalso; omega))
   refine w_G hE (fun j : Nat => j ≤ n ∧ cofOK xs n i j) (fun j => n - j)
    (fun j => [(1, .one (.ptr 2 3 0 0)), (2, .one (.ptr 3 3 0 0)), (4, .one (.ptr 5 3 0 0)), (5, vI i), (6, vI j)])
    (fun j => [(1, .ro (.ints xs)), (2, .own 26 1 (.lit [.int n, .int n, .sl 1 1 0 xs.length ca])), (3, .own 26 1 (.lit zeroM)), (4, .own 3 (n * n) (.ints (turnP (cofL xs n) n n i j))), (5, .own 26 1 (.lit [.int n, .int n, .sl 4 1 0 (n * n) (n * n)]))]) 6 [] 0 ⟨Nat.zero_le _, hok⟩ ⟨w_1, w_2, rfl⟩ ?_
   rintro j ⟨hj, hok⟩
   by_cases hjn : j < n
   ·have hjn2 : ¬ n ≤ j := by omega
    obtain ⟨m, hm⟩ : ∃ m, m + 1 = n := ⟨n - 1, by omega⟩
    have hmi := d_minIR m i j xs ca xs.length rfl (by omega) (by omega) (by omega) (by rw [hm]; exact hx) hl
    rw [hm] at hmi
    have hml : (minM xs n i j n).length = m * m := by
     have := minM_lenR (xs := xs) (n := m) (row := i) (col := j) (by omega) (i := m + 1)
     rw [if_pos (by omega), hm] at this
     rw [this, show n - 1 = m by omega]
    have hmn := minM_num hnum (c := n) (row := i) (col := j) (i := n)
    have hdt := fun cp => d_detI m (minM xs n i j n) (minM xs n i j n).length cp (by omega) rfl hml hmn
    have hcv : cofV xs n i j = (match detZ m (minM xs n i j n) with
     | some d => if (i + j) % 2 = 1 then -d else d
     | none => badN) := by unfold cofV; rw [show n - 1 = m by omega]
    have hca := cofL_at (xs := xs) hin hjn
    cases hd : detZ m (minM xs n i j n) with
    | none =>
     rw [hd] at hdt hcv
     rw [cofL_bad hin hjn hcv, if_neg (by simp)]
     ((repeat' (first | refine stx ?_ | (refine w_C (hmi) Zz Zz Zz Zz Zz Zz Zz ft Zz Zz (MinO.out) ?_; rintro v b ⟨cp, hcp, rfl, he, -⟩; cases he) | ((refine zqe (hdt _) ?_); rintro v Hout n1 ⟨rfl, rfl, d, rfl⟩) | (refine stq ?_ ?_ <;> (intro hc; ((try simp at hc) <;> try contradiction))) | fail)) <;> try (exfalso; omega))
     all_goals exact fin rfl w_3 [] (.tup [.agg zeroM, .one (.bool false)]) [] 2 (GotZ.no rfl) rfl ⟨trivial, trivial, rfl⟩ rfl
    | some d =>
     rw [hd] at hdt hcv
     have hdv := numB_true.1 (detZ_num hd)
     have hnv : numB (cofV xs n i j) = true := by
      rw [hcv]; dsimp only
      by_cases ho : (i + j) % 2 = 1
      ·rw [if_pos ho]; exact numB_true.2 ⟨by omega, by omega⟩
      ·rw [if_neg ho]; exact detZ_num hd
     have htm : ((i : Int) + j).tmod 2 = (((i + j) % 2 : Nat) : Int) := by rw [Int.tmod_eq_emod_of_nonneg (by omega)]; omega
     have hcell := cell_facts hjn hin hn24 hn24
     have hpl : (turnP (cofL xs n) n n i j).length = n * n := turnP_len
     have hset := fun x => d_set n n j i x (turnP (cofL xs n) n n i j) (n * n) (n * n) (n * n) hpl.symm (by omega) (by omega) (by omega) (by omega)
     have enx := turnP_set (xs := cofL xs n) (r := n) (c := n) (i := i) (j := j) hin
     rw [hca, hcv] at enx
     have ecl := cell_natD (p := j) (k := i) (c := n)
     dsimp only at enx
     by_cases hodd : (i + j) % 2 = 1
     ·rw [if_pos hodd] at enx
      have ho1 : ((i : Int) + j).tmod 2 = 1 := by omega
      ((repeat' (first | refine stx ?_ | (refine w_C (hmi) Zz Zz Zz Zz Zz Zz Zz ft Zz Zz (MinO.out) ?_; rintro v b ⟨cp, hcp, rfl, he, -⟩; cases he) | ((refine zqe (hdt _) ?_); rintro v Hout n1 ⟨rfl, rfl, rfl⟩) | ((refine zqe (hset _) ?_); rintro v Hout n1 ⟨rfl, rfl, rfl⟩) | (refine stq ?_ ?_ <;> (intro hc; ((try simp at hc) <;> try contradiction))) | fail)) <;> try (exfalso; omega))
      all_goals exact ⟨[], j + 1, ⟨hjn, hok.next hnv⟩, w_4, ⟨w_1, ⟨rfl, rfl, rfl, own_ints (by rw [← enx]; congr 1), rfl, trivial⟩, rfl⟩⟩
     ·rw [if_neg hodd] at enx
      have ho1 : ¬ ((i : Int) + j).tmod 2 = 1 := by omega
      ((repeat' (first | refine stx ?_ | (refine w_C (hmi) Zz Zz Zz Zz Zz Zz Zz ft Zz Zz (MinO.out) ?_; rintro v b ⟨cp, hcp, rfl, he, -⟩; cases he) | ((refine zqe (hdt _) ?_); rintro v Hout n1 ⟨rfl, rfl, rfl⟩) | ((refine zqe (hset _) ?_); rintro v Hout n1 ⟨rfl, rfl, rfl⟩) | (refine stq ?_ ?_ <;> (intro hc; ((try simp at hc) <;> try contradiction))) | fail)) <;> try (exfalso; omega))
      all_goals exact ⟨[], j + 1, ⟨hjn, hok.next hnv⟩, w_4, ⟨w_1, ⟨rfl, rfl, rfl, own_ints (by rw [← enx]; congr 1), rfl, trivial⟩, rfl⟩⟩
   ·obtain rfl : j = n := by omega
    ((repeat' (first | refine stx ?_ | (refine stq ?_ ?_ <;> (intro hc; ((try simp at hc) <;> try contradiction))) | fail)) <;> try (exfalso; omega))
    all_goals exact ⟨[], i + 1, ⟨hin, hok.row⟩, w_4, ⟨w_1, ⟨rfl, rfl, rfl, own_ints (turnP_row (fun p hp => div_lt_c hp)), rfl, trivial⟩, rfl⟩⟩
  ·obtain rfl : i = n := by omega
   rw [turnP_full, hok.all, if_pos rfl]
   have hlt : (turnM (cofL xs i) i i).length = i * i := turnM_len
   ((repeat' (first | refine stx ?_ | (refine stq ?_ ?_ <;> (intro hc; ((try simp at hc) <;> try contradiction))) | fail)) <;> try (exfalso; omega))
   all_goals exact fin rfl w_3 [(2, 4)] (doneV i i 2 (i * i) (i * i) true) [(2, .own 3 (i * i) (.ints (turnM (cofL xs i) i i)))] 3 (GotZ.yes rfl hlt.symm (Nat.le_refl _)) rfl ⟨trivial, ⟨rfl, trivial⟩, rfl⟩ rfl
theorem d_mulNg (a : Int) (ha : GB a) : Does Tryz.prog 145 [vI a, vI (-1)] [] 1 (Ret (vI (mulV a (-1))) 1) := d_mulV a (-1) ha (.inl (by omega))
set_option maxRecDepth 100000 in
set_option maxHeartbeats 4000000 in
theorem d_adjS (r c : Int) (xs : List Int) (ca : Nat) (hl : xs.length ≤ 1099511627776) : Does Tryz.prog 200 [vM r c 1 xs.length ca] [(1, .ro (.ints xs))] 2 (GotZ r r 3 (adjZ r c xs) 2) := by
 refine Does.intro TT Tryz.func200 rfl (by kernel_rfl) Zz Zz fun E hE => ?_
 have hsq := d_sqS r c xs ca hl
 cases hs : sqB r c xs with
 | false =>
  rw [hs] at hsq
  ((repeat' (first | refine stx ?_ | refine zqc (hsq) ?_ | (refine stq ?_ ?_ <;> (intro hc; ((try simp at hc) <;> try contradiction))) | fail)) <;> try (exfalso; omega))
  all_goals exact fin rfl w_3 [] (.tup [.agg zeroM, .one (.bool false)]) [] 2 (GotZ.no (adjZ_no hs)) rfl ⟨trivial, trivial, rfl⟩ rfl
 | true =>
  rw [hs] at hsq
  obtain ⟨n, rfl, rfl, hn, hx, hnum⟩ := sqB_dims hs
  rw [adjZ_n hs]
  have hn24 : n ≤ 24 := by omega
  have hnn : n * n ≤ 36 := Nat.mul_le_mul hn hn
  ((repeat' (first | refine stx ?_ | refine zqc (hsq) ?_ | (refine w_C (d_newS _ _ hn24 hn24) Zz Zz Zz Zz Zz Zz Zz ft Zz Zz (NewM.out) ?_; rintro v b ⟨rfl, he, -⟩; cases he) | (refine stq ?_ ?_ <;> (intro hc; ((try simp at hc) <;> try contradiction))) | fail)) <;> try (exfalso; omega))
  refine w_G hE (fun i : Nat => i ≤ n) (fun i => n - i)
   (fun i => [(1, .one (.ptr 2 3 0 0)), (2, .one (.ptr 3 3 0 0)), (4, .one (.ptr 5 3 0 0)), (5, vI i)])
   (fun i => [(1, .ro (.ints xs)), (2, .own 26 1 (.lit [.int n, .int n, .sl 1 1 0 xs.length ca])), (3, .own 26 1 (.lit zeroM)), (4, .own 3 (n * n) (.ints (turnP (cofL xs n) n n i 0))), (5, .own 26 1 (.lit [.int n, .int n, .sl 4 1 0 (n * n) (n * n)]))]) 6 [] 0 (Nat.zero_le _) ⟨w_1, ⟨rfl, rfl, rfl, own_ints turnP_zero, rfl, trivial⟩, rfl⟩ ?_
  intro i hi
  by_cases hin : i < n
  ·have hin2 : ¬ n ≤ i := by omega
   ((repeat' (first | refine stx ?_ | (refine stq ?_ ?_ <;> (intro hc; ((try simp at hc) <;> try contradiction))) | fail)) <;> try (exfalso; omega))
   refine w_G hE (fun j : Nat => j ≤ n) (fun j => n - j)
    (fun j => [(1, .one (.ptr 2 3 0 0)), (2, .one (.ptr 3 3 0 0)), (4, .one (.ptr 5 3 0 0)), (5, vI i), (6, vI j)])
    (fun j => [(1, .ro (.ints xs)), (2, .own 26 1 (.lit [.int n, .int n, .sl 1 1 0 xs.length ca])), (3, .own 26 1 (.lit zeroM)), (4, .own 3 (n * n) (.ints (turnP (cofL xs n) n n i j))), (5, .own 26 1 (.lit [.int n, .int n, .sl 4 1 0 (n * n) (n * n)]))]) 6 [] 0 (Nat.zero_le _) ⟨w_1, w_2, rfl⟩ ?_
   intro j hj
   by_cases hjn : j < n
   ·have hjn2 : ¬ n ≤ j := by omega
    obtain ⟨m, hm⟩ : ∃ m, m + 1 = n := ⟨n - 1, by omega⟩
    have hmi := d_minSR m i j xs ca xs.length rfl (by omega) (by omega) (by omega) (by rw [hm]; exact hx) hl
    rw [hm] at hmi
    have hml : (minM xs n i j n).length = m * m := by
     have := minM_lenR (xs := xs) (n := m) (row := i) (col := j) (by omega) (i := m + 1)
     rw [if_pos (by omega), hm] at this
     rw [this, show n - 1 = m by omega]
    have hmn := minM_num hnum (c := n) (row := i) (col := j) (i := n)
    have hdt := fun cp => d_detS m (minM xs n i j n) (minM xs n i j n).length cp (by omega) rfl hml hmn
    have hcv : cofV xs n i j = if (i + j) % 2 = 1 then mulV (badV (detZ m (minM xs n i j n))) (-1) else badV (detZ m (minM xs n i j n)) := by
     unfold cofV
     rw [show n - 1 = m by omega]
     cases hd : detZ m (minM xs n i j n) with
     | none => rw [show badV none = badN from rfl, show mulV badN (-1) = badN from by simp [mulV], ite_self]
     | some d =>
      have hdv := numB_true.1 (detZ_num hd)
      dsimp only [badV]
      rw [show mulV d (-1) = -d by unfold mulV fitV badN; rw [if_neg (by omega), if_pos (numB_true.2 (by omega))]; omega]
    have hgb : GB (badV (detZ m (minM xs n i j n))) := by
     cases hd : detZ m (minM xs n i j n) with
     | none => exact .inr rfl
     | some d => exact .inl (numB_true.1 (detZ_num hd))
    have hca := cofL_at (xs := xs) hin hjn
    generalize badV (detZ m (minM xs n i j n)) = d at hcv hgb hdt
    have hrg := hgb.rng
    have hmu := d_mulNg d hgb
    have htm : ((i : Int) + j).tmod 2 = (((i + j) % 2 : Nat) : Int) := by rw [Int.tmod_eq_emod_of_nonneg (by omega)]; omega
    have hcell := cell_facts hjn hin hn24 hn24
    have hpl : (turnP (cofL xs n) n n i j).length = n * n := turnP_len
    have enx := turnP_set (xs := cofL xs n) (r := n) (c := n) (i := i) (j := j) hin
    rw [hca, hcv] at enx
    have ecl := cell_natD (p := j) (k := i) (c := n)
    by_cases hodd : (i + j) % 2 = 1
    ·rw [if_pos hodd] at enx
     have ho1 : ((i : Int) + j).tmod 2 = 1 := by omega
     ((repeat' (first | refine stx ?_ | (refine w_C (hmi) Zz Zz Zz Zz Zz Zz Zz ft Zz Zz (MinO.out) ?_; rintro v b ⟨cp, hcp, rfl, he, -⟩; cases he) | refine zqc (hdt _) ?_ | refine zqc (hmu) ?_ | (refine stq ?_ ?_ <;> (intro hc; ((try simp at hc) <;> try contradiction))) | fail)) <;> try (exfalso; omega))
     all_goals exact ⟨[], j + 1, hjn, w_4, ⟨w_1, ⟨rfl, rfl, rfl, own_ints (by rw [← enx]; congr 1), rfl, trivial⟩, rfl⟩⟩
    ·rw [if_neg hodd] at enx
     have ho1 : ¬ ((i : Int) + j).tmod 2 = 1 := by omega
     ((repeat' (first | refine stx ?_ | (refine w_C (hmi) Zz Zz Zz Zz Zz Zz Zz ft Zz Zz (MinO.out) ?_; rintro v b ⟨cp, hcp, rfl, he, -⟩; cases he) | refine zqc (hdt _) ?_ | refine zqc (hmu) ?_ | (refine stq ?_ ?_ <;> (intro hc; ((try simp at hc) <;> try contradiction))) | fail)) <;> try (exfalso; omega))
     all_goals exact ⟨[], j + 1, hjn, w_4, ⟨w_1, ⟨rfl, rfl, rfl, own_ints (by rw [← enx]; congr 1), rfl, trivial⟩, rfl⟩⟩
   ·obtain rfl : j = n := by omega
    ((repeat' (first | refine stx ?_ | (refine stq ?_ ?_ <;> (intro hc; ((try simp at hc) <;> try contradiction))) | fail)) <;> try (exfalso; omega))
    all_goals exact ⟨[], i + 1, hin, w_4, ⟨w_1, ⟨rfl, rfl, rfl, own_ints (turnP_row (fun p hp => div_lt_c hp)), rfl, trivial⟩, rfl⟩⟩
  ·obtain rfl : i = n := by omega
   rw [turnP_full]
   have hlt : (turnM (cofL xs i) i i).length = i * i := turnM_len
   have hdo := d_doneS i i (turnM (cofL xs i) i i) (i * i) (i * i) hlt.symm ((cofL xs i).all numB) (turnM_all cofL_len hn24) (by omega)
   cases hall : (cofL xs i).all numB with
   | false =>
    rw [hall] at hdo
    rw [if_neg (by simp)]
    ((repeat' (first | refine stx ?_ | ((refine zqe (hdo) ?_); rintro v Hout n1 ⟨rfl, rfl, rfl⟩) | (refine stq ?_ ?_ <;> (intro hc; ((try simp at hc) <;> try contradiction))) | fail)) <;> try (exfalso; omega))
    all_goals exact fin rfl w_3 [] (.tup [.agg zeroM, .one (.bool false)]) [] 2 (GotZ.no rfl) rfl ⟨trivial, trivial, rfl⟩ rfl
   | true =>
    rw [hall] at hdo
    rw [if_pos rfl]
    ((repeat' (first | refine stx ?_ | ((refine zqe (hdo) ?_); rintro v Hout n1 ⟨rfl, rfl, rfl⟩) | (refine stq ?_ ?_ <;> (intro hc; ((try simp at hc) <;> try contradiction))) | fail)) <;> try (exfalso; omega))
    all_goals exact fin rfl w_3 [(2, 4)] (doneV i i 2 (i * i) (i * i) true) [(2, .own 3 (i * i) (.ints (turnM (cofL xs i) i i)))] 3 (GotZ.yes rfl hlt.symm (Nat.le_refl _)) rfl ⟨trivial, ⟨rfl, trivial⟩, rfl⟩ rfl
end Go.Proofs.YtekpamojojfplaaGreat
namespace Go.Proofs.YtekpamojojfplaaGreat
open Go.RowKit
section
variable {P : Program} {tab : List (Nat × TD)} {E : Env} {N : Nat} {σ : St} {o : Oper} {c : Prop} {v : AV}
theorem own_storeN {ρ : Rho} {k : Nat} {w : World} {tb : TypeId} {cap o : Nat} {e e' : Elts} {vs : List SV} {p : Nat × Nat} (h : BlkOK ρ k w (.own tb cap e)) (hp : ρ k = some p) (s1 : e'.sz = e.sz) (s2 : e'.len = e.len) (s3 : o + vs.length ≤ e.len * e.sz) (s4 : e'.all = splice e.all o vs) :
    ∃ w', (storeCells (⟨p.1, p.2 + o, none⟩ : Addr) (cells ρ vs)).run P w = .ok () w' ∧ BlkOK ρ k w' (.own tb cap e') ∧ w.grownBy w' (some p.1) := by
  simp only [BlkOK] at h
  obtain ⟨hlen, h | ⟨g, cap', cur, hv, _, hg, hle, hmax, hcur, htake⟩⟩ := h
  · simp [adr, hp] at h
  · have hv2 : p.1 = g ∧ p.2 = 0 ∧ cap = cap' := by simpa [adr, hp, and_assoc] using hv
    obtain ⟨rfl, h0, rfl⟩ := hv2
    have hcl : (cells ρ e.all).length = e.len * e.sz := by simp [cells, Elts.all_len]
    have hmul2 : e.len * e.sz ≤ cap * e.sz := Nat.mul_le_mul_right _ hle
    have hfit : o + (cells ρ vs).length ≤ cur.size := by simp only [cells, List.length_map]; omega
    have hr := run_storeCells_at P p.1 o tb (cells ρ vs) 0 cur w hg (by simpa using hfit) (fun v hv => by
      obtain ⟨s, _, rfl⟩ := List.mem_map.1 hv; exact SV.oneCell)
    simp only [Nat.add_zero] at hr
    rw [h0, Nat.zero_add]
    refine ⟨_, hr, ?_, ⟨rfl, rfl, rfl, by simp, fun k' _ hk' => setRow_other w p.1 k' _ (fun e => hk' (by rw [e]))⟩⟩
    simp only [BlkOK]
    refine ⟨by rw [s1, s2]; simp [cells, s4, splice_len (show o + vs.length ≤ e.all.length by rw [Elts.all_len]; omega), Elts.all_len], .inr ⟨p.1, cap, _, by simp [adr, hp, h0, s2], Nat.zero_le _, setRow_heap w p.1 cur _ tb _ hg, by rw [s2]; exact hle, hmax, ?_, ?_⟩⟩
    · simp only [cells, List.length_map] at hfit
      simp only [List.size_toArray, List.length_append, List.length_take, List.length_drop, Array.length_toList, s1, cells, List.length_map]
      omega
    · rw [s1, s2, s4]
      simp only [splice, cells, List.map_append, List.map_take, List.map_drop]
      rw [show (e.all.map (SV.conc ρ)) = cur.toList.take (e.len * e.sz) from htake.symm]
      apply List.ext_getElem?
      intro n
      simp only [cells, List.length_map] at hfit
      rw [List.getElem?_take]
      have hct : cur.toList.length = cur.size := Array.length_toList
      by_cases hn : n < e.len * e.sz
      · rw [if_pos hn]
        by_cases c1 : n < o
        · rw [List.append_assoc, List.getElem?_append_left (by simp; omega), List.append_assoc, List.getElem?_append_left (by simp; omega)]
          simp only [List.getElem?_take]
          rw [if_pos c1, if_pos c1, if_pos hn]
        · by_cases c2 : n < o + vs.length
          · rw [List.append_assoc, List.getElem?_append_right (by simp; omega), List.getElem?_append_left (by simp; omega)]
            rw [List.append_assoc, List.getElem?_append_right (by simp; omega), List.getElem?_append_left (by simp; omega)]
            congr 1
            simp only [List.length_take]
            omega
          · rw [List.getElem?_append_right (by simp; omega), List.getElem?_append_right (by simp; omega)]
            simp only [List.length_append, List.length_take, List.length_map, List.getElem?_drop, List.getElem?_take]
            rw [if_pos (by omega)]
            congr 1
            omega
      · rw [if_neg hn]
        symm
        apply List.getElem?_eq_none
        simp only [List.length_append, List.length_take, List.length_map, List.length_drop]
        omega
def cpL (l : List Int) (o1 n : Nat) (l2 : List Int) (o2 m : Nat) : List Int := l.take o1 ++ (l2.drop o2).take (Nat.min m n) ++ l.drop (o1 + Nat.min m n)
def sCopy (tab : List (Nat × TD)) (fr : Nat → Option AV) (H : Nat → Option Blk) (t : TypeId) (x y : Operand) : Option (Prop × AV × (Nat → Option Blk)) := match tget tab t, ev fr x, ev fr y with
  | some d, some (.one (.sl k 1 o1 n _)), some (.one (.sl k2 1 o2 m _)) => match d.kind, H k, eltsAt H k2 with
    | .sl et, some (.own tb cap (.ints l)), some (.ints l2) => match tget tab et with
      | some d' => match Nat.beq d'.size 1 with
        | true => some (o1 + n ≤ l.length ∧ o2 + m ≤ l2.length, vI (Nat.min m n : Nat), upd H k (.own tb cap (.ints (cpL l o1 n l2 o2 m))))
        | false => none
      | none => none
    | _, _, _ => none
  | _, _, _ => none
theorem sCopy_sound (hT : Tab P tab) {t : TypeId} {x y : Operand} (ho : o.op = .call ⟨.builtin .copy, #[x, y], #[t, t]⟩) {H' : Nat → Option Blk} (h : sCopy tab σ.fr σ.H t x y = some (c, v, H')) (hc : c) : OpR P o E N σ (det v H' σ.nx) :=
  .of_run fun ρ a w hI => by
    unfold sCopy at h
    split at h
    · rename_i d k o1 n cp1 k2 o2 m cp2 hd hx hy
      split at h
      · rename_i et tb cap l l2 hk hH he2
        split at h
        · rename_i d' hd'
          split at h
          · rename_i hb1
            have hb1 := Nat.eq_of_beq_eq_true hb1
            cases h
            obtain ⟨c1, c2⟩ := hc
            obtain ⟨h1, _⟩ := ev_sound hI.f hI.h.nil hI.h.hb.pos hx
            obtain ⟨h2, _⟩ := ev_sound hI.f hI.h.nil hI.h.hb.pos hy
            obtain ⟨i, hi, hiz, his, hib⟩ := (hT.ok et d' hd').infoE
            have hu := (hT.ok t d hd).slice hk
            have h1' : a.eval x = .slice (adr ρ k (o1 * 1)) n cp1 := h1
            have h2' : a.eval y = .slice (adr ρ k2 (o2 * 1)) m cp2 := h2
            rw [Nat.mul_one] at h1' h2'
            have hrun : ∀ w', (Builtin.copy_ #[t, t] o.type #[.slice (adr ρ k o1) n cp1, .slice (adr ρ k2 o2) m cp2]).run P w = .ok (goInt (Nat.min m n)) w' → (execOp a.eval o).run P w = .ok (.value ((vI (Nat.min m n : Nat)).conc ρ)) w' := fun w' hr => by
              simp only [execOp, ho, resolve]
              simp only [List.map_toArray, List.map_cons, List.map_nil, Sem.run_bind, Sem.run_pure, Result.andThen_ok, invoke, builtin, h1', h2', hr]
              rfl
            have hlen : (cpL l o1 n l2 o2 m).length = l.length := by
              have e1 : Nat.min m n ≤ m := Nat.min_le_left _ _
              have e2 : Nat.min m n ≤ n := Nat.min_le_right _ _
              rw [cpL, List.length_append, List.length_append, List.length_take, List.length_take, List.length_drop, List.length_drop]; omega
            rcases Nat.eq_zero_or_pos (Nat.min m n) with h0 | hpos
            · have hl : cpL l o1 n l2 o2 m = l := by rw [cpL, h0, List.take_zero, List.append_nil, Nat.add_zero, List.take_append_drop]
              have hup : upd σ.H k (.own tb cap (.ints (cpL l o1 n l2 o2 m))) = σ.H := by
                rw [hl]
                funext j
                by_cases e : j = k
                · subst e; rw [upd_same, hH]
                · rw [upd_ne e]
              refine ⟨ρ, w, vI (Nat.min m n : Nat), _, σ.nx, hrun w ?_, ⟨rfl, rfl, rfl⟩, by rw [hup]; exact hI.h, fun _ _ => rfl, Nat.le_refl _, fun k hk => by simp [AV.keys, SV.keys, vI] at hk⟩
              have hlc : ∀ (x : Addr), (loadCells x 0).run P w = .ok #[] w := fun x => by simpa using run_loadCells_list (P := P) w x [] (by simp)
              have his1 : i.size = 1 := by rw [his]; exact hb1
              cases adr ρ k o1 <;> cases adr ρ k2 o2 <;> simp [Builtin.copy_, run_underlying hu, Builtin.lenOf, Builtin.firstCells, sizeOf, typeInfo, hi, his1, h0, storeCells, hlc]
            · have e1 : Nat.min m n ≤ m := Nat.min_le_left _ _
              have e2 : Nat.min m n ≤ n := Nat.min_le_right _ _
              have hb := hI.h.blk k _ hH
              obtain ⟨p, hp, _⟩ := hb.at_ (e := .ints l) rfl (by simp only [Elts.len]; omega)
              obtain ⟨p2, hp2, hcell⟩ := eltsAt_sound hI.h.hb he2 (by simp only [Elts.len]; omega)
              have hvl : (((l2.drop o2).take (Nat.min m n)).map SV.int).length = Nat.min m n := by
                rw [List.length_map, List.length_take, List.length_drop]; omega
              obtain ⟨w', hr, hb', hg⟩ := own_storeN (P := P) (o := o1) (e' := .ints (cpL l o1 n l2 o2 m)) (vs := ((l2.drop o2).take (Nat.min m n)).map SV.int) hb hp rfl hlen (by rw [hvl]; simp only [Elts.len, Elts.sz]; omega) (by
                simp only [Elts.all, splice, cpL, List.map_append, List.map_take, List.map_drop]
                rw [show (List.take (Nat.min m n) (List.drop o2 (List.map SV.int l2))).length = Nat.min m n by rw [List.length_take, List.length_drop, List.length_map]; omega])
              refine ⟨ρ, w', vI (Nat.min m n : Nat), _, σ.nx, hrun w' ?_, ⟨rfl, rfl, rfl⟩, hI.h.over hH hp hg hb' (fun k' hk' => by simp [Elts.keys, Elts.all, ints_keys] at hk') (fun x hx => nomatch hx) (fun k1 b1 q g _ _ _ hf => by obtain ⟨x, hx, _⟩ := hf; cases hx), fun _ _ => rfl, Nat.le_refl _, fun k hk => by simp [AV.keys, SV.keys, vI] at hk⟩
              have hld := run_loadCells_list (P := P) w ⟨p2.1, p2.2 + o2, none⟩ (cells ρ (((l2.drop o2).take (Nat.min m n)).map SV.int)) (fun j v hv => by
                rw [Addr.add_none]
                simp only [cells, List.getElem?_map, Option.map_eq_some_iff] at hv
                obtain ⟨s, ⟨u, hu, rfl⟩, rfl⟩ := hv
                rw [List.getElem?_take] at hu
                split at hu
                · rw [List.getElem?_drop] at hu
                  have := hcell (o2 + j) (.int u) (by simp only [Elts.all, List.getElem?_map, hu, Option.map_some])
                  rw [← this, Nat.add_assoc]
                · cases hu)
              have his1 : i.size = 1 := by rw [his]; exact hb1
              have hcl : (cells ρ (((l2.drop o2).take (Nat.min m n)).map SV.int)).length = Nat.min m n := by rw [cells, List.length_map]; exact hvl
              rw [hcl] at hld
              have a1 : adr ρ k o1 = some ⟨p.1, p.2 + o1, none⟩ := by simp [adr, hp]
              have a2 : adr ρ k2 o2 = some ⟨p2.1, p2.2 + o2, none⟩ := by simp [adr, hp2]
              rw [a1, a2]
              rw [List.map_take, List.map_drop] at hr
              simp [Builtin.copy_, run_underlying hu, Builtin.lenOf, Builtin.firstCells, sizeOf, typeInfo, hi, his1, hld, hr]
          · cases h
        · cases h
      · cases h
    · cases h
end
section
variable {P : Program} {tab : List (Nat × TD)} {E : Env} {N : Nat} {Q : Post} {fr : Nat → Option AV} {H : Nat → Option Blk} {nx : Nat} {l0 rest : List Oper} {ρs : Rho} {nxs : Nat} {hs : List (Nat × Blk)} {fuel : Nat} {listed : Array Bool} {o : Oper} {c : Prop} {v : AV} {t : TypeId} {x y : Operand} {H' : Nat → Option Blk} {d : Nat}
theorem awpHop_copy (hT : Tab P tab) (i : Nat) (hi : nth l0 i = some o) (ho : o.op = .call ⟨.builtin .copy, #[x, y], #[t, t]⟩) (hdst : o.dst = some d) (hw : wantA l0 fr o = some true) (hd : inFrame N o.dst = true) (hs' : sCopy tab fr H t x y = some (c, v, H')) (hc : c) (hsub : SubB H' hs) (hk : keysB nxs hs = true)
    (h : awpH P E N l0 Q ρs nxs hs fuel (listed.setIfInBounds i true) ⟨upd fr d v, H', nx⟩) : awpHop P E N l0 Q ρs nxs hs fuel listed i ⟨fr, H, nx⟩ :=
  awpHop_op i hi hw hd hk (sCopy_sound (σ := ⟨fr, H, nx⟩) hT ho hs' hc) fun _ _ _ ⟨e1, e2, e3⟩ => by subst e1 e2 e3; exact ⟨hsub, by rw [hdst]; exact h⟩
end
end Go.Proofs.YtekpamojojfplaaGreat
namespace Go.Proofs.YtekpamojojfplaaGreat
def ldR (xs : List Int) (c k i : Nat) : List Int := (List.range i).flatMap fun p => (xs.drop (p * c)).take k
theorem ldR_next {xs : List Int} {c k i : Nat} : ldR xs c k (i + 1) = ldR xs c k i ++ (xs.drop (i * c)).take k := by simp [ldR, List.range_succ]
theorem ldR_len {xs : List Int} {c k : Nat} (hk : k ≤ c) : ∀ {i : Nat}, i * c ≤ xs.length → (ldR xs c k i).length = i * k
  | 0, _ => by simp [ldR]
  | i + 1, h => by
    rw [Nat.succ_mul] at h
    rw [ldR_next, List.length_append, ldR_len hk (by omega), List.length_take, List.length_drop, Nat.succ_mul]; omega
def ldM (xs : List Int) (c k i : Nat) : List Int := ldR xs c k i ++ List.replicate ((k - i) * k) 0
theorem ldM_len {xs : List Int} {c k i : Nat} (hk : k ≤ c) (hi : i ≤ k) (hx : i * c ≤ xs.length) : (ldM xs c k i).length = k * k := by
  rw [ldM, List.length_append, ldR_len hk hx, List.length_replicate, ← Nat.add_mul, Nat.add_sub_cancel' hi]
theorem ldM_copy {xs : List Int} {c k i : Nat} (hk : k ≤ c) (hi : i < k) (hx : (i + 1) * c ≤ xs.length) : cpL (ldM xs c k i) (i * k) k xs (i * c) k = ldM xs c k (i + 1) := by
  have h1 : i * c ≤ xs.length := by rw [Nat.succ_mul] at hx; omega
  have hl := ldR_len hk h1
  have e : (k - i) * k = k + (k - (i + 1)) * k := by
    rw [show k - i = (k - (i + 1)) + 1 by omega, Nat.succ_mul]; omega
  rw [cpL, show Nat.min k k = k from Nat.min_self k, ldM, ldM, ldR_next]
  congr 1
  · rw [List.take_append_of_le_length (by omega), List.take_of_length_le (by omega)]
  · rw [List.drop_append, List.drop_of_length_le (by omega), List.nil_append, hl, e, Nat.add_sub_cancel_left, List.drop_replicate, Nat.add_sub_cancel_left]
theorem ldM_full {xs : List Int} {c k : Nat} : ldM xs c k k = ldR xs c k k := by simp [ldM]
theorem ldM_zero {xs : List Int} {c k : Nat} : ldM xs c k 0 = List.replicate (k * k) 0 := by simp [ldM, ldR]
theorem ldR_num {xs : List Int} {c k i : Nat} (h : xs.all numB = true) : (ldR xs c k i).all numB = true := by
  rw [List.all_eq_true]
  intro x hx
  obtain ⟨p, _, hp⟩ := List.mem_flatMap.1 hx
  exact List.all_eq_true.1 h x (List.mem_of_mem_drop (List.mem_of_mem_take hp))
def leadTo (xs : List Int) (c : Nat) : Nat → Option (List Int)
  | 0 => some []
  | k + 1 => (leadTo xs c k).bind fun l => (detZ (k + 1) (ldR xs c (k + 1) (k + 1))).map fun d => l ++ [d]
theorem leadTo_len {xs : List Int} {c : Nat} : ∀ {k : Nat} {l : List Int}, leadTo xs c k = some l → l.length = k
  | 0, l, h => by cases h; rfl
  | k + 1, l, h => by
    rw [leadTo, Option.bind_eq_some_iff] at h
    obtain ⟨l0, h1, h2⟩ := h
    obtain ⟨d, h3, rfl⟩ := Option.map_eq_some_iff.1 h2
    rw [List.length_append, leadTo_len h1]; rfl
theorem leadTo_none {xs : List Int} {c k : Nat} (h : leadTo xs c k = none) : ∀ m, leadTo xs c (k + m) = none
  | 0 => h
  | m + 1 => by rw [← Nat.add_assoc, leadTo, leadTo_none h m]; rfl
def leadO (r c : Int) (xs : List Int) : Option (List Int) := if sqB r c xs then leadTo xs c.toNat r.toNat else none
end Go.Proofs.YtekpamojojfplaaGreat
namespace Go.Proofs.YtekpamojojfplaaGreat
open Go.RowKit
theorem d_cell12 (r c i j : Int) (xs : List Int) (n cap : Nat) (hn : n = xs.length) (h1 : 0 ≤ i * c ∧ i * c ≤ 1000000) (h2 : 0 ≤ j) (h3 : i * c + j < xs.length) (hl : xs.length ≤ 1099511627776) : Does Tryz.prog 101 [vM r c 1 n cap, vI i, vI j] [(1, .ro (.ints xs))] 2 (Ret (vI (xs.getD (0 + (i * c + j).toNat) 0)) 2) := by
 subst hn
 refine Does.intro TT Tryz.func101 rfl (by kernel_rfl) Zz Zz fun E hE => ?_
 ((repeat' (first | refine stx ?_ | (refine stq ?_ ?_ <;> (intro hc; ((try simp at hc) <;> try contradiction))) | fail)) <;> try (exfalso; omega))
 refine fin_ret rfl w_3 (rfl) rfl
end Go.Proofs.YtekpamojojfplaaGreat
