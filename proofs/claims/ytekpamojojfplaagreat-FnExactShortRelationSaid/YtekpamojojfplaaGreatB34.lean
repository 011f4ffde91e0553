/-
  TEXTS OF THE PROOF, put together: bAccS, bSmB, bSmS, Am13, bRgS.
-/
import Derived.Test.YtekpamojojfplaaGreatB33
import Derived.Test.YtekpamojojfplaaGreatB25
import Derived.Test.YtekpamojojfplaaGreatB29
import Derived.Test.YtekpamojojfplaaGreatB24
import Derived.Test.YtekpamojojfplaaGreatB18
import Derived.Test.YtekpamojojfplaaGreatB28
import Derived.Test.YtekpamojojfplaaGreatB32
set_option linter.unusedVariables false
set_option linter.unusedSimpArgs false
namespace Go.Proofs.YtekpamojojfplaaGreat
open Go.RowKit
def AccS (tr t : TypeId) (o : Option (List (List RP) × List RP)) (k : Nat) (v : AV) (Hout : List (Nat × Blk)) (n1 : Nat) : Prop := match o with
  | none => ∃ l sq c1 c2, v = .tup [.one (.sl k 1 0 l.length c1), .one (.sl (k + 1) 2 0 sq.length c2), .one (.bool false)] ∧ Hout = [(k, .own tr c1 (.rows true true l)), (k + 1, .own t c2 (.i2 sq)), (k + 2, .tok t true l)] ∧ n1 = k + 3
  | some st => ∃ l c1 c2, psX l = st.1 ∧ v = .tup [.one (.sl k 1 0 l.length c1), .one (.sl (k + 1) 2 0 st.2.length c2), .one (.bool true)] ∧ Hout = [(k, .own tr c1 (.rows true true l)), (k + 1, .own t c2 (.i2 st.2)), (k + 2, .tok t true l)] ∧ n1 = k + 3
set_option maxRecDepth 100000 in
set_option maxHeartbeats 16000000 in
theorem d_accS (n : Nat) (xs : List Int) (ca m : Nat) (hm : m = xs.length) (hx : xs.length = n * n) (hn : n ≤ 24) : Does Tryz.prog 149 [vM n n 1 m ca] [(1, .ro (.ints xs))] 2 (AccS 124 129 (acTo xs n n) 2) := by
 subst hm
 refine Does.intro TT Tryz.func149 rfl (by kernel_rfl) Zz Zz fun E hE => ?_
 ((repeat' (first | refine stx ?_ | (refine stq ?_ ?_ <;> (intro hc; ((try simp at hc) <;> try contradiction))) | fail)) <;> try (exfalso; omega))
 ((first | refine awpL_ghost (Ghost.newTok 129 true) ?_ | refine awp_ghost (Ghost.newTok 129 true) ?_ | refine awpH_ghost (Ghost.newTok 129 true) ?_ | refine awpHop_ghost (Ghost.newTok 129 true) ?_); rintro _ _ ⟨rfl, rfl⟩)
 refine w_G hE (fun x : Nat × List Row × List RP × Nat × Nat => x.1 ≤ n ∧ acTo xs n x.1 = some (psX x.2.1, x.2.2.1)) (fun x => n - x.1)
  (fun x => [(1, .one (.ptr 2 3 0 0)), (5, .one (.sl 3 1 0 x.2.1.length x.2.2.2.1)), (6, .one (.sl 4 2 0 x.2.2.1.length x.2.2.2.2)), (7, vI x.1)])
  (fun x => [(1, .ro (.ints xs)), (2, .own 26 1 (.lit [.int n, .int n, .sl 1 1 0 xs.length ca])), (3, .own 124 x.2.2.2.1 (.rows true true x.2.1)), (4, .own 129 x.2.2.2.2 (.i2 x.2.2.1)), (5, .tok 129 true x.2.1)]) 6 [] (0, [], [], 0, 0) ⟨Nat.zero_le _, rfl⟩ ⟨w_1, w_2, rfl⟩ ?_
 rintro ⟨i, l, sq, c1, c2⟩ ⟨hi, hac⟩
 dsimp only at hi hac
 obtain ⟨len1, len2, len3⟩ := acTo_len hac
 dsimp only at len1 len2 len3
 have hn2 : xs.length ≤ 576 := by rw [hx]; exact Nat.mul_le_mul hn hn
 have hpl : ∀ p, p < i → (l.getD p rowD).ps = (psX l).getD p [] ∧ (l.getD p rowD).ps.length = p := fun p hp => by
  have e : (l.getD p rowD).ps = (psX l).getD p [] := by
   have : p < l.length := by rw [psX, List.length_map] at len1; omega
   rw [getD_in this, getD_in (by rw [psX, List.length_map]; exact this)]; simp [psX]
  exact ⟨e, by rw [e]; exact len3 p hp⟩
 have hll : l.length = i := by rw [psX, List.length_map] at len1; exact len1
 by_cases hin : i < n
 ·have hin2 : ¬ n ≤ i := by omega
  ((repeat' (first | refine stx ?_ | (refine stq ?_ ?_ <;> (intro hc; ((try simp at hc) <;> try contradiction))) | fail)) <;> try (exfalso; omega))
  refine w_G hE (fun x : Nat × List RP × List RP × Nat × Nat => x.1 ≤ i + 1 ∧ (x.1 ≤ i → acRow xs n i (psX l) sq x.1 = some x.2.1 ∧ x.2.2.1 = sq) ∧ (x.1 = i + 1 → acRow xs n i (psX l) sq i = some x.2.1 ∧ acTo xs n (i + 1) = some (psX l ++ [x.2.1], x.2.2.1))) (fun x => i + 1 - x.1)
   (fun x => [(1, .one (.ptr 2 3 0 0)), (5, .one (.sl 3 1 0 l.length c1)), (7, vI i), (6, .one (.sl 4 2 0 x.2.2.1.length x.2.2.2.2)), (8, .one (.sl 6 2 0 x.2.1.length x.2.2.2.1)), (9, vI x.1)])
   (fun x => [(1, .ro (.ints xs)), (2, .own 26 1 (.lit [.int n, .int n, .sl 1 1 0 xs.length ca])), (3, .own 124 c1 (.rows true true l)), (5, .tok 129 true l), (4, .own 129 x.2.2.2.2 (.i2 x.2.2.1)), (6, .own 129 x.2.2.2.1 (.i2 x.2.1))]) 7 [] (0, [], sq, 0, c2) ⟨Nat.zero_le _, fun _ => ⟨rfl, rfl⟩, fun h => by omega⟩ ⟨w_1, w_2, rfl⟩ ?_
  rintro ⟨j, row, sqq, cr, cs⟩ ⟨hj, hj1, hj2⟩
  dsimp only at hj hj1 hj2
  by_cases hji : j ≤ i
  ·have hji2 : ¬ i < j := by omega
   obtain ⟨hrow, rfl⟩ := hj1 hji
   have hrl := acRow_len hrow
   have eij : (i : Int) * n = ((i * n : Nat) : Int) := by simp
   have hrin : i * n + n ≤ xs.length := by
    rw [hx]
    have := Nat.mul_le_mul_right n (show i + 1 ≤ n by omega)
    rw [Nat.add_mul, Nat.one_mul] at this; exact this
   have hat := fun ca => d_cell12 n n (i : Int) j xs xs.length ca rfl (by rw [eij]; omega) (by omega) (by rw [eij]; omega) (by omega)
   rw [show (0 + ((i : Int) * n + j).toNat) = i * n + j by rw [eij]; omega] at hat
   obtain ⟨x0, hx0⟩ : ∃ x0, x0 = xs.getD (i * n + j) 0 := ⟨_, rfl⟩
   rw [← hx0] at hat
   obtain ⟨oth, ho⟩ : ∃ oth, oth = if j = i then row else (psX l).getD j [] := ⟨_, rfl⟩
   ((repeat' (first | refine stx ?_ | refine zqc (hat _) ?_ | (refine stq ?_ ?_ <;> (intro hc; ((try simp at hc) <;> try contradiction))) | fail)) <;> try (exfalso; omega))
   refine w_G hE (fun k : Nat => k ≤ j) (fun k => j - k)
    (fun k => [(1, .one (.ptr 2 3 0 0)), (5, .one (.sl 3 1 0 l.length c1)), (7, vI i), (6, .one (.sl 4 2 0 sqq.length cs)), (8, .one (.sl 6 2 0 row.length cr)), (9, vI j), (10, .one (.ptr 7 2 0 0)), (11, vI k)])
    (fun k => [(1, .ro (.ints xs)), (2, .own 26 1 (.lit [.int n, .int n, .sl 1 1 0 xs.length ca])), (3, .own 124 c1 (.rows true true l)), (5, .tok 129 true l), (4, .own 129 cs (.i2 sqq)), (6, .own 129 cr (.i2 row)), (7, .own 129 1 (.lit [.int (acR x0 row oth sqq k).1, .int (acR x0 row oth sqq k).2]))]) 8 [] 0 (Nat.zero_le _) ⟨w_1, w_2, rfl⟩ ?_
   intro k hk
   by_cases hkj : k < j
   ·have hkj2 : ¬ j ≤ k := by omega
    have e0 : 0 + (k : Int).toNat = k := by omega
    by_cases hii : j = i
    ·rw [if_pos hii] at ho
     have hii2 : ¬ j < i := by omega
     have hii3 : i ≤ j := by omega
     ((repeat' (first | refine stp ?_ | (refine stq ?_ ?_ <;> (intro hc; ((try simp at hc) <;> try contradiction))) | fail)) <;> try (exfalso; omega))
     refine awp_held TM [(6, _), (8, _), (4, _)] sb rfl (fun ρs => ?_)
     refine zt1 ?_
     refine zt2 ?_
     refine zt3 ?_
     refine zt4 ?_
     refine zt5 ?_
     refine zt7 ?_
     refine zt8 ?_
     refine zt9 ?_
     refine zt10 ?_
     refine w_u [0, 6] kr rfl ⟨?_, ?_, trivial⟩
     first | (refine zho ?_) | refine zqb (d_mulRS _ _ _ _) ?_ | refine zqb (d_negRS _ _) ?_ | refine zqb (d_addRS _ _ _ _) ?_
     refine w_u [6] kr rfl ⟨?_, trivial⟩
     first | (refine zho ?_) | refine zqb (d_mulRS _ _ _ _) ?_ | refine zqb (d_negRS _ _) ?_ | refine zqb (d_addRS _ _ _ _) ?_
     refine w_u [11] kr rfl ⟨?_, trivial⟩
     first | (refine zho ?_) | refine zqb (d_mulRS _ _ _ _) ?_ | refine zqb (d_negRS _ _) ?_ | refine zqb (d_addRS _ _ _ _) ?_
     refine w_u [12] kr rfl ⟨?_, trivial⟩
     first | (refine zho ?_) | refine zqb (d_mulRS _ _ _ _) ?_ | refine zqb (d_negRS _ _) ?_ | refine zqb (d_addRS _ _ _ _) ?_
     refine w_u [13] kr rfl ⟨?_, trivial⟩
     first | (refine zho ?_) | refine zqb (d_mulRS _ _ _ _) ?_ | refine zqb (d_negRS _ _) ?_ | refine zqb (d_addRS _ _ _ _) ?_
     refine w_u [14] kr rfl ⟨?_, trivial⟩
     first | (refine zho ?_) | refine zqb (d_mulRS _ _ _ _) ?_ | refine zqb (d_negRS _ _) ?_ | refine zqb (d_addRS _ _ _ _) ?_
     refine w_v kr ?_
     rotate_left
     first | (refine zho ?_) | refine zqb (d_mulRS _ _ _ _) ?_ | refine zqb (d_negRS _ _) ?_ | refine zqb (d_addRS _ _ _ _) ?_
     refine w_u [0, 11] kr rfl ⟨?_, ?_, trivial⟩
     first | (refine zho ?_) | refine zqb (d_mulRS _ _ _ _) ?_ | refine zqb (d_negRS _ _) ?_ | refine zqb (d_addRS _ _ _ _) ?_
     refine w_u [11] kr rfl ⟨?_, trivial⟩
     first | (refine zho ?_) | refine zqb (d_mulRS _ _ _ _) ?_ | refine zqb (d_negRS _ _) ?_ | refine zqb (d_addRS _ _ _ _) ?_
     refine w_u [12] kr rfl ⟨?_, trivial⟩
     first | (refine zho ?_) | refine zqb (d_mulRS _ _ _ _) ?_ | refine zqb (d_negRS _ _) ?_ | refine zqb (d_addRS _ _ _ _) ?_
     refine w_u [13] kr rfl ⟨?_, trivial⟩
     first | (refine zho ?_) | refine zqb (d_mulRS _ _ _ _) ?_ | refine zqb (d_negRS _ _) ?_ | refine zqb (d_addRS _ _ _ _) ?_
     refine w_u [14] kr rfl ⟨?_, trivial⟩
     first | (refine zho ?_) | refine zqb (d_mulRS _ _ _ _) ?_ | refine zqb (d_negRS _ _) ?_ | refine zqb (d_addRS _ _ _ _) ?_
     refine w_v kr ?_
     rotate_left
     first | (refine zho ?_) | refine zqb (d_mulRS _ _ _ _) ?_ | refine zqb (d_negRS _ _) ?_ | refine zqb (d_addRS _ _ _ _) ?_
     refine w_u [0, 12] kr rfl ⟨?_, ?_, trivial⟩
     first | (refine zho ?_) | refine zqb (d_mulRS _ _ _ _) ?_ | refine zqb (d_negRS _ _) ?_ | refine zqb (d_addRS _ _ _ _) ?_
     refine w_u [12] kr rfl ⟨?_, trivial⟩
     first | (refine zho ?_) | refine zqb (d_mulRS _ _ _ _) ?_ | refine zqb (d_negRS _ _) ?_ | refine zqb (d_addRS _ _ _ _) ?_
     refine w_u [13] kr rfl ⟨?_, trivial⟩
     first | (refine zho ?_) | refine zqb (d_mulRS _ _ _ _) ?_ | refine zqb (d_negRS _ _) ?_ | refine zqb (d_addRS _ _ _ _) ?_
     refine w_u [14] kr rfl ⟨?_, trivial⟩
     first | (refine zho ?_) | refine zqb (d_mulRS _ _ _ _) ?_ | refine zqb (d_negRS _ _) ?_ | refine zqb (d_addRS _ _ _ _) ?_
     refine w_v kr ?_
     rotate_left
     first | (refine zho ?_) | refine zqb (d_mulRS _ _ _ _) ?_ | refine zqb (d_negRS _ _) ?_ | refine zqb (d_addRS _ _ _ _) ?_
     refine w_u [0] kr rfl ⟨?_, trivial⟩
     first | (refine zho ?_) | refine zqb (d_mulRS _ _ _ _) ?_ | refine zqb (d_negRS _ _) ?_ | refine zqb (d_addRS _ _ _ _) ?_
     refine w_u [13] kr rfl ⟨?_, trivial⟩
     first | (refine zho ?_) | refine zqb (d_mulRS _ _ _ _) ?_ | refine zqb (d_negRS _ _) ?_ | refine zqb (d_addRS _ _ _ _) ?_
     refine w_u [14] kr rfl ⟨?_, trivial⟩
     first | (refine zho ?_) | refine zqb (d_mulRS _ _ _ _) ?_ | refine zqb (d_negRS _ _) ?_ | refine zqb (d_addRS _ _ _ _) ?_
     refine w_v kr ?_
     rotate_left
     all_goals ((repeat' (first | refine stx ?_ | (refine stq ?_ ?_ <;> (intro hc; ((try simp at hc) <;> try contradiction))) | fail)) <;> try (exfalso; omega))
     all_goals exact ⟨[], k + 1, hkj, w_4, ⟨w_1, ⟨rfl, rfl, rfl, rfl, rfl, rfl, congrArg (fun p : RP => some (Blk.own 129 1 (.lit [.int p.1, .int p.2]))) (by rw [e0, ho]; rfl), trivial⟩, rfl⟩⟩
    ·rw [if_neg hii] at ho
     have hji3 : ¬ i ≤ j := by omega
     have hji4 : j < i := by omega
     have hjl : j < l.length := by omega
     have hps := hpl j (by omega)
     have ex : (l.getD (0 + (j : Int).toNat) rowD).ps = oth := by rw [show 0 + (j : Int).toNat = j by omega, ho]; exact hps.1
     have exl : (l.getD (0 + (j : Int).toNat) rowD).ps.length = j := by rw [show 0 + (j : Int).toNat = j by omega]; exact hps.2
     have exn : (l[j]?.getD rowD).ps.length = j := by rw [← List.getD_eq_getElem?_getD]; exact hps.2
     ((repeat' (first | refine stp ?_ | (refine stq ?_ ?_ <;> (intro hc; ((try simp at hc) <;> try contradiction))) | fail)) <;> try (exfalso; omega))
     refine awp_held TM [(6, _), (8, _), (4, _)] sb rfl (fun ρs => ?_)
     refine zt1 ?_
     refine zt2 ?_
     refine zt3 ?_
     refine zt4 ?_
     refine zt5 ?_
     refine zt7 ?_
     refine zt8 ?_
     refine zt9 ?_
     refine zt10 ?_
     refine w_u [0, 6] kr rfl ⟨?_, ?_, trivial⟩
     first | (refine zho ?_) | refine zqb (d_mulRS _ _ _ _) ?_ | refine zqb (d_negRS _ _) ?_ | refine zqb (d_addRS _ _ _ _) ?_
     refine w_u [6] kr rfl ⟨?_, trivial⟩
     first | (refine zho ?_) | refine zqb (d_mulRS _ _ _ _) ?_ | refine zqb (d_negRS _ _) ?_ | refine zqb (d_addRS _ _ _ _) ?_
     refine w_u [11] kr rfl ⟨?_, trivial⟩
     first | (refine zho ?_) | refine zqb (d_mulRS _ _ _ _) ?_ | refine zqb (d_negRS _ _) ?_ | refine zqb (d_addRS _ _ _ _) ?_
     refine w_u [12] kr rfl ⟨?_, trivial⟩
     first | (refine zho ?_) | refine zqb (d_mulRS _ _ _ _) ?_ | refine zqb (d_negRS _ _) ?_ | refine zqb (d_addRS _ _ _ _) ?_
     refine w_u [13] kr rfl ⟨?_, trivial⟩
     first | (refine zho ?_) | refine zqb (d_mulRS _ _ _ _) ?_ | refine zqb (d_negRS _ _) ?_ | refine zqb (d_addRS _ _ _ _) ?_
     refine w_u [14] kr rfl ⟨?_, trivial⟩
     first | (refine zho ?_) | refine zqb (d_mulRS _ _ _ _) ?_ | refine zqb (d_negRS _ _) ?_ | refine zqb (d_addRS _ _ _ _) ?_
     refine w_v kr ?_
     rotate_left
     first | (refine zho ?_) | refine zqb (d_mulRS _ _ _ _) ?_ | refine zqb (d_negRS _ _) ?_ | refine zqb (d_addRS _ _ _ _) ?_
     refine w_u [0, 11] kr rfl ⟨?_, ?_, trivial⟩
     first | (refine zho ?_) | refine zqb (d_mulRS _ _ _ _) ?_ | refine zqb (d_negRS _ _) ?_ | refine zqb (d_addRS _ _ _ _) ?_
     refine w_u [11] kr rfl ⟨?_, trivial⟩
     first | (refine zho ?_) | refine zqb (d_mulRS _ _ _ _) ?_ | refine zqb (d_negRS _ _) ?_ | refine zqb (d_addRS _ _ _ _) ?_
     refine w_u [12] kr rfl ⟨?_, trivial⟩
     first | (refine zho ?_) | refine zqb (d_mulRS _ _ _ _) ?_ | refine zqb (d_negRS _ _) ?_ | refine zqb (d_addRS _ _ _ _) ?_
     refine w_u [13] kr rfl ⟨?_, trivial⟩
     first | (refine zho ?_) | refine zqb (d_mulRS _ _ _ _) ?_ | refine zqb (d_negRS _ _) ?_ | refine zqb (d_addRS _ _ _ _) ?_
     refine w_u [14] kr rfl ⟨?_, trivial⟩
     first | (refine zho ?_) | refine zqb (d_mulRS _ _ _ _) ?_ | refine zqb (d_negRS _ _) ?_ | refine zqb (d_addRS _ _ _ _) ?_
     refine w_v kr ?_
     rotate_left
     first | (refine zho ?_) | refine zqb (d_mulRS _ _ _ _) ?_ | refine zqb (d_negRS _ _) ?_ | refine zqb (d_addRS _ _ _ _) ?_
     refine w_u [0, 12] kr rfl ⟨?_, ?_, trivial⟩
     first | (refine zho ?_) | refine zqb (d_mulRS _ _ _ _) ?_ | refine zqb (d_negRS _ _) ?_ | refine zqb (d_addRS _ _ _ _) ?_
     refine w_u [12] kr rfl ⟨?_, trivial⟩
     first | (refine zho ?_) | refine zqb (d_mulRS _ _ _ _) ?_ | refine zqb (d_negRS _ _) ?_ | refine zqb (d_addRS _ _ _ _) ?_
     refine w_u [13] kr rfl ⟨?_, trivial⟩
     first | (refine zho ?_) | refine zqb (d_mulRS _ _ _ _) ?_ | refine zqb (d_negRS _ _) ?_ | refine zqb (d_addRS _ _ _ _) ?_
     refine w_u [14] kr rfl ⟨?_, trivial⟩
     first | (refine zho ?_) | refine zqb (d_mulRS _ _ _ _) ?_ | refine zqb (d_negRS _ _) ?_ | refine zqb (d_addRS _ _ _ _) ?_
     refine w_v kr ?_
     rotate_left
     first | (refine zho ?_) | refine zqb (d_mulRS _ _ _ _) ?_ | refine zqb (d_negRS _ _) ?_ | refine zqb (d_addRS _ _ _ _) ?_
     refine w_u [0] kr rfl ⟨?_, trivial⟩
     first | (refine zho ?_) | refine zqb (d_mulRS _ _ _ _) ?_ | refine zqb (d_negRS _ _) ?_ | refine zqb (d_addRS _ _ _ _) ?_
     refine w_u [13] kr rfl ⟨?_, trivial⟩
     first | (refine zho ?_) | refine zqb (d_mulRS _ _ _ _) ?_ | refine zqb (d_negRS _ _) ?_ | refine zqb (d_addRS _ _ _ _) ?_
     refine w_u [14] kr rfl ⟨?_, trivial⟩
     first | (refine zho ?_) | refine zqb (d_mulRS _ _ _ _) ?_ | refine zqb (d_negRS _ _) ?_ | refine zqb (d_addRS _ _ _ _) ?_
     refine w_v kr ?_
     rotate_left
     all_goals ((repeat' (first | refine stx ?_ | (refine stq ?_ ?_ <;> (intro hc; ((try simp at hc) <;> try contradiction))) | fail)) <;> try (exfalso; omega))
     all_goals exact ⟨[], k + 1, hkj, w_4, ⟨w_1, ⟨rfl, rfl, rfl, rfl, rfl, rfl, congrArg (fun p : RP => some (Blk.own 129 1 (.lit [.int p.1, .int p.2]))) (by rw [e0, ex]; rfl), trivial⟩, rfl⟩⟩
   ·obtain rfl : k = j := by omega
    cases hr : ratP (acR x0 row oth sqq k) with
    | false =>
     have hno : acTo xs n n = none := by
      have h1 : acTo xs n (i + 1) = none := by
       rw [acTo, hac, Option.bind_some]
       rcases Nat.lt_or_ge k i with c | c
       ·have h2 : acRow xs n i (psX l) sqq (k + 1) = none := by
         rw [if_neg (by omega)] at ho
         rw [acRow, hrow, Option.bind_some, ← hx0, ← ho, hr]; rfl
        have h3 := acRow_none h2 (i - (k + 1))
        rw [show k + 1 + (i - (k + 1)) = i by omega] at h3
        rw [h3]; rfl
       ·obtain rfl : k = i := by omega
        rw [if_pos rfl] at ho
        rw [hrow, Option.bind_some, ← hx0]
        rw [ho] at hr
        rw [hr]; rfl
      have := acTo_none h1 (n - (i + 1))
      rwa [show i + 1 + (n - (i + 1)) = n by omega] at this
     have hrt := d_ratioS (acR x0 row oth sqq k).1 (acR x0 row oth sqq k).2
     rw [show ratioB (acR x0 row oth sqq k).1 (acR x0 row oth sqq k).2 = false from hr] at hrt
     rw [hno]
     ((repeat' (first | refine stx ?_ | refine zqc (hrt) ?_ | (refine stq ?_ ?_ <;> (intro hc; ((try simp at hc) <;> try contradiction))) | fail)) <;> try (exfalso; omega))
     exact fin rfl w_3 [(2, 3), (3, 4), (4, 5)] (.tup [.one (.sl 2 1 0 l.length c1), .one (.sl 3 2 0 sqq.length cs), .one (.bool false)]) [(2, .own 124 c1 (.rows true true l)), (3, .own 129 cs (.i2 sqq)), (4, .tok 129 true l)] 5 ⟨l, sqq, c1, cs, rfl, rfl, rfl⟩ rfl ⟨trivial, ⟨rfl, rfl, rfl, trivial⟩, rfl⟩ rfl
    | true =>
     have hrt := d_ratioS (acR x0 row oth sqq k).1 (acR x0 row oth sqq k).2
     rw [show ratioB (acR x0 row oth sqq k).1 (acR x0 row oth sqq k).2 = true from hr] at hrt
     rcases Nat.lt_or_ge k i with c | c
     ·have e0 : 0 + (k : Int).toNat = k := by omega
      have hki : ¬ k = i := by omega
      rw [if_neg (by omega)] at ho
      have hnx : acRow xs n i (psX l) sqq (k + 1) = some (row ++ [divP (acR x0 row oth sqq k) (sqq.getD k (0, 0))]) := by
       rw [acRow, hrow, Option.bind_some, ← hx0, ← ho, hr]; rfl
      ((repeat' (first | refine stp ?_ | refine zqc (hrt) ?_ | (refine stq ?_ ?_ <;> (intro hc; ((try simp at hc) <;> try contradiction))) | fail)) <;> try (exfalso; omega))
      refine awp_held TM [(7, _), (4, _)] sb rfl (fun ρs => ?_)
      refine zt0 ?_
      refine zt1 ?_
      refine zt2 ?_
      refine zt3 ?_
      refine zt4 ?_
      refine zt5 ?_
      refine w_u [6] kr rfl ⟨?_, trivial⟩
      first | (refine zho ?_) | refine zqb (d_divRS _ _ _ _) ?_ | (refine zqy ?_; intro cap hcap)
      refine w_u [7] kr rfl ⟨?_, trivial⟩
      first | (refine zho ?_) | refine zqb (d_divRS _ _ _ _) ?_ | (refine zqy ?_; intro cap hcap)
      refine w_u [8] kr rfl ⟨?_, trivial⟩
      first | (refine zho ?_) | refine zqb (d_divRS _ _ _ _) ?_ | (refine zqy ?_; intro cap hcap)
      refine zt9 ?_
      refine w_v kr ?_
      rotate_left
      all_goals ((repeat' (first | refine stx ?_ | (refine stq ?_ ?_ <;> (intro hc; ((try simp at hc) <;> try contradiction))) | fail)) <;> try (exfalso; omega))
      all_goals exact ⟨[(6, 9)], (k + 1, row ++ [divP (acR x0 row oth sqq k) (sqq.getD k (0, 0))], sqq, cap, cs), ⟨by dsimp only; omega, fun _ => ⟨hnx, rfl⟩, fun h => by dsimp only at h; omega⟩, w_4, ⟨w_1, ⟨rfl, rfl, rfl, rfl, rfl, own_i2A (by rw [e0]; rfl), trivial⟩, rfl⟩⟩
     ·obtain rfl : k = i := by omega
      rw [if_pos rfl] at ho
      by_cases hp : 0 < (acR x0 row oth sqq k).1
      ·have hnx : acTo xs n (k + 1) = some (psX l ++ [row], sqq ++ [acR x0 row oth sqq k]) := by
        rw [acTo, hac, Option.bind_some, hrow, Option.bind_some, ← hx0]
        rw [ho] at hr hp
        rw [hr, decide_eq_true hp, ho]; rfl
       have hpn : ¬ (acR x0 row oth sqq k).1 ≤ 0 := by omega
       ((repeat' (first | refine stx ?_ | refine zqc (hrt) ?_ | (refine zqx ?_; intro cap hcap) | (refine stq ?_ ?_ <;> (intro hc; ((try simp at hc) <;> try contradiction))) | fail)) <;> try (exfalso; omega))
       exact ⟨[(4, 9)], (k + 1, row, sqq ++ [acR x0 row oth sqq k], cr, cap), ⟨Nat.le_refl _, fun h => by dsimp only at h; omega, fun _ => ⟨hrow, hnx⟩⟩, w_4, ⟨w_1, ⟨rfl, rfl, rfl, rfl, rfl, rfl, trivial⟩, rfl⟩⟩
      ·have hno : acTo xs n n = none := by
        have h1 : acTo xs n (k + 1) = none := by
         rw [acTo, hac, Option.bind_some, hrow, Option.bind_some, ← hx0]
         rw [ho] at hp
         rw [decide_eq_false hp, Bool.and_false]; rfl
        have := acTo_none h1 (n - (k + 1))
        rwa [show k + 1 + (n - (k + 1)) = n by omega] at this
       have hpn : (acR x0 row oth sqq k).1 ≤ 0 := by omega
       rw [hno]
       ((repeat' (first | refine stx ?_ | refine zqc (hrt) ?_ | (refine stq ?_ ?_ <;> (intro hc; ((try simp at hc) <;> try contradiction))) | fail)) <;> try (exfalso; omega))
       exact fin rfl w_3 [(2, 3), (3, 4), (4, 5)] (.tup [.one (.sl 2 1 0 l.length c1), .one (.sl 3 2 0 sqq.length cs), .one (.bool false)]) [(2, .own 124 c1 (.rows true true l)), (3, .own 129 cs (.i2 sqq)), (4, .tok 129 true l)] 5 ⟨l, sqq, c1, cs, rfl, rfl, rfl⟩ rfl ⟨trivial, ⟨rfl, rfl, rfl, trivial⟩, rfl⟩ rfl
  ·obtain rfl : j = i + 1 := by omega
   obtain ⟨hrow, hnx⟩ := hj2 rfl
   have hjn : ¬ ((i + 1 : Nat) : Int) ≤ i := by omega
   have hjn2 : i < i + 1 := by omega
   ((first | refine awpL_ghost (Ghost.freezeP 6 5 Zz Zz) ?_ | refine awp_ghost (Ghost.freezeP 6 5 Zz Zz) ?_ | refine awpH_ghost (Ghost.freezeP 6 5 Zz Zz) ?_ | refine awpHop_ghost (Ghost.freezeP 6 5 Zz Zz) ?_); rintro _ _ ⟨ar, rfl, rfl⟩)
   ((repeat' (first | refine stx ?_ | (refine zqx ?_; intro cap hcap) | (refine stq ?_ ?_ <;> (intro hc; ((try simp at hc) <;> try contradiction))) | fail)) <;> try (exfalso; omega))
   exact ⟨[(3, 8)], (i + 1, l ++ [⟨ar, cr, [], row⟩], sqq, cap, cs), ⟨hin, by rw [hnx, psX, psX, List.map_append]; rfl⟩, w_4, ⟨w_1, ⟨rfl, rfl, rfl, rfl, rfl, trivial⟩, rfl⟩⟩
 ·obtain rfl : i = n := by omega
  rw [hac]
  ((repeat' (first | refine stx ?_ | (refine stq ?_ ?_ <;> (intro hc; ((try simp at hc) <;> try contradiction))) | fail)) <;> try (exfalso; omega))
  exact fin rfl w_3 [(2, 3), (3, 4), (4, 5)] (.tup [.one (.sl 2 1 0 l.length c1), .one (.sl 3 2 0 sq.length c2), .one (.bool true)]) [(2, .own 124 c1 (.rows true true l)), (3, .own 129 c2 (.i2 sq)), (4, .tok 129 true l)] 5 ⟨l, c1, c2, rfl, rfl, rfl, rfl⟩ rfl ⟨trivial, ⟨rfl, rfl, rfl, trivial⟩, rfl⟩ rfl
end Go.Proofs.YtekpamojojfplaaGreat
namespace Go.Proofs.YtekpamojojfplaaGreat
open Go.RowKit
end Go.Proofs.YtekpamojojfplaaGreat
namespace Go.Proofs.YtekpamojojfplaaGreat
open Go.RowKit
set_option maxHeartbeats 4000000 in
theorem d_colSA (r c i j n ca cap : Nat) (q : Int) (xs : List Int) (hn : n = xs.length) (hx : xs.length = r * c) (hr : r ≤ 24) (hc24 : c ≤ 24) (hi : i < c) (hj : j < c) (hij : i ≠ j) (hg : GBs xs) (hq : GB q) :
    Does Tryz.prog 186 [vM r c 1 n ca, vO 2 i j q] [(1, .own 3 cap (.ints xs))] 2 (SetM 3 cap (dcX xs r c i j q)) := by
  have hqr := hq.rng
  refine Does.intro TT Tryz.func186 rfl (by kernel_rfl) Zz Zz fun E hE => ?_
  ((repeat' (first | refine stx ?_ | (refine stq ?_ ?_ <;> (intro hc; ((try simp at hc) <;> try contradiction))) | fail)) <;> try (exfalso; omega))
  refine w_G hE (fun k : Nat => k ≤ r) (fun k => r - k)
    (fun k => [(2, .one (.ptr 2 3 0 0)), (3, .one (.ptr 3 4 0 0)), (4, vI k)]) (fun k => [(1, .own 3 cap (.ints (cupTo xs c i (dcF xs c j q) k))), (2, .own 26 1 (.lit [.int r, .int c, .sl 1 1 0 n ca])), (3, .own 74 1 (.lit [.int 2, .int i, .int j, .int q]))]) 4 [] 0 (Nat.zero_le _) ⟨w_1, w_2, rfl⟩ ?_
  intro k hk
  have hlen : (cupTo xs c i (dcF xs c j q) k).length = xs.length := cupTo_len
  by_cases hkr : k < r
  · have hkn : ¬ (r ≤ k) := by omega
    have b1 := cell_facts hkr hi hr hc24
    have b2 := cell_facts hkr hj hr hc24
    have e1 := cell_nat (p := k) (k := i) (c := c)
    have e2 := cell_nat (p := k) (k := j) (c := c)
    have a1 : (cupTo xs c i (dcF xs c j q) k).getD (k * c + i) 0 = xs.getD (k * c + i) 0 := by rw [cupTo_cell hx hi hi hkr (by omega), if_neg (by omega)]
    have a2 : (cupTo xs c i (dcF xs c j q) k).getD (k * c + j) 0 = xs.getD (k * c + j) 0 := by rw [cupTo_cell hx hi hj hkr (by omega), if_neg (by omega)]
    have v1 := hg (k * c + i)
    have v2 := hg (k * c + j)
    rw [← a1, ← e1] at v1
    rw [← a2, ← e2] at v2
    have g1 := d_mulV _ q v2 hq
    have g2 := d_addV _ _ v1 (GB.mul ((cupTo xs c i (dcF xs c j q) k).getD (0 + ((k : Int) * c + j).toNat) 0) q)
    have hv : addV ((cupTo xs c i (dcF xs c j q) k).getD (0 + ((k : Int) * c + i).toNat) 0) (mulV ((cupTo xs c i (dcF xs c j q) k).getD (0 + ((k : Int) * c + j).toNat) 0) q) = dcF xs c j q k (xs.getD (k * c + i) 0) := by rw [e1, e2, a1, a2]; rfl
    have r1 := v1.rng
    have r2 := v2.rng
    ((repeat' (first | refine stp ?_ | (refine stq ?_ ?_ <;> (intro hc; ((try simp at hc) <;> try contradiction))) | fail)) <;> try (exfalso; omega))
    refine awp_held TM [(2, _), (3, _)] sb rfl (fun ρs => ?_)
    refine zt0 ?_
    refine zt1 ?_
    refine zt2 ?_
    refine zt3 ?_
    refine zt4 ?_
    refine zt5 ?_
    refine zt6 ?_
    refine zt7 ?_
    refine zt8 ?_
    refine zt9 ?_
    refine zt10 ?_
    refine zt11 ?_
    refine zt12 ?_
    refine w_u [13] kr rfl ⟨?_, trivial⟩
    first | (refine zho ?_) | refine zqb (g1) ?_ | refine zqb (g2) ?_
    refine w_u [14] kr rfl ⟨?_, trivial⟩
    first | (refine zho ?_) | refine zqb (g1) ?_ | refine zqb (g2) ?_
    refine zt15 ?_
    refine w_u [16] kr rfl ⟨?_, trivial⟩
    first | (refine zho ?_) | refine zqb (g1) ?_ | refine zqb (g2) ?_
    refine w_v kr ?_
    rotate_left
    all_goals ((repeat' (first | refine stp ?_ | (refine stq ?_ ?_ <;> (intro hc; ((try simp at hc) <;> try contradiction))) | fail)) <;> try (exfalso; omega))
    all_goals
      refine ⟨[], k + 1, hkr, w_4, ⟨w_1, ⟨own_ints ?_, rfl, rfl, trivial⟩, rfl⟩⟩
      rw [hv, e1]; rfl
  · obtain rfl : k = r := by omega
    rw [cup_dcX hx hi hj]
    ((repeat' (first | refine stx ?_ | (refine stq ?_ ?_ <;> (intro hc; ((try simp at hc) <;> try contradiction))) | fail)) <;> try (exfalso; omega))
    exact fin_n rfl w_3 [] (.tup []) [(1, .own 3 cap (.ints (dcX xs k c i j q)))] 2 ⟨rfl, rfl, rfl⟩ rfl ⟨trivial, ⟨rfl, trivial⟩, rfl⟩ rfl
set_option maxHeartbeats 4000000 in
theorem d_colSW (r c i j n ca cap : Nat) (xs : List Int) (hn : n = xs.length) (hx : xs.length = r * c) (hr : r ≤ 24) (hc24 : c ≤ 24) (hi : i < c) (hj : j < c) (hij : i ≠ j) (hg : GBs xs) :
    Does Tryz.prog 186 [vM r c 1 n ca, vO 0 i j 0] [(1, .own 3 cap (.ints xs))] 2 (SetM 3 cap (turnM (swapTo (turnM xs r c) (i * r) (j * r) r) c r)) := by
  refine Does.intro TT Tryz.func186 rfl (by kernel_rfl) Zz Zz fun E hE => ?_
  ((repeat' (first | refine stx ?_ | (refine stq ?_ ?_ <;> (intro hc; ((try simp at hc) <;> try contradiction))) | fail)) <;> try (exfalso; omega))
  refine w_G hE (fun k : Nat => k ≤ r) (fun k => r - k)
    (fun k => [(2, .one (.ptr 2 3 0 0)), (3, .one (.ptr 3 4 0 0)), (4, vI k)]) (fun k => [(1, .own 3 cap (.ints (cswTo xs c i j k))), (2, .own 26 1 (.lit [.int r, .int c, .sl 1 1 0 n ca])), (3, .own 74 1 (.lit [.int 0, .int i, .int j, .int 0]))]) 4 [] 0 (Nat.zero_le _) ⟨w_1, w_2, rfl⟩ ?_
  intro k hk
  have hlen : (cswTo xs c i j k).length = xs.length := cswTo_len
  by_cases hkr : k < r
  · have hkn : ¬ (r ≤ k) := by omega
    have b1 := cell_facts hkr hi hr hc24
    have b2 := cell_facts hkr hj hr hc24
    have e1 := cell_nat (p := k) (k := i) (c := c)
    have e2 := cell_nat (p := k) (k := j) (c := c)
    have a1 : (cswTo xs c i j k).getD (k * c + i) 0 = xs.getD (k * c + i) 0 := by rw [cswTo_cell hx hi hj hij hi hkr (by omega), if_neg (by omega), if_neg (by omega)]
    have a2 : (cswTo xs c i j k).getD (k * c + j) 0 = xs.getD (k * c + j) 0 := by rw [cswTo_cell hx hi hj hij hj hkr (by omega), if_neg (by omega), if_neg (by omega)]
    ((repeat' (first | refine stp ?_ | (refine stq ?_ ?_ <;> (intro hc; ((try simp at hc) <;> try contradiction))) | fail)) <;> try (exfalso; omega))
    all_goals
      refine ⟨[], k + 1, hkr, w_4, ⟨w_1, ⟨own_ints ?_, rfl, rfl, trivial⟩, rfl⟩⟩
      rw [e1, e2, a1, a2]; rfl
  · obtain rfl : k = r := by omega
    rw [csw_swC hx hi hj hij]
    ((repeat' (first | refine stx ?_ | (refine stq ?_ ?_ <;> (intro hc; ((try simp at hc) <;> try contradiction))) | fail)) <;> try (exfalso; omega))
    exact fin_n rfl w_3 [] (.tup []) [(1, .own 3 cap (.ints (turnM (swapTo (turnM xs k c) (i * k) (j * k) k) c k)))] 2 ⟨rfl, rfl, rfl⟩ rfl ⟨trivial, ⟨rfl, trivial⟩, rfl⟩ rfl
end Go.Proofs.YtekpamojojfplaaGreat
namespace Go.Proofs.YtekpamojojfplaaGreat
open Go.RowKit
section
variable {P : Program} {E : Env} {N : Nat} {Q : Post} {fr : Nat → Option AV} {H : Nat → Option Blk} {nx : Nat}
theorem awp_cutR {α : Type} (i : Nat) {ops : Array Oper} {dr : Bool} {y : Code} {n0 : Nat} (hn : E.n0 = n0) (pre : α → Prop) (F : α → List (Nat × AV)) (Hh : α → List (Nat × Blk)) (nx1 : Nat)
    (h : awp P E N (.region i ops dr) (cutQ n0 pre F Hh nx1 Q) ⟨fr, H, nx⟩)
    (hr : ∀ z, pre z → awp P E N y Q ⟨lk (F z), lk (Hh z), nx1⟩) : awp P E N (.seq (.region i ops dr) y) Q ⟨fr, H, nx⟩ := by
  unfold awp at *
  intro ρ a w hI
  refine wp_seq (Code.wp_mono (fun e a' w' hq => ?_) (h ρ a w hI))
  obtain ⟨ρ', σ', hI', hq⟩ := hq
  cases e with
  | normal =>
    obtain ⟨m, z, hp, hw⟩ := hq
    exact hr z hp _ a' w' (hI'.weak hn hw.f hw.h hw.ok)
  | exit id => exact ⟨ρ', σ', hI', hq⟩
  | goto l => exact ⟨ρ', σ', hI', hq⟩
  | ret => exact ⟨ρ', σ', hI', hq⟩
  | panic => exact ⟨ρ', σ', hI', hq⟩
  | outgrown => exact ⟨ρ', σ', hI', hq⟩
end
end Go.Proofs.YtekpamojojfplaaGreat
namespace Go.Proofs.YtekpamojojfplaaGreat
open Go.RowKit
theorem cmpR_rng {a b c d : Int} : cmpR a b c d = -1 ∨ cmpR a b c d = 0 ∨ cmpR a b c d = 1 ∨ cmpR a b c d = 2 := by
  unfold cmpR
  split
  · split
    · exact .inl rfl
    · split
      · exact .inr (.inr (.inl rfl))
      · exact .inr (.inl rfl)
  · exact .inr (.inr (.inr rfl))
set_option maxRecDepth 100000 in
set_option maxHeartbeats 4000000 in
theorem d_goodS (M S0 S1 : RP) (c : Int) (hc : cmpP S1 (mulP (subP (3, 4) (mulP M M)) S0) = c) :
    Does Tryz.prog 153 [.agg [.int M.1, .int M.2], .agg [.int S0.1, .int S0.2], .agg [.int S1.1, .int S1.2]] [] 1 (Ret (.tup [.one (.bool (decide (c = 0 ∨ c = 1))), .one (.bool (!decide (c = 2)))]) 1) := by
  have hce : cmpR S1.1 S1.2 (mulR (subR 3 4 (mulR M.1 M.2 M.1 M.2).1 (mulR M.1 M.2 M.1 M.2).2).1 (subR 3 4 (mulR M.1 M.2 M.1 M.2).1 (mulR M.1 M.2 M.1 M.2).2).2 S0.1 S0.2).1 (mulR (subR 3 4 (mulR M.1 M.2 M.1 M.2).1 (mulR M.1 M.2 M.1 M.2).2).1 (subR 3 4 (mulR M.1 M.2 M.1 M.2).1 (mulR M.1 M.2 M.1 M.2).2).2 S0.1 S0.2).2 = c := hc
  have hcr : c = -1 ∨ c = 0 ∨ c = 1 ∨ c = 2 := by rw [← hce]; exact cmpR_rng
  refine Does.intro TT Tryz.func153 rfl (by kernel_rfl) Zz Zz fun E hE => ?_
  ((repeat' (first | refine stp ?_ | refine zqc (d_mulRS _ _ _ _) ?_ | refine zqc (d_negRS _ _) ?_ | refine zqc (d_addRS _ _ _ _) ?_ | (refine stq ?_ ?_ <;> (intro hc; ((try simp at hc) <;> try contradiction))) | fail)) <;> try (exfalso; omega))
  refine awp_held TM [(2, _), (3, _), (4, _)] sb rfl (fun ρs => ?_)
  refine zt0 ?_
  refine zt1 ?_
  refine zt2 ?_
  refine w_u [3] kr rfl ⟨?_, trivial⟩
  first | (refine zho ?_) | refine zqb (d_mulRS _ _ _ _) ?_ | refine zqb (d_cmpRS _ _ _ _) ?_
  refine w_u [4] kr rfl ⟨?_, trivial⟩
  first | (refine zho ?_) | refine zqb (d_mulRS _ _ _ _) ?_ | refine zqb (d_cmpRS _ _ _ _) ?_
  refine zt5 ?_
  refine w_v kr ?_
  rotate_left
  all_goals rw [show addR 3 4 (negR (mulR M.1 M.2 M.1 M.2).1 (mulR M.1 M.2 M.1 M.2).2).1 (negR (mulR M.1 M.2 M.1 M.2).1 (mulR M.1 M.2 M.1 M.2).2).2 = subR 3 4 (mulR M.1 M.2 M.1 M.2).1 (mulR M.1 M.2 M.1 M.2).2 from rfl, hce]
  all_goals rcases hcr with rfl | rfl | rfl | rfl
  all_goals ((repeat' (first | refine stx ?_ | (refine stq ?_ ?_ <;> (intro hc; ((try simp at hc) <;> try contradiction))) | fail)) <;> try (exfalso; omega))
  all_goals refine fin_ret rfl w_3 (rfl) rfl
def BothS (t : TypeId) (cx cu : Nat) (xs us : List Int) (v : AV) (Hout : List (Nat × Blk)) (n1 : Nat) : Prop := v = .tup [] ∧ Hout = [(1, .own t cx (.ints xs)), (2, .own t cu (.ints us))] ∧ n1 = 3
set_option maxHeartbeats 4000000 in
theorem d_bothSA (n i j cx : Nat) (q : Int) (xs us : List Int) (hx : xs.length = n * n) (hu : us.length = n * n) (hn : n ≤ 24) (hi : i < n) (hj : j < n) (hij : i ≠ j) (g1 : GBs xs) (g2 : GBs us) (hq : GB q) :
    Does Tryz.prog 152 [vM n n 1 (n * n) cx, vM n n 2 (n * n) (n * n), vO 2 i j q] [(1, .own 3 cx (.ints xs)), (2, .own 3 (n * n) (.ints us))] 3 (BothS 3 cx (n * n) (dcX (doX xs n i j q) n n i j q) (doX us n i j q)) := by
  refine Does.intro TT Tryz.func152 rfl (by kernel_rfl) Zz Zz fun E hE => ?_
  have hl : (doX xs n i j q).length = n * n := updTo_len.trans hx
  have h1 := d_opsAdd n n i j (n * n) cx q xs us hx.symm hx hu hn hn hi hj hij g1 g2 hq
  have h2 := d_colSA n n i j (n * n) cx cx q (doX xs n i j q) hl.symm hl hn hn hi hj hij (g1.upd (fun _ _ => GB.add _ _) _) hq
  ((repeat' (first | refine stx ?_ | ((refine zqe (h1) ?_); rintro v Hout n1 ⟨rfl, rfl, rfl⟩) | ((refine zqe (h2) ?_); rintro v Hout n1 ⟨rfl, rfl, rfl⟩) | (refine stq ?_ ?_ <;> (intro hc; ((try simp at hc) <;> try contradiction))) | fail)) <;> try (exfalso; omega))
  all_goals exact fin_n rfl w_3 [] (.tup []) [(1, .own 3 cx (.ints (dcX (doX xs n i j q) n n i j q))), (2, .own 3 (n * n) (.ints (doX us n i j q)))] 3 ⟨rfl, rfl, rfl⟩ rfl ⟨trivial, ⟨rfl, rfl, trivial⟩, rfl⟩ rfl
set_option maxHeartbeats 4000000 in
theorem d_bothSS (n i j cx : Nat) (xs us : List Int) (o : OKs n n (xs, us)) (hn : n ≤ 24) (hi : i < n) (hj : j < n) (hij : i ≠ j) :
    Does Tryz.prog 152 [vM n n 1 (n * n) cx, vM n n 2 (n * n) (n * n), vO 0 i j 0] [(1, .own 3 cx (.ints xs)), (2, .own 3 (n * n) (.ints us))] 3 (BothS 3 cx (n * n) (turnM (swapTo (turnM (swapTo xs (i * n) (j * n) n) n n) (i * n) (j * n) n) n n) (swapTo us (i * n) (j * n) n)) := by
  refine Does.intro TT Tryz.func152 rfl (by kernel_rfl) Zz Zz fun E hE => ?_
  have hx : xs.length = n * n := o.1
  have hl : (swapTo xs (i * n) (j * n) n).length = n * n := swapTo_len.trans hx
  have h1 := d_opsSwap n n i j (n * n) cx xs us hx.symm o hn hn hi hj hij
  have h2 := d_colSW n n i j (n * n) cx cx (swapTo xs (i * n) (j * n) n) hl.symm hl hn hn hi hj hij (GBs.num (swapTo_num o.2.2.1))
  ((repeat' (first | refine stx ?_ | ((refine zqe (h1) ?_); rintro v Hout n1 ⟨rfl, rfl, rfl⟩) | ((refine zqe (h2) ?_); rintro v Hout n1 ⟨rfl, rfl, rfl⟩) | (refine stq ?_ ?_ <;> (intro hc; ((try simp at hc) <;> try contradiction))) | fail)) <;> try (exfalso; omega))
  all_goals exact fin_n rfl w_3 [] (.tup []) [(1, .own 3 cx (.ints (turnM (swapTo (turnM (swapTo xs (i * n) (j * n) n) n n) (i * n) (j * n) n) n n))), (2, .own 3 (n * n) (.ints (swapTo us (i * n) (j * n) n)))] 3 ⟨rfl, rfl, rfl⟩ rfl ⟨trivial, ⟨rfl, rfl, trivial⟩, rfl⟩ rfl
end Go.Proofs.YtekpamojojfplaaGreat
