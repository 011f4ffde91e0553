/-
  TEXTS OF THE PROOF, put together: bAccS, pSmith2.
-/
import Derived.Test.YtekpamojojfplaaGreatA18
import Derived.Test.YtekpamojojfplaaGreatA16
set_option linter.unusedVariables false
set_option linter.unusedSimpArgs false
namespace Go.Proofs.YtekpamojojfplaaGreat
open Go.RowKit
def AccS (tr t : TypeId) (o : Option (List (List RP) × List RP)) (k : Nat) (v : AV) (Hout : List (Nat × Blk)) (n1 : Nat) : Prop := match o with
  | none => ∃ l sq c1 c2, v = .tup [.one (.sl k 1 0 l.length c1), .one (.sl (k + 1) 2 0 sq.length c2), .one (.bool false)] ∧ Hout = [(k, .own tr c1 (.rows true true l)), (k + 1, .own t c2 (.i2 sq)), (k + 2, .tok t true l)] ∧ n1 = k + 3
  | some st => ∃ l c1 c2, psX l = st.1 ∧ v = .tup [.one (.sl k 1 0 l.length c1), .one (.sl (k + 1) 2 0 st.2.length c2), .one (.bool true)] ∧ Hout = [(k, .own tr c1 (.rows true true l)), (k + 1, .own t c2 (.i2 st.2)), (k + 2, .tok t true l)] ∧ n1 = k + 3
set_option maxRecDepth 100000 in
set_option maxHeartbeats 16000000 in
theorem d_accS (n : Nat) (xs : List Int) (ca m : Nat) (hm : m = xs.length) (hx : xs.length = n * n) (hn : n ≤ 24) : Does Tryz.prog 149 [vM n n 1 m ca] [(1, .ro (.ints xs))] 2 (AccS 124 129 (acTo xs n n) 2) := by
 subst hm
 refine Does.intro TT Tryz.func149 rfl (by kernel_rfl) Zz Zz fun E hE => ?_
 ((repeat' (first | refine stx ?_ | (refine stq ?_ ?_ <;> (intro hc; ((try simp at hc) <;> try contradiction))) | fail)) <;> try (exfalso; omega))
 ((first | refine awpL_ghost (Ghost.newTok 129 true) ?_ | refine awp_ghost (Ghost.newTok 129 true) ?_ | refine awpH_ghost (Ghost.newTok 129 true) ?_ | refine awpHop_ghost (Ghost.newTok 129 true) ?_); rintro _ _ ⟨rfl, rfl⟩)
 refine w_G hE (fun x : Nat × List Row × List RP × Nat × Nat => x.1 ≤ n ∧ acTo xs n x.1 = some (psX x.2.1, x.2.2.1)) (fun x => n - x.1)
  (fun x => [(1, .one (.ptr 2 3 0 0)), (5, .one (.sl 3 1 0 x.2.1.length x.2.2.2.1)), (6, .one (.sl 4 2 0 x.2.2.1.length x.2.2.2.2)), (7, vI x.1)])
  (fun x => [(1, .ro (.ints xs)), (2, .own 26 1 (.lit [.int n, .int n, .sl 1 1 0 xs.length ca])), (3, .own 124 x.2.2.2.1 (.rows true true x.2.1)), (4, .own 129 x.2.2.2.2 (.i2 x.2.2.1)), (5, .tok 129 true x.2.1)]) 6 [] (0, [], [], 0, 0) ⟨Nat.zero_le _, rfl⟩ ⟨w_1, w_2, rfl⟩ ?_
 rintro ⟨i, l, sq, c1, c2⟩ ⟨hi, hac⟩
 dsimp only at hi hac
 obtain ⟨len1, len2, len3⟩ := acTo_len hac
 dsimp only at len1 len2 len3
 have hn2 : xs.length ≤ 576 := by rw [hx]; exact Nat.mul_le_mul hn hn
 have hpl : ∀ p, p < i → (l.getD p rowD).ps = (psX l).getD p [] ∧ (l.getD p rowD).ps.length = p := fun p hp => by
  have e : (l.getD p rowD).ps = (psX l).getD p [] := by
   have : p < l.length := by rw [psX, List.length_map] at len1; omega
   rw [getD_in this, getD_in (by rw [psX, List.length_map]; exact this)]; simp [psX]
  exact ⟨e, by rw [e]; exact len3 p hp⟩
 have hll : l.length = i := by rw [psX, List.length_map] at len1; exact len1
 by_cases hin : i < n
 ·have hin2 : ¬ n ≤ i := by omega
  ((repeat' (first | refine stx ?_ | (refine stq ?_ ?_ <;> (intro hc; ((try simp at hc) <;> try contradiction))) | fail)) <;> try (exfalso; omega))
  refine w_G hE (fun x : Nat × List RP × List RP × Nat × Nat => x.1 ≤ i + 1 ∧ (x.1 ≤ i → acRow xs n i (psX l) sq x.1 = some x.2.1 ∧ x.2.2.1 = sq) ∧ (x.1 = i + 1 → acRow xs n i (psX l) sq i = some x.2.1 ∧ acTo xs n (i + 1) = some (psX l ++ [x.2.1], x.2.2.1))) (fun x => i + 1 - x.1)
   (fun x => [(1, .one (.ptr 2 3 0 0)), (5, .one (.sl 3 1 0 l.length c1)), (7, vI i), (6, .one (.sl 4 2 0 x.2.2.1.length x.2.2.2.2)), (8, .one (.sl 6 2 0 x.2.1.length x.2.2.2.1)), (9, vI x.1)])
   (fun x => [(1, .ro (.ints xs)), (2, .own 26 1 (.lit [.int n, .int n, .sl 1 1 0 xs.length ca])), (3, .own 124 c1 (.rows true true l)), (5, .tok 129 true l), (4, .own 129 x.2.2.2.2 (.i2 x.2.2.1)), (6, .own 129 x.2.2.2.1 (.i2 x.2.1))]) 7 [] (0, [], sq, 0, c2) ⟨Nat.zero_le _, fun _ => ⟨rfl, rfl⟩, fun h => by omega⟩ ⟨w_1, w_2, rfl⟩ ?_
  rintro ⟨j, row, sqq, cr, cs⟩ ⟨hj, hj1, hj2⟩
  dsimp only at hj hj1 hj2
  by_cases hji : j ≤ i
  ·have hji2 : ¬ i < j := by omega
   obtain ⟨hrow, rfl⟩ := hj1 hji
   have hrl := acRow_len hrow
   have eij : (i : Int) * n = ((i * n : Nat) : Int) := by simp
   have hrin : i * n + n ≤ xs.length := by
    rw [hx]
    have := Nat.mul_le_mul_right n (show i + 1 ≤ n by omega)
    rw [Nat.add_mul, Nat.one_mul] at this; exact this
   have hat := fun ca => d_cell12 n n (i : Int) j xs xs.length ca rfl (by rw [eij]; omega) (by omega) (by rw [eij]; omega) (by omega)
   rw [show (0 + ((i : Int) * n + j).toNat) = i * n + j by rw [eij]; omega] at hat
   obtain ⟨x0, hx0⟩ : ∃ x0, x0 = xs.getD (i * n + j) 0 := ⟨_, rfl⟩
   rw [← hx0] at hat
   obtain ⟨oth, ho⟩ : ∃ oth, oth = if j = i then row else (psX l).getD j [] := ⟨_, rfl⟩
   ((repeat' (first | refine stx ?_ | (first | refine w_z (hat _) Zz Zz Zz Zz Zz Zz Zz Zz ft Zz Zz ?_ | refine w_A (hat _) Zz Zz Zz Zz Zz Zz Zz Zz ft Zz Zz ?_) | (refine stq ?_ ?_ <;> (intro hc; ((try simp at hc) <;> try contradiction))) | fail)) <;> try (exfalso; omega))
   refine w_G hE (fun k : Nat => k ≤ j) (fun k => j - k)
    (fun k => [(1, .one (.ptr 2 3 0 0)), (5, .one (.sl 3 1 0 l.length c1)), (7, vI i), (6, .one (.sl 4 2 0 sqq.length cs)), (8, .one (.sl 6 2 0 row.length cr)), (9, vI j), (10, .one (.ptr 7 2 0 0)), (11, vI k)])
    (fun k => [(1, .ro (.ints xs)), (2, .own 26 1 (.lit [.int n, .int n, .sl 1 1 0 xs.length ca])), (3, .own 124 c1 (.rows true true l)), (5, .tok 129 true l), (4, .own 129 cs (.i2 sqq)), (6, .own 129 cr (.i2 row)), (7, .own 129 1 (.lit [.int (acR x0 row oth sqq k).1, .int (acR x0 row oth sqq k).2]))]) 8 [] 0 (Nat.zero_le _) ⟨w_1, w_2, rfl⟩ ?_
   intro k hk
   by_cases hkj : k < j
   ·have hkj2 : ¬ j ≤ k := by omega
    have e0 : 0 + (k : Int).toNat = k := by omega
    by_cases hii : j = i
    ·rw [if_pos hii] at ho
     have hii2 : ¬ j < i := by omega
     have hii3 : i ≤ j := by omega
     ((repeat' (first | refine stp ?_ | (refine stq ?_ ?_ <;> (intro hc; ((try simp at hc) <;> try contradiction))) | fail)) <;> try (exfalso; omega))
     refine awp_held TM [(6, _), (8, _), (4, _)] sb rfl (fun ρs => ?_)
     refine zt1 ?_
     refine zt2 ?_
     refine zt3 ?_
     refine zt4 ?_
     refine zt5 ?_
     refine zt7 ?_
     refine zt8 ?_
     refine zt9 ?_
     refine zt10 ?_
     refine w_u [0, 6] kr rfl ⟨?_, ?_, trivial⟩
     first | (refine zho ?_) | refine w_B _ (d_mulRS _ _ _ _) Zz Zz Zz Zz Zz Zz Zz Zz Zz ft Zz Zz sb rfl ?_ | refine w_B _ (d_negRS _ _) Zz Zz Zz Zz Zz Zz Zz Zz Zz ft Zz Zz sb rfl ?_ | refine w_B _ (d_addRS _ _ _ _) Zz Zz Zz Zz Zz Zz Zz Zz Zz ft Zz Zz sb rfl ?_
     refine w_u [6] kr rfl ⟨?_, trivial⟩
     first | (refine zho ?_) | refine w_B _ (d_mulRS _ _ _ _) Zz Zz Zz Zz Zz Zz Zz Zz Zz ft Zz Zz sb rfl ?_ | refine w_B _ (d_negRS _ _) Zz Zz Zz Zz Zz Zz Zz Zz Zz ft Zz Zz sb rfl ?_ | refine w_B _ (d_addRS _ _ _ _) Zz Zz Zz Zz Zz Zz Zz Zz Zz ft Zz Zz sb rfl ?_
     refine w_u [11] kr rfl ⟨?_, trivial⟩
     first | (refine zho ?_) | refine w_B _ (d_mulRS _ _ _ _) Zz Zz Zz Zz Zz Zz Zz Zz Zz ft Zz Zz sb rfl ?_ | refine w_B _ (d_negRS _ _) Zz Zz Zz Zz Zz Zz Zz Zz Zz ft Zz Zz sb rfl ?_ | refine w_B _ (d_addRS _ _ _ _) Zz Zz Zz Zz Zz Zz Zz Zz Zz ft Zz Zz sb rfl ?_
     refine w_u [12] kr rfl ⟨?_, trivial⟩
     first | (refine zho ?_) | refine w_B _ (d_mulRS _ _ _ _) Zz Zz Zz Zz Zz Zz Zz Zz Zz ft Zz Zz sb rfl ?_ | refine w_B _ (d_negRS _ _) Zz Zz Zz Zz Zz Zz Zz Zz Zz ft Zz Zz sb rfl ?_ | refine w_B _ (d_addRS _ _ _ _) Zz Zz Zz Zz Zz Zz Zz Zz Zz ft Zz Zz sb rfl ?_
     refine w_u [13] kr rfl ⟨?_, trivial⟩
     first | (refine zho ?_) | refine w_B _ (d_mulRS _ _ _ _) Zz Zz Zz Zz Zz Zz Zz Zz Zz ft Zz Zz sb rfl ?_ | refine w_B _ (d_negRS _ _) Zz Zz Zz Zz Zz Zz Zz Zz Zz ft Zz Zz sb rfl ?_ | refine w_B _ (d_addRS _ _ _ _) Zz Zz Zz Zz Zz Zz Zz Zz Zz ft Zz Zz sb rfl ?_
     refine w_u [14] kr rfl ⟨?_, trivial⟩
     first | (refine zho ?_) | refine w_B _ (d_mulRS _ _ _ _) Zz Zz Zz Zz Zz Zz Zz Zz Zz ft Zz Zz sb rfl ?_ | refine w_B _ (d_negRS _ _) Zz Zz Zz Zz Zz Zz Zz Zz Zz ft Zz Zz sb rfl ?_ | refine w_B _ (d_addRS _ _ _ _) Zz Zz Zz Zz Zz Zz Zz Zz Zz ft Zz Zz sb rfl ?_
     refine w_v kr ?_
     rotate_left
     first | (refine zho ?_) | refine w_B _ (d_mulRS _ _ _ _) Zz Zz Zz Zz Zz Zz Zz Zz Zz ft Zz Zz sb rfl ?_ | refine w_B _ (d_negRS _ _) Zz Zz Zz Zz Zz Zz Zz Zz Zz ft Zz Zz sb rfl ?_ | refine w_B _ (d_addRS _ _ _ _) Zz Zz Zz Zz Zz Zz Zz Zz Zz ft Zz Zz sb rfl ?_
     refine w_u [0, 11] kr rfl ⟨?_, ?_, trivial⟩
     first | (refine zho ?_) | refine w_B _ (d_mulRS _ _ _ _) Zz Zz Zz Zz Zz Zz Zz Zz Zz ft Zz Zz sb rfl ?_ | refine w_B _ (d_negRS _ _) Zz Zz Zz Zz Zz Zz Zz Zz Zz ft Zz Zz sb rfl ?_ | refine w_B _ (d_addRS _ _ _ _) Zz Zz Zz Zz Zz Zz Zz Zz Zz ft Zz Zz sb rfl ?_
     refine w_u [11] kr rfl ⟨?_, trivial⟩
     first | (refine zho ?_) | refine w_B _ (d_mulRS _ _ _ _) Zz Zz Zz Zz Zz Zz Zz Zz Zz ft Zz Zz sb rfl ?_ | refine w_B _ (d_negRS _ _) Zz Zz Zz Zz Zz Zz Zz Zz Zz ft Zz Zz sb rfl ?_ | refine w_B _ (d_addRS _ _ _ _) Zz Zz Zz Zz Zz Zz Zz Zz Zz ft Zz Zz sb rfl ?_
     refine w_u [12] kr rfl ⟨?_, trivial⟩
     first | (refine zho ?_) | refine w_B _ (d_mulRS _ _ _ _) Zz Zz Zz Zz Zz Zz Zz Zz Zz ft Zz Zz sb rfl ?_ | refine w_B _ (d_negRS _ _) Zz Zz Zz Zz Zz Zz Zz Zz Zz ft Zz Zz sb rfl ?_ | refine w_B _ (d_addRS _ _ _ _) Zz Zz Zz Zz Zz Zz Zz Zz Zz ft Zz Zz sb rfl ?_
     refine w_u [13] kr rfl ⟨?_, trivial⟩
     first | (refine zho ?_) | refine w_B _ (d_mulRS _ _ _ _) Zz Zz Zz Zz Zz Zz Zz Zz Zz ft Zz Zz sb rfl ?_ | refine w_B _ (d_negRS _ _) Zz Zz Zz Zz Zz Zz Zz Zz Zz ft Zz Zz sb rfl ?_ | refine w_B _ (d_addRS _ _ _ _) Zz Zz Zz Zz Zz Zz Zz Zz Zz ft Zz Zz sb rfl ?_
     refine w_u [14] kr rfl ⟨?_, trivial⟩
     first | (refine zho ?_) | refine w_B _ (d_mulRS _ _ _ _) Zz Zz Zz Zz Zz Zz Zz Zz Zz ft Zz Zz sb rfl ?_ | refine w_B _ (d_negRS _ _) Zz Zz Zz Zz Zz Zz Zz Zz Zz ft Zz Zz sb rfl ?_ | refine w_B _ (d_addRS _ _ _ _) Zz Zz Zz Zz Zz Zz Zz Zz Zz ft Zz Zz sb rfl ?_
     refine w_v kr ?_
     rotate_left
     first | (refine zho ?_) | refine w_B _ (d_mulRS _ _ _ _) Zz Zz Zz Zz Zz Zz Zz Zz Zz ft Zz Zz sb rfl ?_ | refine w_B _ (d_negRS _ _) Zz Zz Zz Zz Zz Zz Zz Zz Zz ft Zz Zz sb rfl ?_ | refine w_B _ (d_addRS _ _ _ _) Zz Zz Zz Zz Zz Zz Zz Zz Zz ft Zz Zz sb rfl ?_
     refine w_u [0, 12] kr rfl ⟨?_, ?_, trivial⟩
     first | (refine zho ?_) | refine w_B _ (d_mulRS _ _ _ _) Zz Zz Zz Zz Zz Zz Zz Zz Zz ft Zz Zz sb rfl ?_ | refine w_B _ (d_negRS _ _) Zz Zz Zz Zz Zz Zz Zz Zz Zz ft Zz Zz sb rfl ?_ | refine w_B _ (d_addRS _ _ _ _) Zz Zz Zz Zz Zz Zz Zz Zz Zz ft Zz Zz sb rfl ?_
     refine w_u [12] kr rfl ⟨?_, trivial⟩
     first | (refine zho ?_) | refine w_B _ (d_mulRS _ _ _ _) Zz Zz Zz Zz Zz Zz Zz Zz Zz ft Zz Zz sb rfl ?_ | refine w_B _ (d_negRS _ _) Zz Zz Zz Zz Zz Zz Zz Zz Zz ft Zz Zz sb rfl ?_ | refine w_B _ (d_addRS _ _ _ _) Zz Zz Zz Zz Zz Zz Zz Zz Zz ft Zz Zz sb rfl ?_
     refine w_u [13] kr rfl ⟨?_, trivial⟩
     first | (refine zho ?_) | refine w_B _ (d_mulRS _ _ _ _) Zz Zz Zz Zz Zz Zz Zz Zz Zz ft Zz Zz sb rfl ?_ | refine w_B _ (d_negRS _ _) Zz Zz Zz Zz Zz Zz Zz Zz Zz ft Zz Zz sb rfl ?_ | refine w_B _ (d_addRS _ _ _ _) Zz Zz Zz Zz Zz Zz Zz Zz Zz ft Zz Zz sb rfl ?_
     refine w_u [14] kr rfl ⟨?_, trivial⟩
     first | (refine zho ?_) | refine w_B _ (d_mulRS _ _ _ _) Zz Zz Zz Zz Zz Zz Zz Zz Zz ft Zz Zz sb rfl ?_ | refine w_B _ (d_negRS _ _) Zz Zz Zz Zz Zz Zz Zz Zz Zz ft Zz Zz sb rfl ?_ | refine w_B _ (d_addRS _ _ _ _) Zz Zz Zz Zz Zz Zz Zz Zz Zz ft Zz Zz sb rfl ?_
     refine w_v kr ?_
     rotate_left
     first | (refine zho ?_) | refine w_B _ (d_mulRS _ _ _ _) Zz Zz Zz Zz Zz Zz Zz Zz Zz ft Zz Zz sb rfl ?_ | refine w_B _ (d_negRS _ _) Zz Zz Zz Zz Zz Zz Zz Zz Zz ft Zz Zz sb rfl ?_ | refine w_B _ (d_addRS _ _ _ _) Zz Zz Zz Zz Zz Zz Zz Zz Zz ft Zz Zz sb rfl ?_
     refine w_u [0] kr rfl ⟨?_, trivial⟩
     first | (refine zho ?_) | refine w_B _ (d_mulRS _ _ _ _) Zz Zz Zz Zz Zz Zz Zz Zz Zz ft Zz Zz sb rfl ?_ | refine w_B _ (d_negRS _ _) Zz Zz Zz Zz Zz Zz Zz Zz Zz ft Zz Zz sb rfl ?_ | refine w_B _ (d_addRS _ _ _ _) Zz Zz Zz Zz Zz Zz Zz Zz Zz ft Zz Zz sb rfl ?_
     refine w_u [13] kr rfl ⟨?_, trivial⟩
     first | (refine zho ?_) | refine w_B _ (d_mulRS _ _ _ _) Zz Zz Zz Zz Zz Zz Zz Zz Zz ft Zz Zz sb rfl ?_ | refine w_B _ (d_negRS _ _) Zz Zz Zz Zz Zz Zz Zz Zz Zz ft Zz Zz sb rfl ?_ | refine w_B _ (d_addRS _ _ _ _) Zz Zz Zz Zz Zz Zz Zz Zz Zz ft Zz Zz sb rfl ?_
     refine w_u [14] kr rfl ⟨?_, trivial⟩
     first | (refine zho ?_) | refine w_B _ (d_mulRS _ _ _ _) Zz Zz Zz Zz Zz Zz Zz Zz Zz ft Zz Zz sb rfl ?_ | refine w_B _ (d_negRS _ _) Zz Zz Zz Zz Zz Zz Zz Zz Zz ft Zz Zz sb rfl ?_ | refine w_B _ (d_addRS _ _ _ _) Zz Zz Zz Zz Zz Zz Zz Zz Zz ft Zz Zz sb rfl ?_
     refine w_v kr ?_
     rotate_left
     all_goals ((repeat' (first | refine stx ?_ | (refine stq ?_ ?_ <;> (intro hc; ((try simp at hc) <;> try contradiction))) | fail)) <;> try (exfalso; omega))
     all_goals exact ⟨[], k + 1, hkj, w_4, ⟨w_1, ⟨rfl, rfl, rfl, rfl, rfl, rfl, congrArg (fun p : RP => some (Blk.own 129 1 (.lit [.int p.1, .int p.2]))) (by rw [e0, ho]; rfl), trivial⟩, rfl⟩⟩
    ·rw [if_neg hii] at ho
     have hji3 : ¬ i ≤ j := by omega
     have hji4 : j < i := by omega
     have hjl : j < l.length := by omega
     have hps := hpl j (by omega)
     have ex : (l.getD (0 + (j : Int).toNat) rowD).ps = oth := by rw [show 0 + (j : Int).toNat = j by omega, ho]; exact hps.1
     have exl : (l.getD (0 + (j : Int).toNat) rowD).ps.length = j := by rw [show 0 + (j : Int).toNat = j by omega]; exact hps.2
     have exn : (l[j]?.getD rowD).ps.length = j := by rw [← List.getD_eq_getElem?_getD]; exact hps.2
     ((repeat' (first | refine stp ?_ | (refine stq ?_ ?_ <;> (intro hc; ((try simp at hc) <;> try contradiction))) | fail)) <;> try (exfalso; omega))
     refine awp_held TM [(6, _), (8, _), (4, _)] sb rfl (fun ρs => ?_)
     refine zt1 ?_
     refine zt2 ?_
     refine zt3 ?_
     refine zt4 ?_
     refine zt5 ?_
     refine zt7 ?_
     refine zt8 ?_
     refine zt9 ?_
     refine zt10 ?_
     refine w_u [0, 6] kr rfl ⟨?_, ?_, trivial⟩
     first | (refine zho ?_) | refine w_B _ (d_mulRS _ _ _ _) Zz Zz Zz Zz Zz Zz Zz Zz Zz ft Zz Zz sb rfl ?_ | refine w_B _ (d_negRS _ _) Zz Zz Zz Zz Zz Zz Zz Zz Zz ft Zz Zz sb rfl ?_ | refine w_B _ (d_addRS _ _ _ _) Zz Zz Zz Zz Zz Zz Zz Zz Zz ft Zz Zz sb rfl ?_
     refine w_u [6] kr rfl ⟨?_, trivial⟩
     first | (refine zho ?_) | refine w_B _ (d_mulRS _ _ _ _) Zz Zz Zz Zz Zz Zz Zz Zz Zz ft Zz Zz sb rfl ?_ | refine w_B _ (d_negRS _ _) Zz Zz Zz Zz Zz Zz Zz Zz Zz ft Zz Zz sb rfl ?_ | refine w_B _ (d_addRS _ _ _ _) Zz Zz Zz Zz Zz Zz Zz Zz Zz ft Zz Zz sb rfl ?_
     refine w_u [11] kr rfl ⟨?_, trivial⟩
     first | (refine zho ?_) | refine w_B _ (d_mulRS _ _ _ _) Zz Zz Zz Zz Zz Zz Zz Zz Zz ft Zz Zz sb rfl ?_ | refine w_B _ (d_negRS _ _) Zz Zz Zz Zz Zz Zz Zz Zz Zz ft Zz Zz sb rfl ?_ | refine w_B _ (d_addRS _ _ _ _) Zz Zz Zz Zz Zz Zz Zz Zz Zz ft Zz Zz sb rfl ?_
     refine w_u [12] kr rfl ⟨?_, trivial⟩
     first | (refine zho ?_) | refine w_B _ (d_mulRS _ _ _ _) Zz Zz Zz Zz Zz Zz Zz Zz Zz ft Zz Zz sb rfl ?_ | refine w_B _ (d_negRS _ _) Zz Zz Zz Zz Zz Zz Zz Zz Zz ft Zz Zz sb rfl ?_ | refine w_B _ (d_addRS _ _ _ _) Zz Zz Zz Zz Zz Zz Zz Zz Zz ft Zz Zz sb rfl ?_
     refine w_u [13] kr rfl ⟨?_, trivial⟩
     first | (refine zho ?_) | refine w_B _ (d_mulRS _ _ _ _) Zz Zz Zz Zz Zz Zz Zz Zz Zz ft Zz Zz sb rfl ?_ | refine w_B _ (d_negRS _ _) Zz Zz Zz Zz Zz Zz Zz Zz Zz ft Zz Zz sb rfl ?_ | refine w_B _ (d_addRS _ _ _ _) Zz Zz Zz Zz Zz Zz Zz Zz Zz ft Zz Zz sb rfl ?_
     refine w_u [14] kr rfl ⟨?_, trivial⟩
     first | (refine zho ?_) | refine w_B _ (d_mulRS _ _ _ _) Zz Zz Zz Zz Zz Zz Zz Zz Zz ft Zz Zz sb rfl ?_ | refine w_B _ (d_negRS _ _) Zz Zz Zz Zz Zz Zz Zz Zz Zz ft Zz Zz sb rfl ?_ | refine w_B _ (d_addRS _ _ _ _) Zz Zz Zz Zz Zz Zz Zz Zz Zz ft Zz Zz sb rfl ?_
     refine w_v kr ?_
     rotate_left
     first | (refine zho ?_) | refine w_B _ (d_mulRS _ _ _ _) Zz Zz Zz Zz Zz Zz Zz Zz Zz ft Zz Zz sb rfl ?_ | refine w_B _ (d_negRS _ _) Zz Zz Zz Zz Zz Zz Zz Zz Zz ft Zz Zz sb rfl ?_ | refine w_B _ (d_addRS _ _ _ _) Zz Zz Zz Zz Zz Zz Zz Zz Zz ft Zz Zz sb rfl ?_
     refine w_u [0, 11] kr rfl ⟨?_, ?_, trivial⟩
     first | (refine zho ?_) | refine w_B _ (d_mulRS _ _ _ _) Zz Zz Zz Zz Zz Zz Zz Zz Zz ft Zz Zz sb rfl ?_ | refine w_B _ (d_negRS _ _) Zz Zz Zz Zz Zz Zz Zz Zz Zz ft Zz Zz sb rfl ?_ | refine w_B _ (d_addRS _ _ _ _) Zz Zz Zz Zz Zz Zz Zz Zz Zz ft Zz Zz sb rfl ?_
     refine w_u [11] kr rfl ⟨?_, trivial⟩
     first | (refine zho ?_) | refine w_B _ (d_mulRS _ _ _ _) Zz Zz Zz Zz Zz Zz Zz Zz Zz ft Zz Zz sb rfl ?_ | refine w_B _ (d_negRS _ _) Zz Zz Zz Zz Zz Zz Zz Zz Zz ft Zz Zz sb rfl ?_ | refine w_B _ (d_addRS _ _ _ _) Zz Zz Zz Zz Zz Zz Zz Zz Zz ft Zz Zz sb rfl ?_
     refine w_u [12] kr rfl ⟨?_, trivial⟩
     first | (refine zho ?_) | refine w_B _ (d_mulRS _ _ _ _) Zz Zz Zz Zz Zz Zz Zz Zz Zz ft Zz Zz sb rfl ?_ | refine w_B _ (d_negRS _ _) Zz Zz Zz Zz Zz Zz Zz Zz Zz ft Zz Zz sb rfl ?_ | refine w_B _ (d_addRS _ _ _ _) Zz Zz Zz Zz Zz Zz Zz Zz Zz ft Zz Zz sb rfl ?_
     refine w_u [13] kr rfl ⟨?_, trivial⟩
     first | (refine zho ?_) | refine w_B _ (d_mulRS _ _ _ _) Zz Zz Zz Zz Zz Zz Zz Zz Zz ft Zz Zz sb rfl ?_ | refine w_B _ (d_negRS _ _) Zz Zz Zz Zz Zz Zz Zz Zz Zz ft Zz Zz sb rfl ?_ | refine w_B _ (d_addRS _ _ _ _) Zz Zz Zz Zz Zz Zz Zz Zz Zz ft Zz Zz sb rfl ?_
     refine w_u [14] kr rfl ⟨?_, trivial⟩
     first | (refine zho ?_) | refine w_B _ (d_mulRS _ _ _ _) Zz Zz Zz Zz Zz Zz Zz Zz Zz ft Zz Zz sb rfl ?_ | refine w_B _ (d_negRS _ _) Zz Zz Zz Zz Zz Zz Zz Zz Zz ft Zz Zz sb rfl ?_ | refine w_B _ (d_addRS _ _ _ _) Zz Zz Zz Zz Zz Zz Zz Zz Zz ft Zz Zz sb rfl ?_
     refine w_v kr ?_
     rotate_left
     first | (refine zho ?_) | refine w_B _ (d_mulRS _ _ _ _) Zz Zz Zz Zz Zz Zz Zz Zz Zz ft Zz Zz sb rfl ?_ | refine w_B _ (d_negRS _ _) Zz Zz Zz Zz Zz Zz Zz Zz Zz ft Zz Zz sb rfl ?_ | refine w_B _ (d_addRS _ _ _ _) Zz Zz Zz Zz Zz Zz Zz Zz Zz ft Zz Zz sb rfl ?_
     refine w_u [0, 12] kr rfl ⟨?_, ?_, trivial⟩
     first | (refine zho ?_) | refine w_B _ (d_mulRS _ _ _ _) Zz Zz Zz Zz Zz Zz Zz Zz Zz ft Zz Zz sb rfl ?_ | refine w_B _ (d_negRS _ _) Zz Zz Zz Zz Zz Zz Zz Zz Zz ft Zz Zz sb rfl ?_ | refine w_B _ (d_addRS _ _ _ _) Zz Zz Zz Zz Zz Zz Zz Zz Zz ft Zz Zz sb rfl ?_
     refine w_u [12] kr rfl ⟨?_, trivial⟩
     first | (refine zho ?_) | refine w_B _ (d_mulRS _ _ _ _) Zz Zz Zz Zz Zz Zz Zz Zz Zz ft Zz Zz sb rfl ?_ | refine w_B _ (d_negRS _ _) Zz Zz Zz Zz Zz Zz Zz Zz Zz ft Zz Zz sb rfl ?_ | refine w_B _ (d_addRS _ _ _ _) Zz Zz Zz Zz Zz Zz Zz Zz Zz ft Zz Zz sb rfl ?_
     refine w_u [13] kr rfl ⟨?_, trivial⟩
     first | (refine zho ?_) | refine w_B _ (d_mulRS _ _ _ _) Zz Zz Zz Zz Zz Zz Zz Zz Zz ft Zz Zz sb rfl ?_ | refine w_B _ (d_negRS _ _) Zz Zz Zz Zz Zz Zz Zz Zz Zz ft Zz Zz sb rfl ?_ | refine w_B _ (d_addRS _ _ _ _) Zz Zz Zz Zz Zz Zz Zz Zz Zz ft Zz Zz sb rfl ?_
     refine w_u [14] kr rfl ⟨?_, trivial⟩
     first | (refine zho ?_) | refine w_B _ (d_mulRS _ _ _ _) Zz Zz Zz Zz Zz Zz Zz Zz Zz ft Zz Zz sb rfl ?_ | refine w_B _ (d_negRS _ _) Zz Zz Zz Zz Zz Zz Zz Zz Zz ft Zz Zz sb rfl ?_ | refine w_B _ (d_addRS _ _ _ _) Zz Zz Zz Zz Zz Zz Zz Zz Zz ft Zz Zz sb rfl ?_
     refine w_v kr ?_
     rotate_left
     first | (refine zho ?_) | refine w_B _ (d_mulRS _ _ _ _) Zz Zz Zz Zz Zz Zz Zz Zz Zz ft Zz Zz sb rfl ?_ | refine w_B _ (d_negRS _ _) Zz Zz Zz Zz Zz Zz Zz Zz Zz ft Zz Zz sb rfl ?_ | refine w_B _ (d_addRS _ _ _ _) Zz Zz Zz Zz Zz Zz Zz Zz Zz ft Zz Zz sb rfl ?_
     refine w_u [0] kr rfl ⟨?_, trivial⟩
     first | (refine zho ?_) | refine w_B _ (d_mulRS _ _ _ _) Zz Zz Zz Zz Zz Zz Zz Zz Zz ft Zz Zz sb rfl ?_ | refine w_B _ (d_negRS _ _) Zz Zz Zz Zz Zz Zz Zz Zz Zz ft Zz Zz sb rfl ?_ | refine w_B _ (d_addRS _ _ _ _) Zz Zz Zz Zz Zz Zz Zz Zz Zz ft Zz Zz sb rfl ?_
     refine w_u [13] kr rfl ⟨?_, trivial⟩
     first | (refine zho ?_) | refine w_B _ (d_mulRS _ _ _ _) Zz Zz Zz Zz Zz Zz Zz Zz Zz ft Zz Zz sb rfl ?_ | refine w_B _ (d_negRS _ _) Zz Zz Zz Zz Zz Zz Zz Zz Zz ft Zz Zz sb rfl ?_ | refine w_B _ (d_addRS _ _ _ _) Zz Zz Zz Zz Zz Zz Zz Zz Zz ft Zz Zz sb rfl ?_
     refine w_u [14] kr rfl ⟨?_, trivial⟩
     first | (refine zho ?_) | refine w_B _ (d_mulRS _ _ _ _) Zz Zz Zz Zz Zz Zz Zz Zz Zz ft Zz Zz sb rfl ?_ | refine w_B _ (d_negRS _ _) Zz Zz Zz Zz Zz Zz Zz Zz Zz ft Zz Zz sb rfl ?_ | refine w_B _ (d_addRS _ _ _ _) Zz Zz Zz Zz Zz Zz Zz Zz Zz ft Zz Zz sb rfl ?_
     refine w_v kr ?_
     rotate_left
     all_goals ((repeat' (first | refine stx ?_ | (refine stq ?_ ?_ <;> (intro hc; ((try simp at hc) <;> try contradiction))) | fail)) <;> try (exfalso; omega))
     all_goals exact ⟨[], k + 1, hkj, w_4, ⟨w_1, ⟨rfl, rfl, rfl, rfl, rfl, rfl, congrArg (fun p : RP => some (Blk.own 129 1 (.lit [.int p.1, .int p.2]))) (by rw [e0, ex]; rfl), trivial⟩, rfl⟩⟩
   ·obtain rfl : k = j := by omega
    cases hr : ratP (acR x0 row oth sqq k) with
    | false =>
     have hno : acTo xs n n = none := by
      have h1 : acTo xs n (i + 1) = none := by
       rw [acTo, hac, Option.bind_some]
       rcases Nat.lt_or_ge k i with c | c
       ·have h2 : acRow xs n i (psX l) sqq (k + 1) = none := by
         rw [if_neg (by omega)] at ho
         rw [acRow, hrow, Option.bind_some, ← hx0, ← ho, hr]; rfl
        have h3 := acRow_none h2 (i - (k + 1))
        rw [show k + 1 + (i - (k + 1)) = i by omega] at h3
        rw [h3]; rfl
       ·obtain rfl : k = i := by omega
        rw [if_pos rfl] at ho
        rw [hrow, Option.bind_some, ← hx0]
        rw [ho] at hr
        rw [hr]; rfl
      have := acTo_none h1 (n - (i + 1))
      rwa [show i + 1 + (n - (i + 1)) = n by omega] at this
     have hrt := d_ratioS (acR x0 row oth sqq k).1 (acR x0 row oth sqq k).2
     rw [show ratioB (acR x0 row oth sqq k).1 (acR x0 row oth sqq k).2 = false from hr] at hrt
     rw [hno]
     ((repeat' (first | refine stx ?_ | (first | refine w_z (hrt) Zz Zz Zz Zz Zz Zz Zz Zz ft Zz Zz ?_ | refine w_A (hrt) Zz Zz Zz Zz Zz Zz Zz Zz ft Zz Zz ?_) | (refine stq ?_ ?_ <;> (intro hc; ((try simp at hc) <;> try contradiction))) | fail)) <;> try (exfalso; omega))
     exact fin rfl w_3 [(2, 3), (3, 4), (4, 5)] (.tup [.one (.sl 2 1 0 l.length c1), .one (.sl 3 2 0 sqq.length cs), .one (.bool false)]) [(2, .own 124 c1 (.rows true true l)), (3, .own 129 cs (.i2 sqq)), (4, .tok 129 true l)] 5 ⟨l, sqq, c1, cs, rfl, rfl, rfl⟩ rfl ⟨trivial, ⟨rfl, rfl, rfl, trivial⟩, rfl⟩ rfl
    | true =>
     have hrt := d_ratioS (acR x0 row oth sqq k).1 (acR x0 row oth sqq k).2
     rw [show ratioB (acR x0 row oth sqq k).1 (acR x0 row oth sqq k).2 = true from hr] at hrt
     rcases Nat.lt_or_ge k i with c | c
     ·have e0 : 0 + (k : Int).toNat = k := by omega
      have hki : ¬ k = i := by omega
      rw [if_neg (by omega)] at ho
      have hnx : acRow xs n i (psX l) sqq (k + 1) = some (row ++ [divP (acR x0 row oth sqq k) (sqq.getD k (0, 0))]) := by
       rw [acRow, hrow, Option.bind_some, ← hx0, ← ho, hr]; rfl
      ((repeat' (first | refine stp ?_ | (first | refine w_z (hrt) Zz Zz Zz Zz Zz Zz Zz Zz ft Zz Zz ?_ | refine w_A (hrt) Zz Zz Zz Zz Zz Zz Zz Zz ft Zz Zz ?_) | (refine stq ?_ ?_ <;> (intro hc; ((try simp at hc) <;> try contradiction))) | fail)) <;> try (exfalso; omega))
      refine awp_held TM [(7, _), (4, _)] sb rfl (fun ρs => ?_)
      refine zt0 ?_
      refine zt1 ?_
      refine zt2 ?_
      refine zt3 ?_
      refine zt4 ?_
      refine zt5 ?_
      refine w_u [6] kr rfl ⟨?_, trivial⟩
      first | (refine zho ?_) | refine w_B _ (d_divRS _ _ _ _) Zz Zz Zz Zz Zz Zz Zz Zz Zz ft Zz Zz sb rfl ?_ | (refine w_y TT _ Zz Zz Zz Zz Zz Zz sd sb Zz Zz ?_; intro cap hcap)
      refine w_u [7] kr rfl ⟨?_, trivial⟩
      first | (refine zho ?_) | refine w_B _ (d_divRS _ _ _ _) Zz Zz Zz Zz Zz Zz Zz Zz Zz ft Zz Zz sb rfl ?_ | (refine w_y TT _ Zz Zz Zz Zz Zz Zz sd sb Zz Zz ?_; intro cap hcap)
      refine w_u [8] kr rfl ⟨?_, trivial⟩
      first | (refine zho ?_) | refine w_B _ (d_divRS _ _ _ _) Zz Zz Zz Zz Zz Zz Zz Zz Zz ft Zz Zz sb rfl ?_ | (refine w_y TT _ Zz Zz Zz Zz Zz Zz sd sb Zz Zz ?_; intro cap hcap)
      refine zt9 ?_
      refine w_v kr ?_
      rotate_left
      all_goals ((repeat' (first | refine stx ?_ | (refine stq ?_ ?_ <;> (intro hc; ((try simp at hc) <;> try contradiction))) | fail)) <;> try (exfalso; omega))
      all_goals exact ⟨[(6, 9)], (k + 1, row ++ [divP (acR x0 row oth sqq k) (sqq.getD k (0, 0))], sqq, cap, cs), ⟨by dsimp only; omega, fun _ => ⟨hnx, rfl⟩, fun h => by dsimp only at h; omega⟩, w_4, ⟨w_1, ⟨rfl, rfl, rfl, rfl, rfl, own_i2A (by rw [e0]; rfl), trivial⟩, rfl⟩⟩
     ·obtain rfl : k = i := by omega
      rw [if_pos rfl] at ho
      by_cases hp : 0 < (acR x0 row oth sqq k).1
      ·have hnx : acTo xs n (k + 1) = some (psX l ++ [row], sqq ++ [acR x0 row oth sqq k]) := by
        rw [acTo, hac, Option.bind_some, hrow, Option.bind_some, ← hx0]
        rw [ho] at hr hp
        rw [hr, decide_eq_true hp, ho]; rfl
       have hpn : ¬ (acR x0 row oth sqq k).1 ≤ 0 := by omega
       ((repeat' (first | refine stx ?_ | (first | refine w_z (hrt) Zz Zz Zz Zz Zz Zz Zz Zz ft Zz Zz ?_ | refine w_A (hrt) Zz Zz Zz Zz Zz Zz Zz Zz ft Zz Zz ?_) | (refine w_x TT Zz Zz Zz Zz Zz sd ?_; intro cap hcap) | (refine stq ?_ ?_ <;> (intro hc; ((try simp at hc) <;> try contradiction))) | fail)) <;> try (exfalso; omega))
       exact ⟨[(4, 9)], (k + 1, row, sqq ++ [acR x0 row oth sqq k], cr, cap), ⟨Nat.le_refl _, fun h => by dsimp only at h; omega, fun _ => ⟨hrow, hnx⟩⟩, w_4, ⟨w_1, ⟨rfl, rfl, rfl, rfl, rfl, rfl, trivial⟩, rfl⟩⟩
      ·have hno : acTo xs n n = none := by
        have h1 : acTo xs n (k + 1) = none := by
         rw [acTo, hac, Option.bind_some, hrow, Option.bind_some, ← hx0]
         rw [ho] at hp
         rw [decide_eq_false hp, Bool.and_false]; rfl
        have := acTo_none h1 (n - (k + 1))
        rwa [show k + 1 + (n - (k + 1)) = n by omega] at this
       have hpn : (acR x0 row oth sqq k).1 ≤ 0 := by omega
       rw [hno]
       ((repeat' (first | refine stx ?_ | (first | refine w_z (hrt) Zz Zz Zz Zz Zz Zz Zz Zz ft Zz Zz ?_ | refine w_A (hrt) Zz Zz Zz Zz Zz Zz Zz Zz ft Zz Zz ?_) | (refine stq ?_ ?_ <;> (intro hc; ((try simp at hc) <;> try contradiction))) | fail)) <;> try (exfalso; omega))
       exact fin rfl w_3 [(2, 3), (3, 4), (4, 5)] (.tup [.one (.sl 2 1 0 l.length c1), .one (.sl 3 2 0 sqq.length cs), .one (.bool false)]) [(2, .own 124 c1 (.rows true true l)), (3, .own 129 cs (.i2 sqq)), (4, .tok 129 true l)] 5 ⟨l, sqq, c1, cs, rfl, rfl, rfl⟩ rfl ⟨trivial, ⟨rfl, rfl, rfl, trivial⟩, rfl⟩ rfl
  ·obtain rfl : j = i + 1 := by omega
   obtain ⟨hrow, hnx⟩ := hj2 rfl
   have hjn : ¬ ((i + 1 : Nat) : Int) ≤ i := by omega
   have hjn2 : i < i + 1 := by omega
   ((first | refine awpL_ghost (Ghost.freezeP 6 5 Zz Zz) ?_ | refine awp_ghost (Ghost.freezeP 6 5 Zz Zz) ?_ | refine awpH_ghost (Ghost.freezeP 6 5 Zz Zz) ?_ | refine awpHop_ghost (Ghost.freezeP 6 5 Zz Zz) ?_); rintro _ _ ⟨ar, rfl, rfl⟩)
   ((repeat' (first | refine stx ?_ | (refine w_x TT Zz Zz Zz Zz Zz sd ?_; intro cap hcap) | (refine stq ?_ ?_ <;> (intro hc; ((try simp at hc) <;> try contradiction))) | fail)) <;> try (exfalso; omega))
   exact ⟨[(3, 8)], (i + 1, l ++ [⟨ar, cr, [], row⟩], sqq, cap, cs), ⟨hin, by rw [hnx, psX, psX, List.map_append]; rfl⟩, w_4, ⟨w_1, ⟨rfl, rfl, rfl, rfl, rfl, trivial⟩, rfl⟩⟩
 ·obtain rfl : i = n := by omega
  rw [hac]
  ((repeat' (first | refine stx ?_ | (refine stq ?_ ?_ <;> (intro hc; ((try simp at hc) <;> try contradiction))) | fail)) <;> try (exfalso; omega))
  exact fin rfl w_3 [(2, 3), (3, 4), (4, 5)] (.tup [.one (.sl 2 1 0 l.length c1), .one (.sl 3 2 0 sq.length c2), .one (.bool true)]) [(2, .own 124 c1 (.rows true true l)), (3, .own 129 c2 (.i2 sq)), (4, .tok 129 true l)] 5 ⟨l, c1, c2, rfl, rfl, rfl, rfl⟩ rfl ⟨trivial, ⟨rfl, rfl, rfl, trivial⟩, rfl⟩ rfl
end Go.Proofs.YtekpamojojfplaaGreat
namespace Go.Proofs.YtekpamojojfplaaGreat
theorem gb_zero : GB 0 := .inl ⟨by decide, by decide⟩
theorem turnM_gb {xs : List Int} {r c : Nat} (h : GBs xs) : GBs (turnM xs r c) := fun p => by
  unfold turnM
  rw [List.getD_eq_getElem?_getD, List.getElem?_map]
  cases he : (List.range (c * r))[p]? with
  | none => exact gb_zero
  | some k => exact h _
theorem turnM_bad {xs : List Int} {r c : Nat} (hl : xs.length = r * c) (h : hasB xs) : hasB (turnM xs r c) := by
  obtain ⟨p, hp⟩ := h
  have hlt : p < r * c := by
    rcases Nat.lt_or_ge p xs.length with e | e
    · omega
    · rw [List.getD_eq_getElem?_getD, List.getElem?_eq_none e] at hp; cases hp
  have hc : 0 < c := by
    rcases Nat.eq_zero_or_pos c with h0 | h0
    · rw [h0, Nat.mul_zero] at hlt; omega
    · exact h0
  have e : p / c * c + p % c = p := Nat.div_add_mod' p c
  refine ⟨p % c * r + p / c, ?_⟩
  rw [trX_at ((Nat.div_lt_iff_lt_mul hc).2 hlt) (Nat.mod_lt _ hc), e, hp]
def dcX (xs : List Int) (r c i j : Nat) (q : Int) : List Int := turnM (doX (turnM xs r c) r i j q) c r
theorem dcX_len {xs : List Int} {r c i j : Nat} {q : Int} : (dcX xs r c i j q).length = r * c := turnM_len
theorem dcX_gb {xs : List Int} {r c i j : Nat} {q : Int} (h : GBs xs) : GBs (dcX xs r c i j q) := turnM_gb ((turnM_gb h).upd (fun _ _ => GB.add _ _) _)
theorem dcX_keep {xs : List Int} {r c i j : Nat} {q : Int} (hl : xs.length = r * c) (hi : i < c) (h : hasB xs) : hasB (dcX xs r c i j q) :=
  turnM_bad (updTo_len.trans turnM_len) (doX_keep turnM_len hi (turnM_bad hl h))
structure Sp3 (r c : Nat) (o : Option S3) (s : S3) : Prop where
  x : s.1.length = r * c
  u : s.2.1.length = r * r
  v : s.2.2.length = c * c
  gx : GBs s.1
  gu : GBs s.2.1
  gv : GBs s.2.2
  m : match o with
    | some y => s = y ∧ OK3 r c s
    | none => hasB s.1 ∨ hasB s.2.1 ∨ hasB s.2.2
theorem Sp3.of {r c : Nat} {s : S3} (h : OK3 r c s) : Sp3 r c (some s) s := ⟨h.x, h.u, h.v, GBs.num h.nx, GBs.num h.nu, GBs.num h.nv, rfl, h⟩
theorem Sp3.ok {r c : Nat} {o : Option S3} {s : S3} (h : Sp3 r c o s) (hb : ¬ (hasB s.1 ∨ hasB s.2.1 ∨ hasB s.2.2)) : o = some s ∧ OK3 r c s := by
  have h5 := h.m
  cases o with
  | none => exact absurd h5 hb
  | some x => exact ⟨congrArg some h5.1.symm, h5.2⟩
theorem Sp3.bad {r c : Nat} {o : Option S3} {s : S3} (h : Sp3 r c o s) (hb : hasB s.1 ∨ hasB s.2.1 ∨ hasB s.2.2) : o = none := by
  have h5 := h.m
  cases o with
  | none => rfl
  | some x => rcases hb with b | b | b
              · exact absurd b (num_hasB h5.2.nx)
              · exact absurd b (num_hasB h5.2.nu)
              · exact absurd b (num_hasB h5.2.nv)
theorem Sp3.row {r c i j : Nat} {q : Int} {o : Option S3} {s : S3} (h : Sp3 r c o s) (hi : i < r) (hq : q ≠ badN) : Sp3 r c (o.bind (row3 r c i j q)) (doX s.1 c i j q, doX s.2.1 r i j q, s.2.2) := by
  refine ⟨updTo_len.trans h.x, updTo_len.trans h.u, h.v, h.gx.upd (fun _ _ => GB.add _ _) _, h.gu.upd (fun _ _ => GB.add _ _) _, h.gv, ?_⟩
  have hm := h.m
  cases o with
  | none =>
    rcases hm with b | b | b
    · exact .inl (doX_keep h.x hi b)
    · exact .inr (.inl (doX_keep h.u hi b))
    · exact .inr (.inr b)
  | some y =>
    obtain ⟨rfl, o3⟩ := hm
    have hS := (SpS.of o3.row).add (j := j) hi hq
    rw [Option.bind_some] at hS
    generalize ho : addS c r i j q (s.1, s.2.1) = oo at hS
    rw [Option.bind_some, row3]
    have ho' : addS c r i j q (s.1, s.2.1) = oo := ho
    rw [ho']
    obtain ⟨-, -, -, -, hm2⟩ := hS
    cases oo with
    | none =>
      rcases hm2 with b | b
      · exact .inl b
      · exact .inr (.inl b)
    | some y =>
      obtain ⟨he, n1, n2⟩ := hm2
      rw [Option.map_some]
      have e1 := congrArg Prod.fst he
      have e2 := congrArg Prod.snd he
      dsimp only at e1 e2 n1 n2
      refine ⟨by rw [← e1, ← e2], ⟨updTo_len.trans h.x, updTo_len.trans h.u, h.v, n1, n2, o3.nv⟩⟩
theorem Sp3.col {r c i j : Nat} {q : Int} {o : Option S3} {s : S3} (h : Sp3 r c o s) (hi : i < c) (hq : q ≠ badN) : Sp3 r c (o.bind (col3 r c i j q)) (dcX s.1 r c i j q, s.2.1, dcX s.2.2 c c i j q) := by
  refine ⟨dcX_len, h.u, dcX_len, dcX_gb h.gx, h.gu, dcX_gb h.gv, ?_⟩
  have hm := h.m
  cases o with
  | none =>
    rcases hm with b | b | b
    · exact .inl (dcX_keep h.x hi b)
    · exact .inr (.inl b)
    · exact .inr (.inr (dcX_keep h.v hi b))
  | some y =>
    obtain ⟨rfl, o3⟩ := hm
    rw [Option.bind_some, col3]
    by_cases hc : colOK r c i j q s
    · rw [if_pos hc]
      have e1 : dcX s.1 r c i j q = turnM (addX (turnM s.1 r c) r i j q) c r := by rw [dcX, doX_ok (trX_num o3.nx) hq hc.1]
      have e2 : dcX s.2.2 c c i j q = turnM (addX (turnM s.2.2 c c) c i j q) c c := by rw [dcX, doX_ok (trX_num o3.nv) hq hc.2]
      rw [e1, e2]
      exact ⟨rfl, ⟨turnM_len, o3.u, turnM_len, trX_num (addX_num (trX_num o3.nx) hc.1), o3.nu, trX_num (addX_num (trX_num o3.nv) hc.2)⟩⟩
    · rw [if_neg hc]
      by_cases k1 : addOK (turnM s.1 r c) r i j q r = true
      · have k2 : ¬ addOK (turnM s.2.2 c c) c i j q c = true := fun h2 => hc ⟨k1, h2⟩
        exact .inr (.inr (turnM_bad (updTo_len.trans turnM_len) (doX_bad turnM_len hi (trX_num o3.nv) hq k2)))
      · exact .inl (turnM_bad (updTo_len.trans turnM_len) (doX_bad turnM_len hi (trX_num o3.nx) hq k1))
theorem Sp3.rAt {r c t n : Nat} {s0 s : S3} {p : Int} (h0 : OK3 r c s0) (ht : t < c) (hp : s0.1.getD (t * c + t) 0 = p) (hp0 : p ≠ 0) (hn : t + 1 + n < r) (h : Sp3 r c (rTo r c t s0 n) s) :
    (s.1.getD ((t + 1 + n) * c + t) 0 = 0 → Sp3 r c (rTo r c t s0 (n + 1)) s) ∧ (s.1.getD ((t + 1 + n) * c + t) 0 ≠ 0 → Sp3 r c (rTo r c t s0 (n + 1)) (doX s.1 c (t + 1 + n) t (-dfQ (s.1.getD ((t + 1 + n) * c + t) 0) p), doX s.2.1 r (t + 1 + n) t (-dfQ (s.1.getD ((t + 1 + n) * c + t) 0) p), s.2.2)) := by
  cases ho : rTo r c t s0 n with
  | none =>
    rw [ho] at h
    have e : rTo r c t s0 (n + 1) = none := by rw [rTo, ho]; rfl
    rw [e]
    exact ⟨fun _ => h, fun _ => Sp3.row (o := none) h hn (dfQ_ne _ _).2⟩
  | some x =>
    obtain ⟨-, hc, -, -⟩ := rTo_cells h0 ht (by omega) ho
    have e : rTo r c t s0 (n + 1) = Go.Proofs.YtekpamojojfplaaGreat.rAt r c t (t + 1 + n) x := by rw [rTo, ho]; rfl
    rw [ho] at h
    have hm := h.m
    obtain ⟨rfl, o3⟩ := hm
    rw [e]
    refine ⟨fun hk => ?_, fun hk => ?_⟩
    · rw [Go.Proofs.YtekpamojojfplaaGreat.rAt, if_neg (fun h => h hk)]
      exact h
    · rw [Go.Proofs.YtekpamojojfplaaGreat.rAt, if_pos hk]
      have hpp : s.1.getD (t * c + t) 0 = p := (hc t ht).trans hp
      have eq : dfQ (s.1.getD ((t + 1 + n) * c + t) 0) p = s.1.getD ((t + 1 + n) * c + t) 0 / s.1.getD (t * c + t) 0 := by
        rw [hpp]
        exact if_pos ⟨num_at o3.nx _, by rw [← hpp]; exact num_at o3.nx _, hp0⟩
      have := Sp3.row (o := some s) (i := t + 1 + n) (j := t) (q := -dfQ (s.1.getD ((t + 1 + n) * c + t) 0) p) h hn (dfQ_ne _ _).2
      rw [Option.bind_some] at this
      rw [← eq]
      exact this
theorem Sp3.cAt {r c t n : Nat} {s0 s : S3} {p : Int} (h0 : OK3 r c s0) (htr : t < r) (ht : t < c) (hp : s0.1.getD (t * c + t) 0 = p) (hp0 : p ≠ 0) (hn : t + 1 + n < c) (h : Sp3 r c ((rTo r c t s0 (r - (t + 1))).bind fun x => cTo r c t x n) s) :
    (s.1.getD (t * c + (t + 1 + n)) 0 = 0 ∨ s.1.getD (t * c + (t + 1 + n)) 0 = badN → Sp3 r c ((rTo r c t s0 (r - (t + 1))).bind fun x => cTo r c t x (n + 1)) s) ∧ (s.1.getD (t * c + (t + 1 + n)) 0 ≠ 0 → Sp3 r c ((rTo r c t s0 (r - (t + 1))).bind fun x => cTo r c t x (n + 1)) (dcX s.1 r c (t + 1 + n) t (-dfQ (s.1.getD (t * c + (t + 1 + n)) 0) p), s.2.1, dcX s.2.2 c c (t + 1 + n) t (-dfQ (s.1.getD (t * c + (t + 1 + n)) 0) p))) := by
  cases ho : rTo r c t s0 (r - (t + 1)) with
  | none =>
    rw [ho] at h
    exact ⟨fun _ => h, fun _ => Sp3.col (o := none) h hn (dfQ_ne _ _).2⟩
  | some y =>
    rw [ho, Option.bind_some] at h
    rw [Option.bind_some]
    obtain ⟨oy, hc, -, -⟩ := rTo_cells h0 ht (by omega) ho
    cases hx : cTo r c t y n with
    | none =>
      rw [hx] at h
      have e : cTo r c t y (n + 1) = none := by rw [cTo, hx]; rfl
      rw [e]
      exact ⟨fun _ => h, fun _ => Sp3.col (o := none) h hn (dfQ_ne _ _).2⟩
    | some x =>
      obtain ⟨-, hd, -, -⟩ := cTo_cells oy ht htr (by omega) hx
      have e : cTo r c t y (n + 1) = Go.Proofs.YtekpamojojfplaaGreat.cAt r c t (t + 1 + n) x := by rw [cTo, hx]; rfl
      rw [hx] at h
      have hm := h.m
      obtain ⟨rfl, o3⟩ := hm
      rw [e]
      refine ⟨fun hk => ?_, fun hk => ?_⟩
      · have hk0 : s.1.getD (t * c + (t + 1 + n)) 0 = 0 := hk.resolve_right (num_ne (num_at o3.nx _))
        rw [Go.Proofs.YtekpamojojfplaaGreat.cAt, if_neg (fun h => h hk0)]
        exact h
      · rw [Go.Proofs.YtekpamojojfplaaGreat.cAt, if_pos hk]
        have hpp : s.1.getD (t * c + t) 0 = p := (hd t htr).trans ((hc t ht).trans hp)
        have eq : dfQ (s.1.getD (t * c + (t + 1 + n)) 0) p = s.1.getD (t * c + (t + 1 + n)) 0 / s.1.getD (t * c + t) 0 := by
          rw [hpp]
          exact if_pos ⟨num_at o3.nx _, by rw [← hpp]; exact num_at o3.nx _, hp0⟩
        have := Sp3.col (o := some s) (i := t + 1 + n) (j := t) (q := -dfQ (s.1.getD (t * c + (t + 1 + n)) 0) p) h hn (dfQ_ne _ _).2
        rw [Option.bind_some] at this
        rw [← eq]
        exact this
def cupTo (xs : List Int) (c i : Nat) (F : Nat → Int → Int) : Nat → List Int
  | 0 => xs
  | k + 1 => (cupTo xs c i F k).set (k * c + i) (F k (xs.getD (k * c + i) 0))
theorem cupTo_len {xs : List Int} {c i : Nat} {F : Nat → Int → Int} : ∀ {k : Nat}, (cupTo xs c i F k).length = xs.length
  | 0 => rfl
  | k + 1 => by rw [cupTo, List.length_set, cupTo_len]
theorem cell_ne {c k k' i l : Nat} (hi : i < c) (hl : l < c) (h : ¬ (k = k' ∧ i = l)) : k * c + i ≠ k' * c + l := fun e => by
  have h1 : (k * c + i) % c = (k' * c + l) % c := by rw [e]
  rw [Nat.add_comm, Nat.add_mul_mod_self_right, Nat.mod_eq_of_lt hi, Nat.add_comm, Nat.add_mul_mod_self_right, Nat.mod_eq_of_lt hl] at h1
  subst h1
  have h2 : k * c = k' * c := by omega
  exact h ⟨Nat.eq_of_mul_eq_mul_right (by omega) h2, rfl⟩
theorem cupTo_cell {xs : List Int} {r c i k l : Nat} {F : Nat → Int → Int} (hx : xs.length = r * c) (hi : i < c) (hl : l < c) (hk : k < r) : ∀ {n : Nat}, n ≤ r → (cupTo xs c i F n).getD (k * c + l) 0 = if l = i ∧ k < n then F k (xs.getD (k * c + i) 0) else xs.getD (k * c + l) 0
  | 0, _ => by rw [if_neg (by omega)]; rfl
  | n + 1, hn => by
    rw [cupTo, getD_set, cupTo_len, cupTo_cell hx hi hl hk (by omega)]
    have hlt : n * c + i < xs.length := by rw [hx]; exact cell_in (by omega) hi
    by_cases h : k = n ∧ l = i
    · obtain ⟨rfl, rfl⟩ := h
      rw [if_pos ⟨rfl, hlt⟩, if_pos ⟨rfl, by omega⟩]
    · rw [if_neg (fun h2 => cell_ne hl hi h h2.1)]
      by_cases h3 : l = i ∧ k < n
      · rw [if_pos h3, if_pos ⟨h3.1, by omega⟩]
      · rw [if_neg h3, if_neg (fun h4 => h ⟨by omega, h4.1⟩)]
def dcF (xs : List Int) (c j : Nat) (q : Int) (k : Nat) (v : Int) : Int := addV v (mulV (xs.getD (k * c + j) 0) q)
theorem cup_dcX {xs : List Int} {r c i j : Nat} {q : Int} (hx : xs.length = r * c) (hi : i < c) (hj : j < c) : cupTo xs c i (dcF xs c j q) r = dcX xs r c i j q := by
  refine cells_ext (cupTo_len.trans hx) dcX_len fun k l hk hl => ?_
  rw [cupTo_cell hx hi hl hk (Nat.le_refl _), dcX, trX_at hl hk]
  by_cases h : l = i
  · subst h
    rw [if_pos ⟨rfl, hk⟩, doX_at turnM_len hi hk, doF, dcF, trX_at hk hi, trX_at hk hj]
  · rw [if_neg (fun h2 => h h2.1), doX, updTo_at (by have := row_apart (c := r) h; omega), trX_at hk hl]
def cswTo (xs : List Int) (c i j : Nat) : Nat → List Int
  | 0 => xs
  | k + 1 => ((cswTo xs c i j k).set (k * c + i) (xs.getD (k * c + j) 0)).set (k * c + j) (xs.getD (k * c + i) 0)
theorem cswTo_len {xs : List Int} {c i j : Nat} : ∀ {k : Nat}, (cswTo xs c i j k).length = xs.length
  | 0 => rfl
  | k + 1 => by rw [cswTo, List.length_set, List.length_set, cswTo_len]
theorem cswTo_cell {xs : List Int} {r c i j k l : Nat} (hx : xs.length = r * c) (hi : i < c) (hj : j < c) (hij : i ≠ j) (hl : l < c) (hk : k < r) : ∀ {n : Nat}, n ≤ r → (cswTo xs c i j n).getD (k * c + l) 0 = if l = i ∧ k < n then xs.getD (k * c + j) 0 else if l = j ∧ k < n then xs.getD (k * c + i) 0 else xs.getD (k * c + l) 0
  | 0, _ => by rw [if_neg (by omega), if_neg (by omega)]; rfl
  | n + 1, hn => by
    rw [cswTo, getD_set, List.length_set, getD_set, cswTo_len, cswTo_cell hx hi hj hij hl hk (by omega)]
    have h1 : n * c + i < xs.length := by rw [hx]; exact cell_in (by omega) hi
    have h2 : n * c + j < xs.length := by rw [hx]; exact cell_in (by omega) hj
    by_cases hkn : k = n
    · subst hkn
      by_cases e1 : l = j
      · subst e1
        rw [if_pos ⟨rfl, h2⟩, if_neg (fun h => hij h.1.symm), if_pos ⟨rfl, by omega⟩]
      · rw [if_neg (fun h => cell_ne hl hj (fun h3 => e1 h3.2) h.1)]
        by_cases e2 : l = i
        · subst e2
          rw [if_pos ⟨rfl, h1⟩, if_pos ⟨rfl, by omega⟩]
        · rw [if_neg (fun h => cell_ne hl hi (fun h3 => e2 h3.2) h.1), if_neg (fun h => e2 h.1), if_neg (fun h => e1 h.1), if_neg (fun h => e2 h.1), if_neg (fun h => e1 h.1)]
    · rw [if_neg (fun h => cell_ne hl hj (fun h3 => hkn h3.1) h.1), if_neg (fun h => cell_ne hl hi (fun h3 => hkn h3.1) h.1)]
      have : (k < n + 1) ↔ (k < n) := by omega
      simp only [this]
theorem csw_swC {xs : List Int} {r c i j : Nat} (hx : xs.length = r * c) (hi : i < c) (hj : j < c) (hij : i ≠ j) : cswTo xs c i j r = turnM (swapTo (turnM xs r c) (i * r) (j * r) r) c r := by
  refine cells_ext (cswTo_len.trans hx) turnM_len fun k l hk hl => ?_
  rw [cswTo_cell hx hi hj hij hl hk (Nat.le_refl _), trX_at hl hk, swap_cell turnM_len hi hj hij hk]
  by_cases e1 : l = i
  · rw [if_pos ⟨e1, hk⟩, if_pos e1, trX_at hk hj]
  · rw [if_neg (fun h => e1 h.1), if_neg e1]
    by_cases e2 : l = j
    · rw [if_pos ⟨e2, hk⟩, if_pos e2, trX_at hk hi]
    · rw [if_neg (fun h => e2 h.1), if_neg e2, trX_at hk hl]
end Go.Proofs.YtekpamojojfplaaGreat
