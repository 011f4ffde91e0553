/-
  TEXTS OF THE PROOF, put together: bFirst, bDef, bDef2, Am12.
-/
import Derived.Test.YtekpamojojfplaaGreatB27
import Derived.Test.YtekpamojojfplaaGreatB25
import Derived.Test.YtekpamojojfplaaGreatB26
import Derived.Test.YtekpamojojfplaaGreatB12
import Derived.Test.YtekpamojojfplaaGreatB06
set_option linter.unusedVariables false
set_option linter.unusedSimpArgs false
namespace Go.Proofs.YtekpamojojfplaaGreat
open Go.RowKit
def prF (xs : List Int) (c k i j : Nat) : List Int := ldR xs c k i ++ (xs.drop (i * c)).take j
theorem prF_zero {xs : List Int} {c k i : Nat} : prF xs c k i 0 = ldR xs c k i := by simp [prF]
theorem prF_row {xs : List Int} {c k i : Nat} : prF xs c k i k = ldR xs c k (i + 1) := by rw [ldR_next]; rfl
theorem prF_next {xs : List Int} {r c k i j : Nat} (hx : xs.length = r * c) (hi : i < r) (hj : j < c) : prF xs c k i (j + 1) = prF xs c k i j ++ [xs.getD (i * c + j) 0] := by
  have h1 := row_in (c := c) hi
  have h2 : j < (xs.drop (i * c)).length := by rw [List.length_drop]; omega
  have e : xs.getD (i * c + j) 0 = (xs.drop (i * c))[j] := by rw [List.getElem_drop, getD_in (by omega)]
  rw [prF, prF, List.take_succ_eq_append_getElem h2, ← e, List.append_assoc]
theorem prF_len {xs : List Int} {r c k i j : Nat} (hx : xs.length = r * c) (hi : i < r) (hk : k ≤ c) (hj : j ≤ k) : (prF xs c k i j).length = i * k + j := by
  have h1 := row_in (c := c) hi
  rw [prF, List.length_append, ldR_len hk (by omega), List.length_take, List.length_drop]; omega
set_option maxRecDepth 100000 in
set_option maxHeartbeats 4000000 in
theorem d_partF (r c k : Nat) (xs : List Int) (ca cp cq n m1 m2 : Nat) (hn : n = xs.length) (hm1 : m1 = k) (hm2 : m2 = k) (hx : xs.length = r * c) (hr : r ≤ 24) (hc24 : c ≤ 24) (hkr : k ≤ r) (hkc : k ≤ c) :
    Does Tryz.prog 147 [vM r c 1 n ca, vS 2 1 0 m1 cp, vS 3 1 0 m2 cq] [(1, .ro (.ints xs)), (2, .ro (.ints (natsI (List.range k)))), (3, .ro (.ints (natsI (List.range k))))] 4 (FromR k k 3 (ldR xs c k k) 4) := by
  subst hn hm1 hm2
  refine Does.intro TT Tryz.func147 rfl (by kernel_rfl) Zz Zz fun E hE => ?_
  ((repeat' (first | refine stx ?_ | (refine stq ?_ ?_ <;> (intro hc; ((try simp at hc) <;> try contradiction))) | fail)) <;> try (exfalso; omega))
  refine awp_nil (k := 6) (f := 2) (sz := 1) (et := 3) (e0 := .ints []) Zz Zz Zz Zz (fun _ h => by cases h) ?_
  refine w_G hE (fun i : Nat × Nat => i.1 ≤ m2 ∧ (ldR xs c m2 i.1).length ≤ i.2) (fun i => m2 - i.1)
    (fun i => [(1, vS 2 1 0 m2 cp), (2, vS 3 1 0 m2 cq), (3, .one (.ptr 4 3 0 0)), (6, .one (.ptr 5 3 0 0)), (7, .one (.ptr 6 3 0 0)), (8, vI i.1)])
    (fun i => [(1, .ro (.ints xs)), (2, .ro (.ints (natsI (List.range m2)))), (3, .ro (.ints (natsI (List.range m2)))), (4, .own 26 1 (.lit [.int r, .int c, .sl 1 1 0 xs.length ca])), (5, .own 26 1 (.lit zeroM)), (6, .own 26 1 (.lit [.int m2, .int m2, .sl 7 1 0 (ldR xs c m2 i.1).length i.2])), (7, .own 3 i.2 (.ints (ldR xs c m2 i.1)))]) 8 [] (0, 0) ⟨Nat.zero_le _, Nat.zero_le _⟩ ⟨w_1, w_2, rfl⟩ ?_
  rintro ⟨i, cap⟩ ⟨hi, hcap⟩
  dsimp only at hi hcap
  have hxs : xs.length ≤ 576 := by rw [hx]; exact Nat.mul_le_mul hr hc24
  by_cases hik : i < m2
  · have hik2 : ¬ m2 ≤ i := by omega
    ((repeat' (first | refine stx ?_ | (refine stq ?_ ?_ <;> (intro hc; ((try simp at hc) <;> try contradiction))) | fail)) <;> try (exfalso; omega))
    refine w_G hE (fun x : Nat × Nat => x.1 ≤ m2 ∧ (prF xs c m2 i x.1).length ≤ x.2) (fun x => m2 - x.1)
      (fun x => [(1, vS 2 1 0 m2 cp), (2, vS 3 1 0 m2 cq), (3, .one (.ptr 4 3 0 0)), (6, .one (.ptr 5 3 0 0)), (7, .one (.ptr 6 3 0 0)), (8, vI i), (9, vI x.1)])
      (fun x => [(1, .ro (.ints xs)), (2, .ro (.ints (natsI (List.range m2)))), (3, .ro (.ints (natsI (List.range m2)))), (4, .own 26 1 (.lit [.int r, .int c, .sl 1 1 0 xs.length ca])), (5, .own 26 1 (.lit zeroM)), (6, .own 26 1 (.lit [.int m2, .int m2, .sl 7 1 0 (prF xs c m2 i x.1).length x.2])), (7, .own 3 x.2 (.ints (prF xs c m2 i x.1)))]) 8 [] (0, cap) ⟨Nat.zero_le _, by dsimp only; rw [prF_zero]; exact hcap⟩ (by rw [prF_zero]; exact ⟨w_1, w_2, rfl⟩) ?_
    rintro ⟨j, cap2⟩ ⟨hj, hcap2⟩
    dsimp only at hj hcap2
    have hir : i < r := by omega
    have hin := row_in (c := c) hir
    have hpl := prF_len hx hir hkc hj
    have hpb : i * m2 + j ≤ 24 * 24 + 24 := by have := Nat.mul_le_mul (show i ≤ 24 by omega) (show m2 ≤ 24 by omega); omega
    by_cases hjk : j < m2
    · have hjk2 : ¬ m2 ≤ j := by omega
      have hln1 : (natsI (List.range m2)).length = m2 := by rw [natsI_len, List.length_range]
      have e1 : (natsI (List.range m2)).getD (0 + (i : Int).toNat) 0 = (i : Int) := by rw [show 0 + (i : Int).toNat = i by omega, natsI_getD, range_getD hik]
      have e2 : (natsI (List.range m2)).getD (0 + (j : Int).toNat) 0 = (j : Int) := by rw [show 0 + (j : Int).toNat = j by omega, natsI_getD, range_getD hjk]
      have e3 : (i : Int) * c = ((i * c : Nat) : Int) := by simp
      have hcell := fun h1 h3 => d_cell12 r c (i : Int) j xs xs.length ca rfl h1 (by omega) h3 (by omega)
      have hcell := hcell (by rw [e3]; omega) (by rw [e3]; omega)
      rw [← e1, ← e2] at hcell
      have hnx := prF_next (k := m2) (j := j) hx hir (by omega)
      have ev : xs.getD (0 + ((natsI (List.range m2)).getD (0 + (i : Int).toNat) 0 * c + (natsI (List.range m2)).getD (0 + (j : Int).toNat) 0).toNat) 0 = xs.getD (i * c + j) 0 := by
        rw [e1, e2, e3]; congr 1; omega
      rw [← ev] at hnx
      ((repeat' (first | refine stp ?_ | (refine stq ?_ ?_ <;> (intro hc; ((try simp at hc) <;> try contradiction))) | fail)) <;> try (exfalso; omega))
      refine awp_held TM [(1, _), (2, _), (3, _), (4, _)] sb rfl (fun ρs => ?_)
      refine zt2 ?_
      refine zt3 ?_
      refine zt4 ?_
      refine zt5 ?_
      refine zt6 ?_
      refine zt7 ?_
      refine zt8 ?_
      refine zt9 ?_
      refine zt10 ?_
      refine w_u [0, 11] kr rfl ⟨?_, ?_, trivial⟩
      first | (refine zho ?_) | (refine zqy ?_; intro cap hcap) | refine zqb (hcell) ?_
      refine w_u [1, 11] kr rfl ⟨?_, ?_, trivial⟩
      first | (refine zho ?_) | (refine zqy ?_; intro cap hcap) | refine zqb (hcell) ?_
      refine w_u [11] kr rfl ⟨?_, trivial⟩
      first | (refine zho ?_) | (refine zqy ?_; intro cap hcap) | refine zqb (hcell) ?_
      refine w_u [12] kr rfl ⟨?_, trivial⟩
      first | (refine zho ?_) | (refine zqy ?_; intro cap hcap) | refine zqb (hcell) ?_
      refine w_u [13] kr rfl ⟨?_, trivial⟩
      first | (refine zho ?_) | (refine zqy ?_; intro cap hcap) | refine zqb (hcell) ?_
      refine w_u [14] kr rfl ⟨?_, trivial⟩
      first | (refine zho ?_) | (refine zqy ?_; intro cap hcap) | refine zqb (hcell) ?_
      refine w_u [15] kr rfl ⟨?_, trivial⟩
      first | (refine zho ?_) | (refine zqy ?_; intro cap hcap) | refine zqb (hcell) ?_
      refine w_v kr ?_
      rotate_left
      first | (refine zho ?_) | (refine zqy ?_; intro cap hcap) | refine zqb (hcell) ?_
      refine w_u [1, 12] kr rfl ⟨?_, ?_, trivial⟩
      first | (refine zho ?_) | (refine zqy ?_; intro cap hcap) | refine zqb (hcell) ?_
      refine w_u [12] kr rfl ⟨?_, trivial⟩
      first | (refine zho ?_) | (refine zqy ?_; intro cap hcap) | refine zqb (hcell) ?_
      refine w_u [13] kr rfl ⟨?_, trivial⟩
      first | (refine zho ?_) | (refine zqy ?_; intro cap hcap) | refine zqb (hcell) ?_
      refine w_u [14] kr rfl ⟨?_, trivial⟩
      first | (refine zho ?_) | (refine zqy ?_; intro cap hcap) | refine zqb (hcell) ?_
      refine w_u [15] kr rfl ⟨?_, trivial⟩
      first | (refine zho ?_) | (refine zqy ?_; intro cap hcap) | refine zqb (hcell) ?_
      refine w_v kr ?_
      rotate_left
      first | (refine zho ?_) | (refine zqy ?_; intro cap hcap) | refine zqb (hcell) ?_
      refine w_u [1] kr rfl ⟨?_, trivial⟩
      first | (refine zho ?_) | (refine zqy ?_; intro cap hcap) | refine zqb (hcell) ?_
      refine w_u [13] kr rfl ⟨?_, trivial⟩
      first | (refine zho ?_) | (refine zqy ?_; intro cap hcap) | refine zqb (hcell) ?_
      refine w_u [14] kr rfl ⟨?_, trivial⟩
      first | (refine zho ?_) | (refine zqy ?_; intro cap hcap) | refine zqb (hcell) ?_
      refine w_u [15] kr rfl ⟨?_, trivial⟩
      first | (refine zho ?_) | (refine zqy ?_; intro cap hcap) | refine zqb (hcell) ?_
      refine w_v kr ?_
      rotate_left
      first | (refine zho ?_) | (refine zqy ?_; intro cap hcap) | refine zqb (hcell) ?_
      refine w_u [0, 12] kr rfl ⟨?_, ?_, trivial⟩
      first | (refine zho ?_) | (refine zqy ?_; intro cap hcap) | refine zqb (hcell) ?_
      refine w_u [1, 12] kr rfl ⟨?_, ?_, trivial⟩
      first | (refine zho ?_) | (refine zqy ?_; intro cap hcap) | refine zqb (hcell) ?_
      refine w_u [12] kr rfl ⟨?_, trivial⟩
      first | (refine zho ?_) | (refine zqy ?_; intro cap hcap) | refine zqb (hcell) ?_
      refine w_u [13] kr rfl ⟨?_, trivial⟩
      first | (refine zho ?_) | (refine zqy ?_; intro cap hcap) | refine zqb (hcell) ?_
      refine w_u [14] kr rfl ⟨?_, trivial⟩
      first | (refine zho ?_) | (refine zqy ?_; intro cap hcap) | refine zqb (hcell) ?_
      refine w_u [15] kr rfl ⟨?_, trivial⟩
      first | (refine zho ?_) | (refine zqy ?_; intro cap hcap) | refine zqb (hcell) ?_
      refine w_v kr ?_
      rotate_left
      first | (refine zho ?_) | (refine zqy ?_; intro cap hcap) | refine zqb (hcell) ?_
      refine w_u [1] kr rfl ⟨?_, trivial⟩
      first | (refine zho ?_) | (refine zqy ?_; intro cap hcap) | refine zqb (hcell) ?_
      refine w_u [13] kr rfl ⟨?_, trivial⟩
      first | (refine zho ?_) | (refine zqy ?_; intro cap hcap) | refine zqb (hcell) ?_
      refine w_u [14] kr rfl ⟨?_, trivial⟩
      first | (refine zho ?_) | (refine zqy ?_; intro cap hcap) | refine zqb (hcell) ?_
      refine w_u [15] kr rfl ⟨?_, trivial⟩
      first | (refine zho ?_) | (refine zqy ?_; intro cap hcap) | refine zqb (hcell) ?_
      refine w_v kr ?_
      rotate_left
      first | (refine zho ?_) | (refine zqy ?_; intro cap hcap) | refine zqb (hcell) ?_
      refine w_u [0] kr rfl ⟨?_, trivial⟩
      first | (refine zho ?_) | (refine zqy ?_; intro cap hcap) | refine zqb (hcell) ?_
      refine w_u [1] kr rfl ⟨?_, trivial⟩
      first | (refine zho ?_) | (refine zqy ?_; intro cap hcap) | refine zqb (hcell) ?_
      refine w_u [13] kr rfl ⟨?_, trivial⟩
      first | (refine zho ?_) | (refine zqy ?_; intro cap hcap) | refine zqb (hcell) ?_
      refine w_u [14] kr rfl ⟨?_, trivial⟩
      first | (refine zho ?_) | (refine zqy ?_; intro cap hcap) | refine zqb (hcell) ?_
      refine w_u [15] kr rfl ⟨?_, trivial⟩
      first | (refine zho ?_) | (refine zqy ?_; intro cap hcap) | refine zqb (hcell) ?_
      refine w_v kr ?_
      rotate_left
      all_goals ((repeat' (first | refine stx ?_ | (refine stq ?_ ?_ <;> (intro hc; ((try simp at hc) <;> try contradiction))) | fail)) <;> try (exfalso; omega))
      all_goals
        have el : (prF xs c m2 i j).length + 1 = (prF xs c m2 i (j + 1)).length := by rw [hnx]; simp
        exact ⟨[(7, 9)], (j + 1, cap), ⟨by dsimp only; omega, by dsimp only at hcap ⊢; omega⟩, w_4, ⟨w_1, ⟨rfl, rfl, rfl, rfl, rfl, own_litP rfl el, own_ints hnx.symm, trivial⟩, rfl⟩⟩
    · obtain rfl : j = m2 := by omega
      ((repeat' (first | refine stx ?_ | (refine stq ?_ ?_ <;> (intro hc; ((try simp at hc) <;> try contradiction))) | fail)) <;> try (exfalso; omega))
      have er := prF_row (xs := xs) (c := c) (k := j) (i := i)
      exact ⟨[], (i + 1, cap2), ⟨hik, by dsimp only; rw [← er]; exact hcap2⟩, w_4, by dsimp only; rw [← er]; exact ⟨w_1, w_2, rfl⟩⟩
  · obtain rfl : i = m2 := by omega
    ((repeat' (first | refine stx ?_ | (refine stq ?_ ?_ <;> (intro hc; ((try simp at hc) <;> try contradiction))) | fail)) <;> try (exfalso; omega))
    exact fin rfl w_3 [(4, 7)] (.agg [.int i, .int i, .sl 4 1 0 (ldR xs c i i).length cap]) [(4, .own 3 cap (.ints (ldR xs c i i)))] 5 ⟨cap, hcap, rfl, rfl, rfl⟩ rfl ⟨trivial, ⟨rfl, trivial⟩, rfl⟩ rfl
end Go.Proofs.YtekpamojojfplaaGreat
namespace Go.Proofs.YtekpamojojfplaaGreat
open Go.RowKit
def GotS (t : TypeId) (o : Option (List Int)) (k : Nat) (v : AV) (Hout : List (Nat × Blk)) (n1 : Nat) : Prop := ∃ cap, (o.getD []).length ≤ cap ∧ v = .tup [.one (.sl k 1 0 (o.getD []).length cap), .one (.bool o.isSome)] ∧ Hout = [(k, .own t cap (.ints (o.getD [])))] ∧ n1 = k + 1
theorem GotS.out {t : TypeId} {o : Option (List Int)} {k : Nat} : ∀ v Hout n1, GotS t o k v Hout n1 → ∃ b, Hout = [(k, b)] ∧ n1 = k + 1 ∧ b.keys = [] := fun _ _ _ ⟨_, _, _, h2, h3⟩ => ⟨_, h2, h3, by simp [Blk.keys, Elts.keys, Elts.all, ints_keys]⟩
theorem d_rowAtC (r c i n ca : Nat) (xs : List Int) (hn : n = xs.length) (hx : xs.length = r * c) (hca : xs.length ≤ ca) (hr : r ≤ 24) (hc24 : c ≤ 24) (hi : i < r) : Does Tryz.prog 135 [vM r c 1 n ca, vI i] [(1, .ro (.ints xs))] 2 (fun v Hout n1 => ∃ cp, c ≤ cp ∧ RowS (i * c) c cp v Hout n1) := by
 have h1 : i * c + c ≤ r * c := by
  have := Nat.mul_le_mul_right c (show i + 1 ≤ r by omega)
  rw [Nat.add_mul, Nat.one_mul] at this; exact this
 have h2 : i * c ≤ 576 := by have := Nat.mul_le_mul (show i ≤ 24 by omega) hc24; omega
 have e1 : (i : Int) * c = ((i * c : Nat) : Int) := by simp
 have e2 : ((i : Int) + 1) * c = ((i * c + c : Nat) : Int) := by rw [Int.add_mul, e1]; simp
 refine Does.intro TT Tryz.func135 rfl (by kernel_rfl) Zz Zz fun E hE => ?_
 ((repeat' (first | refine stx ?_ | (refine stq ?_ ?_ <;> (intro hc; ((try simp at hc) <;> try contradiction))) | fail)) <;> try (exfalso; omega))
 have hoff : slOff 0 ((i : Int) * c).toNat ca = i * c := by
  rw [mul_nat]
  unfold slOff
  split
  ·rename_i h0
   have : i * c = 0 ∨ 0 < c := by
    rcases Nat.eq_zero_or_pos c with q | q
    ·left; rw [q]; rfl
    ·exact .inr q
   omega
  ·omega
 have hlen : (((i : Int) + 1) * c).toNat - ((i : Int) * c).toNat = c := by rw [e2, e1]; omega
 refine fin rfl w_3 [] (vS 1 1 (i * c) c (ca - ((i : Int) * c).toNat)) [] 2 ⟨_, by rw [e1]; omega, rfl, rfl, rfl⟩ ?_ ⟨trivial, trivial, rfl⟩ rfl
 show AV.one (.sl 1 1 (slOff 0 ((i : Int) * c).toNat ca) ((((i : Int) + 1) * c).toNat - ((i : Int) * c).toNat) (ca - ((i : Int) * c).toNat)) = _
 rw [hoff, hlen]; rfl
set_option maxRecDepth 100000 in
set_option maxHeartbeats 8000000 in
theorem d_leadI (r c : Int) (xs : List Int) (ca : Nat) (hl : xs.length ≤ 1099511627776) (hca : xs.length ≤ ca) : Does Tryz.prog 90 [vM r c 1 xs.length ca] [(1, .ro (.ints xs))] 2 (GotS 3 (leadO r c xs) 2) := by
 refine Does.intro TT Tryz.func90 rfl (by kernel_rfl) Zz Zz fun E hE => ?_
 cases hs : sqB r c xs with
 | false =>
  rw [show leadO r c xs = none by rw [leadO, hs]; rfl]
  ((repeat' (first | refine stx ?_ | (refine zqc (d_sqI _ _ _ _ hl) ?_ <;> simp only [hs]) | (refine stq ?_ ?_ <;> (intro hc; ((try simp at hc) <;> try contradiction))) | fail)) <;> try (exfalso; omega))
  exact fin rfl w_3 [(2, 3)] (.tup [.one (.sl 2 1 0 0 0), .one (.bool false)]) [(2, .own 3 0 (.ints []))] 3 ⟨0, Nat.le_refl _, rfl, rfl, rfl⟩ rfl ⟨trivial, ⟨rfl, trivial⟩, rfl⟩ rfl
 | true =>
  obtain ⟨n, rfl, rfl, hn6, hx, hnum⟩ := sqB_dims hs
  have hO : leadO n n xs = leadTo xs n n := by rw [leadO, hs]; rfl
  have hx36 : xs.length ≤ 36 := by rw [hx]; exact Nat.mul_le_mul hn6 hn6
  rw [hO]
  ((repeat' (first | refine stx ?_ | (refine zqc (d_sqI _ _ _ _ hl) ?_ <;> simp only [hs]) | (refine stq ?_ ?_ <;> (intro hc; ((try simp at hc) <;> try contradiction))) | fail)) <;> try (exfalso; omega))
  refine w_G hE (fun x : Nat × List Int × Nat => x.1 ≤ n ∧ leadTo xs n x.1 = some x.2.1 ∧ x.2.1.length ≤ x.2.2) (fun x => n - x.1)
   (fun x => [(1, .one (.ptr 2 3 0 0)), (4, vS 3 1 0 x.2.1.length x.2.2), (5, vI ((x.1 : Int) + 1))])
   (fun x => [(1, .ro (.ints xs)), (2, .own 26 1 (.lit [.int n, .int n, .sl 1 1 0 xs.length ca])), (3, .own 3 x.2.2 (.ints x.2.1))]) 4 [] (0, [], 0) ⟨Nat.zero_le _, rfl, Nat.le_refl _⟩ ⟨w_1, w_2, rfl⟩ ?_
  rintro ⟨j, l, cap⟩ ⟨hj, hlj, hlc⟩
  dsimp only at hj hlj hlc
  have hll := leadTo_len hlj
  by_cases hjn : j < n
  ·have hjn1 : ¬ (n : Int) < (j : Int) + 1 := by omega
   have hjn2 : (j : Int) + 1 ≤ n := by omega
   obtain ⟨k, hk⟩ : ∃ k, k = j + 1 := ⟨_, rfl⟩
   have hkI : (j : Int) + 1 = (k : Int) := by omega
   rw [hkI] at hjn1 hjn2 ⊢
   have hkk : k * k ≤ 36 := Nat.mul_le_mul (show k ≤ 6 by omega) (show k ≤ 6 by omega)
   ((repeat' (first | refine stx ?_ | ((refine w_E (d_newI k k (by omega) (by omega)) Zz Zz Zz Zz Zz Zz Zz ft rfl ?_); rintro v Hout n1 ⟨rfl, rfl, rfl⟩) | (refine stq ?_ ?_ <;> (intro hc; ((try simp at hc) <;> try contradiction))) | fail)) <;> try (exfalso; omega))
   refine w_G hE (fun i : Nat => i ≤ k) (fun i => k - i)
    (fun i => [(1, .one (.ptr 2 3 0 0)), (4, vS 3 1 0 l.length cap), (5, vI k), (6, .one (.ptr 5 3 0 0)), (7, vI i)])
    (fun i => [(1, .ro (.ints xs)), (2, .own 26 1 (.lit [.int n, .int n, .sl 1 1 0 xs.length ca])), (3, .own 3 cap (.ints l)), (4, .own 3 (k * k) (.ints (ldM xs n k i))), (5, .own 26 1 (.lit [.int k, .int k, .sl 4 1 0 (k * k) (k * k)]))]) 6 [] 0 (Nat.zero_le _) ⟨w_1, ⟨rfl, rfl, rfl, own_ints ldM_zero.symm, rfl, trivial⟩, rfl⟩ ?_
   intro i hi
   have hin0 : i * n ≤ xs.length := by rw [hx]; exact Nat.mul_le_mul_right _ (by omega)
   have hlen : (ldM xs n k i).length = k * k := ldM_len (by omega) hi hin0
   by_cases hik : i < k
   ·have hik2 : ¬ k ≤ i := by omega
    have h1 := row_in (c := k) hik
    have h2 := row_in (c := n) (show i < n by omega)
    ((repeat' (first | refine stp ?_ | (refine stq ?_ ?_ <;> (intro hc; ((try simp at hc) <;> try contradiction))) | fail)) <;> try (exfalso; omega))
    refine awp_held TM [(2, _), (5, _)] sb rfl (fun ρs => ?_)
    refine zt0 ?_
    refine zt1 ?_
    refine zt3 ?_
    refine zt4 ?_
    refine zt6 ?_
    refine w_u [2] kr rfl ⟨?_, trivial⟩
    first | (refine zho ?_) | (refine w_F _ (d_rowAt k k i (k * k) (k * k) (ldM xs n k i) hlen.symm hlen (by omega) (by omega) (by omega) hik) Zz Zz Zz Zz Zz Zz Zz Zz ft Zz Zz ?_; rintro v Hout n1 ⟨cp1, rfl, rfl, rfl⟩; refine ⟨sb, ?_⟩) | (refine w_F _ (d_rowAtC n n i xs.length ca xs rfl hx hca (by omega) (by omega) (by omega)) Zz Zz Zz Zz Zz Zz Zz Zz ft Zz Zz ?_; rintro v Hout n1 ⟨cp2, hcp2, rfl, rfl, rfl⟩; refine ⟨sb, ?_⟩) | (refine awpHop_copy TT _ Zz Zz Zz Zz Zz Zz sd sb rfl ?_)
    refine w_u [5] kr rfl ⟨?_, trivial⟩
    first | (refine zho ?_) | (refine w_F _ (d_rowAt k k i (k * k) (k * k) (ldM xs n k i) hlen.symm hlen (by omega) (by omega) (by omega) hik) Zz Zz Zz Zz Zz Zz Zz Zz ft Zz Zz ?_; rintro v Hout n1 ⟨cp1, rfl, rfl, rfl⟩; refine ⟨sb, ?_⟩) | (refine w_F _ (d_rowAtC n n i xs.length ca xs rfl hx hca (by omega) (by omega) (by omega)) Zz Zz Zz Zz Zz Zz Zz Zz ft Zz Zz ?_; rintro v Hout n1 ⟨cp2, hcp2, rfl, rfl, rfl⟩; refine ⟨sb, ?_⟩) | (refine awpHop_copy TT _ Zz Zz Zz Zz Zz Zz sd sb rfl ?_)
    refine zt7 ?_
    refine w_u [8] kr rfl ⟨?_, trivial⟩
    first | (refine zho ?_) | (refine w_F _ (d_rowAt k k i (k * k) (k * k) (ldM xs n k i) hlen.symm hlen (by omega) (by omega) (by omega) hik) Zz Zz Zz Zz Zz Zz Zz Zz ft Zz Zz ?_; rintro v Hout n1 ⟨cp1, rfl, rfl, rfl⟩; refine ⟨sb, ?_⟩) | (refine w_F _ (d_rowAtC n n i xs.length ca xs rfl hx hca (by omega) (by omega) (by omega)) Zz Zz Zz Zz Zz Zz Zz Zz ft Zz Zz ?_; rintro v Hout n1 ⟨cp2, hcp2, rfl, rfl, rfl⟩; refine ⟨sb, ?_⟩) | (refine awpHop_copy TT _ Zz Zz Zz Zz Zz Zz sd sb rfl ?_)
    refine w_v kr ?_
    rotate_left
    all_goals ((repeat' (first | refine stx ?_ | (refine stq ?_ ?_ <;> (intro hc; ((try simp at hc) <;> try contradiction))) | fail)) <;> try (exfalso; omega))
    all_goals exact ⟨[], i + 1, hik, w_4, ⟨w_1, ⟨rfl, rfl, rfl, own_ints (ldM_copy (by omega) hik (by rw [Nat.succ_mul]; omega)), rfl, trivial⟩, rfl⟩⟩
   ·obtain rfl : i = k := by omega
    have hdet := d_detI i (ldR xs n i i) (i * i) (i * i) (by omega) (by rw [ldR_len (by omega) hin0]) (by rw [ldR_len (by omega) hin0]) (ldR_num hnum)
    rw [ldM_full]
    have hnx : leadTo xs n (j + 1) = (detZ i (ldR xs n i i)).map fun d => l ++ [d] := by rw [leadTo, hlj, hk]; rfl
    cases hd : detZ i (ldR xs n i i) with
    | none =>
     rw [hd] at hdet hnx
     have hno : leadTo xs n n = none := by
      have := leadTo_none hnx (n - (j + 1))
      rwa [show j + 1 + (n - (j + 1)) = n by omega] at this
     rw [hno]
     ((repeat' (first | refine stx ?_ | ((refine zqe (hdet) ?_); rintro v Hout n1 ⟨rfl, rfl, ⟨d, rfl⟩⟩) | (refine stq ?_ ?_ <;> (intro hc; ((try simp at hc) <;> try contradiction))) | fail)) <;> try (exfalso; omega))
     exact fin rfl w_3 [(2, 6)] (.tup [.one (.sl 2 1 0 0 0), .one (.bool false)]) [(2, .own 3 0 (.ints []))] 3 ⟨0, Nat.le_refl _, rfl, rfl, rfl⟩ rfl ⟨trivial, ⟨rfl, trivial⟩, rfl⟩ rfl
    | some d =>
     rw [hd] at hdet hnx
     ((repeat' (first | refine stx ?_ | ((refine zqe (hdet) ?_); rintro v Hout n1 ⟨rfl, rfl, rfl⟩) | (refine zqx ?_; intro cap hcap) | (refine stq ?_ ?_ <;> (intro hc; ((try simp at hc) <;> try contradiction))) | fail)) <;> try (exfalso; omega))
     exact ⟨[(3, 7)], (j + 1, l ++ [d], cap), ⟨hjn, hnx, by dsimp only; rw [List.length_append]; exact hcap⟩, w_4, ⟨w_1, ⟨rfl, rfl, rfl, trivial⟩, rfl⟩⟩
  ·have e : j = n := by omega
   rw [e] at hlj
   have hjn1 : ¬ (j : Int) + 1 ≤ n := by omega
   rw [hlj]
   ((repeat' (first | refine stx ?_ | (refine stq ?_ ?_ <;> (intro hc; ((try simp at hc) <;> try contradiction))) | fail)) <;> try (exfalso; omega))
   exact fin rfl w_3 [(2, 3)] (.tup [.one (.sl 2 1 0 l.length cap), .one (.bool true)]) [(2, .own 3 cap (.ints l))] 3 ⟨cap, hlc, rfl, rfl, rfl⟩ rfl ⟨trivial, ⟨rfl, trivial⟩, rfl⟩ rfl
end Go.Proofs.YtekpamojojfplaaGreat
namespace Go.Proofs.YtekpamojojfplaaGreat
open Go.RowKit
set_option maxHeartbeats 4000000 in
theorem d_firstS (n k m : Nat) (xs : List Int) (ca : Nat) (hm : m = xs.length) (hx : xs.length = n * n) (hn : n ≤ 24) (hk : k ≤ n) : Does Tryz.prog 111 [vM n n 1 m ca, vI k] [(1, .ro (.ints xs))] 2 (FromR k k 3 (ldR xs n k k) 2) := by
 subst hm
 refine Does.intro TT Tryz.func111 rfl (by kernel_rfl) Zz Zz fun E hE => ?_
 ((repeat' (first | refine stx ?_ | (refine stq ?_ ?_ <;> (intro hc; ((try simp at hc) <;> try contradiction))) | fail)) <;> try (exfalso; omega))
 refine w_G hE (fun x : Nat × Nat => x.1 ≤ k ∧ x.1 ≤ x.2) (fun x => k - x.1)
  (fun x => [(1, vI k), (2, .one (.ptr 2 3 0 0)), (4, .one (.ptr 3 3 0 0)), (5, vS 4 1 0 x.1 x.2), (6, vI x.1)])
  (fun x => [(1, .ro (.ints xs)), (2, .own 26 1 (.lit [.int n, .int n, .sl 1 1 0 xs.length ca])), (3, .own 26 1 (.lit zeroM)), (4, .own 3 x.2 (.ints (natsI (List.range x.1))))]) 5 [] (0, 0) ⟨Nat.zero_le _, Nat.zero_le _⟩ ⟨w_1, w_2, rfl⟩ ?_
 rintro ⟨i, cap⟩ ⟨hi, hc⟩
 dsimp only at hi hc
 have hln : (natsI (List.range i)).length = i := by rw [natsI_len, List.length_range]
 by_cases hik : i < k
 ·have hik2 : ¬ k ≤ i := by omega
  have e : natsI (List.range (i + 1)) = natsI (List.range i) ++ [(i : Int)] := by rw [natsI, natsI, List.range_succ, List.map_append]; rfl
  ((repeat' (first | refine stx ?_ | (refine zqx ?_; intro cap hcap) | (refine stq ?_ ?_ <;> (intro hc; ((try simp at hc) <;> try contradiction))) | fail)) <;> try (exfalso; omega))
  exact ⟨[(4, 6)], (i + 1, cap), ⟨hik, by dsimp only; omega⟩, w_4, ⟨w_1, ⟨rfl, rfl, rfl, own_ints e.symm, trivial⟩, rfl⟩⟩
 ·obtain rfl : i = k := by omega
  have hp := fun ca cp cq => d_partF n n i xs ca cp cq xs.length i i Zz Zz Zz hx hn hn hk hk
  ((repeat' (first | refine stx ?_ | ((refine zqe (hp _ _ _) ?_); rintro v Hout n1 ⟨cq, hcq, rfl, rfl, rfl⟩) | (refine stq ?_ ?_ <;> (intro hc; ((try simp at hc) <;> try contradiction))) | fail)) <;> try (exfalso; omega))
  exact fin rfl w_3 [(2, 5)] (.agg [.int i, .int i, .sl 2 1 0 (ldR xs n i i).length cq]) [(2, .own 3 cq (.ints (ldR xs n i i)))] 3 ⟨cq, hcq, rfl, rfl, rfl⟩ rfl ⟨trivial, ⟨rfl, trivial⟩, rfl⟩ rfl
set_option maxRecDepth 100000 in
set_option maxHeartbeats 8000000 in
theorem d_leadS (r c : Int) (xs : List Int) (ca : Nat) (hl : xs.length ≤ 1099511627776) : Does Tryz.prog 63 [vM r c 1 xs.length ca] [(1, .ro (.ints xs))] 2 (GotS 3 (leadO r c xs) 2) := by
 refine Does.intro TT Tryz.func63 rfl (by kernel_rfl) Zz Zz fun E hE => ?_
 have hsq := fun ca => d_sqS r c xs ca hl
 cases hs : sqB r c xs with
 | false =>
  rw [hs] at hsq
  rw [show leadO r c xs = none by rw [leadO, hs]; rfl]
  ((repeat' (first | refine stx ?_ | (refine stq ?_ ?_ <;> (intro hc; ((try simp at hc) <;> try contradiction))) | fail)) <;> try (exfalso; omega))
  refine w_G hE (fun _ : Unit => True) (fun _ => 0)
   (fun _ => [(1, .one (.ptr 2 3 0 0)), (4, vS 3 1 0 0 0), (5, vI 1)])
   (fun _ => [(1, .ro (.ints xs)), (2, .own 26 1 (.lit [.int r, .int c, .sl 1 1 0 xs.length ca])), (3, .own 3 0 (.ints []))]) 4 [] () trivial ⟨w_1, w_2, rfl⟩ ?_
  rintro ⟨⟩ -
  ((repeat' (first | refine stx ?_ | refine zqc (hsq _) ?_ | (refine stq ?_ ?_ <;> (intro hc; ((try simp at hc) <;> try contradiction))) | fail)) <;> try (exfalso; omega))
  all_goals exact fin rfl w_3 [(2, 3)] (.tup [.one (.sl 2 1 0 0 0), .one (.bool false)]) [(2, .own 3 0 (.ints []))] 3 ⟨0, Nat.le_refl _, rfl, rfl, rfl⟩ rfl ⟨trivial, ⟨rfl, trivial⟩, rfl⟩ rfl
 | true =>
  rw [hs] at hsq
  obtain ⟨n, rfl, rfl, hn6, hx, hnum⟩ := sqB_dims hs
  have hO : leadO n n xs = leadTo xs n n := by rw [leadO, hs]; rfl
  have hx36 : xs.length ≤ 36 := by rw [hx]; exact Nat.mul_le_mul hn6 hn6
  rw [hO]
  ((repeat' (first | refine stx ?_ | (refine stq ?_ ?_ <;> (intro hc; ((try simp at hc) <;> try contradiction))) | fail)) <;> try (exfalso; omega))
  refine w_G hE (fun x : Nat × List Int × Nat => x.1 ≤ n ∧ leadTo xs n x.1 = some x.2.1 ∧ x.2.1.length ≤ x.2.2) (fun x => n - x.1)
   (fun x => [(1, .one (.ptr 2 3 0 0)), (4, vS 3 1 0 x.2.1.length x.2.2), (5, vI ((x.1 : Int) + 1))])
   (fun x => [(1, .ro (.ints xs)), (2, .own 26 1 (.lit [.int n, .int n, .sl 1 1 0 xs.length ca])), (3, .own 3 x.2.2 (.ints x.2.1))]) 4 [] (0, [], 0) ⟨Nat.zero_le _, rfl, Nat.le_refl _⟩ ⟨w_1, w_2, rfl⟩ ?_
  rintro ⟨j, l, cap⟩ ⟨hj, hlj, hlc⟩
  dsimp only at hj hlj hlc
  have hll := leadTo_len hlj
  by_cases hjn : j < n
  ·obtain ⟨k, hk⟩ : ∃ k, k = j + 1 := ⟨_, rfl⟩
   have hkI : (j : Int) + 1 = (k : Int) := by omega
   have hjn2 : (k : Int) ≤ n := by omega
   have hjn1 : ¬ n < k := by omega
   rw [hkI]
   have hkn : k * n ≤ xs.length := by rw [hx]; exact Nat.mul_le_mul_right _ (by omega)
   have hkk : k * k ≤ 36 := Nat.mul_le_mul (show k ≤ 6 by omega) (show k ≤ 6 by omega)
   have hlr := ldR_len (xs := xs) (c := n) (k := k) (i := k) (by omega) hkn
   have hf := fun ca => d_firstS n k xs.length xs ca rfl hx (by omega) (by omega)
   have hdet := fun m ca (hm : m = (ldR xs n k k).length) => d_detS k (ldR xs n k k) m ca (by omega) hm hlr (ldR_num hnum)
   have hnx : leadTo xs n (j + 1) = (detZ k (ldR xs n k k)).map fun d => l ++ [d] := by rw [leadTo, hlj, hk]; rfl
   cases hd : detZ k (ldR xs n k k) with
   | none =>
    rw [hd] at hdet hnx
    simp only [badV] at hdet
    have hno : leadTo xs n n = none := by
     have := leadTo_none hnx (n - (j + 1))
     rwa [show j + 1 + (n - (j + 1)) = n by omega] at this
    rw [hno]
    ((repeat' (first | refine stx ?_ | refine zqc (hsq _) ?_ | ((refine zqe (hf _) ?_); rintro v Hout n1 ⟨cq, hcq, rfl, rfl, rfl⟩) | refine zqc (hdet _ _ rfl) ?_ | (refine stq ?_ ?_ <;> (intro hc; ((try simp at hc) <;> try contradiction))) | fail)) <;> try (exfalso; omega))
    exact fin rfl w_3 [(2, 5)] (.tup [.one (.sl 2 1 0 0 0), .one (.bool false)]) [(2, .own 3 0 (.ints []))] 3 ⟨0, Nat.le_refl _, rfl, rfl, rfl⟩ rfl ⟨trivial, ⟨rfl, trivial⟩, rfl⟩ rfl
   | some d =>
    rw [hd] at hdet hnx
    simp only [badV] at hdet
    have hdn := numB_true.1 (detZ_num hd)
    have hdb : ¬ d = -4611686018427387904 := by omega
    ((repeat' (first | refine stx ?_ | refine zqc (hsq _) ?_ | ((refine zqe (hf _) ?_); rintro v Hout n1 ⟨cq, hcq, rfl, rfl, rfl⟩) | refine zqc (hdet _ _ rfl) ?_ | (refine zqx ?_; intro cap hcap) | (refine stq ?_ ?_ <;> (intro hc; ((try simp at hc) <;> try contradiction))) | fail)) <;> try (exfalso; omega))
    exact ⟨[(3, 6)], (j + 1, l ++ [d], cap), ⟨hjn, hnx, by dsimp only; rw [List.length_append]; exact hcap⟩, w_4, ⟨w_1, ⟨rfl, rfl, rfl, trivial⟩, rfl⟩⟩
  ·have e : j = n := by omega
   rw [e] at hlj
   have hjn1 : ¬ (j : Int) + 1 ≤ n := by omega
   rw [hlj]
   ((repeat' (first | refine stx ?_ | refine zqc (hsq _) ?_ | (refine stq ?_ ?_ <;> (intro hc; ((try simp at hc) <;> try contradiction))) | fail)) <;> try (exfalso; omega))
   exact fin rfl w_3 [(2, 3)] (.tup [.one (.sl 2 1 0 l.length cap), .one (.bool true)]) [(2, .own 3 cap (.ints l))] 3 ⟨cap, hlc, rfl, rfl, rfl⟩ rfl ⟨trivial, ⟨rfl, trivial⟩, rfl⟩ rfl
def bI (o : Option (List Int)) (i : Nat) : Bool := o.isSome && posL ((o.getD []).take i)
theorem bI_next {o : Option (List Int)} {i : Nat} (h : i < (o.getD []).length) : bI o (i + 1) = (bI o i && decide (0 < (o.getD []).getD i 0)) := by
  rw [bI, bI, List.take_succ_eq_append_getElem h, posL, posL, List.all_append, ← getD_in (d := 0) h, Bool.and_assoc]; simp
theorem bI_full {r c : Int} {xs : List Int} : defB r c xs = (bI (leadO r c xs) ((leadO r c xs).getD []).length && gramB r c xs) := by
  rw [defB, bI, List.take_length]
  cases leadO r c xs <;> rfl
theorem leadO_len {r c : Int} {xs : List Int} : ((leadO r c xs).getD []).length ≤ 6 := by
  cases h : leadO r c xs with
  | none => simp
  | some l =>
    unfold leadO at h
    split at h
    · rename_i hs
      obtain ⟨n, rfl, rfl, hn6, hx, hnum⟩ := sqB_dims hs
      have := leadTo_len h
      simp only [Option.getD_some]
      omega
    · cases h
set_option maxHeartbeats 4000000 in
theorem d_defI (r c : Int) (xs : List Int) (ca : Nat) (hl : xs.length ≤ 1099511627776) (hca : xs.length ≤ ca) : Does Tryz.prog 43 [vM r c 1 xs.length ca] [(1, .ro (.ints xs))] 2 (Ret (vB (defB r c xs)) 2) := by
 have hld := d_leadI r c xs ca hl hca
 have hgr := fun ca => d_gramI r c xs ca hl
 have h6 := leadO_len (r := r) (c := c) (xs := xs)
 rw [bI_full]
 refine Does.intro TT Tryz.func43 rfl (by kernel_rfl) Zz Zz fun E hE => ?_
 have hn := fun i => @bI_next (leadO r c xs) i
 have h0 : bI (leadO r c xs) 0 = (leadO r c xs).isSome := by simp [bI, posL]
 generalize leadO r c xs = o at *
 ((repeat' (first | refine stx ?_ | ((refine zqe (hld) ?_); rintro v Hout n1 ⟨cap, hcap, rfl, rfl, rfl⟩) | (refine stq ?_ ?_ <;> (intro hc; ((try simp at hc) <;> try contradiction))) | fail)) <;> try (exfalso; omega))
 refine w_G hE (fun i : Nat => i ≤ (o.getD []).length) (fun i => (o.getD []).length - i)
  (fun i => [(1, .one (.ptr 2 3 0 0)), (4, vB (bI o i)), (12, vS 3 1 0 (o.getD []).length cap), (13, vI (o.getD []).length), (14, vI i)])
  (fun i => [(1, .ro (.ints xs)), (2, .own 26 1 (.lit [.int r, .int c, .sl 1 1 0 xs.length ca])), (3, .own 3 cap (.ints (o.getD [])))]) 4 [] 0 (Nat.zero_le _) ⟨⟨rfl, congrArg some (congrArg vB h0.symm), rfl, rfl, rfl, trivial⟩, ⟨rfl, rfl, rfl, trivial⟩, rfl⟩ ?_
 intro i hi
 by_cases hil : i < (o.getD []).length
 ·have hil2 : ¬ (o.getD []).length ≤ i := by omega
  have hnx := hn i hil
  have e : (o.getD []).getD (0 + (i : Int).toNat) 0 = (o.getD []).getD i 0 := by rw [show 0 + (i : Int).toNat = i by omega]
  rw [← e] at hnx
  cases hb : bI o i with
  | false =>
   rw [hb] at hnx
   ((repeat' (first | refine stx ?_ | (refine stq ?_ ?_ <;> (intro hc; ((try simp at hc) <;> try contradiction))) | fail)) <;> try (exfalso; omega))
   exact ⟨[], i + 1, hil, w_4, ⟨⟨rfl, congrArg some (congrArg vB hnx.symm), rfl, rfl, rfl, trivial⟩, ⟨rfl, rfl, rfl, trivial⟩, rfl⟩⟩
  | true =>
   rw [hb, Bool.true_and] at hnx
   ((repeat' (first | refine stx ?_ | (refine stq ?_ ?_ <;> (intro hc; ((try simp at hc) <;> try contradiction))) | fail)) <;> try (exfalso; omega))
   exact ⟨[], i + 1, hil, w_4, ⟨⟨rfl, congrArg some (congrArg vB hnx.symm), rfl, rfl, rfl, trivial⟩, ⟨rfl, rfl, rfl, trivial⟩, rfl⟩⟩
 ·obtain rfl : i = (o.getD []).length := by omega
  cases hb : bI o (o.getD []).length with
  | false =>
   ((repeat' (first | refine stx ?_ | (refine stq ?_ ?_ <;> (intro hc; ((try simp at hc) <;> try contradiction))) | fail)) <;> try (exfalso; omega))
   refine fin_ret rfl w_3 (rfl) rfl
  | true =>
   ((repeat' (first | refine stx ?_ | refine zqc (hgr _) ?_ | (refine stq ?_ ?_ <;> (intro hc; ((try simp at hc) <;> try contradiction))) | fail)) <;> try (exfalso; omega))
   refine fin_ret rfl w_3 (rfl) rfl
set_option maxHeartbeats 4000000 in
theorem d_defS (r c : Int) (xs : List Int) (ca : Nat) (hl : xs.length ≤ 1099511627776) : Does Tryz.prog 20 [vM r c 1 xs.length ca] [(1, .ro (.ints xs))] 2 (Ret (vB (defB r c xs)) 2) := by
 have hld := d_leadS r c xs ca hl
 have hgr := fun ca => d_gramS r c xs ca hl
 have h6 := leadO_len (r := r) (c := c) (xs := xs)
 rw [bI_full]
 refine Does.intro TT Tryz.func20 rfl (by kernel_rfl) Zz Zz fun E hE => ?_
 generalize leadO r c xs = o at *
 ((repeat' (first | refine stx ?_ | ((refine zqe (hld) ?_); rintro v Hout n1 ⟨cap, hcap, rfl, rfl, rfl⟩) | (refine stq ?_ ?_ <;> (intro hc; ((try simp at hc) <;> try contradiction))) | fail)) <;> try (exfalso; omega))
 refine w_G hE (fun i : Nat => i ≤ (o.getD []).length ∧ posL ((o.getD []).take i) = true) (fun i => (o.getD []).length - i)
  (fun i => [(1, .one (.ptr 2 3 0 0)), (3, vS 3 1 0 (o.getD []).length cap), (4, vB o.isSome), (5, vI i)])
  (fun i => [(1, .ro (.ints xs)), (2, .own 26 1 (.lit [.int r, .int c, .sl 1 1 0 xs.length ca])), (3, .own 3 cap (.ints (o.getD [])))]) 4 [] 0 ⟨Nat.zero_le _, rfl⟩ ⟨w_1, w_2, rfl⟩ ?_
 rintro i ⟨hi, hpos⟩
 by_cases hil : i < (o.getD []).length
 ·have hil2 : ¬ (o.getD []).length ≤ i := by omega
  by_cases hp : 0 < (o.getD [])[i]?.getD 0
  ·((repeat' (first | refine stx ?_ | (refine stq ?_ ?_ <;> (intro hc; ((try simp at hc) <;> try contradiction))) | fail)) <;> try (exfalso; omega))
   refine ⟨[], i + 1, ⟨hil, ?_⟩, w_4, ⟨w_1, w_2, rfl⟩⟩
   rw [List.take_succ_eq_append_getElem hil, posL, List.all_append]
   rw [posL] at hpos
   rw [hpos]
   simp [hil] at hp
   simpa using hp
  ·((repeat' (first | refine stx ?_ | (refine stq ?_ ?_ <;> (intro hc; ((try simp at hc) <;> try contradiction))) | fail)) <;> try (exfalso; omega))
   refine fin_ret rfl w_3 (congrArg vB ?_) rfl
   have : bI o (o.getD []).length = false := by
    rw [bI, List.take_length]
    have : posL (o.getD []) = false := by
     rw [posL, List.all_eq_false]
     refine ⟨(o.getD [])[i], List.getElem_mem hil, ?_⟩
     simp [hil] at hp
     simpa using hp
    rw [this, Bool.and_false]
   rw [this]; rfl
 ·obtain rfl : i = (o.getD []).length := by omega
  rw [List.take_length] at hpos
  cases hb : o.isSome with
  | false =>
   ((repeat' (first | refine stx ?_ | (refine stq ?_ ?_ <;> (intro hc; ((try simp at hc) <;> try contradiction))) | fail)) <;> try (exfalso; omega))
   refine fin_ret rfl w_3 (congrArg vB (by rw [bI, hb]; rfl)) rfl
  | true =>
   ((repeat' (first | refine stx ?_ | refine zqc (hgr _) ?_ | (refine stq ?_ ?_ <;> (intro hc; ((try simp at hc) <;> try contradiction))) | fail)) <;> try (exfalso; omega))
   refine fin_ret rfl w_3 (congrArg vB (by rw [bI, List.take_length, hb, hpos]; rfl)) rfl
end Go.Proofs.YtekpamojojfplaaGreat
namespace Go.Proofs.YtekpamojojfplaaGreat
open Go.RowKit
section
variable {P : Program} {E : Env} {N : Nat} {Q : Post} {fr : Nat → Option AV} {H : Nat → Option Blk} {nx : Nat}
def cutQ {α : Type} (n0 : Nat) (pre : α → Prop) (F : α → List (Nat × AV)) (Hh : α → List (Nat × Blk)) (nx : Nat) (Q : Post) : Post := fun e σ => match e with
  | .normal => ∃ m y, pre y ∧ Weak n0 σ.fr σ.H m (F y) (Hh y) nx
  | e => Q e σ
variable {l0 : List Oper} {ρs : Rho} {nxs : Nat} {hs : List (Nat × Blk)} {fuel : Nat} {listed : Array Bool}
theorem Does.mono {f : FuncId} {args : List AV} {Hin : List (Nat × Blk)} {n0 : Nat} {Out Out' : AV → List (Nat × Blk) → Nat → Prop} (hD : Does P f args Hin n0 Out) (hm : ∀ v Hout n1, Out v Hout n1 → Out' v Hout n1) : Does P f args Hin n0 Out' :=
  ⟨hD.fn, fun ρ w hH hk => Calls.mono (hD.calls ρ w hH hk) fun _ _ ⟨ρ', v, Hout, n1, ho, h⟩ => ⟨ρ', v, Hout, n1, hm _ _ _ ho, h⟩⟩
end
end Go.Proofs.YtekpamojojfplaaGreat
