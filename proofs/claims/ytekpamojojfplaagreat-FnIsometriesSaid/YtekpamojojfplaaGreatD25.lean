/-
  TEXTS OF THE PROOF, put together: bDef, bDef2, bSmA, bRoot.
-/
import Derived.Test.YtekpamojojfplaaGreatD24
import Derived.Test.YtekpamojojfplaaGreatD18
import Derived.Test.YtekpamojojfplaaGreatD09
import Derived.Test.YtekpamojojfplaaGreatD16
import Derived.Test.YtekpamojojfplaaGreatD11
import Derived.Test.YtekpamojojfplaaGreatD21
import Derived.Test.YtekpamojojfplaaGreatD22
set_option linter.unusedVariables false
set_option linter.unusedSimpArgs false
namespace Go.Proofs.YtekpamojojfplaaGreat
open Go.RowKit
def GotS (t : TypeId) (o : Option (List Int)) (k : Nat) (v : AV) (Hout : List (Nat × Blk)) (n1 : Nat) : Prop := ∃ cap, (o.getD []).length ≤ cap ∧ v = .tup [.one (.sl k 1 0 (o.getD []).length cap), .one (.bool o.isSome)] ∧ Hout = [(k, .own t cap (.ints (o.getD [])))] ∧ n1 = k + 1
theorem GotS.out {t : TypeId} {o : Option (List Int)} {k : Nat} : ∀ v Hout n1, GotS t o k v Hout n1 → ∃ b, Hout = [(k, b)] ∧ n1 = k + 1 ∧ b.keys = [] := fun _ _ _ ⟨_, _, _, h2, h3⟩ => ⟨_, h2, h3, by simp [Blk.keys, Elts.keys, Elts.all, ints_keys]⟩
theorem d_rowAtC (r c i n ca : Nat) (xs : List Int) (hn : n = xs.length) (hx : xs.length = r * c) (hca : xs.length ≤ ca) (hr : r ≤ 24) (hc24 : c ≤ 24) (hi : i < r) : Does Tryz.prog 135 [vM r c 1 n ca, vI i] [(1, .ro (.ints xs))] 2 (fun v Hout n1 => ∃ cp, c ≤ cp ∧ RowS (i * c) c cp v Hout n1) := by
 have h1 : i * c + c ≤ r * c := by
  have := Nat.mul_le_mul_right c (show i + 1 ≤ r by omega)
  rw [Nat.add_mul, Nat.one_mul] at this; exact this
 have h2 : i * c ≤ 576 := by have := Nat.mul_le_mul (show i ≤ 24 by omega) hc24; omega
 have e1 : (i : Int) * c = ((i * c : Nat) : Int) := by simp
 have e2 : ((i : Int) + 1) * c = ((i * c + c : Nat) : Int) := by rw [Int.add_mul, e1]; simp
 refine Does.intro TT Tryz.func135 rfl (by kernel_rfl) Zz Zz fun E hE => ?_
 ((repeat' (first | refine stx ?_ | (refine stq ?_ ?_ <;> (intro hc; ((try simp at hc) <;> try contradiction))) | fail)) <;> try (exfalso; omega))
 have hoff : slOff 0 ((i : Int) * c).toNat ca = i * c := by
  rw [mul_nat]
  unfold slOff
  split
  ·rename_i h0
   have : i * c = 0 ∨ 0 < c := by
    rcases Nat.eq_zero_or_pos c with q | q
    ·left; rw [q]; rfl
    ·exact .inr q
   omega
  ·omega
 have hlen : (((i : Int) + 1) * c).toNat - ((i : Int) * c).toNat = c := by rw [e2, e1]; omega
 refine fin rfl w_3 [] (vS 1 1 (i * c) c (ca - ((i : Int) * c).toNat)) [] 2 ⟨_, by rw [e1]; omega, rfl, rfl, rfl⟩ ?_ ⟨trivial, trivial, rfl⟩ rfl
 show AV.one (.sl 1 1 (slOff 0 ((i : Int) * c).toNat ca) ((((i : Int) + 1) * c).toNat - ((i : Int) * c).toNat) (ca - ((i : Int) * c).toNat)) = _
 rw [hoff, hlen]; rfl
set_option maxRecDepth 100000 in
set_option maxHeartbeats 8000000 in
theorem d_leadI (r c : Int) (xs : List Int) (ca : Nat) (hl : xs.length ≤ 1099511627776) (hca : xs.length ≤ ca) : Does Tryz.prog 90 [vM r c 1 xs.length ca] [(1, .ro (.ints xs))] 2 (GotS 3 (leadO r c xs) 2) := by
 refine Does.intro TT Tryz.func90 rfl (by kernel_rfl) Zz Zz fun E hE => ?_
 cases hs : sqB r c xs with
 | false =>
  rw [show leadO r c xs = none by rw [leadO, hs]; rfl]
  ((repeat' (first | refine stx ?_ | (refine zqc (d_sqI _ _ _ _ hl) ?_ <;> simp only [hs]) | (refine stq ?_ ?_ <;> (intro hc; ((try simp at hc) <;> try contradiction))) | fail)) <;> try (exfalso; omega))
  exact fin rfl w_3 [(2, 3)] (.tup [.one (.sl 2 1 0 0 0), .one (.bool false)]) [(2, .own 3 0 (.ints []))] 3 ⟨0, Nat.le_refl _, rfl, rfl, rfl⟩ rfl ⟨trivial, ⟨rfl, trivial⟩, rfl⟩ rfl
 | true =>
  obtain ⟨n, rfl, rfl, hn6, hx, hnum⟩ := sqB_dims hs
  have hO : leadO n n xs = leadTo xs n n := by rw [leadO, hs]; rfl
  have hx36 : xs.length ≤ 36 := by rw [hx]; exact Nat.mul_le_mul hn6 hn6
  rw [hO]
  ((repeat' (first | refine stx ?_ | (refine zqc (d_sqI _ _ _ _ hl) ?_ <;> simp only [hs]) | (refine stq ?_ ?_ <;> (intro hc; ((try simp at hc) <;> try contradiction))) | fail)) <;> try (exfalso; omega))
  refine w_G hE (fun x : Nat × List Int × Nat => x.1 ≤ n ∧ leadTo xs n x.1 = some x.2.1 ∧ x.2.1.length ≤ x.2.2) (fun x => n - x.1)
   (fun x => [(1, .one (.ptr 2 3 0 0)), (4, vS 3 1 0 x.2.1.length x.2.2), (5, vI ((x.1 : Int) + 1))])
   (fun x => [(1, .ro (.ints xs)), (2, .own 26 1 (.lit [.int n, .int n, .sl 1 1 0 xs.length ca])), (3, .own 3 x.2.2 (.ints x.2.1))]) 4 [] (0, [], 0) ⟨Nat.zero_le _, rfl, Nat.le_refl _⟩ ⟨w_1, w_2, rfl⟩ ?_
  rintro ⟨j, l, cap⟩ ⟨hj, hlj, hlc⟩
  dsimp only at hj hlj hlc
  have hll := leadTo_len hlj
  by_cases hjn : j < n
  ·have hjn1 : ¬ (n : Int) < (j : Int) + 1 := by omega
   have hjn2 : (j : Int) + 1 ≤ n := by omega
   obtain ⟨k, hk⟩ : ∃ k, k = j + 1 := ⟨_, rfl⟩
   have hkI : (j : Int) + 1 = (k : Int) := by omega
   rw [hkI] at hjn1 hjn2 ⊢
   have hkk : k * k ≤ 36 := Nat.mul_le_mul (show k ≤ 6 by omega) (show k ≤ 6 by omega)
   ((repeat' (first | refine stx ?_ | ((refine w_E (d_newI k k (by omega) (by omega)) Zz Zz Zz Zz Zz Zz Zz ft rfl ?_); rintro v Hout n1 ⟨rfl, rfl, rfl⟩) | (refine stq ?_ ?_ <;> (intro hc; ((try simp at hc) <;> try contradiction))) | fail)) <;> try (exfalso; omega))
   refine w_G hE (fun i : Nat => i ≤ k) (fun i => k - i)
    (fun i => [(1, .one (.ptr 2 3 0 0)), (4, vS 3 1 0 l.length cap), (5, vI k), (6, .one (.ptr 5 3 0 0)), (7, vI i)])
    (fun i => [(1, .ro (.ints xs)), (2, .own 26 1 (.lit [.int n, .int n, .sl 1 1 0 xs.length ca])), (3, .own 3 cap (.ints l)), (4, .own 3 (k * k) (.ints (ldM xs n k i))), (5, .own 26 1 (.lit [.int k, .int k, .sl 4 1 0 (k * k) (k * k)]))]) 6 [] 0 (Nat.zero_le _) ⟨w_1, ⟨rfl, rfl, rfl, own_ints ldM_zero.symm, rfl, trivial⟩, rfl⟩ ?_
   intro i hi
   have hin0 : i * n ≤ xs.length := by rw [hx]; exact Nat.mul_le_mul_right _ (by omega)
   have hlen : (ldM xs n k i).length = k * k := ldM_len (by omega) hi hin0
   by_cases hik : i < k
   ·have hik2 : ¬ k ≤ i := by omega
    have h1 := row_in (c := k) hik
    have h2 := row_in (c := n) (show i < n by omega)
    ((repeat' (first | refine stp ?_ | (refine stq ?_ ?_ <;> (intro hc; ((try simp at hc) <;> try contradiction))) | fail)) <;> try (exfalso; omega))
    refine awp_held TM [(2, _), (5, _)] sb rfl (fun ρs => ?_)
    refine zt0 ?_
    refine zt1 ?_
    refine zt3 ?_
    refine zt4 ?_
    refine zt6 ?_
    refine w_u [2] kr rfl ⟨?_, trivial⟩
    first | (refine zho ?_) | (refine w_F _ (d_rowAt k k i (k * k) (k * k) (ldM xs n k i) hlen.symm hlen (by omega) (by omega) (by omega) hik) Zz Zz Zz Zz Zz Zz Zz Zz ft Zz Zz ?_; rintro v Hout n1 ⟨cp1, rfl, rfl, rfl⟩; refine ⟨sb, ?_⟩) | (refine w_F _ (d_rowAtC n n i xs.length ca xs rfl hx hca (by omega) (by omega) (by omega)) Zz Zz Zz Zz Zz Zz Zz Zz ft Zz Zz ?_; rintro v Hout n1 ⟨cp2, hcp2, rfl, rfl, rfl⟩; refine ⟨sb, ?_⟩) | (refine awpHop_copy TT _ Zz Zz Zz Zz Zz Zz sd sb rfl ?_)
    refine w_u [5] kr rfl ⟨?_, trivial⟩
    first | (refine zho ?_) | (refine w_F _ (d_rowAt k k i (k * k) (k * k) (ldM xs n k i) hlen.symm hlen (by omega) (by omega) (by omega) hik) Zz Zz Zz Zz Zz Zz Zz Zz ft Zz Zz ?_; rintro v Hout n1 ⟨cp1, rfl, rfl, rfl⟩; refine ⟨sb, ?_⟩) | (refine w_F _ (d_rowAtC n n i xs.length ca xs rfl hx hca (by omega) (by omega) (by omega)) Zz Zz Zz Zz Zz Zz Zz Zz ft Zz Zz ?_; rintro v Hout n1 ⟨cp2, hcp2, rfl, rfl, rfl⟩; refine ⟨sb, ?_⟩) | (refine awpHop_copy TT _ Zz Zz Zz Zz Zz Zz sd sb rfl ?_)
    refine zt7 ?_
    refine w_u [8] kr rfl ⟨?_, trivial⟩
    first | (refine zho ?_) | (refine w_F _ (d_rowAt k k i (k * k) (k * k) (ldM xs n k i) hlen.symm hlen (by omega) (by omega) (by omega) hik) Zz Zz Zz Zz Zz Zz Zz Zz ft Zz Zz ?_; rintro v Hout n1 ⟨cp1, rfl, rfl, rfl⟩; refine ⟨sb, ?_⟩) | (refine w_F _ (d_rowAtC n n i xs.length ca xs rfl hx hca (by omega) (by omega) (by omega)) Zz Zz Zz Zz Zz Zz Zz Zz ft Zz Zz ?_; rintro v Hout n1 ⟨cp2, hcp2, rfl, rfl, rfl⟩; refine ⟨sb, ?_⟩) | (refine awpHop_copy TT _ Zz Zz Zz Zz Zz Zz sd sb rfl ?_)
    refine w_v kr ?_
    rotate_left
    all_goals ((repeat' (first | refine stx ?_ | (refine stq ?_ ?_ <;> (intro hc; ((try simp at hc) <;> try contradiction))) | fail)) <;> try (exfalso; omega))
    all_goals exact ⟨[], i + 1, hik, w_4, ⟨w_1, ⟨rfl, rfl, rfl, own_ints (ldM_copy (by omega) hik (by rw [Nat.succ_mul]; omega)), rfl, trivial⟩, rfl⟩⟩
   ·obtain rfl : i = k := by omega
    have hdet := d_detI i (ldR xs n i i) (i * i) (i * i) (by omega) (by rw [ldR_len (by omega) hin0]) (by rw [ldR_len (by omega) hin0]) (ldR_num hnum)
    rw [ldM_full]
    have hnx : leadTo xs n (j + 1) = (detZ i (ldR xs n i i)).map fun d => l ++ [d] := by rw [leadTo, hlj, hk]; rfl
    cases hd : detZ i (ldR xs n i i) with
    | none =>
     rw [hd] at hdet hnx
     have hno : leadTo xs n n = none := by
      have := leadTo_none hnx (n - (j + 1))
      rwa [show j + 1 + (n - (j + 1)) = n by omega] at this
     rw [hno]
     ((repeat' (first | refine stx ?_ | ((refine zqe (hdet) ?_); rintro v Hout n1 ⟨rfl, rfl, ⟨d, rfl⟩⟩) | (refine stq ?_ ?_ <;> (intro hc; ((try simp at hc) <;> try contradiction))) | fail)) <;> try (exfalso; omega))
     exact fin rfl w_3 [(2, 6)] (.tup [.one (.sl 2 1 0 0 0), .one (.bool false)]) [(2, .own 3 0 (.ints []))] 3 ⟨0, Nat.le_refl _, rfl, rfl, rfl⟩ rfl ⟨trivial, ⟨rfl, trivial⟩, rfl⟩ rfl
    | some d =>
     rw [hd] at hdet hnx
     ((repeat' (first | refine stx ?_ | ((refine zqe (hdet) ?_); rintro v Hout n1 ⟨rfl, rfl, rfl⟩) | (refine zqx ?_; intro cap hcap) | (refine stq ?_ ?_ <;> (intro hc; ((try simp at hc) <;> try contradiction))) | fail)) <;> try (exfalso; omega))
     exact ⟨[(3, 7)], (j + 1, l ++ [d], cap), ⟨hjn, hnx, by dsimp only; rw [List.length_append]; exact hcap⟩, w_4, ⟨w_1, ⟨rfl, rfl, rfl, trivial⟩, rfl⟩⟩
  ·have e : j = n := by omega
   rw [e] at hlj
   have hjn1 : ¬ (j : Int) + 1 ≤ n := by omega
   rw [hlj]
   ((repeat' (first | refine stx ?_ | (refine stq ?_ ?_ <;> (intro hc; ((try simp at hc) <;> try contradiction))) | fail)) <;> try (exfalso; omega))
   exact fin rfl w_3 [(2, 3)] (.tup [.one (.sl 2 1 0 l.length cap), .one (.bool true)]) [(2, .own 3 cap (.ints l))] 3 ⟨cap, hlc, rfl, rfl, rfl⟩ rfl ⟨trivial, ⟨rfl, trivial⟩, rfl⟩ rfl
end Go.Proofs.YtekpamojojfplaaGreat
namespace Go.Proofs.YtekpamojojfplaaGreat
open Go.RowKit
set_option maxHeartbeats 4000000 in
theorem d_firstS (n k m : Nat) (xs : List Int) (ca : Nat) (hm : m = xs.length) (hx : xs.length = n * n) (hn : n ≤ 24) (hk : k ≤ n) : Does Tryz.prog 111 [vM n n 1 m ca, vI k] [(1, .ro (.ints xs))] 2 (FromR k k 3 (ldR xs n k k) 2) := by
 subst hm
 refine Does.intro TT Tryz.func111 rfl (by kernel_rfl) Zz Zz fun E hE => ?_
 ((repeat' (first | refine stx ?_ | (refine stq ?_ ?_ <;> (intro hc; ((try simp at hc) <;> try contradiction))) | fail)) <;> try (exfalso; omega))
 refine w_G hE (fun x : Nat × Nat => x.1 ≤ k ∧ x.1 ≤ x.2) (fun x => k - x.1)
  (fun x => [(1, vI k), (2, .one (.ptr 2 3 0 0)), (4, .one (.ptr 3 3 0 0)), (5, vS 4 1 0 x.1 x.2), (6, vI x.1)])
  (fun x => [(1, .ro (.ints xs)), (2, .own 26 1 (.lit [.int n, .int n, .sl 1 1 0 xs.length ca])), (3, .own 26 1 (.lit zeroM)), (4, .own 3 x.2 (.ints (natsI (List.range x.1))))]) 5 [] (0, 0) ⟨Nat.zero_le _, Nat.zero_le _⟩ ⟨w_1, w_2, rfl⟩ ?_
 rintro ⟨i, cap⟩ ⟨hi, hc⟩
 dsimp only at hi hc
 have hln : (natsI (List.range i)).length = i := by rw [natsI_len, List.length_range]
 by_cases hik : i < k
 ·have hik2 : ¬ k ≤ i := by omega
  have e : natsI (List.range (i + 1)) = natsI (List.range i) ++ [(i : Int)] := by rw [natsI, natsI, List.range_succ, List.map_append]; rfl
  ((repeat' (first | refine stx ?_ | (refine zqx ?_; intro cap hcap) | (refine stq ?_ ?_ <;> (intro hc; ((try simp at hc) <;> try contradiction))) | fail)) <;> try (exfalso; omega))
  exact ⟨[(4, 6)], (i + 1, cap), ⟨hik, by dsimp only; omega⟩, w_4, ⟨w_1, ⟨rfl, rfl, rfl, own_ints e.symm, trivial⟩, rfl⟩⟩
 ·obtain rfl : i = k := by omega
  have hp := fun ca cp cq => d_partF n n i xs ca cp cq xs.length i i Zz Zz Zz hx hn hn hk hk
  ((repeat' (first | refine stx ?_ | ((refine zqe (hp _ _ _) ?_); rintro v Hout n1 ⟨cq, hcq, rfl, rfl, rfl⟩) | (refine stq ?_ ?_ <;> (intro hc; ((try simp at hc) <;> try contradiction))) | fail)) <;> try (exfalso; omega))
  exact fin rfl w_3 [(2, 5)] (.agg [.int i, .int i, .sl 2 1 0 (ldR xs n i i).length cq]) [(2, .own 3 cq (.ints (ldR xs n i i)))] 3 ⟨cq, hcq, rfl, rfl, rfl⟩ rfl ⟨trivial, ⟨rfl, trivial⟩, rfl⟩ rfl
set_option maxRecDepth 100000 in
set_option maxHeartbeats 8000000 in
theorem d_leadS (r c : Int) (xs : List Int) (ca : Nat) (hl : xs.length ≤ 1099511627776) : Does Tryz.prog 63 [vM r c 1 xs.length ca] [(1, .ro (.ints xs))] 2 (GotS 3 (leadO r c xs) 2) := by
 refine Does.intro TT Tryz.func63 rfl (by kernel_rfl) Zz Zz fun E hE => ?_
 have hsq := fun ca => d_sqS r c xs ca hl
 cases hs : sqB r c xs with
 | false =>
  rw [hs] at hsq
  rw [show leadO r c xs = none by rw [leadO, hs]; rfl]
  ((repeat' (first | refine stx ?_ | (refine stq ?_ ?_ <;> (intro hc; ((try simp at hc) <;> try contradiction))) | fail)) <;> try (exfalso; omega))
  refine w_G hE (fun _ : Unit => True) (fun _ => 0)
   (fun _ => [(1, .one (.ptr 2 3 0 0)), (4, vS 3 1 0 0 0), (5, vI 1)])
   (fun _ => [(1, .ro (.ints xs)), (2, .own 26 1 (.lit [.int r, .int c, .sl 1 1 0 xs.length ca])), (3, .own 3 0 (.ints []))]) 4 [] () trivial ⟨w_1, w_2, rfl⟩ ?_
  rintro ⟨⟩ -
  ((repeat' (first | refine stx ?_ | refine zqc (hsq _) ?_ | (refine stq ?_ ?_ <;> (intro hc; ((try simp at hc) <;> try contradiction))) | fail)) <;> try (exfalso; omega))
  all_goals exact fin rfl w_3 [(2, 3)] (.tup [.one (.sl 2 1 0 0 0), .one (.bool false)]) [(2, .own 3 0 (.ints []))] 3 ⟨0, Nat.le_refl _, rfl, rfl, rfl⟩ rfl ⟨trivial, ⟨rfl, trivial⟩, rfl⟩ rfl
 | true =>
  rw [hs] at hsq
  obtain ⟨n, rfl, rfl, hn6, hx, hnum⟩ := sqB_dims hs
  have hO : leadO n n xs = leadTo xs n n := by rw [leadO, hs]; rfl
  have hx36 : xs.length ≤ 36 := by rw [hx]; exact Nat.mul_le_mul hn6 hn6
  rw [hO]
  ((repeat' (first | refine stx ?_ | (refine stq ?_ ?_ <;> (intro hc; ((try simp at hc) <;> try contradiction))) | fail)) <;> try (exfalso; omega))
  refine w_G hE (fun x : Nat × List Int × Nat => x.1 ≤ n ∧ leadTo xs n x.1 = some x.2.1 ∧ x.2.1.length ≤ x.2.2) (fun x => n - x.1)
   (fun x => [(1, .one (.ptr 2 3 0 0)), (4, vS 3 1 0 x.2.1.length x.2.2), (5, vI ((x.1 : Int) + 1))])
   (fun x => [(1, .ro (.ints xs)), (2, .own 26 1 (.lit [.int n, .int n, .sl 1 1 0 xs.length ca])), (3, .own 3 x.2.2 (.ints x.2.1))]) 4 [] (0, [], 0) ⟨Nat.zero_le _, rfl, Nat.le_refl _⟩ ⟨w_1, w_2, rfl⟩ ?_
  rintro ⟨j, l, cap⟩ ⟨hj, hlj, hlc⟩
  dsimp only at hj hlj hlc
  have hll := leadTo_len hlj
  by_cases hjn : j < n
  ·obtain ⟨k, hk⟩ : ∃ k, k = j + 1 := ⟨_, rfl⟩
   have hkI : (j : Int) + 1 = (k : Int) := by omega
   have hjn2 : (k : Int) ≤ n := by omega
   have hjn1 : ¬ n < k := by omega
   rw [hkI]
   have hkn : k * n ≤ xs.length := by rw [hx]; exact Nat.mul_le_mul_right _ (by omega)
   have hkk : k * k ≤ 36 := Nat.mul_le_mul (show k ≤ 6 by omega) (show k ≤ 6 by omega)
   have hlr := ldR_len (xs := xs) (c := n) (k := k) (i := k) (by omega) hkn
   have hf := fun ca => d_firstS n k xs.length xs ca rfl hx (by omega) (by omega)
   have hdet := fun m ca (hm : m = (ldR xs n k k).length) => d_detS k (ldR xs n k k) m ca (by omega) hm hlr (ldR_num hnum)
   have hnx : leadTo xs n (j + 1) = (detZ k (ldR xs n k k)).map fun d => l ++ [d] := by rw [leadTo, hlj, hk]; rfl
   cases hd : detZ k (ldR xs n k k) with
   | none =>
    rw [hd] at hdet hnx
    simp only [badV] at hdet
    have hno : leadTo xs n n = none := by
     have := leadTo_none hnx (n - (j + 1))
     rwa [show j + 1 + (n - (j + 1)) = n by omega] at this
    rw [hno]
    ((repeat' (first | refine stx ?_ | refine zqc (hsq _) ?_ | ((refine zqe (hf _) ?_); rintro v Hout n1 ⟨cq, hcq, rfl, rfl, rfl⟩) | refine zqc (hdet _ _ rfl) ?_ | (refine stq ?_ ?_ <;> (intro hc; ((try simp at hc) <;> try contradiction))) | fail)) <;> try (exfalso; omega))
    exact fin rfl w_3 [(2, 5)] (.tup [.one (.sl 2 1 0 0 0), .one (.bool false)]) [(2, .own 3 0 (.ints []))] 3 ⟨0, Nat.le_refl _, rfl, rfl, rfl⟩ rfl ⟨trivial, ⟨rfl, trivial⟩, rfl⟩ rfl
   | some d =>
    rw [hd] at hdet hnx
    simp only [badV] at hdet
    have hdn := numB_true.1 (detZ_num hd)
    have hdb : ¬ d = -4611686018427387904 := by omega
    ((repeat' (first | refine stx ?_ | refine zqc (hsq _) ?_ | ((refine zqe (hf _) ?_); rintro v Hout n1 ⟨cq, hcq, rfl, rfl, rfl⟩) | refine zqc (hdet _ _ rfl) ?_ | (refine zqx ?_; intro cap hcap) | (refine stq ?_ ?_ <;> (intro hc; ((try simp at hc) <;> try contradiction))) | fail)) <;> try (exfalso; omega))
    exact ⟨[(3, 6)], (j + 1, l ++ [d], cap), ⟨hjn, hnx, by dsimp only; rw [List.length_append]; exact hcap⟩, w_4, ⟨w_1, ⟨rfl, rfl, rfl, trivial⟩, rfl⟩⟩
  ·have e : j = n := by omega
   rw [e] at hlj
   have hjn1 : ¬ (j : Int) + 1 ≤ n := by omega
   rw [hlj]
   ((repeat' (first | refine stx ?_ | refine zqc (hsq _) ?_ | (refine stq ?_ ?_ <;> (intro hc; ((try simp at hc) <;> try contradiction))) | fail)) <;> try (exfalso; omega))
   exact fin rfl w_3 [(2, 3)] (.tup [.one (.sl 2 1 0 l.length cap), .one (.bool true)]) [(2, .own 3 cap (.ints l))] 3 ⟨cap, hlc, rfl, rfl, rfl⟩ rfl ⟨trivial, ⟨rfl, trivial⟩, rfl⟩ rfl
def bI (o : Option (List Int)) (i : Nat) : Bool := o.isSome && posL ((o.getD []).take i)
theorem bI_next {o : Option (List Int)} {i : Nat} (h : i < (o.getD []).length) : bI o (i + 1) = (bI o i && decide (0 < (o.getD []).getD i 0)) := by
  rw [bI, bI, List.take_succ_eq_append_getElem h, posL, posL, List.all_append, ← getD_in (d := 0) h, Bool.and_assoc]; simp
theorem bI_full {r c : Int} {xs : List Int} : defB r c xs = (bI (leadO r c xs) ((leadO r c xs).getD []).length && gramB r c xs) := by
  rw [defB, bI, List.take_length]
  cases leadO r c xs <;> rfl
theorem leadO_len {r c : Int} {xs : List Int} : ((leadO r c xs).getD []).length ≤ 6 := by
  cases h : leadO r c xs with
  | none => simp
  | some l =>
    unfold leadO at h
    split at h
    · rename_i hs
      obtain ⟨n, rfl, rfl, hn6, hx, hnum⟩ := sqB_dims hs
      have := leadTo_len h
      simp only [Option.getD_some]
      omega
    · cases h
set_option maxHeartbeats 4000000 in
theorem d_defI (r c : Int) (xs : List Int) (ca : Nat) (hl : xs.length ≤ 1099511627776) (hca : xs.length ≤ ca) : Does Tryz.prog 43 [vM r c 1 xs.length ca] [(1, .ro (.ints xs))] 2 (Ret (vB (defB r c xs)) 2) := by
 have hld := d_leadI r c xs ca hl hca
 have hgr := fun ca => d_gramI r c xs ca hl
 have h6 := leadO_len (r := r) (c := c) (xs := xs)
 rw [bI_full]
 refine Does.intro TT Tryz.func43 rfl (by kernel_rfl) Zz Zz fun E hE => ?_
 have hn := fun i => @bI_next (leadO r c xs) i
 have h0 : bI (leadO r c xs) 0 = (leadO r c xs).isSome := by simp [bI, posL]
 generalize leadO r c xs = o at *
 ((repeat' (first | refine stx ?_ | ((refine zqe (hld) ?_); rintro v Hout n1 ⟨cap, hcap, rfl, rfl, rfl⟩) | (refine stq ?_ ?_ <;> (intro hc; ((try simp at hc) <;> try contradiction))) | fail)) <;> try (exfalso; omega))
 refine w_G hE (fun i : Nat => i ≤ (o.getD []).length) (fun i => (o.getD []).length - i)
  (fun i => [(1, .one (.ptr 2 3 0 0)), (4, vB (bI o i)), (12, vS 3 1 0 (o.getD []).length cap), (13, vI (o.getD []).length), (14, vI i)])
  (fun i => [(1, .ro (.ints xs)), (2, .own 26 1 (.lit [.int r, .int c, .sl 1 1 0 xs.length ca])), (3, .own 3 cap (.ints (o.getD [])))]) 4 [] 0 (Nat.zero_le _) ⟨⟨rfl, congrArg some (congrArg vB h0.symm), rfl, rfl, rfl, trivial⟩, ⟨rfl, rfl, rfl, trivial⟩, rfl⟩ ?_
 intro i hi
 by_cases hil : i < (o.getD []).length
 ·have hil2 : ¬ (o.getD []).length ≤ i := by omega
  have hnx := hn i hil
  have e : (o.getD []).getD (0 + (i : Int).toNat) 0 = (o.getD []).getD i 0 := by rw [show 0 + (i : Int).toNat = i by omega]
  rw [← e] at hnx
  cases hb : bI o i with
  | false =>
   rw [hb] at hnx
   ((repeat' (first | refine stx ?_ | (refine stq ?_ ?_ <;> (intro hc; ((try simp at hc) <;> try contradiction))) | fail)) <;> try (exfalso; omega))
   exact ⟨[], i + 1, hil, w_4, ⟨⟨rfl, congrArg some (congrArg vB hnx.symm), rfl, rfl, rfl, trivial⟩, ⟨rfl, rfl, rfl, trivial⟩, rfl⟩⟩
  | true =>
   rw [hb, Bool.true_and] at hnx
   ((repeat' (first | refine stx ?_ | (refine stq ?_ ?_ <;> (intro hc; ((try simp at hc) <;> try contradiction))) | fail)) <;> try (exfalso; omega))
   exact ⟨[], i + 1, hil, w_4, ⟨⟨rfl, congrArg some (congrArg vB hnx.symm), rfl, rfl, rfl, trivial⟩, ⟨rfl, rfl, rfl, trivial⟩, rfl⟩⟩
 ·obtain rfl : i = (o.getD []).length := by omega
  cases hb : bI o (o.getD []).length with
  | false =>
   ((repeat' (first | refine stx ?_ | (refine stq ?_ ?_ <;> (intro hc; ((try simp at hc) <;> try contradiction))) | fail)) <;> try (exfalso; omega))
   refine fin_ret rfl w_3 (rfl) rfl
  | true =>
   ((repeat' (first | refine stx ?_ | refine zqc (hgr _) ?_ | (refine stq ?_ ?_ <;> (intro hc; ((try simp at hc) <;> try contradiction))) | fail)) <;> try (exfalso; omega))
   refine fin_ret rfl w_3 (rfl) rfl
set_option maxHeartbeats 4000000 in
theorem d_defS (r c : Int) (xs : List Int) (ca : Nat) (hl : xs.length ≤ 1099511627776) : Does Tryz.prog 20 [vM r c 1 xs.length ca] [(1, .ro (.ints xs))] 2 (Ret (vB (defB r c xs)) 2) := by
 have hld := d_leadS r c xs ca hl
 have hgr := fun ca => d_gramS r c xs ca hl
 have h6 := leadO_len (r := r) (c := c) (xs := xs)
 rw [bI_full]
 refine Does.intro TT Tryz.func20 rfl (by kernel_rfl) Zz Zz fun E hE => ?_
 generalize leadO r c xs = o at *
 ((repeat' (first | refine stx ?_ | ((refine zqe (hld) ?_); rintro v Hout n1 ⟨cap, hcap, rfl, rfl, rfl⟩) | (refine stq ?_ ?_ <;> (intro hc; ((try simp at hc) <;> try contradiction))) | fail)) <;> try (exfalso; omega))
 refine w_G hE (fun i : Nat => i ≤ (o.getD []).length ∧ posL ((o.getD []).take i) = true) (fun i => (o.getD []).length - i)
  (fun i => [(1, .one (.ptr 2 3 0 0)), (3, vS 3 1 0 (o.getD []).length cap), (4, vB o.isSome), (5, vI i)])
  (fun i => [(1, .ro (.ints xs)), (2, .own 26 1 (.lit [.int r, .int c, .sl 1 1 0 xs.length ca])), (3, .own 3 cap (.ints (o.getD [])))]) 4 [] 0 ⟨Nat.zero_le _, rfl⟩ ⟨w_1, w_2, rfl⟩ ?_
 rintro i ⟨hi, hpos⟩
 by_cases hil : i < (o.getD []).length
 ·have hil2 : ¬ (o.getD []).length ≤ i := by omega
  by_cases hp : 0 < (o.getD [])[i]?.getD 0
  ·((repeat' (first | refine stx ?_ | (refine stq ?_ ?_ <;> (intro hc; ((try simp at hc) <;> try contradiction))) | fail)) <;> try (exfalso; omega))
   refine ⟨[], i + 1, ⟨hil, ?_⟩, w_4, ⟨w_1, w_2, rfl⟩⟩
   rw [List.take_succ_eq_append_getElem hil, posL, List.all_append]
   rw [posL] at hpos
   rw [hpos]
   simp [hil] at hp
   simpa using hp
  ·((repeat' (first | refine stx ?_ | (refine stq ?_ ?_ <;> (intro hc; ((try simp at hc) <;> try contradiction))) | fail)) <;> try (exfalso; omega))
   refine fin_ret rfl w_3 (congrArg vB ?_) rfl
   have : bI o (o.getD []).length = false := by
    rw [bI, List.take_length]
    have : posL (o.getD []) = false := by
     rw [posL, List.all_eq_false]
     refine ⟨(o.getD [])[i], List.getElem_mem hil, ?_⟩
     simp [hil] at hp
     simpa using hp
    rw [this, Bool.and_false]
   rw [this]; rfl
 ·obtain rfl : i = (o.getD []).length := by omega
  rw [List.take_length] at hpos
  cases hb : o.isSome with
  | false =>
   ((repeat' (first | refine stx ?_ | (refine stq ?_ ?_ <;> (intro hc; ((try simp at hc) <;> try contradiction))) | fail)) <;> try (exfalso; omega))
   refine fin_ret rfl w_3 (congrArg vB (by rw [bI, hb]; rfl)) rfl
  | true =>
   ((repeat' (first | refine stx ?_ | refine zqc (hgr _) ?_ | (refine stq ?_ ?_ <;> (intro hc; ((try simp at hc) <;> try contradiction))) | fail)) <;> try (exfalso; omega))
   refine fin_ret rfl w_3 (congrArg vB (by rw [bI, List.take_length, hb, hpos]; rfl)) rfl
end Go.Proofs.YtekpamojojfplaaGreat
namespace Go.Proofs.YtekpamojojfplaaGreat
open Go.RowKit
theorem d_atN (a b i j n cap : Nat) (xs : List Int) (hn : n = xs.length) (hx : xs.length = a * b) (ha : a ≤ 24) (hb : b ≤ 24) (hi : i < a) (hj : j < b) : Does Tryz.prog 55 [vM a b 1 n cap, vI i, vI j] [(1, .ro (.ints xs))] 2 (Ret (vI (xs.getD (i * b + j) 0)) 2) := by
  subst hn
  have hcell := cell_facts hi hj ha hb
  have hab : a * b ≤ 24 * 24 := Nat.mul_le_mul ha hb
  have h := d_at a b i j xs cap (by omega) (by omega) (by omega) (by omega)
  rwa [cell_nat] at h
def DidC (t tw : TypeId) (a b cx cu cv : Nat) (o : Option S3) (v : AV) (Hout : List (Nat × Blk)) (n1 : Nat) : Prop := v = .tup [] ∧ n1 = 8 ∧ match o with
  | some s => Hout = [(2, .own tw 1 (.lit (workL 6 4 7 a b (a * b) (a * b) cu (b * b) false))), (6, .own t (a * b) (.ints s.1)), (7, .own t (b * b) (.ints s.2.2))]
  | none => Hout = [(2, .own tw 1 (.lit (workL 6 4 7 a b (a * b) cx cu cv true)))]
def pA : Option (Nat × Nat) → Int
  | none => -1
  | some p => p.1
def pB : Option (Nat × Nat) → Int
  | none => -1
  | some p => p.2
end Go.Proofs.YtekpamojojfplaaGreat
namespace Go.Proofs.YtekpamojojfplaaGreat
open Go.RowKit
def LsB (t : TypeId) (zs : List Int) (ok : Bool) (k : Nat) (v : AV) (Hout : List (Nat × Blk)) (n1 : Nat) : Prop := ∃ cap, zs.length ≤ cap ∧ v = .tup [.one (.sl k 1 0 zs.length cap), .one (.bool ok)] ∧ Hout = [(k, .own t cap (.ints zs))] ∧ n1 = k + 1
def LsO (t : TypeId) (o : Option (List Int)) (k : Nat) (v : AV) (Hout : List (Nat × Blk)) (n1 : Nat) : Prop := match o with
  | none => LsB t [] false k v Hout n1
  | some zs => LsB t zs true k v Hout n1
theorem rt_bd {r : Nat} {n : Int} (h : (r : Int) ≤ 400000000) : 0 ≤ ((r : Int) + 1) * ((r : Int) + 1) ∧ ((r : Int) + 1) * ((r : Int) + 1) ≤ 160000001000000000 := by
  have h1 := Int.mul_le_mul_of_nonneg_left (show (r : Int) + 1 ≤ 400000001 by omega) (show (0 : Int) ≤ (r : Int) + 1 by omega)
  have h2 := Int.mul_nonneg (show (0 : Int) ≤ (r : Int) + 1 by omega) (show (0 : Int) ≤ (r : Int) + 1 by omega)
  omega
theorem d_rootI (n : Int) (hn : n ≤ 400000000) : Does Tryz.prog 137 [vI n] [] 1 (Ret (vI ((rootN n : Nat) : Int)) 1) := by
 refine Does.intro TT Tryz.func137 rfl (by kernel_rfl) Zz Zz fun E hE => ?_
 ((repeat' (first | refine stx ?_ | (refine stq ?_ ?_ <;> (intro hc; ((try simp at hc) <;> try contradiction))) | fail)) <;> try (exfalso; omega))
 refine w_G hE (fun r : Nat => r ≤ n.toNat ∧ rtTo n (n.toNat - r) r = rootN n) (fun r => n.toNat - r)
  (fun r => [(0, vI n), (3, vI r)]) (fun _ => []) 1 [] 0 ⟨Nat.zero_le _, rfl⟩ ⟨w_1, w_2, rfl⟩ ?_
 rintro r ⟨hr, hrt⟩
 have hb := rt_bd (r := r) (n := n) (by omega)
 by_cases h : ((r : Int) + 1) * ((r : Int) + 1) ≤ n
 ·have h1 := rt_in h
  have h2 := rt_next h
  have h3 : ¬ n < ((r : Int) + 1) * ((r : Int) + 1) := by omega
  ((repeat' (first | refine stx ?_ | (refine stq ?_ ?_ <;> (intro hc; ((try simp at hc) <;> try contradiction))) | fail)) <;> try (exfalso; omega))
  all_goals exact ⟨[], r + 1, ⟨by omega, by rw [← h2]; exact hrt⟩, by dsimp only; omega, ⟨w_1, w_2, rfl⟩⟩
 ·have h3 : n < ((r : Int) + 1) * ((r : Int) + 1) := by omega
  rw [← hrt, rt_stop h]
  ((repeat' (first | refine stx ?_ | (refine stq ?_ ?_ <;> (intro hc; ((try simp at hc) <;> try contradiction))) | fail)) <;> try (exfalso; omega))
  all_goals refine fin_ret rfl w_3 (rfl) rfl
theorem d_rootS (n : Int) (hn : n ≤ 400000000) : Does Tryz.prog 201 [vI n] [] 1 (Ret (vI ((rootN n : Nat) : Int)) 1) := by
 refine Does.intro TT Tryz.func201 rfl (by kernel_rfl) Zz Zz fun E hE => ?_
 ((repeat' (first | refine stx ?_ | (refine stq ?_ ?_ <;> (intro hc; ((try simp at hc) <;> try contradiction))) | fail)) <;> try (exfalso; omega))
 refine w_G hE (fun r : Nat => r ≤ n.toNat ∧ rtTo n (n.toNat - r) r = rootN n) (fun r => n.toNat - r)
  (fun r => [(0, vI n), (3, vI r)]) (fun _ => []) 1 [] 0 ⟨Nat.zero_le _, rfl⟩ ⟨w_1, w_2, rfl⟩ ?_
 rintro r ⟨hr, hrt⟩
 have hb := rt_bd (r := r) (n := n) (by omega)
 by_cases h : ((r : Int) + 1) * ((r : Int) + 1) ≤ n
 ·have h1 := rt_in h
  have h2 := rt_next h
  have h3 : ¬ n < ((r : Int) + 1) * ((r : Int) + 1) := by omega
  ((repeat' (first | refine stx ?_ | (refine stq ?_ ?_ <;> (intro hc; ((try simp at hc) <;> try contradiction))) | fail)) <;> try (exfalso; omega))
  all_goals exact ⟨[], r + 1, ⟨by omega, by rw [← h2]; exact hrt⟩, by dsimp only; omega, ⟨w_1, w_2, rfl⟩⟩
 ·have h3 : n < ((r : Int) + 1) * ((r : Int) + 1) := by omega
  rw [← hrt, rt_stop h]
  ((repeat' (first | refine stx ?_ | (refine stq ?_ ?_ <;> (intro hc; ((try simp at hc) <;> try contradiction))) | fail)) <;> try (exfalso; omega))
  all_goals refine fin_ret rfl w_3 (rfl) rfl
theorem boxG_no {r c : Int} {g : List Int} {b : Int} (h : adjZ r c g = none ∨ defB r c g = false ∨ inB b 0 10000 = false) : boxG r c g b = none := by
  unfold boxG
  rcases h with h | h | h
  · rw [h]; rfl
  · cases adjZ r c g <;> simp [h]
  · cases adjZ r c g <;> simp [h]
theorem adjZ_some {n : Nat} {g a : List Int} (h : adjZ n n g = some a) : a.length = n * n ∧ a.all numB = true := by
  unfold adjZ at h
  split at h
  · rename_i hc
    rw [Bool.and_eq_true, Int.toNat_natCast] at hc
    rw [Int.toNat_natCast] at h
    cases h
    exact ⟨turnM_len, trX_num hc.2⟩
  · cases h
theorem tdiv_bdR {x d : Int} (hx : -400000000 ≤ x ∧ x ≤ 400000000) : -400000000 ≤ x.tdiv d ∧ x.tdiv d ≤ 400000000 := by
  have := Int.natAbs_tdiv_le_natAbs x d
  omega
set_option maxRecDepth 100000 in
set_option maxHeartbeats 4000000 in
theorem d_boxOI (r c : Int) (g : List Int) (b : Int) (ca : Nat) (hl : g.length ≤ 1099511627776) (hca : g.length ≤ ca) : Does Tryz.prog 91 [vM r c 1 g.length ca, vI b] [(1, .ro (.ints g))] 2 (LsO 3 (boxG r c g b) 2) := by
 refine Does.intro TT Tryz.func91 rfl (by kernel_rfl) Zz Zz fun E hE => ?_
 have hadj := d_adjI r c g ca hl
 have hdet := d_detOfI r c g ca hl
 have hdef := d_defI r c g ca hl hca
 cases ha : adjZ r c g with
 | none =>
  rw [ha] at hadj
  rw [boxG_no (.inl ha)]
  cases hd : detB r c g
  all_goals rw [hd] at hdet
  all_goals ((repeat' (first | refine stx ?_ | ((refine zqe (hadj) ?_); rintro v Hout n1 ⟨rfl, rfl, rfl⟩) | refine zqc (hdet) ?_ | (refine stq ?_ ?_ <;> (intro hc; ((try simp at hc) <;> try contradiction))) | fail)) <;> try (exfalso; omega))
  all_goals exact fin rfl w_3 [(2, 4)] (.tup [.one (.sl 2 1 0 0 0), .one (.bool false)]) [(2, .own 3 0 (.ints []))] 3 ⟨0, Nat.zero_le _, rfl, rfl, rfl⟩ rfl ⟨trivial, ⟨rfl, trivial⟩, rfl⟩ rfl
 | some a =>
  rw [ha] at hadj
  cases hD : defB r c g with
  | false =>
   rw [hD] at hdef
   rw [boxG_no (.inr (.inl hD))]
   cases hd : detB r c g
   all_goals rw [hd] at hdet
   all_goals ((repeat' (first | refine stx ?_ | ((refine zqe (hadj) ?_); rintro v Hout n1 ⟨c1, hc1, rfl, rfl, rfl⟩) | refine zqc (hdet) ?_ | refine zqc (hdef) ?_ | (refine stq ?_ ?_ <;> (intro hc; ((try simp at hc) <;> try contradiction))) | fail)) <;> try (exfalso; omega))
   all_goals exact fin rfl w_3 [(2, 5)] (.tup [.one (.sl 2 1 0 0 0), .one (.bool false)]) [(2, .own 3 0 (.ints []))] 3 ⟨0, Nat.zero_le _, rfl, rfl, rfl⟩ rfl ⟨trivial, ⟨rfl, trivial⟩, rfl⟩ rfl
  | true =>
   rw [hD] at hdef
   obtain ⟨d, hd, hd0⟩ := defB_det hD
   rw [hd] at hdet
   cases hb : inB b 0 10000 with
   | false =>
    rw [boxG_no (.inr (.inr hb))]
    have hbb : b < 0 ∨ 10000 < b := by
     rcases Int.lt_or_le b 0 with h | h
     ·exact .inl h
     ·rcases Int.lt_or_le 10000 b with h' | h'
      ·exact .inr h'
      ·rw [inB_true.2 ⟨h, h'⟩] at hb; cases hb
    ((repeat' (first | refine stx ?_ | ((refine zqe (hadj) ?_); rintro v Hout n1 ⟨c1, hc1, rfl, rfl, rfl⟩) | refine zqc (hdet) ?_ | refine zqc (hdef) ?_ | (refine stq ?_ ?_ <;> (intro hc; ((try simp at hc) <;> try contradiction))) | fail)) <;> try (exfalso; omega))
    all_goals exact fin rfl w_3 [(2, 5)] (.tup [.one (.sl 2 1 0 0 0), .one (.bool false)]) [(2, .own 3 0 (.ints []))] 3 ⟨0, Nat.zero_le _, rfl, rfl, rfl⟩ rfl ⟨trivial, ⟨rfl, trivial⟩, rfl⟩ rfl
   | true =>
    have hbb := inB_true.1 hb
    obtain ⟨n, rfl, rfl, hn, hx, hnum, -, -, -⟩ := defB_all hD
    obtain ⟨ax, an⟩ := adjZ_some ha
    have hG : boxG n n g b = bxTo a n b d n := by rw [boxG, ha, Option.bind_some, hD, hb, hd]; simp
    rw [hG]
    have hb1 : ¬ b < 0 := by omega
    have hb2 : ¬ 10000 < b := by omega
    have hnn : n * n ≤ 36 := Nat.mul_le_mul hn hn
    ((repeat' (first | refine stx ?_ | ((refine zqe (hadj) ?_); rintro v Hout n1 ⟨c1, hc1, rfl, rfl, rfl⟩) | refine zqc (hdet) ?_ | refine zqc (hdef) ?_ | (refine stq ?_ ?_ <;> (intro hc; ((try simp at hc) <;> try contradiction))) | fail)) <;> try (exfalso; omega))
    refine w_G hE (fun x : Nat × List Int × Nat => x.1 ≤ n ∧ bxTo a n b d x.1 = some x.2.1 ∧ x.2.1.length ≤ x.2.2) (fun x => n - x.1)
     (fun x => [(1, vI b), (2, .one (.ptr 2 3 0 0)), (6, .one (.ptr 4 3 0 0)), (8, vI d), (10, .one (.sl 5 1 0 x.2.1.length x.2.2)), (11, vI x.1)])
     (fun x => [(1, .ro (.ints g)), (2, .own 26 1 (.lit [.int n, .int n, .sl 1 1 0 g.length ca])), (3, .own 3 c1 (.ints a)), (4, .own 26 1 (.lit [.int n, .int n, .sl 3 1 0 a.length c1])), (5, .own 3 x.2.2 (.ints x.2.1))]) 6 [] (0, [], 0) ⟨Nat.zero_le _, rfl, Nat.le_refl _⟩ ⟨w_1, w_2, rfl⟩ ?_
    rintro ⟨i, l, cl⟩ ⟨hi, hT, hcl⟩
    dsimp only at hi hT hcl ⊢
    have hll := bxTo_len hT
    by_cases hin : i < n
    ·have hin2 : ¬ n ≤ i := by omega
     have hat := d_atN n n i i a.length c1 a rfl ax (by omega) (by omega) hin hin
     have hav := num_getD an (i * n + i)
     have hpr := prod_num (a := b) (by omega) hav
     have hnu := d_numI (b * a.getD (i * n + i) 0)
     have hnx : bxTo a n b d (i + 1) = if numB (b * a.getD (i * n + i) 0) = true then some (l ++ [((rootN ((b * a.getD (i * n + i) 0).tdiv d) : Nat) : Int)]) else none := by rw [bxTo, hT]; rfl
     cases hN : numB (b * a.getD (i * n + i) 0) with
     | false =>
      rw [hN] at hnu hnx
      have hno : bxTo a n b d n = none := by
       have := bxTo_none (hnx.trans (if_neg (by simp))) (n - (i + 1))
       rwa [show i + 1 + (n - (i + 1)) = n by omega] at this
      rw [hno]
      ((repeat' (first | refine stx ?_ | refine zqc (hat) ?_ | refine zqc (hnu) ?_ | (refine stq ?_ ?_ <;> (intro hc; ((try simp at hc) <;> try contradiction))) | fail)) <;> try (exfalso; omega))
      all_goals exact fin rfl w_3 [(2, 6)] (.tup [.one (.sl 2 1 0 0 0), .one (.bool false)]) [(2, .own 3 0 (.ints []))] 3 ⟨0, Nat.zero_le _, rfl, rfl, rfl⟩ rfl ⟨trivial, ⟨rfl, trivial⟩, rfl⟩ rfl
     | true =>
      rw [hN] at hnu hnx
      rw [if_pos rfl] at hnx
      have hNb := numB_true.1 hN
      have htb := tdiv_bdR (d := d) hNb
      have hro := d_rootI ((b * a.getD (i * n + i) 0).tdiv d) (by omega)
      have hdne : d ≠ 0 := by omega
      ((repeat' (first | refine stx ?_ | refine zqc (hat) ?_ | refine zqc (hnu) ?_ | refine zqc (hro) ?_ | (refine zqx ?_; intro cap hcap) | (refine stq ?_ ?_ <;> (intro hc; ((try simp at hc) <;> try contradiction))) | fail)) <;> try (exfalso; omega))
      all_goals exact ⟨[(5, 7)], (i + 1, l ++ [((rootN ((b * a.getD (i * n + i) 0).tdiv d) : Nat) : Int)], cap), ⟨by dsimp only; omega, hnx, by simpa using hcap⟩, w_4, ⟨w_1, w_2, rfl⟩⟩
    ·obtain rfl : i = n := by omega
     rw [hT]
     ((repeat' (first | refine stx ?_ | (refine stq ?_ ?_ <;> (intro hc; ((try simp at hc) <;> try contradiction))) | fail)) <;> try (exfalso; omega))
     all_goals exact fin rfl w_3 [(2, 5)] (.tup [.one (.sl 2 1 0 l.length cl), .one (.bool true)]) [(2, .own 3 cl (.ints l))] 3 ⟨cl, hcl, rfl, rfl, rfl⟩ rfl ⟨trivial, ⟨rfl, trivial⟩, rfl⟩ rfl
set_option maxRecDepth 100000 in
set_option maxHeartbeats 4000000 in
theorem d_boxOS (r c : Int) (g : List Int) (b : Int) (ca : Nat) (hl : g.length ≤ 1099511627776) : Does Tryz.prog 167 [vM r c 1 g.length ca, vI b] [(1, .ro (.ints g))] 2 (LsO 3 (boxG r c g b) 2) := by
 refine Does.intro TT Tryz.func167 rfl (by kernel_rfl) Zz Zz fun E hE => ?_
 have hadj := d_adjS r c g ca hl
 have hdet := d_detOfS r c g ca hl
 have hdef := d_defS r c g ca hl
 have hinb := d_l1In b 0 10000
 cases ha : adjZ r c g with
 | none =>
  rw [ha] at hadj
  rw [boxG_no (.inl ha)]
  ((repeat' (first | refine stx ?_ | ((refine zqe (hadj) ?_); rintro v Hout n1 ⟨rfl, rfl, rfl⟩) | (refine stq ?_ ?_ <;> (intro hc; ((try simp at hc) <;> try contradiction))) | fail)) <;> try (exfalso; omega))
  all_goals exact fin rfl w_3 [(2, 4)] (.tup [.one (.sl 2 1 0 0 0), .one (.bool false)]) [(2, .own 3 0 (.ints []))] 3 ⟨0, Nat.zero_le _, rfl, rfl, rfl⟩ rfl ⟨trivial, ⟨rfl, trivial⟩, rfl⟩ rfl
 | some a =>
  rw [ha] at hadj
  cases hD : defB r c g with
  | false =>
   rw [hD] at hdef
   rw [boxG_no (.inr (.inl hD))]
   ((repeat' (first | refine stx ?_ | ((refine zqe (hadj) ?_); rintro v Hout n1 ⟨c1, hc1, rfl, rfl, rfl⟩) | refine zqc (hdef) ?_ | (refine stq ?_ ?_ <;> (intro hc; ((try simp at hc) <;> try contradiction))) | fail)) <;> try (exfalso; omega))
   all_goals exact fin rfl w_3 [(2, 5)] (.tup [.one (.sl 2 1 0 0 0), .one (.bool false)]) [(2, .own 3 0 (.ints []))] 3 ⟨0, Nat.zero_le _, rfl, rfl, rfl⟩ rfl ⟨trivial, ⟨rfl, trivial⟩, rfl⟩ rfl
  | true =>
   rw [hD] at hdef
   obtain ⟨d, hd, hd0⟩ := defB_det hD
   rw [hd] at hdet
   cases hb : inB b 0 10000 with
   | false =>
    rw [hb] at hinb
    rw [boxG_no (.inr (.inr hb))]
    ((repeat' (first | refine stx ?_ | ((refine zqe (hadj) ?_); rintro v Hout n1 ⟨c1, hc1, rfl, rfl, rfl⟩) | refine zqc (hinb) ?_ | refine zqc (hdef) ?_ | (refine stq ?_ ?_ <;> (intro hc; ((try simp at hc) <;> try contradiction))) | fail)) <;> try (exfalso; omega))
    all_goals exact fin rfl w_3 [(2, 5)] (.tup [.one (.sl 2 1 0 0 0), .one (.bool false)]) [(2, .own 3 0 (.ints []))] 3 ⟨0, Nat.zero_le _, rfl, rfl, rfl⟩ rfl ⟨trivial, ⟨rfl, trivial⟩, rfl⟩ rfl
   | true =>
    rw [hb] at hinb
    have hbb := inB_true.1 hb
    obtain ⟨n, rfl, rfl, hn, hx, hnum, -, -, -⟩ := defB_all hD
    obtain ⟨ax, an⟩ := adjZ_some ha
    have hG : boxG n n g b = bxTo a n b d n := by rw [boxG, ha, Option.bind_some, hD, hb, hd]; simp
    rw [hG]
    have hnn : n * n ≤ 36 := Nat.mul_le_mul hn hn
    ((repeat' (first | refine stx ?_ | ((refine zqe (hadj) ?_); rintro v Hout n1 ⟨c1, hc1, rfl, rfl, rfl⟩) | refine zqc (hdet) ?_ | refine zqc (hdef) ?_ | refine zqc (hinb) ?_ | (refine stq ?_ ?_ <;> (intro hc; ((try simp at hc) <;> try contradiction))) | fail)) <;> try (exfalso; omega))
    refine w_G hE (fun x : Nat × List Int × Nat => x.1 ≤ n ∧ bxTo a n b d x.1 = some x.2.1 ∧ x.2.1.length ≤ x.2.2) (fun x => n - x.1)
     (fun x => [(1, vI b), (2, .one (.ptr 2 3 0 0)), (6, .one (.ptr 4 3 0 0)), (8, vI d), (10, .one (.sl 5 1 0 x.2.1.length x.2.2)), (11, vI x.1)])
     (fun x => [(1, .ro (.ints g)), (2, .own 26 1 (.lit [.int n, .int n, .sl 1 1 0 g.length ca])), (3, .own 3 c1 (.ints a)), (4, .own 26 1 (.lit [.int n, .int n, .sl 3 1 0 a.length c1])), (5, .own 3 x.2.2 (.ints x.2.1))]) 6 [] (0, [], 0) ⟨Nat.zero_le _, rfl, Nat.le_refl _⟩ ⟨w_1, w_2, rfl⟩ ?_
    rintro ⟨i, l, cl⟩ ⟨hi, hT, hcl⟩
    dsimp only at hi hT hcl ⊢
    have hll := bxTo_len hT
    by_cases hin : i < n
    ·have hin2 : ¬ n ≤ i := by omega
     have hat := d_cellH n n i i a.length c1 a rfl ax (by omega) (by omega) hin hin
     have hav := num_getD an (i * n + i)
     have hpr := prod_num (a := b) (by omega) hav
     have hmu := d_mulV b (a.getD (i * n + i) 0) (.inl (by omega)) (.inl hav)
     have hmv : mulV b (a.getD (i * n + i) 0) = fitV (b * a.getD (i * n + i) 0) := by unfold mulV; rw [if_neg (by unfold badN; omega)]
     rw [hmv] at hmu
     have hnx : bxTo a n b d (i + 1) = if numB (b * a.getD (i * n + i) 0) = true then some (l ++ [((rootN ((b * a.getD (i * n + i) 0).tdiv d) : Nat) : Int)]) else none := by rw [bxTo, hT]; rfl
     cases hN : numB (b * a.getD (i * n + i) 0) with
     | false =>
      rw [show fitV (b * a.getD (i * n + i) 0) = badN by unfold fitV; rw [hN]; rfl] at hmu
      rw [hN] at hnx
      have hno : bxTo a n b d n = none := by
       have := bxTo_none (hnx.trans (if_neg (by simp))) (n - (i + 1))
       rwa [show i + 1 + (n - (i + 1)) = n by omega] at this
      rw [hno]
      rw [show badN = -4611686018427387904 from rfl] at hmu
      ((repeat' (first | refine stx ?_ | refine zqc (hat) ?_ | refine zqc (hmu) ?_ | (refine stq ?_ ?_ <;> (intro hc; ((try simp at hc) <;> try contradiction))) | fail)) <;> try (exfalso; omega))
      all_goals exact fin rfl w_3 [(2, 6)] (.tup [.one (.sl 2 1 0 0 0), .one (.bool false)]) [(2, .own 3 0 (.ints []))] 3 ⟨0, Nat.zero_le _, rfl, rfl, rfl⟩ rfl ⟨trivial, ⟨rfl, trivial⟩, rfl⟩ rfl
     | true =>
      rw [show fitV (b * a.getD (i * n + i) 0) = b * a.getD (i * n + i) 0 by unfold fitV; rw [hN]; rfl] at hmu
      rw [hN] at hnx
      rw [if_pos rfl] at hnx
      have hNb := numB_true.1 hN
      have htb := tdiv_bdR (d := d) hNb
      have hro := d_rootS ((b * a.getD (i * n + i) 0).tdiv d) (by omega)
      have hdne : d ≠ 0 := by omega
      have hnb : ¬ b * a.getD (i * n + i) 0 = -4611686018427387904 := by omega
      ((repeat' (first | refine stx ?_ | refine zqc (hat) ?_ | refine zqc (hmu) ?_ | refine zqc (hro) ?_ | (refine zqx ?_; intro cap hcap) | (refine stq ?_ ?_ <;> (intro hc; ((try simp at hc) <;> try contradiction))) | fail)) <;> try (exfalso; omega))
      all_goals exact ⟨[(5, 7)], (i + 1, l ++ [((rootN ((b * a.getD (i * n + i) 0).tdiv d) : Nat) : Int)], cap), ⟨by dsimp only; omega, hnx, by simpa using hcap⟩, w_4, ⟨w_1, w_2, rfl⟩⟩
    ·obtain rfl : i = n := by omega
     rw [hT]
     ((repeat' (first | refine stx ?_ | (refine stq ?_ ?_ <;> (intro hc; ((try simp at hc) <;> try contradiction))) | fail)) <;> try (exfalso; omega))
     all_goals exact fin rfl w_3 [(2, 5)] (.tup [.one (.sl 2 1 0 l.length cl), .one (.bool true)]) [(2, .own 3 cl (.ints l))] 3 ⟨cl, hcl, rfl, rfl, rfl⟩ rfl ⟨trivial, ⟨rfl, trivial⟩, rfl⟩ rfl
end Go.Proofs.YtekpamojojfplaaGreat
