/-
  TEXTS OF THE PROOF, put together: bDrawM, bDrawB, bDrawK, bSame.
-/
import Derived.Test.YtfkbjkmlpinoeaaGreatH37
import Derived.Test.YtfkbjkmlpinoeaaGreatH08
import Derived.Test.YtfkbjkmlpinoeaaGreatH11
set_option linter.unusedVariables false
set_option linter.unusedSimpArgs false
namespace Go.Proofs.YtfkbjkmlpinoeaaGreat
open Go.RowKit
theorem d_l1Num (bs : List Int) (c i : Nat) (h : Int) (m : Int) (hm : 0 ≤ m ∧ m ≤ 1000) (hl : bs.length ≤ 1048576) : Does Tryz.prog 114 [vC, vI m] [(1, .ro (.bytes bs)), (2, .own 90 1 (.lit (curL c bs.length i h)))] 3 (Drew 90 bs.length c fun r => -9223372036854775808 ≤ r ∧ r ≤ 9223372036854775807) := by
 refine Does.intro TT Tryz.func114 rfl (by kernel_rfl) Zz Zz fun E hE => ?_
 ((repeat' (first | refine stp ?_ | ((refine w_E (d_l1Once bs c _ _ 40 hl) Zz Zz Zz Zz Zz Zz Zz ft rfl ?_); rintro v Hout n1 ⟨b0, i0, h0, rfl, rfl, rfl⟩; cases b0) | ((refine w_E (d_l1Odd bs c _ _ hl) Zz Zz Zz Zz Zz Zz Zz ft rfl ?_); rintro v Hout n1 ⟨r1, i1, h1, hr1, rfl, rfl, rfl⟩) | ((refine w_E (d_l1Below bs c _ _ _ hl) Zz Zz Zz Zz Zz Zz Zz ft rfl ?_); rintro v Hout n1 ⟨r2, i2, h2, ⟨hr2, hr3⟩, rfl, rfl, rfl⟩; replace hr3 := hr3 (by omega)) | (refine stq ?_ ?_ <;> (intro hc; ((try simp at hc) <;> try contradiction))) | fail)) <;> try (exfalso; omega))
 all_goals exact fin rfl w_3 [] (vI _) [(2, .own 90 1 (.lit (curL c bs.length _ _)))] 3 ⟨_, _, _, (by first | assumption | omega), rfl, rfl, rfl⟩ rfl ⟨trivial, ⟨rfl, trivial⟩, rfl⟩ rfl
def DrewM (t tc : TypeId) (nb c : Nat) (k : Int) (v : AV) (Hout : List (Nat × Blk)) (n1 : Nat) : Prop :=
  ∃ (r : Int) (zs : List Int) (cap i : Nat) (h : Int), zs.length ≤ 1000 ∧ zs.length ≤ cap ∧ v = .agg [.int r, .int k, .sl 3 1 0 zs.length cap] ∧ Hout = [(2, .own tc 1 (.lit (curL c nb i h))), (3, .own t cap (.ints zs))] ∧ n1 = 4
def DrewD (t tc : TypeId) (nb c a b : Nat) (m : Int) (v : AV) (Hout : List (Nat × Blk)) (n1 : Nat) : Prop :=
  ∃ (zs : List Int) (i : Nat) (h : Int), zs.length = a * b ∧ (∀ p, -m ≤ zs.getD p 0 ∧ zs.getD p 0 ≤ m) ∧ v = .agg [.int a, .int b, .sl 3 1 0 (a * b) (a * b)] ∧ Hout = [(2, .own tc 1 (.lit (curL c nb i h))), (3, .own t (a * b) (.ints zs))] ∧ n1 = 4
set_option maxHeartbeats 2000000 in
theorem d_l3Draw (bs : List Int) (c i a b : Nat) (h m : Int) (ha : a ≤ 24) (hb : b ≤ 24) (hm : 0 ≤ m ∧ m ≤ 1000) (hl : bs.length ≤ 1048576) : Does Tryz.prog 91 [vC, vI a, vI b, vI m] [(1, .ro (.bytes bs)), (2, .own 90 1 (.lit (curL c bs.length i h)))] 3 (DrewD 3 90 bs.length c a b m) := by
 refine Does.intro TT Tryz.func91 rfl (by kernel_rfl) Zz Zz fun E hE => ?_
 have hab : a * b ≤ 24 * 24 := Nat.mul_le_mul ha hb
 ((repeat' (first | refine stx ?_ | (refine w_C (d_newS _ _ ha hb) Zz Zz Zz Zz Zz Zz Zz ft Zz Zz (NewM.out) ?_; rintro v b ⟨rfl, he, -⟩; cases he) | (refine stq ?_ ?_ <;> (intro hc; ((try simp at hc) <;> try contradiction))) | fail)) <;> try (exfalso; omega))
 refine w_G hE (fun x : Nat × List Int × Nat × Int => x.1 ≤ a * b ∧ x.2.1.length = a * b ∧ ∀ p, -m ≤ x.2.1.getD p 0 ∧ x.2.1.getD p 0 ≤ m) (fun x => a * b - x.1)
  (fun x => [(0, vC), (3, vI m), (8, .one (.ptr 3 3 0 0)), (9, .one (.ptr 5 3 0 0)), (10, vI x.1)]) (fun x => [(1, .ro (.bytes bs)), (2, .own 90 1 (.lit (curL c bs.length x.2.2.1 x.2.2.2))), (3, .own 26 1 (.lit zeroM)), (4, .own 3 (a * b) (.ints x.2.1)), (5, .own 26 1 (.lit [.int a, .int b, .sl 4 1 0 (a * b) (a * b)]))]) 6 [] (0, List.replicate (a * b) 0, i, h) ⟨Nat.zero_le _, List.length_replicate .., fun p => by
   rw [List.getD_eq_getElem?_getD, List.getElem?_replicate]
   split <;> (simp; omega)⟩ ⟨w_1, w_2, rfl⟩ ?_
 rintro ⟨k, zs, i1, h1⟩ ⟨hk, hz, hb⟩
 dsimp only at hk hz hb ⊢
 by_cases hkl : k < a * b
 ·((repeat' (first | refine stp ?_ | (refine stq ?_ ?_ <;> (intro hc; ((try simp at hc) <;> try contradiction))) | fail)) <;> try (exfalso; omega))
  refine awp_held TM [(5, _)] sb rfl (fun ρs => ?_)
  refine zt0 ?_
  refine zt1 ?_
  refine zt2 ?_
  refine zt3 ?_
  refine zt4 ?_
  refine zt5 ?_
  refine zt6 ?_
  refine zt8 ?_
  refine w_u [7] kr rfl ⟨?_, trivial⟩
  first | (refine zho ?_) | (refine w_F _ (d_l1Below bs c _ _ _ hl) Zz Zz Zz Zz Zz Zz Zz Zz ft Zz Zz ?_; rintro v Hout n1 ⟨r2, i2, h2, ⟨hr2, hr3⟩, rfl, rfl, rfl⟩; refine ⟨sb, ?_⟩; replace hr3 := hr3 (by omega))
  refine zt9 ?_
  refine zt10 ?_
  refine w_u [11] kr rfl ⟨?_, trivial⟩
  first | (refine zho ?_) | (refine w_F _ (d_l1Below bs c _ _ _ hl) Zz Zz Zz Zz Zz Zz Zz Zz ft Zz Zz ?_; rintro v Hout n1 ⟨r2, i2, h2, ⟨hr2, hr3⟩, rfl, rfl, rfl⟩; refine ⟨sb, ?_⟩; replace hr3 := hr3 (by omega))
  refine w_v kr ?_
  rotate_left
  all_goals ((repeat' (first | refine stp ?_ | (refine stq ?_ ?_ <;> (intro hc; ((try simp at hc) <;> try contradiction))) | fail)) <;> try (exfalso; omega))
  all_goals exact ⟨[], (k + 1, zs.set k (r2 - m), i2, h2), ⟨hkl, by dsimp only; rw [List.length_set]; exact hz, fun p => by
   dsimp only
   rw [List.getD_eq_getElem?_getD, List.getElem?_set]
   split
   ·split
    ·simp; omega
    ·simp; omega
   ·rw [← List.getD_eq_getElem?_getD]; exact hb p⟩, w_4, ⟨w_1, ⟨rfl, rfl, rfl, own_ints (by simp), rfl, trivial⟩, rfl⟩⟩
 ·obtain rfl : k = a * b := by omega
  ((repeat' (first | refine stx ?_ | (refine stq ?_ ?_ <;> (intro hc; ((try simp at hc) <;> try contradiction))) | fail)) <;> try (exfalso; omega))
  exact fin rfl w_3 [(3, 4)] (.agg [.int a, .int b, .sl 3 1 0 (a * b) (a * b)]) [(2, .own 90 1 (.lit (curL c bs.length i1 h1))), (3, .own 3 (a * b) (.ints zs))] 4 ⟨zs, i1, h1, hz, hb, rfl, rfl, rfl⟩ rfl ⟨trivial, ⟨rfl, rfl, trivial⟩, rfl⟩ rfl
def DrewV (t tc : TypeId) (nb c n : Nat) (v : AV) (Hout : List (Nat × Blk)) (n1 : Nat) : Prop :=
  ∃ (zs : List Int) (cap i : Nat) (h : Int), zs.length = n ∧ n ≤ cap ∧ (∀ p, -9223372036854775808 ≤ zs.getD p 0 ∧ zs.getD p 0 ≤ 9223372036854775807) ∧ v = vS 3 1 0 n cap ∧ Hout = [(2, .own tc 1 (.lit (curL c nb i h))), (3, .own t cap (.ints zs))] ∧ n1 = 4
set_option maxHeartbeats 2000000 in
theorem d_l18Vector (bs : List Int) (c i n : Nat) (h : Int) (hn : n ≤ 1000) (hl : bs.length ≤ 1048576) : Does Tryz.prog 69 [vC, vI n] [(1, .ro (.bytes bs)), (2, .own 90 1 (.lit (curL c bs.length i h)))] 3 (DrewV 3 90 bs.length c n) := by
 refine Does.intro TT Tryz.func69 rfl (by kernel_rfl) Zz Zz fun E hE => ?_
 ((repeat' (first | refine stx ?_ | (refine stq ?_ ?_ <;> (intro hc; ((try simp at hc) <;> try contradiction))) | fail)) <;> try (exfalso; omega))
 refine w_G hE (fun x : Nat × List Int × Nat × Nat × Int => x.1 ≤ n ∧ x.2.1.length = x.1 ∧ x.1 ≤ x.2.2.1 ∧ ∀ p, -9223372036854775808 ≤ x.2.1.getD p 0 ∧ x.2.1.getD p 0 ≤ 9223372036854775807) (fun x => n - x.1)
  (fun x => [(0, vC), (1, vI n), (5, vS 3 1 0 x.1 x.2.2.1), (6, vI x.1)]) (fun x => [(1, .ro (.bytes bs)), (2, .own 90 1 (.lit (curL c bs.length x.2.2.2.1 x.2.2.2.2))), (3, .own 3 x.2.2.1 (.ints x.2.1))]) 4 [] (0, [], 0, i, h) ⟨Nat.zero_le _, rfl, Nat.le_refl _, fun p => by simp⟩ ⟨w_1, w_2, rfl⟩ ?_
 rintro ⟨k, zs, cp, i1, h1⟩ ⟨hk, hz, hcp, hb⟩
 dsimp only at hk hz hcp hb ⊢
 by_cases hkl : k < n
 ·((repeat' (first | refine stx ?_ | ((refine w_E (d_l1Num bs c _ _ 5 (by omega) hl) Zz Zz Zz Zz Zz Zz Zz ft rfl ?_); rintro v Hout n1 ⟨r2, i2, h2, hr2, rfl, rfl, rfl⟩) | (refine w_x TT Zz Zz Zz Zz Zz sd ?_; intro cap hcap) | (refine stq ?_ ?_ <;> (intro hc; ((try simp at hc) <;> try contradiction))) | fail)) <;> try (exfalso; omega))
  all_goals exact ⟨[(3, 5)], (k + 1, zs ++ [r2], cap, i2, h2), ⟨hkl, by simp [hz], by dsimp only at *; omega, fun p => by
   dsimp only
   rw [List.getD_eq_getElem?_getD, List.getElem?_append]
   split
   ·rw [← List.getD_eq_getElem?_getD]; exact hb p
   ·rcases Nat.eq_zero_or_pos (p - zs.length) with e | e
    ·rw [e]; simpa using hr2
    ·rw [List.getElem?_eq_none (by simp; omega)]; simp⟩, w_4, ⟨w_1, ⟨rfl, rfl, own_ints (by simp), trivial⟩, rfl⟩⟩
 ·obtain rfl : k = n := by omega
  ((repeat' (first | refine stx ?_ | (refine stq ?_ ?_ <;> (intro hc; ((try simp at hc) <;> try contradiction))) | fail)) <;> try (exfalso; omega))
  exact fin rfl w_3 [] (vS 3 1 0 k cp) [(2, .own 90 1 (.lit (curL c bs.length i1 h1))), (3, .own 3 cp (.ints zs))] 4 ⟨zs, cp, i1, h1, hz, hcp, hb, rfl, rfl, rfl⟩ rfl ⟨trivial, ⟨rfl, rfl, trivial⟩, rfl⟩ rfl
def SpoilM (t tc : TypeId) (nb c : Nat) (k : Int) (v : AV) (Hout : List (Nat × Blk)) (n1 : Nat) : Prop :=
  ∃ (r : Int) (zs : List Int) (cap i : Nat) (h : Int), zs.length ≤ 1000 ∧ zs.length ≤ cap ∧ ((v = .agg [.int r, .int k, .sl 3 1 0 zs.length cap] ∧ Hout = [(2, .own tc 1 (.lit (curL c nb i h))), (3, .own t cap (.ints zs))] ∧ n1 = 4) ∨ (v = .agg [.int r, .int k, .sl 4 1 0 zs.length cap] ∧ Hout = [(2, .own tc 1 (.lit (curL c nb i h))), (4, .own t cap (.ints zs))] ∧ n1 = 5))
set_option maxHeartbeats 4000000 in
theorem d_l3Spoil (bs : List Int) (c i cap n : Nat) (h r k : Int) (xs : List Int) (hn : n = xs.length) (hr : 0 ≤ r ∧ r ≤ 1000) (hx : xs.length ≤ 900) (hcap : xs.length ≤ cap) (hl : bs.length ≤ 1048576) : Does Tryz.prog 93 [vC, vM r k 3 n cap] [(1, .ro (.bytes bs)), (2, .own 90 1 (.lit (curL c bs.length i h))), (3, .own 3 cap (.ints xs))] 4 (SpoilM 3 90 bs.length c k) := by
 subst hn
 refine Does.intro TT Tryz.func93 rfl (by kernel_rfl) Zz Zz fun E hE => ?_
 ((repeat' (first | refine stp ?_ | ((refine w_E (d_l1Below bs c _ _ 40 hl) Zz Zz Zz Zz Zz Zz Zz ft rfl ?_); rintro v Hout n1 ⟨r0, i0, h0, ⟨hr1, hr2⟩, rfl, rfl, rfl⟩; replace hr2 := hr2 (by omega)) | (refine stq ?_ ?_ <;> (intro hc; ((try simp at hc) <;> try contradiction))) | fail)) <;> try (exfalso; omega))
 ·subst hc
  ((repeat' (first | refine stp ?_ | ((refine w_E (d_l1PickInt bs c _ _ [-1, 0, 7, r + 1] 4 4 rfl (by decide) hl) Zz Zz Zz Zz Zz Zz Zz ft rfl ?_); rintro v Hout n1 ⟨r1, i1, h1, hm1, rfl, rfl, rfl⟩) | (refine stq ?_ ?_ <;> (intro hc; ((try simp at hc) <;> try contradiction))) | fail)) <;> try (exfalso; omega))
  all_goals exact fin rfl w_3 [] (.agg [.int r1, .int k, .sl 3 1 0 xs.length cap]) [(2, .own 90 1 (.lit (curL c bs.length i1 h1))), (3, .own 3 cap (.ints xs))] 4 ⟨r1, xs, cap, i1, h1, by omega, hcap, .inl ⟨rfl, rfl, rfl⟩⟩ rfl ⟨trivial, ⟨rfl, rfl, trivial⟩, rfl⟩ rfl
 ·refine awp_held TM [(4, _)] sb rfl (fun ρs => ?_)
  refine zt0 ?_
  refine zt1 ?_
  refine zt2 ?_
  refine w_u [3] kr rfl ⟨?_, trivial⟩
  first | (refine zho ?_) | (refine w_F _ (d_l1Odd bs c _ _ hl) Zz Zz Zz Zz Zz Zz Zz Zz ft Zz Zz ?_; rintro v Hout n1 ⟨r2, i2, h2, hr2', rfl, rfl, rfl⟩; refine ⟨sb, ?_⟩)
  refine zt4 ?_
  refine w_u [5] kr rfl ⟨?_, trivial⟩
  first | (refine zho ?_) | (refine w_F _ (d_l1Odd bs c _ _ hl) Zz Zz Zz Zz Zz Zz Zz Zz ft Zz Zz ?_; rintro v Hout n1 ⟨r2, i2, h2, hr2', rfl, rfl, rfl⟩; refine ⟨sb, ?_⟩)
  refine w_v kr ?_
  rotate_left
  all_goals ((repeat' (first | refine stp ?_ | (refine stq ?_ ?_ <;> (intro hc; ((try simp at hc) <;> try contradiction))) | fail)) <;> try (exfalso; omega))
  all_goals exact fin rfl w_3 [] (.agg [.int r, .int k, .sl 3 1 0 xs.length cap]) [(2, .own 90 1 (.lit (curL c bs.length i2 h2))), (3, .own 3 cap (.ints (xs.set (0 + Int.toNat 0) r2)))] 4 ⟨r, xs.set (0 + Int.toNat 0) r2, cap, i2, h2, by rw [List.length_set]; omega, by rw [List.length_set]; omega, .inl ⟨by rw [List.length_set], rfl, rfl⟩⟩ rfl ⟨trivial, ⟨rfl, rfl, trivial⟩, rfl⟩ rfl
 ·exact fin rfl w_3 [] (.agg [.int r, .int k, .sl 3 1 0 xs.length cap]) [(2, .own 90 1 (.lit (curL c bs.length i0 h0))), (3, .own 3 cap (.ints xs))] 4 ⟨r, xs, cap, i0, h0, by omega, hcap, .inl ⟨rfl, rfl, rfl⟩⟩ rfl ⟨trivial, ⟨rfl, rfl, trivial⟩, rfl⟩ rfl
 ·obtain ⟨cap0, hcap0⟩ : ∃ z, z = cap := ⟨_, rfl⟩
  ((repeat' (first | refine stp ?_ | (refine w_x TT Zz Zz Zz Zz Zz sd ?_; intro cap hcap) | (refine stq ?_ ?_ <;> (intro hc; ((try simp at hc) <;> try contradiction))) | fail)) <;> try (exfalso; omega))
  all_goals rename_i cap1 _
  all_goals exact fin rfl w_3 [(4, 7)] (.agg [.int r, .int k, .sl 4 1 0 (xs.length + 1) cap]) [(2, .own 90 1 (.lit (curL c bs.length i0 h0))), (4, .own 3 cap (.ints (xs ++ [1])))] 5 ⟨r, xs ++ [1], cap, i0, h0, by simp; omega, by simp; omega, .inr ⟨by simp, rfl, rfl⟩⟩ rfl ⟨trivial, ⟨rfl, own_ints (by simp), trivial⟩, rfl⟩ rfl
 ·exact fin rfl w_3 [] (.agg [.int r, .int k, .sl 3 1 0 xs.length cap]) [(2, .own 90 1 (.lit (curL c bs.length i0 h0))), (3, .own 3 cap (.ints xs))] 4 ⟨r, xs, cap, i0, h0, by omega, hcap, .inl ⟨rfl, rfl, rfl⟩⟩ rfl ⟨trivial, ⟨rfl, rfl, trivial⟩, rfl⟩ rfl
def DrewAdd (t : TypeId) (v : AV) (Hout : List (Nat × Blk)) (n1 : Nat) : Prop :=
  ∃ (k : Nat) (r : Int) (zs bs cs : List Int) (cap cb cc : Nat), k ≤ 3 ∧ zs.length ≤ 1000 ∧ bs.length = k ∧ cs.length = k ∧ zs.length ≤ cap ∧ bs.length ≤ cb ∧ cs.length ≤ cc ∧ (∀ p, -9223372036854775808 ≤ bs.getD p 0 ∧ bs.getD p 0 ≤ 9223372036854775807) ∧ (∀ p, -9223372036854775808 ≤ cs.getD p 0 ∧ cs.getD p 0 ≤ 9223372036854775807) ∧ v = .tup [.agg [.int r, .int k, .sl 2 1 0 zs.length cap], .one (.sl 3 1 0 bs.length cb), .one (.sl 4 1 0 cs.length cc)] ∧ Hout = [(2, .own t cap (.ints zs)), (3, .own t cb (.ints bs)), (4, .own t cc (.ints cs))] ∧ n1 = 5
end Go.Proofs.YtfkbjkmlpinoeaaGreat
namespace Go.Proofs.YtfkbjkmlpinoeaaGreat
open Go.RowKit
theorem row_inB {p r c : Nat} (h : p < r) : p * c + c ≤ r * c := by
  have := Nat.mul_le_mul_right c (show p + 1 ≤ r by omega)
  rw [Nat.add_mul, Nat.one_mul] at this; exact this
def DrewK (t tc : TypeId) (nb c : Nat) (v : AV) (Hout : List (Nat × Blk)) (n1 : Nat) : Prop := ∃ k : Nat, (1 ≤ k ∧ k ≤ 3) ∧ DrewM t tc nb c k v Hout n1
set_option maxHeartbeats 4000000 in
theorem d_l27Cone (bs : List Int) (c i : Nat) (h : Int) (hl : bs.length ≤ 1048576) : Does Tryz.prog 42 [vC] [(1, .ro (.bytes bs)), (2, .own 90 1 (.lit (curL c bs.length i h)))] 3 (DrewK 3 90 bs.length c) := by
 refine Does.intro TT Tryz.func42 rfl (by kernel_rfl) Zz Zz fun E hE => ?_
 ((repeat' (first | refine stp ?_ | ((refine w_E (d_l1Below bs c _ _ 3 hl) Zz Zz Zz Zz Zz Zz Zz ft rfl ?_); rintro v Hout n1 ⟨r0, i0, h0, ⟨hr1, hr2⟩, rfl, rfl, rfl⟩; replace hr2 := hr2 (by omega); obtain ⟨m0, rfl⟩ := Int.eq_ofNat_of_zero_le hr1) | ((refine w_E (d_l1Below bs c _ _ 4 hl) Zz Zz Zz Zz Zz Zz Zz ft rfl ?_); rintro v Hout n1 ⟨r1, i1, h1, ⟨hs1, hs2⟩, rfl, rfl, rfl⟩; replace hs2 := hs2 (by omega); obtain ⟨m1, rfl⟩ := Int.eq_ofNat_of_zero_le hs1; have hdr := fun i h => d_l3Draw bs c i (1 + m1) (1 + m0) h 2 (by omega) (by omega) (by omega) hl; rw [show ((1 + m1 : Nat) : Int) = 1 + (m1 : Int) by omega, show ((1 + m0 : Nat) : Int) = 1 + (m0 : Int) by omega] at hdr) | ((refine w_E (hdr _ _) Zz Zz Zz Zz Zz Zz Zz ft rfl ?_); rintro v Hout n1 ⟨zs, i2, h2, hz, hzb, rfl, rfl, rfl⟩) | (refine stq ?_ ?_ <;> (intro hc; ((try simp at hc) <;> try contradiction))) | fail)) <;> try (exfalso; omega))
 obtain ⟨a, ha⟩ : ∃ a, a = 1 + m1 := ⟨_, rfl⟩
 obtain ⟨n, hn⟩ : ∃ n, n = 1 + m0 := ⟨_, rfl⟩
 have hnI : 1 + (m0 : Int) = n := by omega
 rw [← ha, ← hn] at hz ⊢
 rw [hnI]
 refine w_G hE (fun x : Nat × List Int × Nat × Int => x.1 ≤ a ∧ x.2.1.length = a * n ∧ ∀ p, -(2 + (x.1 : Int)) ≤ x.2.1.getD p 0 ∧ x.2.1.getD p 0 ≤ 2 + (x.1 : Int)) (fun x => a - x.1)
  (fun x => [(0, vC), (2, .one (.ptr 3 3 0 0)), (3, vI n), (4, .one (.ptr 5 3 0 0)), (5, vI x.1)]) (fun x => [(1, .ro (.bytes bs)), (2, .own 90 1 (.lit (curL c bs.length x.2.2.1 x.2.2.2))), (3, .own 26 1 (.lit zeroM)), (4, .own 3 (a * n) (.ints x.2.1)), (5, .own 26 1 (.lit [.int a, .int n, .sl 4 1 0 (a * n) (a * n)]))]) 6 [] (0, zs, i2, h2) ⟨Nat.zero_le _, hz, fun p => by have := hzb p; dsimp only; omega⟩ ⟨w_1, w_2, rfl⟩ ?_
 rintro ⟨k, ws, i3, h3⟩ ⟨hk, hw, hwb⟩
 dsimp only at hk hw hwb ⊢
 have han : a * n ≤ 4 * 3 := Nat.mul_le_mul (by omega) (by omega)
 have hsp := fun i h => d_l3Spoil bs c i (a * n) (a * n) h a n ws hw.symm (by omega) (by omega) (by omega) hl
 have ek : (k : Int) * n = ((k * n : Nat) : Int) := by simp
 by_cases hka : k < a
 ·have hkn := row_inB (c := n) hka
  have hv := hwb (0 + ((k : Int) * n).toNat)
  ((repeat' (first | refine stp ?_ | ((refine w_E (d_l1Once bs c _ _ 2 hl) Zz Zz Zz Zz Zz Zz Zz ft rfl ?_); rintro v Hout n1 ⟨b0, i4, h4, rfl, rfl, rfl⟩; cases b0) | ((refine w_E (hsp _ _) Zz Zz Zz Zz Zz Zz Zz ft rfl ?_); rintro v Hout n1 ⟨r5, zs5, cap5, i5, h5, hz5, hc5, hd5⟩; rcases hd5 with ⟨rfl, rfl, rfl⟩ | ⟨rfl, rfl, rfl⟩) | (refine stq ?_ ?_ <;> (intro hc; ((try simp at hc) <;> try contradiction))) | fail)) <;> try (exfalso; omega))
  ·exact fin rfl w_3 [(3, 4)] (.agg [.int r5, .int n, .sl 3 1 0 zs5.length cap5]) [(2, .own 90 1 (.lit (curL c bs.length i5 h5))), (3, .own 3 cap5 (.ints zs5))] 4 ⟨n, by omega, r5, zs5, cap5, i5, h5, hz5, hc5, rfl, rfl, rfl⟩ rfl ⟨trivial, ⟨rfl, rfl, trivial⟩, rfl⟩ rfl
  ·exact fin rfl w_3 [(3, 6)] (.agg [.int r5, .int n, .sl 3 1 0 zs5.length cap5]) [(2, .own 90 1 (.lit (curL c bs.length i5 h5))), (3, .own 3 cap5 (.ints zs5))] 4 ⟨n, by omega, r5, zs5, cap5, i5, h5, hz5, hc5, rfl, rfl, rfl⟩ rfl ⟨trivial, ⟨rfl, rfl, trivial⟩, rfl⟩ rfl
  ·refine awp_held TM [(5, _)] sb rfl (fun ρs => ?_)
   refine zt0 ?_
   refine zt1 ?_
   refine zt2 ?_
   refine zt3 ?_
   refine zt4 ?_
   refine zt5 ?_
   refine zt6 ?_
   refine zt7 ?_
   refine zt8 ?_
   refine zt9 ?_
   refine zt10 ?_
   refine w_u [11] kr rfl ⟨?_, trivial⟩
   first | (refine zho ?_) | refine w_B _ (d_l1Abs _ (by omega) (by omega)) Zz Zz Zz Zz Zz Zz Zz Zz Zz ft Zz Zz sb rfl ?_
   refine w_u [12] kr rfl ⟨?_, trivial⟩
   first | (refine zho ?_) | refine w_B _ (d_l1Abs _ (by omega) (by omega)) Zz Zz Zz Zz Zz Zz Zz Zz Zz ft Zz Zz sb rfl ?_
   refine zt13 ?_
   refine zt14 ?_
   refine w_u [15] kr rfl ⟨?_, trivial⟩
   first | (refine zho ?_) | refine w_B _ (d_l1Abs _ (by omega) (by omega)) Zz Zz Zz Zz Zz Zz Zz Zz Zz ft Zz Zz sb rfl ?_
   refine w_v kr ?_
   rotate_left
   all_goals ((repeat' (first | refine stp ?_ | (refine stq ?_ ?_ <;> (intro hc; ((try simp at hc) <;> try contradiction))) | fail)) <;> try (exfalso; omega))
   all_goals exact ⟨[], (k + 1, _, i4, h4), ⟨hka, by dsimp only; rw [List.length_set]; exact hw, fun p => by
    dsimp only
    have hp := hwb p
    rw [List.getD_eq_getElem?_getD, List.getElem?_set]
    split
    ·split
     ·simp only [Option.getD_some]; omega
     ·simp only [Option.getD_none]; omega
    ·rw [← List.getD_eq_getElem?_getD]; omega⟩, w_4, ⟨w_1, ⟨rfl, rfl, rfl, own_ints rfl, rfl, trivial⟩, rfl⟩⟩
 ·obtain rfl : k = a := by omega
  ((repeat' (first | refine stp ?_ | ((refine w_E (hsp _ _) Zz Zz Zz Zz Zz Zz Zz ft rfl ?_); rintro v Hout n1 ⟨r5, zs5, cap5, i5, h5, hz5, hc5, hd5⟩; rcases hd5 with ⟨rfl, rfl, rfl⟩ | ⟨rfl, rfl, rfl⟩) | (refine stq ?_ ?_ <;> (intro hc; ((try simp at hc) <;> try contradiction))) | fail)) <;> try (exfalso; omega))
  ·exact fin rfl w_3 [(3, 4)] (.agg [.int r5, .int n, .sl 3 1 0 zs5.length cap5]) [(2, .own 90 1 (.lit (curL c bs.length i5 h5))), (3, .own 3 cap5 (.ints zs5))] 4 ⟨n, by omega, r5, zs5, cap5, i5, h5, hz5, hc5, rfl, rfl, rfl⟩ rfl ⟨trivial, ⟨rfl, rfl, trivial⟩, rfl⟩ rfl
  ·exact fin rfl w_3 [(3, 6)] (.agg [.int r5, .int n, .sl 3 1 0 zs5.length cap5]) [(2, .own 90 1 (.lit (curL c bs.length i5 h5))), (3, .own 3 cap5 (.ints zs5))] 4 ⟨n, by omega, r5, zs5, cap5, i5, h5, hz5, hc5, rfl, rfl, rfl⟩ rfl ⟨trivial, ⟨rfl, rfl, trivial⟩, rfl⟩ rfl
def DrewBd (t tc : TypeId) (nb c : Nat) (v : AV) (Hout : List (Nat × Blk)) (n1 : Nat) : Prop :=
  ∃ (k : Nat) (r : Int) (zs bs : List Int) (cap cb i : Nat) (h : Int), (1 ≤ k ∧ k ≤ 3) ∧ zs.length ≤ 1000 ∧ zs.length ≤ cap ∧ bs.length ≤ 40 ∧ bs.length ≤ cb ∧ v = .tup [.agg [.int r, .int k, .sl 3 1 0 zs.length cap], .one (.sl 4 1 0 bs.length cb)] ∧ Hout = [(2, .own tc 1 (.lit (curL c nb i h))), (3, .own t cap (.ints zs)), (4, .own t cb (.ints bs))] ∧ n1 = 5
def DrewBest (t : TypeId) (v : AV) (Hout : List (Nat × Blk)) (n1 : Nat) : Prop :=
  ∃ (k : Nat) (r s : Int) (zs bs cs : List Int) (cap cb cc : Nat), (1 ≤ k ∧ k ≤ 3) ∧ zs.length ≤ 1000 ∧ bs.length ≤ 40 ∧ cs.length = k ∧ zs.length ≤ cap ∧ bs.length ≤ cb ∧ cs.length ≤ cc ∧ (0 ≤ s ∧ s < 4) ∧ v = .tup [.agg [.int r, .int k, .sl 2 1 0 zs.length cap], .one (.sl 3 1 0 bs.length cb), .one (.sl 4 1 0 cs.length cc), .one (.int s)] ∧ Hout = [(2, .own t cap (.ints zs)), (3, .own t cb (.ints bs)), (4, .own t cc (.ints cs))] ∧ n1 = 5
end Go.Proofs.YtfkbjkmlpinoeaaGreat
namespace Go.Proofs.YtfkbjkmlpinoeaaGreat
open Go.RowKit
def DrewMul (t : TypeId) (v : AV) (Hout : List (Nat × Blk)) (n1 : Nat) : Prop :=
  ∃ (k : Nat) (r : Int) (zs cs : List Int) (cap cc : Nat), (1 ≤ k ∧ k ≤ 3) ∧ zs.length ≤ 1000 ∧ cs.length = k ∧ zs.length ≤ cap ∧ cs.length ≤ cc ∧ v = .tup [.agg [.int r, .int k, .sl 2 1 0 zs.length cap], .one (.sl 3 1 0 cs.length cc)] ∧ Hout = [(2, .own t cap (.ints zs)), (3, .own t cc (.ints cs))] ∧ n1 = 4
set_option maxHeartbeats 4000000 in
theorem d_drawMul (bs : List Int) (c : Nat) (hl : bs.length ≤ 1048576) : Does Tryz.prog 21 [vS 1 1 0 bs.length c] [(1, .ro (.bytes bs))] 2 (DrewMul 3) := by
 refine Does.intro TT Tryz.func21 rfl (by kernel_rfl) Zz Zz fun E hE => ?_
 ((repeat' (first | refine stp ?_ | ((refine w_E (d_l1New bs c hl) Zz Zz Zz Zz Zz Zz Zz ft rfl ?_); rintro v Hout n1 ⟨i0, h0, rfl, rfl, rfl⟩) | ((refine w_E (d_l27Cone bs c _ _ hl) Zz Zz Zz Zz Zz Zz Zz ft rfl ?_); rintro v Hout n1 ⟨k, hk, r, zs, capz, i1, h1, hz, hcapz, rfl, rfl, rfl⟩) | (refine stq ?_ ?_ <;> (intro hc; ((try simp at hc) <;> try contradiction))) | fail)) <;> try (exfalso; omega))
 refine awp_held TM [(5, _)] sb rfl (fun ρs => ?_)
 refine zt0 ?_
 refine zt1 ?_
 refine zt2 ?_
 refine zt3 ?_
 refine w_u [4] kr rfl ⟨?_, trivial⟩
 first | (refine zho ?_) | (refine w_F _ (d_l18Vector bs c _ k _ (by omega) hl) Zz Zz Zz Zz Zz Zz Zz Zz ft Zz Zz ?_; rintro v Hout n1 ⟨cs, cc, i3, h3, hcl, hcc, hcb, rfl, rfl, rfl⟩; refine ⟨sb, ?_⟩)
 refine w_u [5] kr rfl ⟨?_, trivial⟩
 first | (refine zho ?_) | (refine w_F _ (d_l18Vector bs c _ k _ (by omega) hl) Zz Zz Zz Zz Zz Zz Zz Zz ft Zz Zz ?_; rintro v Hout n1 ⟨cs, cc, i3, h3, hcl, hcc, hcb, rfl, rfl, rfl⟩; refine ⟨sb, ?_⟩)
 refine zt6 ?_
 refine w_v kr ?_
 rotate_left
 all_goals ((repeat' (first | refine stp ?_ | (refine stq ?_ ?_ <;> (intro hc; ((try simp at hc) <;> try contradiction))) | fail)) <;> try (exfalso; omega))
 all_goals
  subst hcl
  exact fin rfl w_3 [(2, 4), (3, 6)] (.tup [.agg [.int r, .int cs.length, .sl 2 1 0 zs.length capz], .one (.sl 3 1 0 cs.length cc)]) [(2, .own 3 capz (.ints zs)), (3, .own 3 cc (.ints cs))] 4 ⟨_, r, zs, cs, capz, cc, hk, hz, rfl, hcapz, hcc, rfl, rfl, rfl⟩ rfl ⟨trivial, ⟨rfl, rfl, trivial⟩, rfl⟩ rfl
def DrewRay (t : TypeId) (v : AV) (Hout : List (Nat × Blk)) (n1 : Nat) : Prop :=
  ∃ (k : Nat) (r : Int) (zs : List Int) (cap : Nat), (1 ≤ k ∧ k ≤ 3) ∧ zs.length ≤ 1000 ∧ zs.length ≤ cap ∧ v = .agg [.int r, .int k, .sl 2 1 0 zs.length cap] ∧ Hout = [(2, .own t cap (.ints zs))] ∧ n1 = 3
end Go.Proofs.YtfkbjkmlpinoeaaGreat
namespace Go.Proofs.YtfkbjkmlpinoeaaGreat
open Go.RowKit
theorem d_sameI (xs ys : List Int) (c d : Nat) (hl : xs.length ≤ 1099511627776) (hl' : ys.length ≤ 1099511627776) : Does Tryz.prog 25 [vS 1 1 0 xs.length c, vS 2 1 0 ys.length d] [(1, .ro (.ints xs)), (2, .ro (.ints ys))] 3 (Ret (vB (decide (xs = ys))) 3) := by
 refine Does.intro TT Tryz.func25 rfl (by kernel_rfl) Zz Zz fun E hE => ?_
 (repeat' (first | refine stx ?_ | (refine stq ?_ ?_ <;> (intro hc; ((try simp at hc) <;> try contradiction))) | fail))
 ·refine fin_ret rfl w_3 (congrArg vB ?_) rfl
  symm; apply decide_eq_false; intro e; subst e; exact hc rfl
 ·refine w_G hE (fun k : Nat => k ≤ xs.length ∧ xs.take k = ys.take k) (fun k => xs.length - k)
   (fun k => [(0, vS 1 1 0 xs.length c), (1, vS 2 1 0 ys.length d), (5, vI k)]) (fun _ => [(1, .ro (.ints xs)), (2, .ro (.ints ys))]) 3 [] 0 ⟨Nat.zero_le _, rfl⟩ ⟨w_1, w_2, rfl⟩ ?_
  rintro k ⟨h1, h2⟩
  (repeat' (first | refine stx ?_ | (refine stq ?_ ?_ <;> (intro hc; ((try simp at hc) <;> try contradiction))) | fail))
  ·refine fin_ret rfl w_3 (congrArg vB ?_) rfl
   symm; apply decide_eq_false; intro e; subst e; exact hc rfl
  ·have hk : k < ys.length := by omega
   refine ⟨[], k + 1, ⟨by omega, ?_⟩, w_4, ⟨w_1, w_2, rfl⟩⟩
   rw [gD (by assumption), gD hk] at hc
   rw [List.take_succ_eq_append_getElem (by assumption), List.take_succ_eq_append_getElem hk, h2, hc]
  ·refine fin_ret rfl w_3 (congrArg vB ?_) rfl
   rw [List.take_of_length_le (by omega), List.take_of_length_le (by omega)] at h2
   simp [h2]
end Go.Proofs.YtfkbjkmlpinoeaaGreat
