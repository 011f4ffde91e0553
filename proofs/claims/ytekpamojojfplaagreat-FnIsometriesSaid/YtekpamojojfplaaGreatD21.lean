/-
  TEXTS OF THE PROOF, put together: bUniM, Law, bLaw, bLawB, Am12, Am13, Am14, Lay2.
-/
import Derived.Test.YtekpamojojfplaaGreatD20
import Derived.Test.YtekpamojojfplaaGreatD09
import Derived.Test.YtekpamojojfplaaGreatD14
import Derived.Test.YtekpamojojfplaaGreatRows
import Derived.Test.YtekpamojojfplaaGreatD07
import Derived.ProofKit
import Derived.Lib.SmallJoins
import Derived.OpenShut
import Derived.Test.YtekpamojojfplaaGreatD08
import Derived.Test.YtekpamojojfplaaGreatD12
import Derived.Shelf.SlSortCmp.WholeK
import Derived.Test.YtekpamojojfplaaGreatProg
set_option linter.unusedVariables false
set_option linter.unusedSimpArgs false
namespace Go.Proofs.YtekpamojojfplaaGreat
open Go.RowKit
theorem prodAB {a b : Int} (A B : Int) (h1 : -A ≤ a) (h2 : a ≤ A) (h3 : -B ≤ b) (h4 : b ≤ B) : -(A * B) ≤ a * b ∧ a * b ≤ A * B := mul_bd h1 h2 h3 h4
theorem d_l1MulB (a b : Int) (ha : -100000 ≤ a ∧ a ≤ 100000) (hb : -10 ≤ b ∧ b ≤ 10) : Does Tryz.prog 145 [vI a, vI b] [] 1 (Ret (vI (a * b)) 1) := by
 have h := prodAB (a := a) (b := b) 100000 10 ha.1 ha.2 hb.1 hb.2
 refine Does.intro TT Tryz.func145 rfl (by kernel_rfl) Zz Zz fun E hE => ?_
 ((repeat' (first | refine stx ?_ | (first | refine w_z (d_fitY _ (numB_true.2 (by omega))) Zz Zz Zz Zz Zz Zz Zz Zz ft Zz Zz ?_ | refine w_A (d_fitY _ (numB_true.2 (by omega))) Zz Zz Zz Zz Zz Zz Zz Zz ft Zz Zz ?_) | (refine stq ?_ ?_ <;> (intro hc; ((try simp at hc) <;> try contradiction))) | fail)) <;> try (exfalso; omega))
 refine fin_ret rfl w_3 (rfl) rfl
theorem d_l1AddB (a b : Int) (ha : -100000000 ≤ a ∧ a ≤ 100000000) (hb : -100000000 ≤ b ∧ b ≤ 100000000) : Does Tryz.prog 146 [vI a, vI b] [] 1 (Ret (vI (a + b)) 1) := by
 refine Does.intro TT Tryz.func146 rfl (by kernel_rfl) Zz Zz fun E hE => ?_
 ((repeat' (first | refine stx ?_ | (first | refine w_z (d_fitY _ (numB_true.2 (by omega))) Zz Zz Zz Zz Zz Zz Zz Zz ft Zz Zz ?_ | refine w_A (d_fitY _ (numB_true.2 (by omega))) Zz Zz Zz Zz Zz Zz Zz Zz ft Zz Zz ?_) | (refine stq ?_ ?_ <;> (intro hc; ((try simp at hc) <;> try contradiction))) | fail)) <;> try (exfalso; omega))
 refine fin_ret rfl w_3 (rfl) rfl
def BC (xs : List Int) (c k : Nat) (B : Int) : Prop := ∀ p : Nat, (p % c < k → -(3 * B) ≤ xs.getD p 0 ∧ xs.getD p 0 ≤ 3 * B) ∧ (k ≤ p % c → -B ≤ xs.getD p 0 ∧ xs.getD p 0 ≤ B)
theorem set_getD {xs : List Int} {q p : Nat} {v : Int} : (xs.set q v).getD p 0 = if q = p ∧ p < xs.length then v else xs.getD p 0 := by
  simp only [List.getD_eq_getElem?_getD, List.getElem?_set]
  by_cases c : q = p
  · subst c
    by_cases h : q < xs.length
    · simp [h]
    · simp [h]
  · simp [c]
theorem BC.set {xs : List Int} {c k q : Nat} {v B : Int} (h : BC xs c k B) (hq : q % c = k) (hB : 0 ≤ B) (hv : -(3 * B) ≤ v ∧ v ≤ 3 * B) : ∀ p : Nat, (p % c < k + 1 → -(3 * B) ≤ (xs.set q v).getD p 0 ∧ (xs.set q v).getD p 0 ≤ 3 * B) ∧ (k + 1 ≤ p % c → -B ≤ (xs.set q v).getD p 0 ∧ (xs.set q v).getD p 0 ≤ B) := fun p => by
  rw [set_getD]
  obtain ⟨h1, h2⟩ := h p
  split
  · rename_i e
    refine ⟨fun _ => hv, fun h3 => ?_⟩
    rw [← e.1, hq] at h3; omega
  · refine ⟨fun h3 => ?_, fun h3 => h2 (by omega)⟩
    rcases Nat.lt_or_ge (p % c) k with q | q
    · exact h1 q
    · have := h2 q; omega
theorem BC.set2 {xs : List Int} {c k q : Nat} {v B : Int} (h : ∀ p : Nat, (p % c < k + 1 → -(3 * B) ≤ xs.getD p 0 ∧ xs.getD p 0 ≤ 3 * B) ∧ (k + 1 ≤ p % c → -B ≤ xs.getD p 0 ∧ xs.getD p 0 ≤ B)) (hq : q % c = k) (hv : -(3 * B) ≤ v ∧ v ≤ 3 * B) : BC (xs.set q v) c (k + 1) B := fun p => by
  rw [set_getD]
  obtain ⟨h1, h2⟩ := h p
  split
  · rename_i e
    refine ⟨fun _ => hv, fun h3 => ?_⟩
    rw [← e.1, hq] at h3; omega
  · exact ⟨h1, h2⟩
theorem cell_natU {p k c : Nat} : 0 + ((p : Int) * c + k).toNat = p * c + k := by
  have e : ((p : Int) * c + k) = ((p * c + k : Nat) : Int) := by simp
  rw [e]; omega
theorem col_idx {p k c : Nat} (h : k < c) : (p * c + k) % c = k := by
  rw [Nat.mul_comm, Nat.mul_add_mod, Nat.mod_eq_of_lt h]
def Bnd (xs : List Int) (B : Int) : Prop := ∀ p : Nat, -B ≤ xs.getD p 0 ∧ xs.getD p 0 ≤ B
theorem BC.zero {xs : List Int} {c : Nat} {B : Int} (h : Bnd xs B) : BC xs c 0 B := fun p => ⟨fun q => by omega, fun _ => h p⟩
theorem BC.full {xs : List Int} {c : Nat} {B : Int} (hc : 0 < c) (h : BC xs c c B) : Bnd xs (3 * B) := fun p => (h p).1 (Nat.mod_lt _ hc)
def DidB (t : TypeId) (cap n : Nat) (B : Int) (v : AV) (Hout : List (Nat × Blk)) (n1 : Nat) : Prop := ∃ ys : List Int, ys.length = n ∧ Bnd ys B ∧ SetM t cap ys v Hout n1
set_option maxHeartbeats 4000000 in
theorem d_l5DoB (n p t cap ca m : Nat) (kind tm B : Int) (xs : List Int) (hm : m = xs.length) (hn : n ≤ 24) (hp : p < n) (ht : t < n) (hx : xs.length = n * n) (hb : Bnd xs B) (hB0 : 0 ≤ B) (hB : B ≤ 1000) (htm : -2 ≤ tm ∧ tm ≤ 2) :
    Does Tryz.prog 109 [vM n n 1 m ca, .agg [.int kind, .int p, .int t, .int tm]] [(1, .own 3 cap (.ints xs))] 2 (DidB 3 cap (n * n) (3 * B)) := by
  subst hm
  refine Does.intro TT Tryz.func109 rfl (by kernel_rfl) Zz Zz fun E hE => ?_
  ((repeat' (first | refine stx ?_ | (refine stq ?_ ?_ <;> (intro hc; ((try simp at hc) <;> try contradiction))) | fail)) <;> try (exfalso; omega))
  refine w_G hE (fun p : Nat × List Int => p.1 ≤ n ∧ p.2.length = n * n ∧ BC p.2 n p.1 B) (fun p => n - p.1)
    (fun q => [(2, .one (.ptr 2 3 0 0)), (3, .one (.ptr 3 4 0 0)), (4, vI q.1)]) (fun q => [(1, .own 3 cap (.ints q.2)), (2, .own 26 1 (.lit [.int n, .int n, .sl 1 1 0 xs.length ca])), (3, .own 74 1 (.lit [.int kind, .int p, .int t, .int tm]))]) 4 [] (0, xs) ⟨Nat.zero_le _, hx, BC.zero hb⟩ ⟨w_1, w_2, rfl⟩ ?_
  rintro ⟨k, zs⟩ ⟨hk, hz, hbc⟩
  dsimp only at hk hz hbc ⊢
  by_cases hkc : k < n
  · have b1 := cell_facts hp hkc hn hn
    have b2 := cell_facts ht hkc hn hn
    have e1 := cell_natU (p := p) (k := k) (c := n)
    have e2 := cell_natU (p := t) (k := k) (c := n)
    have c1 := col_idx (p := p) hkc
    have c2 := col_idx (p := t) hkc
    rw [← e1] at c1
    rw [← e2] at c2
    have v1 := (hbc (0 + ((p : Int) * n + k).toNat)).2 (by omega)
    have v2 := (hbc (0 + ((t : Int) * n + k).toNat)).2 (by omega)
    have v3 := prodAB (b := tm) B 2 v2.1 v2.2 htm.1 htm.2
    by_cases hk0 : kind = 0
    · subst hk0
      ((repeat' (first | refine stx ?_ | (refine stq ?_ ?_ <;> (intro hc; ((try simp at hc) <;> try contradiction))) | fail)) <;> try (exfalso; omega))
      all_goals exact ⟨[], (k + 1, _), ⟨by dsimp only; omega, by dsimp only; simp only [List.length_set]; exact hz, by refine BC.set2 (BC.set hbc c1 hB0 ?_) c2 ?_ <;> omega⟩, w_4, ⟨w_1, ⟨own_ints rfl, rfl, rfl, trivial⟩, rfl⟩⟩
    by_cases hk1 : kind = 1
    · subst hk1
      ((repeat' (first | refine stp ?_ | (refine stq ?_ ?_ <;> (intro hc; ((try simp at hc) <;> try contradiction))) | fail)) <;> try (exfalso; omega))
      refine awp_held TM [(2, _), (3, _)] sb rfl (fun ρs => ?_)
      refine zt0 ?_
      refine zt1 ?_
      refine zt2 ?_
      refine zt3 ?_
      refine zt4 ?_
      refine zt5 ?_
      refine zt6 ?_
      refine zt7 ?_
      refine zt8 ?_
      refine zt9 ?_
      refine w_u [10] kr rfl ⟨?_, trivial⟩
      first | (refine zho ?_) | refine w_B _ (d_l1MulB _ _ (by omega) (by omega)) Zz Zz Zz Zz Zz Zz Zz Zz Zz ft Zz Zz sb rfl ?_
      refine zt11 ?_
      refine w_u [12] kr rfl ⟨?_, trivial⟩
      first | (refine zho ?_) | refine w_B _ (d_l1MulB _ _ (by omega) (by omega)) Zz Zz Zz Zz Zz Zz Zz Zz Zz ft Zz Zz sb rfl ?_
      refine w_v kr ?_
      rotate_left
      all_goals ((repeat' (first | refine stp ?_ | (refine stq ?_ ?_ <;> (intro hc; ((try simp at hc) <;> try contradiction))) | fail)) <;> try (exfalso; omega))
      all_goals exact ⟨[], (k + 1, _), ⟨by dsimp only; omega, by dsimp only; simp only [List.length_set]; exact hz, by refine BC.set hbc c1 hB0 ?_; omega⟩, w_4, ⟨w_1, ⟨own_ints rfl, rfl, rfl, trivial⟩, rfl⟩⟩
    · ((repeat' (first | refine stp ?_ | (refine stq ?_ ?_ <;> (intro hc; ((try simp at hc) <;> try contradiction))) | fail)) <;> try (exfalso; omega))
      refine awp_held TM [(2, _), (3, _)] sb rfl (fun ρs => ?_)
      refine zt0 ?_
      refine zt1 ?_
      refine zt2 ?_
      refine zt3 ?_
      refine zt4 ?_
      refine zt5 ?_
      refine zt6 ?_
      refine zt7 ?_
      refine zt8 ?_
      refine zt9 ?_
      refine zt10 ?_
      refine zt11 ?_
      refine zt12 ?_
      refine w_u [13] kr rfl ⟨?_, trivial⟩
      first | (refine zho ?_) | refine w_B _ (d_l1MulB _ _ (by omega) (by omega)) Zz Zz Zz Zz Zz Zz Zz Zz Zz ft Zz Zz sb rfl ?_ | refine w_B _ (d_l1AddB _ _ (by omega) (by omega)) Zz Zz Zz Zz Zz Zz Zz Zz Zz ft Zz Zz sb rfl ?_
      refine w_u [14] kr rfl ⟨?_, trivial⟩
      first | (refine zho ?_) | refine w_B _ (d_l1MulB _ _ (by omega) (by omega)) Zz Zz Zz Zz Zz Zz Zz Zz Zz ft Zz Zz sb rfl ?_ | refine w_B _ (d_l1AddB _ _ (by omega) (by omega)) Zz Zz Zz Zz Zz Zz Zz Zz Zz ft Zz Zz sb rfl ?_
      refine zt15 ?_
      refine w_u [16] kr rfl ⟨?_, trivial⟩
      first | (refine zho ?_) | refine w_B _ (d_l1MulB _ _ (by omega) (by omega)) Zz Zz Zz Zz Zz Zz Zz Zz Zz ft Zz Zz sb rfl ?_ | refine w_B _ (d_l1AddB _ _ (by omega) (by omega)) Zz Zz Zz Zz Zz Zz Zz Zz Zz ft Zz Zz sb rfl ?_
      refine w_v kr ?_
      rotate_left
      all_goals ((repeat' (first | refine stp ?_ | (refine stq ?_ ?_ <;> (intro hc; ((try simp at hc) <;> try contradiction))) | fail)) <;> try (exfalso; omega))
      all_goals exact ⟨[], (k + 1, _), ⟨by dsimp only; omega, by dsimp only; simp only [List.length_set]; exact hz, by refine BC.set hbc c1 hB0 ?_; omega⟩, w_4, ⟨w_1, ⟨own_ints rfl, rfl, rfl, trivial⟩, rfl⟩⟩
  · obtain rfl : k = n := by omega
    ((repeat' (first | refine stx ?_ | (refine stq ?_ ?_ <;> (intro hc; ((try simp at hc) <;> try contradiction))) | fail)) <;> try (exfalso; omega))
    exact fin_n rfl w_3 [] (.tup []) [(1, .own 3 cap (.ints zs))] 2 ⟨zs, hz, BC.full (by omega) hbc, rfl, rfl, rfl⟩ rfl ⟨trivial, ⟨rfl, trivial⟩, rfl⟩ rfl
theorem idOut_nat {n : Nat} (hn : n ≤ 24) {t : TypeId} : IdOut n t = fun v Hout n1 => v = .tup [.agg [.int n, .int n, .sl 1 1 0 (n * n) (n * n)], .one (.bool true)] ∧ Hout = [(1, .own t (n * n) (.ints (idTo n n)))] ∧ n1 = 2 := by
  funext v Hout n1
  unfold IdOut
  rw [inB_true.2 (by omega)]
  simp
theorem id_bnd {n i : Nat} : Bnd (idTo n i) 1 := fun p => by
  rw [List.getD_eq_getElem?_getD]
  rcases Nat.lt_or_ge p (idTo n i).length with h | h
  · rw [List.getElem?_eq_getElem h]
    simp only [idTo, List.getElem_map, Option.getD_some]
    split <;> omega
  · rw [List.getElem?_eq_none h]; simp
theorem Bnd.mono {xs : List Int} {A B : Int} (h : Bnd xs A) (hAB : A ≤ B) : Bnd xs B := fun p => by have := h p; omega
def DrewU (t tc : TypeId) (nb c n : Nat) (v : AV) (Hout : List (Nat × Blk)) (n1 : Nat) : Prop :=
  ∃ (xs : List Int) (i : Nat) (h : Int), xs.length = n * n ∧ Bnd xs 243 ∧ v = .agg [.int n, .int n, .sl 3 1 0 (n * n) (n * n)] ∧ Hout = [(2, .own tc 1 (.lit (curL c nb i h))), (3, .own t (n * n) (.ints xs))] ∧ n1 = 4
def p3 : Nat → Int
  | 0 => 243
  | 1 => 81
  | 2 => 27
  | 3 => 9
  | 4 => 3
  | _ => 1
theorem p3_step {k : Nat} (h : k + 1 ≤ 5) : 3 * p3 (k + 1) = p3 k ∧ 0 ≤ p3 (k + 1) ∧ p3 (k + 1) ≤ 1000 := by
  match k, h with
  | 0, _ => decide
  | 1, _ => decide
  | 2, _ => decide
  | 3, _ => decide
  | 4, _ => decide
theorem p3_le (k : Nat) : 1 ≤ p3 k ∧ p3 k ≤ 243 := by
  unfold p3; split <;> omega
set_option maxHeartbeats 4000000 in
theorem d_uni (bs : List Int) (c i n : Nat) (h : Int) (hl : bs.length ≤ 1048576) (hn : n ≤ 24) : Does Tryz.prog 85 [vC, vI n] [(1, .ro (.bytes bs)), (2, .own 112 1 (.lit (curL c bs.length i h)))] 3 (DrewU 3 112 bs.length c n) := by
 have hid := d_identS n
 rw [idOut_nat hn] at hid
 refine Does.intro TT Tryz.func85 rfl (by kernel_rfl) Zz Zz fun E hE => ?_
 ((repeat' (first | refine stx ?_ | ((refine zqe (hid) ?_); rintro v Hout n1 ⟨rfl, rfl, rfl⟩) | ((refine zqe (d_l1Below bs c _ _ _ hl) ?_); rintro v Hout n1 ⟨r0, i0, h0, ⟨hr1, hr2⟩, rfl, rfl, rfl⟩; replace hr2 := hr2 (by decide)) | (refine stq ?_ ?_ <;> (intro hc; ((try simp at hc) <;> try contradiction))) | fail)) <;> try (exfalso; omega))
 obtain ⟨k0, rfl⟩ := Int.eq_ofNat_of_zero_le hr1
 refine w_G hE (fun p : Nat × List Int × Nat × Int => p.1 ≤ 5 ∧ p.2.1.length = n * n ∧ Bnd p.2.1 (p3 p.1)) (fun p => p.1)
  (fun p => [(0, vC), (1, vI n), (4, .one (.ptr 3 3 0 0)), (5, .one (.ptr 5 3 0 0)), (7, vI p.1)])
  (fun p => [(1, .ro (.bytes bs)), (2, .own 112 1 (.lit (curL c bs.length p.2.2.1 p.2.2.2))), (3, .own 26 1 (.lit zeroM)), (4, .own 3 (n * n) (.ints p.2.1)), (5, .own 26 1 (.lit [.int n, .int n, .sl 4 1 0 (n * n) (n * n)]))]) 6 [] (k0, idTo n n, i0, h0) ⟨by dsimp only; omega, by simp, id_bnd.mono (p3_le _).1⟩ ⟨w_1, w_2, rfl⟩ ?_
 rintro ⟨k, zs, i1, h1⟩ ⟨q1, q2, q3⟩
 dsimp only at q1 q2 q3 ⊢
 by_cases hgo : 0 < k ∧ 1 < n
 ·obtain ⟨hk, hn1⟩ := hgo
  obtain ⟨k, rfl⟩ : ∃ j, k = j + 1 := ⟨k - 1, by omega⟩
  obtain ⟨s1, s2, s3⟩ := p3_step (k := k) (by omega)
  ((repeat' (first | refine stp ?_ | (refine stq ?_ ?_ <;> (intro hc; ((try simp at hc) <;> try contradiction))) | fail)) <;> try (exfalso; omega))
  (refine zqe (d_l1Below bs c _ _ _ hl) ?_)
  rintro v Hout n1 ⟨r1, i2, h2, ⟨a1, a2⟩, rfl, rfl, rfl⟩
  replace a2 := a2 (by omega)
  obtain ⟨p, rfl⟩ := Int.eq_ofNat_of_zero_le a1
  ((repeat' (first | refine stp ?_ | (refine stq ?_ ?_ <;> (intro hc; ((try simp at hc) <;> try contradiction))) | fail)) <;> try (exfalso; omega))
  (refine zqe (d_l1Below bs c _ _ _ hl) ?_)
  rintro v Hout n1 ⟨kd, i3, h3, ⟨b1, b2⟩, rfl, rfl, rfl⟩
  replace b2 := b2 (by decide)
  ((repeat' (first | refine stp ?_ | (refine stq ?_ ?_ <;> (intro hc; ((try simp at hc) <;> try contradiction))) | fail)) <;> try (exfalso; omega))
  (refine zqe (d_l1Below bs c _ _ _ hl) ?_)
  rintro v Hout n1 ⟨r3, i4, h4, ⟨e1, e2⟩, rfl, rfl, rfl⟩
  replace e2 := e2 (by omega)
  obtain ⟨t1, t2⟩ := tmod_in' (x := (p : Int) + 1 + r3) (n := (n : Int)) (by omega)
  replace t2 := t2 (by omega)
  obtain ⟨t, ht⟩ := Int.eq_ofNat_of_zero_le t1
  rw [ht] at t2
  by_cases hk1 : kd = 1
  ·subst hk1
   ((repeat' (first | refine stp ?_ | (refine stq ?_ ?_ <;> (intro hc; ((try simp at hc) <;> try contradiction))) | fail)) <;> try (exfalso; omega))
   (refine w_E (d_l5DoB n p p (n * n) (n * n) (n * n) _ 0 (p3 (k + 1)) zs q2.symm hn (by omega) (by omega) q2 q3 s2 s3 (by omega)) Zz Zz Zz Zz Zz Zz Zz ft rfl ?_)
   rintro v Hout n1 ⟨ys, y1, y2, rfl, rfl, rfl⟩
   rw [s1] at y2
   ((repeat' (first | refine stp ?_ | (refine stq ?_ ?_ <;> (intro hc; ((try simp at hc) <;> try contradiction))) | fail)) <;> try (exfalso; omega))
   exact ⟨[], (k, ys, _, _), ⟨by dsimp only; omega, y1, y2⟩, w_4, ⟨w_1, w_2, rfl⟩⟩
  by_cases hk2 : kd = 2
  ·subst hk2
   ((repeat' (first | refine stp ?_ | (refine stq ?_ ?_ <;> (intro hc; ((try simp at hc) <;> try contradiction))) | fail)) <;> try (exfalso; omega))
   (refine zqe (d_l1Below bs c _ _ _ hl) ?_)
   rintro v Hout n1 ⟨r5, i5, h5, ⟨f1, f2⟩, rfl, rfl, rfl⟩
   replace f2 := f2 (by decide)
   rw [ht]
   ((repeat' (first | refine stp ?_ | (refine stq ?_ ?_ <;> (intro hc; ((try simp at hc) <;> try contradiction))) | fail)) <;> try (exfalso; omega))
   (refine w_E (d_l5DoB n p t (n * n) (n * n) (n * n) _ (r5 - 2) (p3 (k + 1)) zs q2.symm hn (by omega) (by omega) q2 q3 s2 s3 (by omega)) Zz Zz Zz Zz Zz Zz Zz ft rfl ?_)
   rintro v Hout n1 ⟨ys, y1, y2, rfl, rfl, rfl⟩
   rw [s1] at y2
   ((repeat' (first | refine stp ?_ | (refine stq ?_ ?_ <;> (intro hc; ((try simp at hc) <;> try contradiction))) | fail)) <;> try (exfalso; omega))
   exact ⟨[], (k, ys, _, _), ⟨by dsimp only; omega, y1, y2⟩, w_4, ⟨w_1, w_2, rfl⟩⟩
  ·((repeat' (first | refine stp ?_ | (refine stq ?_ ?_ <;> (intro hc; ((try simp at hc) <;> try contradiction))) | fail)) <;> try (exfalso; omega))
   rw [ht]
   (refine w_E (d_l5DoB n p t (n * n) (n * n) (n * n) _ 0 (p3 (k + 1)) zs q2.symm hn (by omega) (by omega) q2 q3 s2 s3 (by omega)) Zz Zz Zz Zz Zz Zz Zz ft rfl ?_)
   rintro v Hout n1 ⟨ys, y1, y2, rfl, rfl, rfl⟩
   rw [s1] at y2
   ((repeat' (first | refine stp ?_ | (refine stq ?_ ?_ <;> (intro hc; ((try simp at hc) <;> try contradiction))) | fail)) <;> try (exfalso; omega))
   exact ⟨[], (k, ys, _, _), ⟨by dsimp only; omega, y1, y2⟩, w_4, ⟨w_1, w_2, rfl⟩⟩
 ·((repeat' (first | refine stx ?_ | (refine stq ?_ ?_ <;> (intro hc; ((try simp at hc) <;> try contradiction))) | fail)) <;> try (exfalso; omega))
  all_goals exact fin rfl w_3 [(3, 4)] (.agg [.int n, .int n, .sl 3 1 0 (n * n) (n * n)]) [(2, .own 112 1 (.lit (curL c bs.length i1 h1))), (3, .own 3 (n * n) (.ints zs))] 4 ⟨zs, i1, h1, q2, q3.mono (p3_le _).2, rfl, rfl, rfl⟩ rfl ⟨trivial, ⟨rfl, rfl, trivial⟩, rfl⟩ rfl
end Go.Proofs.YtekpamojojfplaaGreat
namespace Go.Proofs.YtekpamojojfplaaGreat
open Go.ChangeShapes Go.WideShapes Go.ChangeAt Go.RowKit Go.Joins
theorem Tryz.own : ownKnob Tryz.prog.godebug = none := by kernel_rfl
theorem Tryz.laidOut : laidOutB Tryz.prog = true := by kernel_rfl
theorem trodAll_below {H : Type} {enc : TypeId × Value → H} {P : Program} (hl : laidOutB P = true) {W W' : World} (hb : Below W.heap.size W W') :
    ∀ {ts : List TypeId} {vs : List Value} {ds : List (DataW H)} {ps : List MemPlace}, (∀ t ∈ ts, P.readableRec t = true ∧ t < P.types.size) →
      DataW.TrodAll enc P W 0 (fun _ => true) true ts vs ds ps → (∀ x ∈ ps, x.block < W.heap.size) → DataW.TrodAll enc P W' 0 (fun b => decide (b < W.heap.size)) true ts vs ds ps
  | [], vs, ds, ps, _, h, _ => by
    obtain ⟨rfl, rfl, rfl⟩ := trodAll_nil h
    exact trodAll_mk0
  | t :: ts, vs, ds, ps, ht, h, hlt => by
    obtain ⟨v, vs', d, ds', p, q, rfl, rfl, rfl, hd, hr⟩ := trodAll_cons h
    exact trodAll_cons_mk (Below.trod hl (ht t (by simp)).1 (ht t (by simp)).2 hd hb (fun x hx => hlt x (by simp [hx])))
      (trodAll_below hl hb (fun u hu => ht u (by simp [hu])) hr (fun x hx => hlt x (by simp [hx])))
theorem law_post {H : Type} {enc : TypeId × Value → H} {P : Program} (hl : laidOutB P = true) {f : Func} {s : ChangeSpec} {tb : TypeId} (hres : f.resultTypes = #[tb]) (hT : P.underlying tb = some .bool)
    (hp : ∀ t ∈ f.params.toList, P.readableRec t = true ∧ t < P.types.size) {W W' : World} {args : Array Value} {ds gs : List (DataW H)} {before : List MemPlace}
    (hvars : s.vars = []) (hW : DataW.Whole enc P f.params.toList s.vars false W args.toList ds gs before) (hfn : s.fn H (ds ++ gs) = { results := [.lit (.bool true)], args := ds }) (hb : Below W.heap.size W W') :
    s.post enc P f false true false false W args (.bool true) W' := by
  have hW0 := hW
  obtain ⟨p, q, hA, hV, hpq, hz, hn⟩ := hW
  have hlt : ∀ x ∈ p, x.block < W.heap.size := fun x hx => hW0.lt x (by rw [hpq]; simp [hx])
  refine ⟨ds, gs, before, [], p, [], hW0, ?_, ?_, ?_, hb.frame _, fun h => by cases h⟩
  · rw [hfn, hres]
    exact trodAll_mk1 (shut_bool hT true)
  · rw [hfn]
    exact trodAll_below hl hb hp hA hlt
  · rw [hfn, hvars]
    rfl
theorem wf_i64 {n : Int} (h : (Lit.int .i64 n).wf = true) : -9223372036854775808 ≤ n ∧ n ≤ 9223372036854775807 := by
  simp [Lit.wf, IntKind.min, IntKind.max, IntKind.signed, IntKind.bits] at h
  exact ⟨by omega, by omega⟩
set_option maxRecDepth 100000 in
theorem open_RI {H : Type} {enc : TypeId × Value → H} {w : World} {fuel : Nat} {cs : List Value} {x : DataW H × List MemPlace}
    (h : DataW.trod enc Tryz.prog w 0 (fun _ => true) true fuel 24 cs = some x) :
    ∃ (A : Option Addr) (c : Nat) (xs : List Int), cs = [.slice A xs.length c] ∧ xs.length ≤ 9223372036854775807 ∧ RI w A xs ∧ ∀ n ∈ xs, -9223372036854775808 ≤ n ∧ n ≤ 9223372036854775807 := by
  rcases open_ints Tryz.underlying24 Tryz.underlying3 (by kernel_rfl) h with ⟨rfl, _⟩ | ⟨a, len, cap, zs, rfl, _, hl, hm, hz, _, hc, hw⟩
  · exact ⟨none, 0, [], rfl, by simp, RI.nil, by simp⟩
  · simp only [if_true] at hz
    have hm' : cap ≤ 9223372036854775807 := by simpa [maxLen] using hm
    refine ⟨some a, cap, zs.take len, by simp; omega, by simp; omega, fun h0 => ?_, fun n hn => wf_i64 (hw n (List.mem_of_mem_take hn))⟩
    have hlen : len ≤ zs.length := by omega
    obtain ⟨b, off, rfl, hc'⟩ := ints_at hc (by simp at h0; omega)
    refine ⟨b, off, rfl, World.block_lt_of_cell? w ⟨b, off + 0, none⟩ (hc' 0 (by simp at h0; omega)), fun k hk => ?_⟩
    have hk' : k < zs.length := by simp at hk; omega
    rw [hc' k hk']
    simp [hk']
end Go.Proofs.YtekpamojojfplaaGreat
namespace Go.Proofs.YtekpamojojfplaaGreat
open Go.ChangeShapes Go.WideShapes Go.ChangeAt Go.RowKit Go.Joins
def plainB : Blk → Bool
  | .ro e => !e.flag
  | .dead => true
  | _ => false
theorem Elts.flag_rds {e : Elts} (h : e.flag = false) : e.rds = [] := by
  cases e with
  | rows q f l => simp only [Elts.flag] at h; subst h; rfl
  | vals f l => simp only [Elts.flag] at h; subst h; rfl
  | mats f l => simp only [Elts.flag] at h; subst h; rfl
  | _ => rfl
theorem plainB_sound {b : Blk} (h : plainB b = true) : b.isOwn = false ∧ b.isAl = false ∧ b.rds = [] ∧ ∀ g, ¬ b.Far g := by
  cases b with
  | dead => exact ⟨rfl, rfl, rfl, fun g ⟨x, hx, _⟩ => by cases hx⟩
  | ro e =>
    simp only [plainB, Bool.not_eq_true'] at h
    have h0 := Elts.flag_rds h
    exact ⟨rfl, rfl, h0, fun g ⟨x, hx, _⟩ => by have : x ∈ e.rds := hx
                                                rw [h0] at this; cases this⟩
  | _ => cases h
def roIn (Hin : List (Nat × Blk)) (n0 : Nat) : Bool := Hin.all fun p => Nat.blt p.1 n0 && plainB p.2 && p.2.keys.all fun k => Nat.blt k n0
def BlksOK (ρ : Rho) (w : World) : List (Nat × Blk) → Prop
  | [] => True
  | p :: r => BlkOK ρ p.1 w p.2 ∧ BlksOK ρ w r
theorem BlksOK.at_ {ρ : Rho} {w : World} : ∀ {l : List (Nat × Blk)}, BlksOK ρ w l → ∀ p ∈ l, BlkOK ρ p.1 w p.2
  | p :: r, h, q, hq => by
    rcases List.mem_cons.1 hq with rfl | hq
    · exact h.1
    · exact BlksOK.at_ h.2 q hq
theorem Does.gives {f : FuncId} {args : List AV} {Hin : List (Nat × Blk)} {n0 n : Nat} {v : AV} (h : Does Tryz.prog f args Hin n0 (Ret v n)) (ρ : Rho) (w : World) (h0 : ρ 0 = none) (hpos : 0 < n0) (hin : roIn Hin n0 = true)
    (hb : BlksOK ρ w Hin) (ha : leB n0 (args.flatMap AV.keys) = true) (hv : v.keys = []) : Gives Tryz.prog f (args.map (AV.conc ρ)).toArray w (v.conc ρ) := by
  have hk : ∀ {k b}, lk Hin k = some b → k < n0 ∧ b.isOwn = false ∧ (∀ k' ∈ b.keys, k' < n0) ∧ b.rds = [] ∧ ∀ g, ¬ b.Far g := fun hl => by
    have := List.all_eq_true.1 hin _ (lk_mem hl)
    simp only [Bool.and_eq_true, Bool.not_eq_true', List.all_eq_true] at this
    obtain ⟨f1, _, f2, f3⟩ := plainB_sound this.1.2
    exact ⟨nblt this.1.1, f1, fun k' hk' => nblt (this.2 k' hk'), f2, f3⟩
  have ha' := leB_sound ha
  refine Gives.of_below (Calls.mono (h.calls ρ w ⟨h0, fun k b hl => hb.at_ _ (lk_mem hl), fun k b hl => ⟨(hk hl).1, (hk hl).2.2.1⟩, fun k k' b b' p p' hl _ ho => ?_, fun k b p hl _ _ hge => ?_, fun k b hl ho => ?_, ⟨rfl, rfl, rfl, Nat.le_refl _, fun _ _ _ _ => rfl⟩, fun _ _ => rfl, Nat.le_refl _, hpos, fun k b hl x hx => ?_, fun k k' b b' p g hl _ ho => ?_, fun k k' t t' q q' l l' hl => ?_, fun k t q l hl => ?_, fun k k' t q l e p hl => ?_⟩
    (fun u hu k hk' => ha' k (List.mem_flatMap.2 ⟨u, hu, hk'⟩))) ?_)
  · rw [(hk hl).2.1] at ho; cases ho
  · have := (hk hl).1
    exact absurd hge (by simpa [envOf] using this)
  · rw [(hk hl).2.1] at ho; cases ho
  · rw [(hk hl).2.2.2.1] at hx; cases hx
  · rw [(hk hl).2.1] at ho; cases ho
  · cases (hk hl).2.1
  · cases (hk hl).2.1
  · cases (hk hl).2.1
  · rintro e w' ⟨ρ', v', Hout, n1, ⟨rfl, rfl, rfl⟩, rfl, hH, _⟩
    refine ⟨congrArg _ (AV.conc_congr fun k hk' => by rw [hv] at hk'; cases hk'), hH.keeps.os, hH.keeps.tape, hH.keeps.output, hH.keeps.size, fun b hlt => hH.keeps.block b hlt (fun k p _ ho _ => ?_) fun ⟨k, t, q, l, hl, _⟩ => ?_⟩
    · obtain ⟨b', hl, ho⟩ := ho
      rw [(hk hl).2.1] at ho; cases ho
    · cases (hk hl).2.1
def rhoOf (l : List (Nat × Option Addr)) : Rho := fun k => match lk l k with
  | some (some a) => some (a.block, a.off)
  | _ => none
def SlOK (A : Option Addr) : Prop := ∀ a, A = some a → a.spot = none
theorem rhoOf_adr {l : List (Nat × Option Addr)} {k : Nat} {A : Option Addr} (hA : SlOK A) (h : lk l k = some A) : adr (rhoOf l) k 0 = A := by
  cases A with
  | none => simp [adr, rhoOf, h]
  | some a =>
    have := hA a rfl
    cases a
    simp at this
    subst this
    simp [adr, rhoOf, h]
theorem RI.blk {l : List (Nat × Option Addr)} {k : Nat} {A : Option Addr} {w : World} {xs : List Int} (hR : RI w A xs) (h : lk l k = some A) : BlkOK (rhoOf l) k w (.ro (.ints xs)) := by
  cases A with
  | none =>
    have : ¬0 < xs.length := fun h => by obtain ⟨b, off, e, _⟩ := hR h; cases e
    have hρ : rhoOf l k = none := by simp [rhoOf, h]
    simp only [BlkOK, hρ, Elts.len]
    omega
  | some a =>
    have hρ : rhoOf l k = some (a.block, a.off) := by simp [rhoOf, h]
    simp only [BlkOK, hρ]
    refine ⟨fun hl => ?_, fun j u hu => ?_⟩
    · obtain ⟨b, off, e, hb, _⟩ := hR hl
      cases e; exact hb
    · simp only [Elts.all, List.getElem?_map, Option.map_eq_some_iff] at hu
      obtain ⟨n, hn, rfl⟩ := hu
      obtain ⟨hj, rfl⟩ := List.getElem?_eq_some_iff.1 hn
      obtain ⟨b, off, e, _, hc⟩ := hR (by omega)
      cases e; exact hc j hj
theorem okWide_spot {P : Program} {w : World} {r : Reach} {b : Nat} {t e : TypeId} {A : Option Addr} {n c : Nat} (ht : P.underlying t = some (.slice e)) (h : Cell.okWide P w r b t (.slice A n c)) : SlOK A ∧ n ≤ c := by
  simp only [Cell.okWide, ht] at h
  cases A with
  | none =>
    refine ⟨fun a e => (by cases e), ?_⟩
    simp only [Cell.ok, ht] at h
    split at h <;> simp_all
  | some a =>
    simp only [Cell.ok, ht] at h
    refine ⟨fun a' e => ?_, h.1⟩
    cases e
    exact h.2.2.2.1
set_option maxRecDepth 100000 in
theorem mat_spot {w : World} {b : Nat} {x y : Value} {A : Option Addr} {n c : Nat} (hv : Value.okWide Tryz.prog w .any b 46 (.agg #[x, y, .slice A n c])) : SlOK A ∧ n ≤ c := by
  simp only [Value.okWide, Tryz.underlying46] at hv
  obtain ⟨cs, e, _, ts, hts, _, hr⟩ := hv
  cases e
  have hts' : Tryz.prog.cellTypes Tryz.prog.depth 46 = some [3, 3, 24] := by kernel_rfl
  rw [hts'] at hts
  cases hts
  obtain ⟨u, hu, hk⟩ := hr 2 _ rfl
  have hu' : u = 24 := by simpa using hu.symm
  subst hu'
  exact okWide_spot Tryz.underlying24 hk
end Go.Proofs.YtekpamojojfplaaGreat
namespace Go.Proofs.YtekpamojojfplaaGreat
open Go.ChangeShapes Go.WideShapes Go.ChangeAt Go.RowKit Go.Joins
def RB (w : World) (A : Option Addr) (xs : List Int) : Prop :=
  0 < xs.length → ∃ b off, A = some ⟨b, off, none⟩ ∧ b < w.heap.size ∧ ∀ k (h : k < xs.length), w.cell? ⟨b, off + k, none⟩ = some (.int .u8 xs[k])
set_option maxRecDepth 100000 in
theorem open_RB {H : Type} {enc : TypeId × Value → H} {w : World} {fuel : Nat} {cs : List Value} {x : DataW H × List MemPlace}
    (h : DataW.trod enc Tryz.prog w 0 (fun _ => true) true fuel 22 cs = some x) :
    ∃ (A : Option Addr) (c : Nat) (xs : List Int), cs = [.slice A xs.length c] ∧ xs.length ≤ 9223372036854775807 ∧ RB w A xs := by
  rcases open_ints Tryz.underlying22 Tryz.underlying5 (by kernel_rfl) h with ⟨rfl, _⟩ | ⟨a, len, cap, zs, rfl, _, hl, hm, hz, _, hc, hw⟩
  · exact ⟨none, 0, [], rfl, by simp, fun h => absurd h (by simp)⟩
  · simp only [if_true] at hz
    have hm' : cap ≤ 9223372036854775807 := by simpa [maxLen] using hm
    refine ⟨some a, cap, zs.take len, by simp; omega, by simp; omega, fun h0 => ?_⟩
    have hlen : len ≤ zs.length := by omega
    obtain ⟨b, off, rfl, hc'⟩ := ints_at hc (by simp at h0; omega)
    refine ⟨b, off, rfl, World.block_lt_of_cell? w ⟨b, off + 0, none⟩ (hc' 0 (by simp at h0; omega)), fun k hk => ?_⟩
    have hk' : k < zs.length := by simp at hk; omega
    rw [hc' k hk']
    simp [hk']
set_option maxRecDepth 100000 in
theorem open_RB_arg {H : Type} {enc : TypeId × Value → H} {w : World} {v : Value} {d : DataW H} {p : List MemPlace} {b : Nat}
    (hv : Value.okWide Tryz.prog w .any b 22 v) (h : DataW.Trod enc Tryz.prog w 0 (fun _ => true) true 22 v d p) :
    ∃ (A : Option Addr) (c : Nat) (xs : List Int), v = .slice A xs.length c ∧ xs.length ≤ 9223372036854775807 ∧ RB w A xs ∧ SlOK A ∧ xs.length ≤ c := by
  obtain ⟨a0, len, cap, rfl⟩ := okWide_slice Tryz.underlying22 hv
  obtain ⟨fuel, hf⟩ := h
  obtain ⟨A, c, xs, hcs, h1, h2⟩ := open_RB hf
  have : Value.slice a0 len cap = .slice A xs.length c := by simpa [Value.cells] using hcs
  cases this
  simp only [Value.okWide, Tryz.underlying22] at hv
  obtain ⟨h4, h5⟩ := okWide_spot Tryz.underlying22 hv
  exact ⟨_, _, xs, rfl, h1, h2, h4, h5⟩
theorem RB.blk {l : List (Nat × Option Addr)} {k : Nat} {A : Option Addr} {w : World} {xs : List Int} (hR : RB w A xs) (h : lk l k = some A) : BlkOK (rhoOf l) k w (.ro (.bytes xs)) := by
  cases A with
  | none =>
    have : ¬0 < xs.length := fun h => by obtain ⟨b, off, e, _⟩ := hR h; cases e
    have hρ : rhoOf l k = none := by simp [rhoOf, h]
    simp only [BlkOK, hρ, Elts.len]
    omega
  | some a =>
    have hρ : rhoOf l k = some (a.block, a.off) := by simp [rhoOf, h]
    simp only [BlkOK, hρ]
    refine ⟨fun hl => ?_, fun j u hu => ?_⟩
    · obtain ⟨b, off, e, hb, _⟩ := hR hl
      cases e; exact hb
    · simp only [Elts.all, List.getElem?_map, Option.map_eq_some_iff] at hu
      obtain ⟨n, hn, rfl⟩ := hu
      obtain ⟨hj, rfl⟩ := List.getElem?_eq_some_iff.1 hn
      obtain ⟨b, off, e, _, hc⟩ := hR (by omega)
      cases e; exact hc j hj
theorem code_gives {f : FuncId} (h : ∀ (bs : List Int) (c : Nat), Does Tryz.prog f [vS 1 1 0 bs.length c] [(1, .ro (.bytes bs))] 2 (Ret (vB true) 2)) (A : Option Addr) (c : Nat) (bs : List Int) (w : World) (hR : RB w A bs) (hs : SlOK A) : Gives Tryz.prog f #[.slice A bs.length c] w (.bool true) := by
  have h1 : roIn [(1, .ro (.bytes bs))] 2 = true := by simp [roIn, plainB, Elts.flag, Blk.keys, Elts.keys, Elts.all, bytes_keys]
  have h2 : BlksOK (rhoOf [(1, A)]) w [(1, .ro (.bytes bs))] := ⟨hR.blk (l := [(1, A)]) (k := 1) rfl, trivial⟩
  have h := Does.gives (h bs c) (rhoOf [(1, A)]) w rfl (by decide) h1 h2 Zz Zz
  have e1 : adr (rhoOf [(1, A)]) 1 0 = A := rhoOf_adr hs rfl
  have e2 : ([vS 1 1 0 bs.length c].map (AV.conc (rhoOf [(1, A)]))).toArray = #[.slice A bs.length c] := by simp [AV.conc, SV.conc, vS, e1]
  rw [e2] at h
  exact h
end Go.Proofs.YtekpamojojfplaaGreat
namespace Go.Proofs.YtekpamojojfplaaGreat
open Go.RowKit
section
variable {P : Program} {E : Env} {N : Nat} {Q : Post} {fr : Nat → Option AV} {H : Nat → Option Blk} {nx : Nat}
def cutQ {α : Type} (n0 : Nat) (pre : α → Prop) (F : α → List (Nat × AV)) (Hh : α → List (Nat × Blk)) (nx : Nat) (Q : Post) : Post := fun e σ => match e with
  | .normal => ∃ m y, pre y ∧ Weak n0 σ.fr σ.H m (F y) (Hh y) nx
  | e => Q e σ
theorem awp_cut {α : Type} (i : Nat) {ops : Array Oper} {dr : Bool} {x2 y : Code} {n0 : Nat} (hn : E.n0 = n0) (pre : α → Prop) (F : α → List (Nat × AV)) (Hh : α → List (Nat × Blk)) (nx1 : Nat)
    (h : awp P E N (.seq (.region i ops dr) x2) (cutQ n0 pre F Hh nx1 Q) ⟨fr, H, nx⟩)
    (hr : ∀ z, pre z → awp P E N y Q ⟨lk (F z), lk (Hh z), nx1⟩) : awp P E N (.seq (.seq (.region i ops dr) x2) y) Q ⟨fr, H, nx⟩ := by
  unfold awp at *
  intro ρ a w hI
  refine wp_seq (Code.wp_mono (fun e a' w' hq => ?_) (h ρ a w hI))
  obtain ⟨ρ', σ', hI', hq⟩ := hq
  cases e with
  | normal =>
    obtain ⟨m, z, hp, hw⟩ := hq
    exact hr z hp _ a' w' (hI'.weak hn hw.f hw.h hw.ok)
  | exit id => exact ⟨ρ', σ', hI', hq⟩
  | goto l => exact ⟨ρ', σ', hI', hq⟩
  | ret => exact ⟨ρ', σ', hI', hq⟩
  | panic => exact ⟨ρ', σ', hI', hq⟩
  | outgrown => exact ⟨ρ', σ', hI', hq⟩
variable {l0 : List Oper} {ρs : Rho} {nxs : Nat} {hs : List (Nat × Blk)} {fuel : Nat} {listed : Array Bool}
theorem awpH_wrap (i : Nat) {o : Oper} {v : AV} {d : Nat} (hi : nth l0 i = some o) (hsel : Region.noSelect l0.toArray = true) (hf : Region.free .any l0.toArray listed i = true) (hr : (Region.ready .any l0.toArray listed).contains i = true)
    (hQ : ∀ ch σ, Q (.panic ch) σ → False) (hdst : o.dst = some d) (hw : wantA l0 fr o = some true) (hd : Nat.blt d N = true) (hs' : pWrap fr o.op = some v)
    (h : awpH P E N l0 Q ρs nxs hs fuel (listed.setIfInBounds i true) ⟨upd fr d v, H, nx⟩) : awpH P E N l0 Q ρs nxs hs (fuel + 1) listed ⟨fr, H, nx⟩ := by
  unfold awpH at *
  intro ρ a w hh
  have hi' : l0.toArray[i]? = some o := by rw [← hi, nth_eq]; simp
  have hrun : ∀ w', HS ρs nxs hs w' → PS P o a w' ρ nx v := fun w' hw' => pWrap_sound hh.inv.f (hw'.hb hh.agree hh.le) hs'
  refine wpAnyH_take (v := v.conc ρ) hi' hsel hf hr (fun ch a' w' ⟨_, _, _, q⟩ => (hQ _ _ q).elim) (.inl ⟨wantA_sound hh.inv.f hw, fun w' hw' => (hrun w' hw').1⟩) hh.held ?_
  rw [hdst]
  exact h ρ _ w ⟨⟨hh.inv.f.put (nblt hd) (hrun w hh.held).2, hh.inv.h⟩, hh.agree, hh.held, hh.le⟩
theorem Does.mono {f : FuncId} {args : List AV} {Hin : List (Nat × Blk)} {n0 : Nat} {Out Out' : AV → List (Nat × Blk) → Nat → Prop} (hD : Does P f args Hin n0 Out) (hm : ∀ v Hout n1, Out v Hout n1 → Out' v Hout n1) : Does P f args Hin n0 Out' :=
  ⟨hD.fn, fun ρ w hH hk => Calls.mono (hD.calls ρ w hH hk) fun _ _ ⟨ρ', v, Hout, n1, ho, h⟩ => ⟨ρ', v, Hout, n1, hm _ _ _ ho, h⟩⟩
end
end Go.Proofs.YtekpamojojfplaaGreat
namespace Go.Proofs.YtekpamojojfplaaGreat
open Go.RowKit
section
variable {P : Program} {E : Env} {N : Nat} {Q : Post} {fr : Nat → Option AV} {H : Nat → Option Blk} {nx : Nat}
theorem awp_cutR {α : Type} (i : Nat) {ops : Array Oper} {dr : Bool} {y : Code} {n0 : Nat} (hn : E.n0 = n0) (pre : α → Prop) (F : α → List (Nat × AV)) (Hh : α → List (Nat × Blk)) (nx1 : Nat)
    (h : awp P E N (.region i ops dr) (cutQ n0 pre F Hh nx1 Q) ⟨fr, H, nx⟩)
    (hr : ∀ z, pre z → awp P E N y Q ⟨lk (F z), lk (Hh z), nx1⟩) : awp P E N (.seq (.region i ops dr) y) Q ⟨fr, H, nx⟩ := by
  unfold awp at *
  intro ρ a w hI
  refine wp_seq (Code.wp_mono (fun e a' w' hq => ?_) (h ρ a w hI))
  obtain ⟨ρ', σ', hI', hq⟩ := hq
  cases e with
  | normal =>
    obtain ⟨m, z, hp, hw⟩ := hq
    exact hr z hp _ a' w' (hI'.weak hn hw.f hw.h hw.ok)
  | exit id => exact ⟨ρ', σ', hI', hq⟩
  | goto l => exact ⟨ρ', σ', hI', hq⟩
  | ret => exact ⟨ρ', σ', hI', hq⟩
  | panic => exact ⟨ρ', σ', hI', hq⟩
  | outgrown => exact ⟨ρ', σ', hI', hq⟩
end
end Go.Proofs.YtekpamojojfplaaGreat
namespace Go.Proofs.YtekpamojojfplaaGreat
open Go.RowKit
section
variable {P : Program} {E : Env} {N : Nat} {Q : Post} {fr : Nat → Option AV} {H : Nat → Option Blk} {nx : Nat} {l0 : List Oper} {ρs : Rho} {nxs : Nat} {hs : List (Nat × Blk)} {fuel : Nat} {listed : Array Bool}
theorem Inv.view2 {ρ : Rho} {a : Act} {w : World} (hI : Inv E N ρ ⟨fr, H, nx⟩ a w) {t k o m sz cp : Nat} {b : Blk} {e e' : Elts} (ht : fr t = some (.one (.sl k sz o m cp))) (hk : H k = some b) (hb : b.isOwn = false) (he : b.elts = some e) (hs : e.sub o m = some e') (hz : e.sz = sz) (hle : o + m ≤ e.len) (hr : e.rds = []) (hks : keysOf e.all = []) :
    ∃ a' ρ', Inv E N ρ' ⟨upd fr t (.one (.sl nx sz 0 m cp)), upd H nx (.al a' e'), nx + 1⟩ a w ∧ ∀ q, q < nx → ρ' q = ρ q := by
  refine ⟨_, _, ⟨?_, hI.h.view hk hb he hs hle hr hks⟩, fun q hq => setR_ne (Nat.ne_of_lt hq)⟩
  have hkn := (hI.h.key k b hk).1
  have hf := hI.f.mono (ρ' := setR ρ nx ((ρ k).map fun p => (p.1, p.2 + o * e.sz))) (nx' := nx + 1) (fun q hq => setR_ne (Nat.ne_of_lt hq)) (Nat.le_succ _)
  refine ⟨hf.defers, hf.size, fun s v hv => ?_, fun s v hv q hq => ?_⟩ <;> dsimp only at hv ⊢
  · by_cases c : s = t
    · subst c
      rw [upd_same] at hv
      cases hv
      rw [hI.f.val _ _ ht]
      simp only [AV.conc, SV.conc, adr, setR_same, Nat.zero_mul]
      cases ρ k with
      | none => rfl
      | some p => simp [hz]
    · rw [upd_ne c] at hv; exact hf.val s v hv
  · by_cases c : s = t
    · subst c
      rw [upd_same] at hv
      cases hv
      simp [AV.keys, SV.keys] at hq
      omega
    · rw [upd_ne c] at hv; exact hf.key s v hv q hq
theorem awpHop_view {i : Nat} (t : Nat) {k o m sz cp : Nat} {b : Blk} {e e' : Elts} (ht : fr t = some (.one (.sl k sz o m cp))) (hk : H k = some b) (hb : b.isOwn = false) (he : b.elts = some e) (hs' : e.sub o m = some e') (hz : e.sz = sz) (hle : o + m ≤ e.len) (hr : e.rds = []) (hks : keysOf e.all = [])
    (h : ∀ a', awpHop P E N l0 Q ρs nxs hs fuel listed i ⟨upd fr t (.one (.sl nx sz 0 m cp)), upd H nx (.al a' e'), nx + 1⟩) : awpHop P E N l0 Q ρs nxs hs fuel listed i ⟨fr, H, nx⟩ := by
  unfold awpHop at *
  intro ρ a w hh
  obtain ⟨a', ρ', hI', h3⟩ := hh.inv.view2 ht hk hb he hs' hz hle hr hks
  exact h a' ρ' a w ⟨hI', fun k hk => (h3 k (Nat.lt_of_lt_of_le hk hh.le)).trans (hh.agree k hk), hh.held, Nat.le_trans hh.le (Nat.le_succ _)⟩
end
end Go.Proofs.YtekpamojojfplaaGreat
namespace Go.Proofs.YtekpamojojfplaaGreat
open Go.Shelf Go.Proofs
def Tryz.l6k_ren : Go.Shelf.Ren := ⟨fun | 6 => 139 | 15 => 174 | 14 => 173 | 28 => 211 | 29 => 212 | 20 => 203 | 21 => 204 | 22 => 205 | 23 => 206 | 24 => 207 | 25 => 208 | 26 => 209 | 27 => 210 | 46 => 222 | 47 => 223 | 48 => 224 | 49 => 225 | 50 => 226 | 57 => 227 | n => n, fun | 22 => 91 | 24 => 94 | 25 => 120 | 3 => 3 | 39 => 154 | 0 => 0 | 53 => 170 | 55 => 172 | 4 => 4 | 46 => 164 | 45 => 163 | 50 => 56 | 5 => 5 | 9 => 9 | 66 => 174 | 70 => 146 | 76 => 179 | 77 => 180 | n => n, fun | n => n⟩
theorem Tryz.l6k : Go.Proofs.SlLaysF0.n6 Tryz.prog Tryz.l6k_ren := {
  mixed := by kernel_rfl
  f6 := ⟨Tryz.f139.name, by decide, Tryz.func139.trans (congrArg some (by kernel_rfl))⟩
  f14 := ⟨Tryz.f173.name, by decide, Tryz.func173.trans (congrArg some (by kernel_rfl))⟩
  f15 := Tryz.func174.trans (congrArg some (by kernel_rfl))
  f20 := ⟨Tryz.f203.name, by decide, Tryz.func203.trans (congrArg some (by kernel_rfl))⟩
  f21 := ⟨Tryz.f204.name, by decide, Tryz.func204.trans (congrArg some (by kernel_rfl))⟩
  f22 := ⟨Tryz.f205.name, by decide, Tryz.func205.trans (congrArg some (by kernel_rfl))⟩
  f23 := ⟨Tryz.f206.name, by decide, Tryz.func206.trans (congrArg some (by kernel_rfl))⟩
  f24 := ⟨Tryz.f207.name, by decide, Tryz.func207.trans (congrArg some (by kernel_rfl))⟩
  f25 := ⟨Tryz.f208.name, by decide, Tryz.func208.trans (congrArg some (by kernel_rfl))⟩
  f26 := ⟨Tryz.f209.name, by decide, Tryz.func209.trans (congrArg some (by kernel_rfl))⟩
  f27 := ⟨Tryz.f210.name, by decide, Tryz.func210.trans (congrArg some (by kernel_rfl))⟩
  f28 := Tryz.func211.trans (congrArg some (by kernel_rfl))
  f29 := Tryz.func212.trans (congrArg some (by kernel_rfl))
  f46 := ⟨Tryz.f222.name, by decide, Tryz.func222.trans (congrArg some (by kernel_rfl))⟩
  f47 := Tryz.func223.trans (congrArg some (by kernel_rfl))
  f48 := Tryz.func224.trans (congrArg some (by kernel_rfl))
  f49 := ⟨Tryz.f225.name, by decide, Tryz.func225.trans (congrArg some (by kernel_rfl))⟩
  f50 := ⟨Tryz.f226.name, by decide, Tryz.func226.trans (congrArg some (by kernel_rfl))⟩
  f57 := ⟨Tryz.f227.name, by decide, Tryz.func227.trans (congrArg some (by kernel_rfl))⟩
  t0 := Tryz.underlying0
  a0 := Tryz.isAgg0
  z0 := Tryz.sizeOf0
  v0 := Tryz.zeroValue0
  t3 := Tryz.underlying3
  a3 := Tryz.isAgg3
  z3 := Tryz.sizeOf3
  v3 := Tryz.zeroValue3
  t4 := Tryz.underlying4
  a4 := Tryz.isAgg4
  z4 := Tryz.sizeOf4
  v4 := Tryz.zeroValue4
  t5 := Tryz.underlying5
  a5 := Tryz.isAgg5
  z5 := Tryz.sizeOf5
  v5 := Tryz.zeroValue5
  t9 := Tryz.underlying9
  a9 := Tryz.isAgg9
  z9 := Tryz.sizeOf9
  v9 := Tryz.zeroValue9
  t22 := Tryz.underlying91
  a22 := Tryz.isAgg91
  z22 := Tryz.sizeOf91
  v22 := Tryz.zeroValue91
  t25 := Tryz.underlying120
  a25 := Tryz.isAgg120
  z25 := Tryz.sizeOf120
  v25 := Tryz.zeroValue120
  t39 := Tryz.underlying154
  a39 := Tryz.isAgg154
  z39 := Tryz.sizeOf154
  v39 := Tryz.zeroValue154
  t45 := Tryz.underlying163
  a45 := Tryz.isAgg163
  z45 := Tryz.sizeOf163
  v45 := Tryz.zeroValue163
  t46 := Tryz.underlying164
  a46 := Tryz.isAgg164
  z46 := Tryz.sizeOf164
  v46 := Tryz.zeroValue164
  t50 := Tryz.underlying56
  a50 := Tryz.isAgg56
  z50 := Tryz.sizeOf56
  v50 := Tryz.zeroValue56
  t53 := Tryz.underlying170
  a53 := Tryz.isAgg170
  z53 := Tryz.sizeOf170
  v53 := Tryz.zeroValue170
  t55 := Tryz.underlying172
  a55 := Tryz.isAgg172
  z55 := Tryz.sizeOf172
  v55 := Tryz.zeroValue172
  t66 := Tryz.underlying174
  a66 := Tryz.isAgg174
  z66 := Tryz.sizeOf174
  v66 := Tryz.zeroValue174
  t70 := Tryz.underlying146
  a70 := Tryz.isAgg146
  z70 := Tryz.sizeOf146
  v70 := Tryz.zeroValue146
  t76 := Tryz.underlying179
  a76 := Tryz.isAgg179
  z76 := Tryz.sizeOf179
  v76 := Tryz.zeroValue179
  t77 := Tryz.underlying180
  a77 := Tryz.isAgg180
  z77 := Tryz.sizeOf180
  v77 := Tryz.zeroValue180 }
end Go.Proofs.YtekpamojojfplaaGreat
