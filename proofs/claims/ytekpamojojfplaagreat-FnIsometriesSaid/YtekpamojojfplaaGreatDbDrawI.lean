/-
  CONTRACTS: the drawing of forms, one alone and two of one class.
-/
import Derived.Test.YtekpamojojfplaaGreatD20
import Derived.Test.YtekpamojojfplaaGreatD21
import Derived.Test.YtekpamojojfplaaGreatD15
import Derived.Test.YtekpamojojfplaaGreatD18
import Derived.Test.YtekpamojojfplaaGreatD19
set_option linter.unusedVariables false
set_option linter.unusedSimpArgs false
namespace Go.Proofs.YtekpamojojfplaaGreat
open Go.RowKit

theorem dotTo_bdB {xs ys : List Int} {n c i j : Nat} (h : ∀ k l : Nat, -1000000000000000 ≤ xs.getD k 0 * ys.getD l 0 ∧ xs.getD k 0 * ys.getD l 0 ≤ 1000000000000000) : ∀ k : Nat, -(1000000000000000 * (k : Int)) ≤ dotTo xs ys n c i j k ∧ dotTo xs ys n c i j k ≤ 1000000000000000 * (k : Int)
  | 0 => by simp [dotTo]
  | k + 1 => by
    have h1 := dotTo_bdB (n := n) (c := c) (i := i) (j := j) h k
    have h2 := h (i * n + k) (k * c + j)
    rw [dotTo]
    omega
theorem dotTo_bdP {xs ys : List Int} {n c i j : Nat} {B : Int} (h : ∀ k l : Nat, -B ≤ xs.getD k 0 * ys.getD l 0 ∧ xs.getD k 0 * ys.getD l 0 ≤ B) : ∀ k : Nat, -(B * (k : Int)) ≤ dotTo xs ys n c i j k ∧ dotTo xs ys n c i j k ≤ B * (k : Int)
  | 0 => by simp [dotTo]
  | k + 1 => by
    have h1 := dotTo_bdP (n := n) (c := c) (i := i) (j := j) h k
    have h2 := h (i * n + k) (k * c + j)
    rw [dotTo]
    have e : B * ((k + 1 : Nat) : Int) = B * (k : Int) + B := by rw [Int.natCast_add, Int.mul_add]; simp
    rw [e]; omega
theorem mulM_bnd {r n c : Nat} {xs ys : List Int} {A B C : Int} (hx : Bnd xs A) (hy : Bnd ys B) (hn : n ≤ 3) (hB : 0 ≤ A * B) (hC : A * B * 3 ≤ C) : Bnd (mulM r n c xs ys) C := fun p => by
  have hp : ∀ k l : Nat, -(A * B) ≤ xs.getD k 0 * ys.getD l 0 ∧ xs.getD k 0 * ys.getD l 0 ≤ A * B := fun k l => mulB_bd (hx k) (hy l)
  by_cases h : p < r * c
  · have hl : p < (mulM r n c xs ys).length := by rw [mulM_len]; exact h
    rw [List.getD_eq_getElem?_getD, List.getElem?_eq_getElem hl, Option.getD_some]
    obtain ⟨q, -, hq⟩ := List.mem_map.1 (show (mulM r n c xs ys)[p] ∈ (List.range (r * c)).map fun p => dotTo xs ys n c (p / c) (p % c) n from List.getElem_mem hl)
    rw [← hq]
    have h1 := dotTo_bdP (n := n) (c := c) (i := q / c) (j := q % c) hp n
    have h2 : A * B * (n : Int) ≤ A * B * 3 := Int.mul_le_mul_of_nonneg_left (by omega) hB
    omega
  · rw [List.getD_eq_getElem?_getD, List.getElem?_eq_none (by rw [mulM_len]; omega)]
    simp; omega
theorem turnM_bnd {r c : Nat} {xs : List Int} {B : Int} (h : Bnd xs B) : Bnd (turnM xs r c) B := fun p => by
  have h0 := h 0
  by_cases hp : p < c * r
  · have hl : p < (turnM xs r c).length := by rw [turnM_len]; exact hp
    rw [List.getD_eq_getElem?_getD, List.getElem?_eq_getElem hl, Option.getD_some]
    obtain ⟨q, -, hq⟩ := List.mem_map.1 (show (turnM xs r c)[p] ∈ (List.range (c * r)).map fun p => xs.getD (p % r * c + p / r) 0 from List.getElem_mem hl)
    rw [← hq]; exact h _
  · rw [List.getD_eq_getElem?_getD, List.getElem?_eq_none (by rw [turnM_len]; omega)]
    simp; omega
theorem bnd_num {xs : List Int} (h : xs.all numB = true) : Bnd xs 400000000 := fun p => num_getD h p
theorem bnd_prod {xs ys : List Int} {A B : Int} (hx : Bnd xs A) (hy : Bnd ys B) (h : A * B ≤ 1000000000000000) : ∀ k l : Nat, -1000000000000000 ≤ xs.getD k 0 * ys.getD l 0 ∧ xs.getD k 0 * ys.getD l 0 ≤ 1000000000000000 := fun k l => by
  have := mulB_bd (hx k) (hy l)
  omega
set_option maxHeartbeats 4000000 in
theorem d_l3MulB (r n c m1 m2 : Nat) (xs ys : List Int) (ca cb : Nat) (hm1 : m1 = xs.length) (hm2 : m2 = ys.length) (hr : r ≤ 24) (hn : n ≤ 24) (hcc : c ≤ 24) (hx : xs.length = r * n) (hy : ys.length = n * c) (hP : ∀ k l : Nat, -1000000000000000 ≤ xs.getD k 0 * ys.getD l 0 ∧ xs.getD k 0 * ys.getD l 0 ≤ 1000000000000000) :
    Does Tryz.prog 86 [vM r n 1 m1 ca, vM n c 2 m2 cb] [(1, .ro (.ints xs)), (2, .ro (.ints ys))] 3 (MulOut r n c xs ys 3) := by
  subst hm1 hm2
  refine Does.intro TT Tryz.func86 rfl (by kernel_rfl) rfl rfl fun E hE => ?_
  (repeat' (first | refine stx ?_ | (refine w_C (d_newS _ _ hr hcc) rfl rfl rfl rfl rfl rfl rfl ft rfl rfl (NewM.out) ?_; rintro v b ⟨rfl, he, -⟩; cases he) | (refine stq ?_ ?_ <;> (intro hc; ((try simp at hc) <;> try contradiction))) | fail))
  refine w_G hE (fun i : Nat => i ≤ r) (fun i => r - i)
    (fun i => [(2, .one (.ptr 3 3 0 0)), (3, .one (.ptr 4 3 0 0)), (4, .one (.ptr 5 3 0 0)), (5, .one (.ptr 7 3 0 0)), (6, vI i)])
    (fun i => [(1, .ro (.ints xs)), (2, .ro (.ints ys)), (3, .own 26 1 (.lit [.int r, .int n, .sl 1 1 0 xs.length ca])), (4, .own 26 1 (.lit [.int n, .int c, .sl 2 1 0 ys.length cb])), (5, .own 26 1 (.lit zeroM)), (6, .own 3 (r * c) (.ints (partM r n c xs ys (i * c)))), (7, .own 26 1 (.lit [.int r, .int c, .sl 6 1 0 (r * c) (r * c)]))]) 8 [] 0 (Nat.zero_le _) ⟨w_1, ⟨rfl, rfl, rfl, rfl, rfl, own_ints (by rw [Nat.zero_mul, partM_zero]), rfl, trivial⟩, rfl⟩ ?_
  intro i h1
  (repeat' (first | refine stx ?_ | (refine stq ?_ ?_ <;> (intro hc; ((try simp at hc) <;> try contradiction))) | fail))
  · refine w_G hE (fun j : Nat => j ≤ c) (fun j => c - j)
      (fun j => [(2, .one (.ptr 3 3 0 0)), (3, .one (.ptr 4 3 0 0)), (4, .one (.ptr 5 3 0 0)), (5, .one (.ptr 7 3 0 0)), (6, vI i), (7, vI j)])
      (fun j => [(1, .ro (.ints xs)), (2, .ro (.ints ys)), (3, .own 26 1 (.lit [.int r, .int n, .sl 1 1 0 xs.length ca])), (4, .own 26 1 (.lit [.int n, .int c, .sl 2 1 0 ys.length cb])), (5, .own 26 1 (.lit zeroM)), (6, .own 3 (r * c) (.ints (partM r n c xs ys (i * c + j)))), (7, .own 26 1 (.lit [.int r, .int c, .sl 6 1 0 (r * c) (r * c)]))]) 8 [] 0 (Nat.zero_le _) ⟨w_1, w_2, rfl⟩ ?_
    intro j h2
    (repeat' (first | refine stx ?_ | (refine stq ?_ ?_ <;> (intro hc; ((try simp at hc) <;> try contradiction))) | fail))
    · refine w_G hE (fun k : Nat => k ≤ n) (fun k => n - k)
        (fun k => [(2, .one (.ptr 3 3 0 0)), (3, .one (.ptr 4 3 0 0)), (4, .one (.ptr 5 3 0 0)), (5, .one (.ptr 7 3 0 0)), (6, vI i), (7, vI j), (8, vI (dotTo xs ys n c i j k)), (9, vI k)])
        (fun _ => [(1, .ro (.ints xs)), (2, .ro (.ints ys)), (3, .own 26 1 (.lit [.int r, .int n, .sl 1 1 0 xs.length ca])), (4, .own 26 1 (.lit [.int n, .int c, .sl 2 1 0 ys.length cb])), (5, .own 26 1 (.lit zeroM)), (6, .own 3 (r * c) (.ints (partM r n c xs ys (i * c + j)))), (7, .own 26 1 (.lit [.int r, .int c, .sl 6 1 0 (r * c) (r * c)]))]) 8 [] 0 (Nat.zero_le _) ⟨w_1, w_2, rfl⟩ ?_
      intro k h3
      have hi : i < r := by omega
      have hj : j < c := by omega
      by_cases hk : k < n
      · have f1 := cell_facts hi hk hr hn
        have f2 := cell_facts hk hj hn hcc
        rw [← hx] at f1
        rw [← hy] at f2
        have f3 := hP (0 + ((i : Int) * n + k).toNat) (0 + ((k : Int) * c + j).toNat)
        have f4 := dotTo_bdB (n := n) (c := c) (i := i) (j := j) hP k
        (repeat' (first | refine stx ?_ | (refine stq ?_ ?_ <;> (intro hc; ((try simp at hc) <;> try contradiction))) | fail))
        · exact ⟨[], k + 1, hk, w_4, ⟨⟨rfl, rfl, rfl, rfl, rfl, rfl, congrArg some (congrArg vI (dot_step xs ys n c i j k)), rfl, trivial⟩, ⟨rfl, rfl, rfl, rfl, rfl, rfl, rfl, trivial⟩, rfl⟩⟩
        · omega
      · have hp := partM_len (xs := xs) (ys := ys) (n := n) (Nat.le_of_lt (cell_lt hi hj))
        have f1 := cell_facts hi hj hr hcc
        obtain rfl : k = n := by omega
        (repeat' (first | refine stx ?_ | (refine stq ?_ ?_ <;> (intro hc; ((try simp at hc) <;> try contradiction))) | fail))
        · exact ⟨[], j + 1, hj, w_4, ⟨w_1, ⟨rfl, rfl, rfl, rfl, rfl, own_ints (partM_set hi hj), rfl, trivial⟩, rfl⟩⟩
    · obtain rfl : j = c := by omega
      exact ⟨[], i + 1, by omega, w_4, ⟨w_1, ⟨rfl, rfl, rfl, rfl, rfl, own_ints (by rw [Nat.add_mul, Nat.one_mul]), rfl, trivial⟩, rfl⟩⟩
  · obtain rfl : i = r := by omega
    exact fin rfl Nat.zero_lt_one [(3, 6)] (.agg [.int i, .int c, .sl 3 1 0 (i * c) (i * c)]) [(3, .own 3 (i * c) (.ints (mulM i n c xs ys)))] 4 ⟨rfl, rfl, rfl⟩ rfl ⟨trivial, ⟨own_ints partM_full, trivial⟩, rfl⟩ rfl
def SpoilL (t tc : TypeId) (nb c m : Nat) (k : Int) (v : AV) (Hout : List (Nat × Blk)) (n1 : Nat) : Prop :=
  ∃ (r : Int) (zs : List Int) (cap i : Nat) (h : Int), zs.length ≤ m + 1 ∧ zs.length ≤ cap ∧ ((v = .agg [.int r, .int k, .sl 3 1 0 zs.length cap] ∧ Hout = [(2, .own tc 1 (.lit (curL c nb i h))), (3, .own t cap (.ints zs))] ∧ n1 = 4) ∨ (v = .agg [.int r, .int k, .sl 4 1 0 zs.length cap] ∧ Hout = [(2, .own tc 1 (.lit (curL c nb i h))), (4, .own t cap (.ints zs))] ∧ n1 = 5))
set_option maxHeartbeats 4000000 in
theorem d_l3SpoilL (bs : List Int) (c i cap n : Nat) (h r k : Int) (xs : List Int) (hn : n = xs.length) (hr : 0 ≤ r ∧ r ≤ 1000) (hx : xs.length ≤ 900) (hcap : xs.length ≤ cap) (hl : bs.length ≤ 1048576) : Does Tryz.prog 132 [vC, vM r k 3 n cap] [(1, .ro (.bytes bs)), (2, .own 112 1 (.lit (curL c bs.length i h))), (3, .own 3 cap (.ints xs))] 4 (SpoilL 3 112 bs.length c xs.length k) := by
  subst hn
  refine Does.intro TT Tryz.func132 rfl (by kernel_rfl) rfl rfl fun E hE => ?_
  ((repeat' (first | refine stp ?_ | ((refine w_E (d_l1Below bs c _ _ 40 hl) rfl rfl rfl rfl rfl rfl rfl ft rfl ?_); rintro v Hout n1 ⟨r0, i0, h0, ⟨hr1, hr2⟩, rfl, rfl, rfl⟩; replace hr2 := hr2 (by omega)) | (refine stq ?_ ?_ <;> (intro hc; ((try simp at hc) <;> try contradiction))) | fail)) <;> try (exfalso; omega))
  · subst hc
    ((repeat' (first | refine stp ?_ | ((refine w_E (d_l1PickInt bs c _ _ [-1, 0, 7, r + 1] 4 4 rfl (by decide) hl) rfl rfl rfl rfl rfl rfl rfl ft rfl ?_); rintro v Hout n1 ⟨r1, i1, h1, hm1, rfl, rfl, rfl⟩) | (refine stq ?_ ?_ <;> (intro hc; ((try simp at hc) <;> try contradiction))) | fail)) <;> try (exfalso; omega))
    all_goals exact fin rfl w_3 [] (.agg [.int r1, .int k, .sl 3 1 0 xs.length cap]) [(2, .own 112 1 (.lit (curL c bs.length i1 h1))), (3, .own 3 cap (.ints xs))] 4 ⟨r1, xs, cap, i1, h1, by omega, hcap, .inl ⟨rfl, rfl, rfl⟩⟩ rfl ⟨trivial, ⟨rfl, rfl, trivial⟩, rfl⟩ rfl
  · refine awp_held TM [(4, _)] sb rfl (fun ρs => ?_)
    refine zt0 ?_
    refine zt1 ?_
    refine zt2 ?_
    refine w_u [3] kr rfl ⟨?_, trivial⟩
    first | (refine zho ?_) | (refine w_F _ (d_l1Odd bs c _ _ hl) rfl rfl rfl rfl rfl rfl rfl rfl ft rfl rfl ?_; rintro v Hout n1 ⟨r2, i2, h2, hr2', rfl, rfl, rfl⟩; refine ⟨sb, ?_⟩)
    refine zt4 ?_
    refine w_u [5] kr rfl ⟨?_, trivial⟩
    first | (refine zho ?_) | (refine w_F _ (d_l1Odd bs c _ _ hl) rfl rfl rfl rfl rfl rfl rfl rfl ft rfl rfl ?_; rintro v Hout n1 ⟨r2, i2, h2, hr2', rfl, rfl, rfl⟩; refine ⟨sb, ?_⟩)
    refine w_v kr ?_
    rotate_left
    all_goals ((repeat' (first | refine stp ?_ | (refine stq ?_ ?_ <;> (intro hc; ((try simp at hc) <;> try contradiction))) | fail)) <;> try (exfalso; omega))
    all_goals exact fin rfl w_3 [] (.agg [.int r, .int k, .sl 3 1 0 xs.length cap]) [(2, .own 112 1 (.lit (curL c bs.length i2 h2))), (3, .own 3 cap (.ints (xs.set (0 + Int.toNat 0) r2)))] 4 ⟨r, xs.set (0 + Int.toNat 0) r2, cap, i2, h2, Nat.le_succ_of_le (Nat.le_of_eq List.length_set), by rw [List.length_set]; omega, .inl ⟨by rw [List.length_set], rfl, rfl⟩⟩ rfl ⟨trivial, ⟨rfl, rfl, trivial⟩, rfl⟩ rfl
  · exact fin rfl w_3 [] (.agg [.int r, .int k, .sl 3 1 0 xs.length cap]) [(2, .own 112 1 (.lit (curL c bs.length i0 h0))), (3, .own 3 cap (.ints xs))] 4 ⟨r, xs, cap, i0, h0, by omega, hcap, .inl ⟨rfl, rfl, rfl⟩⟩ rfl ⟨trivial, ⟨rfl, rfl, trivial⟩, rfl⟩ rfl
  · obtain ⟨cap0, hcap0⟩ : ∃ z, z = cap := ⟨_, rfl⟩
    ((repeat' (first | refine stp ?_ | (refine w_x TT rfl rfl rfl rfl rfl sd ?_; intro cap hcap) | (refine stq ?_ ?_ <;> (intro hc; ((try simp at hc) <;> try contradiction))) | fail)) <;> try (exfalso; omega))
    all_goals rename_i cap1 _
    all_goals exact fin rfl w_3 [(4, 7)] (.agg [.int r, .int k, .sl 4 1 0 (xs.length + 1) cap]) [(2, .own 112 1 (.lit (curL c bs.length i0 h0))), (4, .own 3 cap (.ints (xs ++ [1])))] 5 ⟨r, xs ++ [1], cap, i0, h0, by simp, by simp; omega, .inr ⟨by simp, rfl, rfl⟩⟩ rfl ⟨trivial, ⟨rfl, own_ints (by simp), trivial⟩, rfl⟩ rfl
  · exact fin rfl w_3 [] (.agg [.int r, .int k, .sl 3 1 0 xs.length cap]) [(2, .own 112 1 (.lit (curL c bs.length i0 h0))), (3, .own 3 cap (.ints xs))] 4 ⟨r, xs, cap, i0, h0, by omega, hcap, .inl ⟨rfl, rfl, rfl⟩⟩ rfl ⟨trivial, ⟨rfl, rfl, trivial⟩, rfl⟩ rfl
def DrewN (t tc : TypeId) (nb c n : Nat) (B : Int) (v : AV) (Hout : List (Nat × Blk)) (n1 : Nat) : Prop :=
  ∃ (xs : List Int) (i : Nat) (h : Int), xs.length = n * n ∧ Bnd xs B ∧ v = .agg [.int n, .int n, .sl 3 1 0 (n * n) (n * n)] ∧ Hout = [(2, .own tc 1 (.lit (curL c nb i h))), (3, .own t (n * n) (.ints xs))] ∧ n1 = 4
set_option maxHeartbeats 4000000 in
theorem d_basis (bs : List Int) (c i n : Nat) (h : Int) (hl : bs.length ≤ 1048576) (hn : n ≤ 3) : Does Tryz.prog 131 [vC, vI n] [(1, .ro (.bytes bs)), (2, .own 112 1 (.lit (curL c bs.length i h)))] 3 (DrewN 3 112 bs.length c n 200000) := by
  refine Does.intro TT Tryz.func131 rfl (by kernel_rfl) rfl rfl fun E hE => ?_
  ((repeat' (first | refine stp ?_ | (refine stq ?_ ?_ <;> (intro hc; ((try simp at hc) <;> try contradiction))) | fail)) <;> try (exfalso; omega))
  (refine w_E (d_uni bs c _ n _ hl (by omega)) rfl rfl rfl rfl rfl rfl rfl ft rfl ?_)
  rintro v Hout n1 ⟨xs, i1, h1, hx, hbx, rfl, rfl, rfl⟩
  ((repeat' (first | refine stp ?_ | (refine stq ?_ ?_ <;> (intro hc; ((try simp at hc) <;> try contradiction))) | fail)) <;> try (exfalso; omega))
  (refine w_E (d_uni bs c _ n _ hl (by omega)) rfl rfl rfl rfl rfl rfl rfl ft rfl ?_)
  rintro v Hout n1 ⟨ys, i2, h2, hy, hby, rfl, rfl, rfl⟩
  have hty := turnM_bnd (r := n) (c := n) hby
  have hpr := bnd_prod hbx hty (by decide)
  have hb0 := mulM_bnd (r := n) (n := n) (c := n) (C := 177147) hbx hty hn (by decide) (by decide)
  ((repeat' (first | refine stp ?_ | (refine stq ?_ ?_ <;> (intro hc; ((try simp at hc) <;> try contradiction))) | fail)) <;> try (exfalso; omega))
  ((first | refine w_C (d_turnS n n ys (n * n) _ hy.symm (by omega) (by omega) hy) rfl rfl rfl rfl rfl rfl rfl ft rfl rfl (TurnO.out) ?_ | refine w_D _ (d_turnS n n ys (n * n) _ hy.symm (by omega) (by omega) hy) rfl rfl rfl rfl rfl rfl rfl rfl ft rfl rfl (TurnO.out) sb rfl rfl ?_); rintro v b ⟨rfl, he, -⟩; cases he)
  ((repeat' (first | refine stp ?_ | (refine stq ?_ ?_ <;> (intro hc; ((try simp at hc) <;> try contradiction))) | fail)) <;> try (exfalso; omega))
  ((first | refine w_C (d_l3MulB n n n (n * n) (n * n) xs (turnM ys n n) _ _ hx.symm turnM_len.symm (by omega) (by omega) (by omega) hx turnM_len hpr) rfl rfl rfl rfl rfl rfl rfl ft rfl rfl (MulOut.out) ?_ | refine w_D _ (d_l3MulB n n n (n * n) (n * n) xs (turnM ys n n) _ _ hx.symm turnM_len.symm (by omega) (by omega) (by omega) hx turnM_len hpr) rfl rfl rfl rfl rfl rfl rfl rfl ft rfl rfl (MulOut.out) sb rfl rfl ?_); rintro v b ⟨rfl, he, -⟩; cases he)
  ((repeat' (first | refine stp ?_ | (refine stq ?_ ?_ <;> (intro hc; ((try simp at hc) <;> try contradiction))) | fail)) <;> try (exfalso; omega))
  refine w_G hE (fun p : Nat × List Int × Nat × Int => p.1 ≤ n ∧ p.2.1.length = n * n ∧ Bnd p.2.1 (177147 + 2 * (p.1 : Int))) (fun p => n - p.1)
    (fun p => [(0, vC), (1, vI n), (4, .one (.ptr 3 3 0 0)), (5, .one (.ptr 8 3 0 0)), (6, vI p.1)])
    (fun p => [(1, .ro (.bytes bs)), (2, .own 112 1 (.lit (curL c bs.length p.2.2.1 p.2.2.2))), (3, .own 26 1 (.lit zeroM)), (7, .own 3 (n * n) (.ints p.2.1)), (8, .own 26 1 (.lit [.int n, .int n, .sl 7 1 0 (n * n) (n * n)]))]) 9 [] (0, mulM n n n xs (turnM ys n n), i2, h2) ⟨Nat.zero_le _, mulM_len, by simpa using hb0⟩ ⟨w_1, w_2, rfl⟩ ?_
  rintro ⟨k, zs, i3, h3⟩ ⟨q1, q2, q3⟩
  dsimp only at q1 q2 q3 ⊢
  by_cases hk : k < n
  · have hc1 := cell_facts hk hk (by omega) (show n ≤ 24 by omega)
    have hz := q3 (0 + ((k : Int) * n + k).toNat)
    ((repeat' (first | refine stp ?_ | (refine stq ?_ ?_ <;> (intro hc; ((try simp at hc) <;> try contradiction))) | fail)) <;> try (exfalso; omega))
    refine awp_held TM [(8, _)] sb rfl (fun ρs => ?_)
    refine zt0 ?_
    refine zt1 ?_
    refine zt2 ?_
    refine zt3 ?_
    refine zt4 ?_
    refine zt5 ?_
    refine zt6 ?_
    refine zt7 ?_
    refine zt8 ?_
    refine zt9 ?_
    refine zt10 ?_
    refine zt11 ?_
    refine zt12 ?_
    refine zt13 ?_
    refine zt14 ?_
    refine zt16 ?_
    refine w_u [15, 17] kr rfl ⟨?_, ?_, trivial⟩
    first | (refine zho ?_) | (refine w_F _ (d_l1Below bs c _ _ _ hl) rfl rfl rfl rfl rfl rfl rfl rfl ft rfl rfl ?_; rintro v Hout n1 ⟨r2, i4, h4, ⟨hr2, hr3⟩, rfl, rfl, rfl⟩; refine ⟨sb, ?_⟩; replace hr3 := hr3 (by omega))
    refine w_u [17] kr rfl ⟨?_, trivial⟩
    first | (refine zho ?_) | (refine w_F _ (d_l1Below bs c _ _ _ hl) rfl rfl rfl rfl rfl rfl rfl rfl ft rfl rfl ?_; rintro v Hout n1 ⟨r2, i4, h4, ⟨hr2, hr3⟩, rfl, rfl, rfl⟩; refine ⟨sb, ?_⟩; replace hr3 := hr3 (by omega))
    refine zt18 ?_
    refine zt19 ?_
    refine w_u [20] kr rfl ⟨?_, trivial⟩
    first | (refine zho ?_) | (refine w_F _ (d_l1Below bs c _ _ _ hl) rfl rfl rfl rfl rfl rfl rfl rfl ft rfl rfl ?_; rintro v Hout n1 ⟨r2, i4, h4, ⟨hr2, hr3⟩, rfl, rfl, rfl⟩; refine ⟨sb, ?_⟩; replace hr3 := hr3 (by omega))
    refine w_v kr ?_
    rotate_left
    first | (refine zho ?_) | (refine w_F _ (d_l1Below bs c _ _ _ hl) rfl rfl rfl rfl rfl rfl rfl rfl ft rfl rfl ?_; rintro v Hout n1 ⟨r2, i4, h4, ⟨hr2, hr3⟩, rfl, rfl, rfl⟩; refine ⟨sb, ?_⟩; replace hr3 := hr3 (by omega))
    refine w_u [15] kr rfl ⟨?_, trivial⟩
    first | (refine zho ?_) | (refine w_F _ (d_l1Below bs c _ _ _ hl) rfl rfl rfl rfl rfl rfl rfl rfl ft rfl rfl ?_; rintro v Hout n1 ⟨r2, i4, h4, ⟨hr2, hr3⟩, rfl, rfl, rfl⟩; refine ⟨sb, ?_⟩; replace hr3 := hr3 (by omega))
    refine zt18 ?_
    refine zt19 ?_
    refine w_u [20] kr rfl ⟨?_, trivial⟩
    first | (refine zho ?_) | (refine w_F _ (d_l1Below bs c _ _ _ hl) rfl rfl rfl rfl rfl rfl rfl rfl ft rfl rfl ?_; rintro v Hout n1 ⟨r2, i4, h4, ⟨hr2, hr3⟩, rfl, rfl, rfl⟩; refine ⟨sb, ?_⟩; replace hr3 := hr3 (by omega))
    refine w_v kr ?_
    rotate_left
    all_goals ((repeat' (first | refine stp ?_ | (refine stq ?_ ?_ <;> (intro hc; ((try simp at hc) <;> try contradiction))) | fail)) <;> try (exfalso; omega))
    all_goals exact ⟨[], (k + 1, zs.set (0 + ((k : Int) * n + k).toNat) (zs.getD (0 + ((k : Int) * n + k).toNat) 0 + r2), i4, h4), ⟨hk, by dsimp only; rw [List.length_set]; exact q2, fun p => by
      have hp := q3 p
      rw [set_getD]
      split <;> (dsimp only; omega)⟩, w_4, ⟨w_1, ⟨rfl, rfl, rfl, own_ints rfl, rfl, trivial⟩, rfl⟩⟩
  · obtain rfl : k = n := by omega
    ((repeat' (first | refine stx ?_ | (refine stq ?_ ?_ <;> (intro hc; ((try simp at hc) <;> try contradiction))) | fail)) <;> try (exfalso; omega))
    exact fin rfl w_3 [(3, 7)] (.agg [.int k, .int k, .sl 3 1 0 (k * k) (k * k)]) [(2, .own 112 1 (.lit (curL c bs.length i3 h3))), (3, .own 3 (k * k) (.ints zs))] 4 ⟨zs, i3, h3, q2, q3.mono (by omega), rfl, rfl, rfl⟩ rfl ⟨trivial, ⟨rfl, rfl, trivial⟩, rfl⟩ rfl
end Go.Proofs.YtekpamojojfplaaGreat
