/-
  TEXTS OF THE PROOF, put together: Cont, Ratio, Ratio2, bRatio, bDiv, bRat2, bSlice.
-/
import Derived.Test.YtekpamojojfplaaGreatA07
set_option linter.unusedVariables false
set_option linter.unusedSimpArgs false
namespace Go.Proofs.YtekpamojojfplaaGreat
open Go.RowKit
def ratioB (n d : Int) : Bool := decide (1 ≤ d ∧ d ≤ 400000000 ∧ -400000000 ≤ n ∧ n ≤ 400000000) && ((Int.gcd n d : Int) == 1)
theorem ratioB_true {n d : Int} (h : ratioB n d = true) : 1 ≤ d ∧ d ≤ 400000000 ∧ -400000000 ≤ n ∧ n ≤ 400000000 ∧ Int.gcd n d = 1 := by
  simp only [ratioB, Bool.and_eq_true, decide_eq_true_eq, beq_iff_eq] at h
  obtain ⟨⟨h1, h2, h3, h4⟩, h5⟩ := h
  exact ⟨h1, h2, h3, h4, by omega⟩
def cfTerms (n : Int) (d : Nat) : List Int := if _h : d = 0 then [] else (n / (d : Int)) :: cfTerms d (n % (d : Int)).toNat
termination_by d
decreasing_by
  have h1 := Int.emod_lt_of_pos n (show 0 < (d : Int) by omega)
  have h2 := Int.emod_nonneg n (show (d : Int) ≠ 0 by omega)
  omega
def cfOf (n d : Int) : List Int := if ratioB n d then cfTerms n d.toNat else []
def CRel (n : Int) (D : Nat) (w : World) (ov av bv : Value) (wr : World) : Prop :=
  ∃ (A : Option Addr) (k c : Nat) (ys : List Int) (a : Int) (b : Nat), ov = .slice A k c ∧ av = .int .i64 a ∧ bv = .int .i64 b ∧ OI wr w.heap.size A k c ys ∧ Hid (ys ++ cfTerms a b = cfTerms n D) ∧ k + b ≤ D ∧ -400000000 ≤ a ∧ a ≤ 400000000 ∧ Below w.heap.size w wr
def GotInts (base : Nat) (ok : Bool) (ys : List Int) (w0 : World) (e : Ending) (w' : World) : Prop :=
  ∃ A c, e = .returned (.tuple #[.slice A ys.length c, .bool ok]) ∧ OI w' base A ys.length c ys ∧ ∃ x : Ext w0, w' = x.val
end Go.Proofs.YtekpamojojfplaaGreat
namespace Go.Proofs.YtekpamojojfplaaGreat
open Go.RowKit
def redR (x y : Int) : Int × Int := if ratioB x y then (x, y) else (0, 0)
def lowR (n d : Int) : Int × Int :=
  if d < 0 then redR (-(n / (Int.gcd n d : Int))) (-(d / (Int.gcd n d : Int))) else redR (n / (Int.gcd n d : Int)) (d / (Int.gcd n d : Int))
theorem gcd_pos_of {n d : Int} (h : d ≠ 0) : 0 < (Int.gcd n d : Int) := by
  have := Int.gcd_pos_of_ne_zero_right n h; omega
theorem tdiv_left {n d : Int} (_h : d ≠ 0) : n.tdiv (Int.gcd n d) = n / (Int.gcd n d : Int) :=
  (Int.tdiv_eq_ediv_of_dvd (Int.gcd_dvd_left n d))
theorem tdiv_right {n d : Int} (_h : d ≠ 0) : d.tdiv (Int.gcd n d) = d / (Int.gcd n d : Int) :=
  (Int.tdiv_eq_ediv_of_dvd (Int.gcd_dvd_right n d))
theorem lowR_pos {n d : Int} (h : 0 < d) : lowR n d = redR (n.tdiv (Int.gcd n d)) (d.tdiv (Int.gcd n d)) := by
  rw [lowR, if_neg (by omega), tdiv_left (by omega), tdiv_right (by omega)]
theorem lowR_neg {n d : Int} (h : d < 0) : lowR n d = redR (-(n.tdiv (Int.gcd n d))) (-(d.tdiv (Int.gcd n d))) := by
  rw [lowR, if_pos h, tdiv_left (by omega), tdiv_right (by omega)]
@[go_sem low] theorem alloc_frozen {W : World} (c : Array Value) (t : TypeId) (b o : Nat) : (W.alloc (.cells c t)).frozen? ⟨b, o, none⟩ = if b < W.heap.size then W.frozen? ⟨b, o, none⟩ else false := by
  rw [frozen?_alloc_cells]
  split
  · rfl
  · have e : W.heap[b]? = none := by simp; omega
    simp [World.frozen?, e]
end Go.Proofs.YtekpamojojfplaaGreat
namespace Go.Proofs.YtekpamojojfplaaGreat
open Go.RowKit
attribute [-go_sem] alloc_frozen
theorem prod_bd {a b : Int} (h1 : -400000000 ≤ a) (h2 : a ≤ 400000000) (h3 : -400000000 ≤ b) (h4 : b ≤ 400000000) : -160000000000000000 ≤ a * b ∧ a * b ≤ 160000000000000000 := by
  have h : (a * b).natAbs ≤ 400000000 * 400000000 := by
    rw [Int.natAbs_mul]; exact Nat.mul_le_mul (by omega) (by omega)
  omega
def addR (a b c d : Int) : Int × Int := if ratioB a b && ratioB c d then lowR (a * d + c * b) (b * d) else (0, 0)
def divR (a b c d : Int) : Int × Int := if ratioB a b && ratioB c d && !(c == 0) then lowR (a * d) (b * c) else (0, 0)
end Go.Proofs.YtekpamojojfplaaGreat
namespace Go.Proofs.YtekpamojojfplaaGreat
open Go.RowKit
def vR (p : Int × Int) : AV := .agg [.int p.1, .int p.2]
theorem vR_eq {a b : Int} {p : Int × Int} (h : p = (a, b)) : AV.agg [.int a, .int b] = vR p := by rw [h]; rfl
theorem d_ratioI (n d : Int) : Does Tryz.prog 195 [.agg [.int n, .int d]] [] 1 (Ret (vB (ratioB n d)) 1) := by
 refine Does.intro TT Tryz.func195 rfl (by kernel_rfl) Zz Zz fun E hE => ?_
 (repeat' (first | refine stx ?_ | (first | refine w_z (d_numI _) Zz Zz Zz Zz Zz Zz Zz Zz ft Zz Zz ?_ | refine w_A (d_numI _) Zz Zz Zz Zz Zz Zz Zz Zz ft Zz Zz ?_) | (first | refine w_z (d_gcd _ _ (by have := numB_true.1 (by assumption); omega) (by omega)) Zz Zz Zz Zz Zz Zz Zz Zz ft Zz Zz ?_ | refine w_A (d_gcd _ _ (by have := numB_true.1 (by assumption); omega) (by omega)) Zz Zz Zz Zz Zz Zz Zz Zz ft Zz Zz ?_) | (refine stq ?_ ?_ <;> (intro hc; ((try simp at hc) <;> try contradiction))) | fail))
 all_goals refine fin_ret rfl trivial (congrArg vB ?_) rfl
 all_goals simp [ratioB, numB_true, numB_false] at *
 ·rw [Bool.eq_iff_iff]; simp; omega
 all_goals omega
theorem d_ratioS (n d : Int) : Does Tryz.prog 150 [.agg [.int n, .int d]] [] 1 (Ret (vB (ratioB n d)) 1) := by
 refine Does.intro TT Tryz.func150 rfl (by kernel_rfl) Zz Zz fun E hE => ?_
 (repeat' (first | refine stx ?_ | (first | refine w_z (d_l1In _ _ _) Zz Zz Zz Zz Zz Zz Zz Zz ft Zz Zz ?_ | refine w_A (d_l1In _ _ _) Zz Zz Zz Zz Zz Zz Zz Zz ft Zz Zz ?_) | (first | refine w_z (d_numS _) Zz Zz Zz Zz Zz Zz Zz Zz ft Zz Zz ?_ | refine w_A (d_numS _) Zz Zz Zz Zz Zz Zz Zz Zz ft Zz Zz ?_) | (first | refine w_z (d_gcdOf _ _) Zz Zz Zz Zz Zz Zz Zz Zz ft Zz Zz ?_ | refine w_A (d_gcdOf _ _) Zz Zz Zz Zz Zz Zz Zz Zz ft Zz Zz ?_) | (refine stq ?_ ?_ <;> (intro hc; ((try simp at hc) <;> try contradiction))) | fail))
 all_goals refine fin_ret rfl trivial (congrArg vB ?_) rfl
 ·have h1 := numB_true.1 (by assumption : numB n = true)
  have h2 := inB_true.1 (by assumption : inB d 1 400000000 = true)
  rw [gcdOf_eq (by assumption) (numB_true.2 (by omega))]
  simp [ratioB]
  rw [Bool.eq_iff_iff]; simp; omega
 ·have h1 := numB_false.1 (by assumption : numB n = false)
  simp [ratioB]; omega
 ·have h2 := inB_false.1 (by assumption : inB d 1 400000000 = false)
  simp [ratioB]; omega
theorem q_bd (n : Int) {g : Int} (h1 : -1000000000000000000 ≤ n) (h2 : n ≤ 1000000000000000000) : -1000000000000000000 ≤ n.tdiv g ∧ n.tdiv g ≤ 1000000000000000000 := by
  have hq1 := tdiv_bd n g
  omega
theorem lowR_of {n d : Int} {x y : Int} {b : Bool} (h : (n.tdiv (Int.gcd n d) = x ∧ d.tdiv (Int.gcd n d) = y ∧ 0 < d) ∨ (-(n.tdiv (Int.gcd n d)) = x ∧ -(d.tdiv (Int.gcd n d)) = y ∧ d < 0)) (hb : ratioB x y = b) : lowR n d = if b then (x, y) else (0, 0) := by
  rcases h with ⟨h1, h2, h⟩ | ⟨h1, h2, h⟩
  · rw [lowR_pos h, h1, h2, redR, hb]
  · rw [lowR_neg h, h1, h2, redR, hb]
theorem d_lowest (n d : Int) (hn : -1000000000000000000 ≤ n ∧ n ≤ 1000000000000000000) (hd : -1000000000000000000 ≤ d ∧ d ≤ 1000000000000000000) (h0 : d ≠ 0) : Does Tryz.prog 217 [vI n, vI d] [] 1 (Ret (vR (lowR n d)) 1) := by
 have hg0 := gcd_pos_of (n := n) h0
 have hg1 : (Int.gcd n d : Int) ≤ 1000000000000000000 := gcd_le_left hn.1 hn.2 hd.1 hd.2
 have hq1 := q_bd n (g := (Int.gcd n d : Int)) hn.1 hn.2
 have hq2 := q_bd d (g := (Int.gcd n d : Int)) hd.1 hd.2
 have hq3 := q_bd n (g := -(Int.gcd n d : Int)) hn.1 hn.2
 have hq4 := q_bd d (g := -(Int.gcd n d : Int)) hd.1 hd.2
 refine Does.intro TT Tryz.func217 rfl (by kernel_rfl) Zz Zz fun E hE => ?_
 (repeat' (first | refine stx ?_ | (first | refine w_z (d_gcd _ _ (by omega) (by omega)) Zz Zz Zz Zz Zz Zz Zz Zz ft Zz Zz ?_ | refine w_A (d_gcd _ _ (by omega) (by omega)) Zz Zz Zz Zz Zz Zz Zz Zz ft Zz Zz ?_) | (refine stq ?_ ?_ <;> (intro hc; ((try simp at hc) <;> try contradiction))) | fail))
 all_goals
  refine awp_held TM [] sb rfl (fun ρs => ?_)
  refine zt0 ?_
  refine zt1 ?_
  refine zt2 ?_
  refine zt3 ?_
  refine zt4 ?_
  refine zt5 ?_
  refine zt6 ?_
  refine w_u [7] kr rfl ⟨?_, trivial⟩
  first | (refine zho ?_)
  refine w_u [8] kr rfl ⟨?_, trivial⟩
  first | (refine zho ?_)
  refine w_v kr ?_
  rotate_left
  (repeat' (first | refine stx ?_ | (first | refine w_z (d_ratioI _ _) Zz Zz Zz Zz Zz Zz Zz Zz ft Zz Zz ?_ | refine w_A (d_ratioI _ _) Zz Zz Zz Zz Zz Zz Zz Zz ft Zz Zz ?_) | (refine stq ?_ ?_ <;> (intro hc; ((try simp at hc) <;> try contradiction))) | fail))
 all_goals refine fin_ret rfl w_3 (vR_eq ?_) rfl
 all_goals try simp only [Int.tdiv_neg] at *
 all_goals rw [lowR_of (by first | exact .inr ⟨rfl, rfl, by omega⟩ | exact .inl ⟨rfl, rfl, by omega⟩) hc]
 all_goals rfl
theorem gcd_nn {n d : Int} : Int.gcd (-n) (-d) = Int.gcd n d := by rw [Int.gcd_neg, Int.neg_gcd]
theorem d_l2Make (n d : Int) (hn : -1000000000000000000 ≤ n ∧ n ≤ 1000000000000000000) (hd : -1000000000000000000 ≤ d ∧ d ≤ 1000000000000000000) : Does Tryz.prog 214 [vI n, vI d] [] 1 (Ret (vR (if d = 0 then (0, 0) else lowR n d)) 1) := by
 refine Does.intro TT Tryz.func214 rfl (by kernel_rfl) Zz Zz fun E hE => ?_
 (repeat' (first | refine stx ?_ | (refine stq ?_ ?_ <;> (intro hc; ((try simp at hc) <;> try contradiction))) | fail))
 ·refine fin_ret rfl w_3 (vR_eq ?_) rfl
  rw [if_pos hc]
 ·rw [if_neg (show ¬ d = 0 by assumption)]
  have h0 : d ≠ 0 := by assumption
  have hg0 := gcd_pos_of (n := n) h0
  have hg1 : (Int.gcd n d : Int) ≤ 1000000000000000000 := gcd_le_left hn.1 hn.2 hd.1 hd.2
  have hq1 := q_bd (-n) (g := (Int.gcd n d : Int)) (by omega) (by omega)
  have hq2 := q_bd (-d) (g := (Int.gcd n d : Int)) (by omega) (by omega)
  refine w_G hE (fun p : Int × Int => (-1000000000000000000 ≤ p.1 ∧ p.1 ≤ 1000000000000000000) ∧ (-1000000000000000000 ≤ p.2 ∧ p.2 ≤ 1000000000000000000) ∧ Int.gcd p.1 p.2 = Int.gcd (-n) (-d)) (fun p => p.2.natAbs)
   (fun p => [(0, vI (-n)), (1, vI (-d)), (4, .one (.ptr 1 2 0 0)), (5, vI p.1), (6, vI p.2)]) (fun _ => [(1, .own 129 1 (.lit [.int 0, .int 0]))]) 2 [] (-n, -d) ⟨by omega, by omega, rfl⟩ ⟨⟨rfl, rfl, rfl, rfl, rfl, trivial⟩, ⟨rfl, trivial⟩, rfl⟩ ?_
  rintro ⟨x, y⟩ ⟨h1, h2, h5⟩
  dsimp only at *
  (repeat' (first | refine stx ?_ | (first | refine w_z (d_l1Abs _ (by omega) (by omega)) Zz Zz Zz Zz Zz Zz Zz Zz ft Zz Zz ?_ | refine w_A (d_l1Abs _ (by omega) (by omega)) Zz Zz Zz Zz Zz Zz Zz Zz ft Zz Zz ?_) | (refine stq ?_ ?_ <;> (intro hc; ((try simp at hc) <;> try contradiction))) | fail))
  ·obtain ⟨h6, h7⟩ := gcd_round h1 h2 hc h5
   exact ⟨[], (y, x.tmod y), h6, h7, ⟨rfl, rfl, rfl, rfl, rfl, trivial⟩, ⟨rfl, trivial⟩, rfl⟩
  ·subst hc
   have e : (x.natAbs : Int) = (Int.gcd n d : Int) := by rw [← gcd_nn, ← h5]; simp
   rw [e]
   refine awp_held TM [] sb rfl (fun ρs => ?_)
   refine zt0 ?_
   refine zt1 ?_
   refine zt2 ?_
   refine zt3 ?_
   refine zt4 ?_
   refine zt5 ?_
   refine zt6 ?_
   refine w_u [7] kr rfl ⟨?_, trivial⟩
   first | (refine zho ?_)
   refine w_u [8] kr rfl ⟨?_, trivial⟩
   first | (refine zho ?_)
   refine w_v kr ?_
   rotate_left
   (repeat' (first | refine stx ?_ | (first | refine w_z (d_ratioS _ _) Zz Zz Zz Zz Zz Zz Zz Zz ft Zz Zz ?_ | refine w_A (d_ratioS _ _) Zz Zz Zz Zz Zz Zz Zz Zz ft Zz Zz ?_) | (refine stq ?_ ?_ <;> (intro hc; ((try simp at hc) <;> try contradiction))) | fail))
   all_goals refine fin_ret rfl w_3 (vR_eq ?_) rfl
   all_goals simp only [Int.neg_tdiv] at *
   all_goals rw [lowR_of (.inr ⟨rfl, rfl, by omega⟩) hc]
   all_goals rfl
 ·rw [if_neg (show ¬ d = 0 by assumption)]
  have h0 : d ≠ 0 := by assumption
  have hg0 := gcd_pos_of (n := n) h0
  have hg1 : (Int.gcd n d : Int) ≤ 1000000000000000000 := gcd_le_left hn.1 hn.2 hd.1 hd.2
  have hq1 := q_bd n (g := (Int.gcd n d : Int)) (by omega) (by omega)
  have hq2 := q_bd d (g := (Int.gcd n d : Int)) (by omega) (by omega)
  refine w_G hE (fun p : Int × Int => (-1000000000000000000 ≤ p.1 ∧ p.1 ≤ 1000000000000000000) ∧ (-1000000000000000000 ≤ p.2 ∧ p.2 ≤ 1000000000000000000) ∧ Int.gcd p.1 p.2 = Int.gcd n d) (fun p => p.2.natAbs)
   (fun p => [(0, vI n), (1, vI d), (4, .one (.ptr 1 2 0 0)), (5, vI p.1), (6, vI p.2)]) (fun _ => [(1, .own 129 1 (.lit [.int 0, .int 0]))]) 2 [] (n, d) ⟨by omega, by omega, rfl⟩ ⟨⟨rfl, rfl, rfl, rfl, rfl, trivial⟩, ⟨rfl, trivial⟩, rfl⟩ ?_
  rintro ⟨x, y⟩ ⟨h1, h2, h5⟩
  dsimp only at *
  (repeat' (first | refine stx ?_ | (first | refine w_z (d_l1Abs _ (by omega) (by omega)) Zz Zz Zz Zz Zz Zz Zz Zz ft Zz Zz ?_ | refine w_A (d_l1Abs _ (by omega) (by omega)) Zz Zz Zz Zz Zz Zz Zz Zz ft Zz Zz ?_) | (refine stq ?_ ?_ <;> (intro hc; ((try simp at hc) <;> try contradiction))) | fail))
  ·obtain ⟨h6, h7⟩ := gcd_round h1 h2 hc h5
   exact ⟨[], (y, x.tmod y), h6, h7, ⟨rfl, rfl, rfl, rfl, rfl, trivial⟩, ⟨rfl, trivial⟩, rfl⟩
  ·subst hc
   have e : (x.natAbs : Int) = (Int.gcd n d : Int) := by rw [← h5]; simp
   rw [e]
   refine awp_held TM [] sb rfl (fun ρs => ?_)
   refine zt0 ?_
   refine zt1 ?_
   refine zt2 ?_
   refine zt3 ?_
   refine zt4 ?_
   refine zt5 ?_
   refine zt6 ?_
   refine w_u [7] kr rfl ⟨?_, trivial⟩
   first | (refine zho ?_)
   refine w_u [8] kr rfl ⟨?_, trivial⟩
   first | (refine zho ?_)
   refine w_v kr ?_
   rotate_left
   (repeat' (first | refine stx ?_ | (first | refine w_z (d_ratioS _ _) Zz Zz Zz Zz Zz Zz Zz Zz ft Zz Zz ?_ | refine w_A (d_ratioS _ _) Zz Zz Zz Zz Zz Zz Zz Zz ft Zz Zz ?_) | (refine stq ?_ ?_ <;> (intro hc; ((try simp at hc) <;> try contradiction))) | fail))
   all_goals refine fin_ret rfl w_3 (vR_eq ?_) rfl
   all_goals rw [lowR_of (.inl ⟨rfl, rfl, by omega⟩) hc]
   all_goals rfl
theorem prod_in {a b : Int} (h1 : -400000000 ≤ a ∧ a ≤ 400000000) (h2 : -400000000 ≤ b ∧ b ≤ 400000000) : -160000000000000000 ≤ a * b ∧ a * b ≤ 160000000000000000 := prod_bd h1.1 h1.2 h2.1 h2.2
theorem ratio_in {n d : Int} (h : ratioB n d = true) : (-400000000 ≤ n ∧ n ≤ 400000000) ∧ (-400000000 ≤ d ∧ d ≤ 400000000) ∧ 1 ≤ d := by
  obtain ⟨h1, h2, h3, h4, _⟩ := ratioB_true h
  omega
theorem ratio_prods {a b c d : Int} (h1 : ratioB a b = true) (h2 : ratioB c d = true) : (-160000000000000000 ≤ a * d ∧ a * d ≤ 160000000000000000) ∧ (-160000000000000000 ≤ c * b ∧ c * b ≤ 160000000000000000) ∧ (-160000000000000000 ≤ b * d ∧ b * d ≤ 160000000000000000) ∧ (-160000000000000000 ≤ b * c ∧ b * c ≤ 160000000000000000) ∧ b * d ≠ 0 ∧ (c ≠ 0 → b * c ≠ 0) := by
  have ⟨a1, a2, a3⟩ := ratio_in h1
  have ⟨b1, b2, b3⟩ := ratio_in h2
  exact ⟨prod_in a1 b2, prod_in b1 a2, prod_in a2 b2, prod_in a2 b1, Int.mul_ne_zero (by omega) (by omega), fun h => Int.mul_ne_zero (by omega) h⟩
theorem d_addRI (a b c d : Int) : Does Tryz.prog 215 [.agg [.int a, .int b], .agg [.int c, .int d]] [] 1 (Ret (vR (addR a b c d)) 1) := by
 have hp := @ratio_prods a b c d
 refine Does.intro TT Tryz.func215 rfl (by kernel_rfl) Zz Zz fun E hE => ?_
 cases h1 : ratioB a b <;> cases h2 : ratioB c d
 all_goals simp only [h1, h2, forall_const] at hp
 all_goals (repeat' (first | refine stx ?_ | ((first | refine w_z (d_ratioI _ _) Zz Zz Zz Zz Zz Zz Zz Zz ft Zz Zz ?_ | refine w_A (d_ratioI _ _) Zz Zz Zz Zz Zz Zz Zz Zz ft Zz Zz ?_) <;> simp only [h1, h2]) | (first | refine w_z (d_lowest _ _ (by omega) (by omega) (by omega)) Zz Zz Zz Zz Zz Zz Zz Zz ft Zz Zz ?_ | refine w_A (d_lowest _ _ (by omega) (by omega) (by omega)) Zz Zz Zz Zz Zz Zz Zz Zz ft Zz Zz ?_) | (refine stq ?_ ?_ <;> (intro hc; ((try simp at hc) <;> try contradiction))) | fail))
 all_goals refine fin_ret rfl w_3 (vR_eq ?_) rfl
 all_goals simp_all [addR]
 all_goals try rw [if_neg (by intro e; rcases Int.mul_eq_zero.1 e with e | e <;> omega)]
theorem d_addRS (a b c d : Int) : Does Tryz.prog 180 [.agg [.int a, .int b], .agg [.int c, .int d]] [] 1 (Ret (vR (addR a b c d)) 1) := by
 have hp := @ratio_prods a b c d
 refine Does.intro TT Tryz.func180 rfl (by kernel_rfl) Zz Zz fun E hE => ?_
 cases h1 : ratioB a b <;> cases h2 : ratioB c d
 all_goals simp only [h1, h2, forall_const] at hp
 all_goals (repeat' (first | refine stx ?_ | ((first | refine w_z (d_ratioS _ _) Zz Zz Zz Zz Zz Zz Zz Zz ft Zz Zz ?_ | refine w_A (d_ratioS _ _) Zz Zz Zz Zz Zz Zz Zz Zz ft Zz Zz ?_) <;> simp only [h1, h2]) | (first | refine w_z (d_l2Make _ _ (by omega) (by omega)) Zz Zz Zz Zz Zz Zz Zz Zz ft Zz Zz ?_ | refine w_A (d_l2Make _ _ (by omega) (by omega)) Zz Zz Zz Zz Zz Zz Zz Zz ft Zz Zz ?_) | (refine stq ?_ ?_ <;> (intro hc; ((try simp at hc) <;> try contradiction))) | fail))
 all_goals refine fin_ret rfl w_3 (vR_eq ?_) rfl
 all_goals simp_all [addR]
 all_goals try rw [if_neg (by intro e; rcases Int.mul_eq_zero.1 e with e | e <;> omega)]
theorem d_divRI (a b c d : Int) : Does Tryz.prog 196 [.agg [.int a, .int b], .agg [.int c, .int d]] [] 1 (Ret (vR (divR a b c d)) 1) := by
 have hp := @ratio_prods a b c d
 refine Does.intro TT Tryz.func196 rfl (by kernel_rfl) Zz Zz fun E hE => ?_
 cases h1 : ratioB a b <;> cases h2 : ratioB c d
 all_goals simp only [h1, h2, forall_const] at hp
 all_goals (repeat' (first | refine stx ?_ | ((first | refine w_z (d_ratioI _ _) Zz Zz Zz Zz Zz Zz Zz Zz ft Zz Zz ?_ | refine w_A (d_ratioI _ _) Zz Zz Zz Zz Zz Zz Zz Zz ft Zz Zz ?_) <;> simp only [h1, h2]) | (first | refine w_z (d_lowest _ _ (by omega) (by omega) (by omega)) Zz Zz Zz Zz Zz Zz Zz Zz ft Zz Zz ?_ | refine w_A (d_lowest _ _ (by omega) (by omega) (by omega)) Zz Zz Zz Zz Zz Zz Zz Zz ft Zz Zz ?_) | (refine stq ?_ ?_ <;> (intro hc; ((try simp at hc) <;> try contradiction))) | fail))
 all_goals refine fin_ret rfl w_3 (vR_eq ?_) rfl
 all_goals simp_all [divR]
 all_goals try rw [if_neg (by intro e; rcases Int.mul_eq_zero.1 e with e | e <;> omega)]
theorem d_divRS (a b c d : Int) : Does Tryz.prog 183 [.agg [.int a, .int b], .agg [.int c, .int d]] [] 1 (Ret (vR (divR a b c d)) 1) := by
 have hp := @ratio_prods a b c d
 refine Does.intro TT Tryz.func183 rfl (by kernel_rfl) Zz Zz fun E hE => ?_
 cases h1 : ratioB a b <;> cases h2 : ratioB c d
 all_goals simp only [h1, h2, forall_const] at hp
 all_goals (repeat' (first | refine stx ?_ | ((first | refine w_z (d_ratioS _ _) Zz Zz Zz Zz Zz Zz Zz Zz ft Zz Zz ?_ | refine w_A (d_ratioS _ _) Zz Zz Zz Zz Zz Zz Zz Zz ft Zz Zz ?_) <;> simp only [h1, h2]) | (first | refine w_z (d_l2Make _ _ (by omega) (by omega)) Zz Zz Zz Zz Zz Zz Zz Zz ft Zz Zz ?_ | refine w_A (d_l2Make _ _ (by omega) (by omega)) Zz Zz Zz Zz Zz Zz Zz Zz ft Zz Zz ?_) | (refine stq ?_ ?_ <;> (intro hc; ((try simp at hc) <;> try contradiction))) | fail))
 all_goals refine fin_ret rfl w_3 (vR_eq ?_) rfl
 all_goals simp_all [divR]
 all_goals try rw [if_neg (by intro e; rcases Int.mul_eq_zero.1 e with e | e <;> omega)]
theorem d_whole (n : Int) : Does Tryz.prog 192 [vI n] [] 1 (Ret (vR (n, 1)) 1) := by
 refine Does.intro TT Tryz.func192 rfl (by kernel_rfl) Zz Zz fun E hE => ?_
 (repeat' (first | refine stx ?_ | (refine stq ?_ ?_ <;> (intro hc; ((try simp at hc) <;> try contradiction))) | fail))
 all_goals refine fin_ret rfl w_3 (rfl) rfl
def mkR (n d : Int) : Int × Int := if numB n && numB d && !(d == 0) then lowR n d else (0, 0)
end Go.Proofs.YtekpamojojfplaaGreat
namespace Go.Proofs.YtekpamojojfplaaGreat
open Go.RowKit
theorem d_floorI (n d : Int) (h1 : -1000000000000000000 ≤ n) (h2 : n ≤ 1000000000000000000) (hd : 0 < d) : Does Tryz.prog 219 [vI n, vI d] [] 1 (Ret (vI (n / d)) 1) := by
 have hb := tdiv_bd n d
 refine Does.intro TT Tryz.func219 rfl (by kernel_rfl) Zz Zz fun E hE => ?_
 (repeat' (first | refine stx ?_ | (refine stq ?_ ?_ <;> (intro hc; ((try simp at hc) <;> try contradiction))) | fail))
 ·have hn : n < 0 := by omega
  have := tmod_sign_nonpos (n := n) (d := d) (by omega)
  refine fin_ret rfl w_3 (congrArg vI (tdiv_floor_neg hd (by omega))) rfl
 ·have := tmod_sign_nonneg (n := n) (d := d) (by omega)
  refine fin_ret rfl w_3 (congrArg vI (tdiv_floor_nonneg hd (by omega))) rfl
 ·refine fin_ret rfl w_3 (congrArg vI (tdiv_floor_nonneg hd (by omega))) rfl
theorem d_floorS (n d : Int) (h1 : -1000000000000000000 ≤ n) (h2 : n ≤ 1000000000000000000) (hd : 0 < d) : Does Tryz.prog 185 [vI n, vI d] [] 1 (Ret (vI (n / d)) 1) := by
 have hb := tdiv_bd n d
 refine Does.intro TT Tryz.func185 rfl (by kernel_rfl) Zz Zz fun E hE => ?_
 (repeat' (first | refine stx ?_ | (refine stq ?_ ?_ <;> (intro hc; ((try simp at hc) <;> try contradiction))) | fail))
 ·refine fin_ret rfl w_3 (congrArg vI (tdiv_floor_neg hd hc)) rfl
 ·refine fin_ret rfl w_3 (congrArg vI (tdiv_floor_nonneg hd hc)) rfl
end Go.Proofs.YtekpamojojfplaaGreat
namespace Go.Proofs.YtekpamojojfplaaGreat
open Go.RowKit
def mulR (a b c d : Int) : Int × Int := if ratioB a b && ratioB c d then lowR (a * c) (b * d) else (0, 0)
def negR (n d : Int) : Int × Int := if ratioB n d then (-n, d) else (0, 0)
def subR (a b c d : Int) : Int × Int := addR a b (negR c d).1 (negR c d).2
def cmpR (a b c d : Int) : Int := if ratioB a b && ratioB c d then (if a * d < c * b then -1 else if c * b < a * d then 1 else 0) else 2
def rndR (n d : Int) : Int := if ratioB n d then (2 * n + d) / (2 * d) else 0
theorem ratio_mul {a b c d : Int} (h1 : ratioB a b = true) (h2 : ratioB c d = true) : -160000000000000000 ≤ a * c ∧ a * c ≤ 160000000000000000 := by
  have ⟨a1, a2, a3⟩ := ratio_in h1
  have ⟨b1, b2, b3⟩ := ratio_in h2
  exact prod_in a1 b1
theorem d_mulRI (a b c d : Int) : Does Tryz.prog 194 [.agg [.int a, .int b], .agg [.int c, .int d]] [] 1 (Ret (vR (mulR a b c d)) 1) := by
 have hp := @ratio_prods a b c d
 have hq := @ratio_mul a b c d
 refine Does.intro TT Tryz.func194 rfl (by kernel_rfl) Zz Zz fun E hE => ?_
 cases h1 : ratioB a b <;> cases h2 : ratioB c d
 all_goals simp only [h1, h2, forall_const] at hp hq
 all_goals (repeat' (first | refine stx ?_ | ((first | refine w_z (d_ratioI _ _) Zz Zz Zz Zz Zz Zz Zz Zz ft Zz Zz ?_ | refine w_A (d_ratioI _ _) Zz Zz Zz Zz Zz Zz Zz Zz ft Zz Zz ?_) <;> simp only [h1, h2]) | (first | refine w_z (d_lowest _ _ (by omega) (by omega) (by omega)) Zz Zz Zz Zz Zz Zz Zz Zz ft Zz Zz ?_ | refine w_A (d_lowest _ _ (by omega) (by omega) (by omega)) Zz Zz Zz Zz Zz Zz Zz Zz ft Zz Zz ?_) | (refine stq ?_ ?_ <;> (intro hc; ((try simp at hc) <;> try contradiction))) | fail))
 all_goals refine fin_ret rfl w_3 (vR_eq ?_) rfl
 all_goals simp_all [mulR]
theorem d_mulRS (a b c d : Int) : Does Tryz.prog 182 [.agg [.int a, .int b], .agg [.int c, .int d]] [] 1 (Ret (vR (mulR a b c d)) 1) := by
 have hp := @ratio_prods a b c d
 have hq := @ratio_mul a b c d
 refine Does.intro TT Tryz.func182 rfl (by kernel_rfl) Zz Zz fun E hE => ?_
 cases h1 : ratioB a b <;> cases h2 : ratioB c d
 all_goals simp only [h1, h2, forall_const] at hp hq
 all_goals (repeat' (first | refine stx ?_ | ((first | refine w_z (d_ratioS _ _) Zz Zz Zz Zz Zz Zz Zz Zz ft Zz Zz ?_ | refine w_A (d_ratioS _ _) Zz Zz Zz Zz Zz Zz Zz Zz ft Zz Zz ?_) <;> simp only [h1, h2]) | (first | refine w_z (d_l2Make _ _ (by omega) (by omega)) Zz Zz Zz Zz Zz Zz Zz Zz ft Zz Zz ?_ | refine w_A (d_l2Make _ _ (by omega) (by omega)) Zz Zz Zz Zz Zz Zz Zz Zz ft Zz Zz ?_) | (refine stq ?_ ?_ <;> (intro hc; ((try simp at hc) <;> try contradiction))) | fail))
 all_goals refine fin_ret rfl w_3 (vR_eq ?_) rfl
 all_goals simp_all [mulR]
 all_goals try rw [if_neg (by intro e; rcases Int.mul_eq_zero.1 e with e | e <;> omega)]
theorem d_negRI (n d : Int) : Does Tryz.prog 216 [.agg [.int n, .int d]] [] 1 (Ret (vR (negR n d)) 1) := by
 refine Does.intro TT Tryz.func216 rfl (by kernel_rfl) Zz Zz fun E hE => ?_
 cases h1 : ratioB n d
 ·(repeat' (first | refine stx ?_ | ((first | refine w_z (d_ratioI _ _) Zz Zz Zz Zz Zz Zz Zz Zz ft Zz Zz ?_ | refine w_A (d_ratioI _ _) Zz Zz Zz Zz Zz Zz Zz Zz ft Zz Zz ?_) <;> simp only [h1]) | (refine stq ?_ ?_ <;> (intro hc; ((try simp at hc) <;> try contradiction))) | fail))
  all_goals refine fin_ret rfl w_3 (vR_eq (by rw [negR, h1]; rfl)) rfl
 ·have ⟨a1, a2, a3⟩ := ratio_in h1
  (repeat' (first | refine stx ?_ | ((first | refine w_z (d_ratioI _ _) Zz Zz Zz Zz Zz Zz Zz Zz ft Zz Zz ?_ | refine w_A (d_ratioI _ _) Zz Zz Zz Zz Zz Zz Zz Zz ft Zz Zz ?_) <;> simp only [h1]) | (refine stq ?_ ?_ <;> (intro hc; ((try simp at hc) <;> try contradiction))) | fail))
  all_goals refine fin_ret rfl w_3 (vR_eq (by rw [negR, h1]; rfl)) rfl
theorem d_negRS (n d : Int) : Does Tryz.prog 181 [.agg [.int n, .int d]] [] 1 (Ret (vR (negR n d)) 1) := by
 refine Does.intro TT Tryz.func181 rfl (by kernel_rfl) Zz Zz fun E hE => ?_
 cases h1 : ratioB n d
 ·(repeat' (first | refine stx ?_ | ((first | refine w_z (d_ratioS _ _) Zz Zz Zz Zz Zz Zz Zz Zz ft Zz Zz ?_ | refine w_A (d_ratioS _ _) Zz Zz Zz Zz Zz Zz Zz Zz ft Zz Zz ?_) <;> simp only [h1]) | (refine stq ?_ ?_ <;> (intro hc; ((try simp at hc) <;> try contradiction))) | fail))
  all_goals refine fin_ret rfl w_3 (vR_eq (by rw [negR, h1]; rfl)) rfl
 ·have ⟨a1, a2, a3⟩ := ratio_in h1
  (repeat' (first | refine stx ?_ | ((first | refine w_z (d_ratioS _ _) Zz Zz Zz Zz Zz Zz Zz Zz ft Zz Zz ?_ | refine w_A (d_ratioS _ _) Zz Zz Zz Zz Zz Zz Zz Zz ft Zz Zz ?_) <;> simp only [h1]) | (refine stq ?_ ?_ <;> (intro hc; ((try simp at hc) <;> try contradiction))) | fail))
  all_goals refine fin_ret rfl w_3 (vR_eq (by rw [negR, h1]; rfl)) rfl
theorem d_subRI (a b c d : Int) : Does Tryz.prog 193 [.agg [.int a, .int b], .agg [.int c, .int d]] [] 1 (Ret (vR (subR a b c d)) 1) := by
 refine Does.intro TT Tryz.func193 rfl (by kernel_rfl) Zz Zz fun E hE => ?_
 ((repeat' (first | refine stp ?_ | (refine stq ?_ ?_ <;> (intro hc; ((try simp at hc) <;> try contradiction))) | fail)) <;> try (exfalso; omega))
 refine awp_held TM [(1, _), (2, _)] sb rfl (fun ρs => ?_)
 refine zt0 ?_
 refine zt1 ?_
 refine w_u [2] kr rfl ⟨?_, trivial⟩
 first | (refine zho ?_) | refine w_B _ (d_negRI _ _) Zz Zz Zz Zz Zz Zz Zz Zz Zz ft Zz Zz sb rfl ?_ | refine w_B _ (d_addRI a b (negR c d).1 (negR c d).2) Zz Zz Zz Zz Zz Zz Zz Zz Zz ft Zz Zz sb rfl ?_
 refine w_u [3] kr rfl ⟨?_, trivial⟩
 first | (refine zho ?_) | refine w_B _ (d_negRI _ _) Zz Zz Zz Zz Zz Zz Zz Zz Zz ft Zz Zz sb rfl ?_ | refine w_B _ (d_addRI a b (negR c d).1 (negR c d).2) Zz Zz Zz Zz Zz Zz Zz Zz Zz ft Zz Zz sb rfl ?_
 refine w_u [4] kr rfl ⟨?_, trivial⟩
 first | (refine zho ?_) | refine w_B _ (d_negRI _ _) Zz Zz Zz Zz Zz Zz Zz Zz Zz ft Zz Zz sb rfl ?_ | refine w_B _ (d_addRI a b (negR c d).1 (negR c d).2) Zz Zz Zz Zz Zz Zz Zz Zz Zz ft Zz Zz sb rfl ?_
 refine w_v kr ?_
 rotate_left
 all_goals ((repeat' (first | refine stx ?_ | (refine stq ?_ ?_ <;> (intro hc; ((try simp at hc) <;> try contradiction))) | fail)) <;> try (exfalso; omega))
 all_goals refine fin_ret rfl w_3 (rfl) rfl
theorem d_cmpRI (a b c d : Int) : Does Tryz.prog 221 [.agg [.int a, .int b], .agg [.int c, .int d]] [] 1 (Ret (vI (cmpR a b c d)) 1) := by
 have hp := @ratio_prods a b c d
 refine Does.intro TT Tryz.func221 rfl (by kernel_rfl) Zz Zz fun E hE => ?_
 cases h1 : ratioB a b <;> cases h2 : ratioB c d
 all_goals simp only [h1, h2, forall_const] at hp
 all_goals ((repeat' (first | refine stx ?_ | ((first | refine w_z (d_ratioI _ _) Zz Zz Zz Zz Zz Zz Zz Zz ft Zz Zz ?_ | refine w_A (d_ratioI _ _) Zz Zz Zz Zz Zz Zz Zz Zz ft Zz Zz ?_) <;> simp only [h1, h2]) | (refine stq ?_ ?_ <;> (intro hc; ((try simp at hc) <;> try contradiction))) | fail)) <;> try (exfalso; omega))
 all_goals refine fin_ret rfl w_3 (congrArg vI (by simp only [cmpR, h1, h2]; simp; try (split <;> omega))) rfl
theorem d_cmpRS (a b c d : Int) : Does Tryz.prog 187 [.agg [.int a, .int b], .agg [.int c, .int d]] [] 1 (Ret (vI (cmpR a b c d)) 1) := by
 have hp := @ratio_prods a b c d
 refine Does.intro TT Tryz.func187 rfl (by kernel_rfl) Zz Zz fun E hE => ?_
 cases h1 : ratioB a b <;> cases h2 : ratioB c d
 all_goals simp only [h1, h2, forall_const] at hp
 all_goals ((repeat' (first | refine stx ?_ | ((first | refine w_z (d_ratioS _ _) Zz Zz Zz Zz Zz Zz Zz Zz ft Zz Zz ?_ | refine w_A (d_ratioS _ _) Zz Zz Zz Zz Zz Zz Zz Zz ft Zz Zz ?_) <;> simp only [h1, h2]) | (refine stq ?_ ?_ <;> (intro hc; ((try simp at hc) <;> try contradiction))) | fail)) <;> try (exfalso; omega))
 all_goals refine fin_ret rfl w_3 (congrArg vI (by simp only [cmpR, h1, h2]; simp; try (split <;> omega))) rfl
theorem d_rndRI (n d : Int) : Does Tryz.prog 197 [.agg [.int n, .int d]] [] 1 (Ret (vI (rndR n d)) 1) := by
 refine Does.intro TT Tryz.func197 rfl (by kernel_rfl) Zz Zz fun E hE => ?_
 cases h1 : ratioB n d
 ·((repeat' (first | refine stx ?_ | ((first | refine w_z (d_ratioI _ _) Zz Zz Zz Zz Zz Zz Zz Zz ft Zz Zz ?_ | refine w_A (d_ratioI _ _) Zz Zz Zz Zz Zz Zz Zz Zz ft Zz Zz ?_) <;> simp only [h1]) | (refine stq ?_ ?_ <;> (intro hc; ((try simp at hc) <;> try contradiction))) | fail)) <;> try (exfalso; omega))
  all_goals refine fin_ret rfl w_3 (congrArg vI (by rw [rndR, h1]; rfl)) rfl
 ·have ⟨a1, a2, a3⟩ := ratio_in h1
  ((repeat' (first | refine stx ?_ | ((first | refine w_z (d_ratioI _ _) Zz Zz Zz Zz Zz Zz Zz Zz ft Zz Zz ?_ | refine w_A (d_ratioI _ _) Zz Zz Zz Zz Zz Zz Zz Zz ft Zz Zz ?_) <;> simp only [h1]) | (first | refine w_z (d_floorI _ _ (by omega) (by omega) (by omega)) Zz Zz Zz Zz Zz Zz Zz Zz ft Zz Zz ?_ | refine w_A (d_floorI _ _ (by omega) (by omega) (by omega)) Zz Zz Zz Zz Zz Zz Zz Zz ft Zz Zz ?_) | (refine stq ?_ ?_ <;> (intro hc; ((try simp at hc) <;> try contradiction))) | fail)) <;> try (exfalso; omega))
  all_goals refine fin_ret rfl w_3 (congrArg vI (by rw [rndR, h1]; rfl)) rfl
theorem d_rndRS (n d : Int) : Does Tryz.prog 151 [.agg [.int n, .int d]] [] 1 (Ret (vI (rndR n d)) 1) := by
 refine Does.intro TT Tryz.func151 rfl (by kernel_rfl) Zz Zz fun E hE => ?_
 cases h1 : ratioB n d
 ·((repeat' (first | refine stx ?_ | ((first | refine w_z (d_ratioS _ _) Zz Zz Zz Zz Zz Zz Zz Zz ft Zz Zz ?_ | refine w_A (d_ratioS _ _) Zz Zz Zz Zz Zz Zz Zz Zz ft Zz Zz ?_) <;> simp only [h1]) | (refine stq ?_ ?_ <;> (intro hc; ((try simp at hc) <;> try contradiction))) | fail)) <;> try (exfalso; omega))
  all_goals refine fin_ret rfl w_3 (congrArg vI (by rw [rndR, h1]; rfl)) rfl
 ·have ⟨a1, a2, a3⟩ := ratio_in h1
  ((repeat' (first | refine stx ?_ | ((first | refine w_z (d_ratioS _ _) Zz Zz Zz Zz Zz Zz Zz Zz ft Zz Zz ?_ | refine w_A (d_ratioS _ _) Zz Zz Zz Zz Zz Zz Zz Zz ft Zz Zz ?_) <;> simp only [h1]) | (first | refine w_z (d_floorS _ _ (by omega) (by omega) (by omega)) Zz Zz Zz Zz Zz Zz Zz Zz ft Zz Zz ?_ | refine w_A (d_floorS _ _ (by omega) (by omega) (by omega)) Zz Zz Zz Zz Zz Zz Zz Zz ft Zz Zz ?_) | (refine stq ?_ ?_ <;> (intro hc; ((try simp at hc) <;> try contradiction))) | fail)) <;> try (exfalso; omega))
  all_goals refine fin_ret rfl w_3 (congrArg vI (by rw [rndR, h1]; rfl)) rfl
end Go.Proofs.YtekpamojojfplaaGreat
namespace Go.Proofs.YtekpamojojfplaaGreat
open Go.RowKit
def vS (k sz off len cap : Nat) : AV := .one (.sl k sz off len cap)
theorem getD_at {xs : List Int} {j : Nat} (h : j < xs.length) : xs.getD (0 + (j : Int).toNat) 0 = xs[j] := by simp [h]
theorem gD {xs : List Int} {j : Nat} (h : j < xs.length) : xs[j]?.getD 0 = xs[j] := by simp [h]
theorem own_ints {t : TypeId} {c : Nat} {l l' : List Int} {m : Nat → Nat} (h : l = l') : some (Blk.own t c (.ints l)) = some ((Blk.own t c (.ints l')).ren m) := by subst h; rfl
theorem all_take {f : Int → Bool} {xs : List Int} {j : Nat} (h : j < xs.length) (ha : (xs.take j).all f = true) (hj : f xs[j] = true) : (xs.take (j + 1)).all f = true := by
  rw [List.take_succ_eq_append_getElem h, List.all_append, ha]; simp [hj]
theorem all_bad {f : Int → Bool} {xs : List Int} {j : Nat} (h : j < xs.length) (hj : f xs[j] = false) : xs.all f = false := by
  rw [List.all_eq_false]; exact ⟨xs[j], List.getElem_mem h, by simp [hj]⟩
theorem d_areNumbers (xs : List Int) (c : Nat) (hl : xs.length ≤ 1099511627776) : Does Tryz.prog 68 [vS 1 1 0 xs.length c] [(1, .ro (.ints xs))] 2 (Ret (vB (xs.all numB)) 2) := by
 refine Does.intro TT Tryz.func68 rfl (by kernel_rfl) Zz Zz fun E hE => ?_
 (repeat' (first | refine stx ?_ | (refine stq ?_ ?_ <;> (intro hc; ((try simp at hc) <;> try contradiction))) | fail))
 refine w_G hE (fun k : Nat => k ≤ xs.length ∧ (xs.take k).all numB = true) (fun k => xs.length - k)
  (fun k => [(0, vS 1 1 0 xs.length c), (5, vS 1 1 0 xs.length c), (6, vI xs.length), (7, vI k)]) (fun _ => [(1, .ro (.ints xs))]) 2 [] 0 ⟨Nat.zero_le _, rfl⟩ ⟨w_1, w_2, rfl⟩ ?_
 rintro k ⟨h1, h2⟩
 (repeat' (first | refine stx ?_ | (first | refine w_z (d_numI _) Zz Zz Zz Zz Zz Zz Zz Zz ft Zz Zz ?_ | refine w_A (d_numI _) Zz Zz Zz Zz Zz Zz Zz Zz ft Zz Zz ?_) | (refine stq ?_ ?_ <;> (intro hc; ((try simp at hc) <;> try contradiction))) | fail))
 ·refine fin_ret rfl w_3 (congrArg vB ?_) rfl
  rw [gD (by assumption)] at hc
  exact (all_bad _ hc).symm
 ·refine ⟨[], k + 1, ⟨by omega, ?_⟩, w_4, ⟨w_1, w_2, rfl⟩⟩
  rw [gD (by assumption)] at hc
  exact all_take _ h2 hc
 ·refine fin_ret rfl w_3 (congrArg vB ?_) rfl
  rw [List.take_of_length_le (by omega)] at h2
  exact h2.symm
def MadeI (xs : List Int) (k : Nat) (v : AV) (Hout : List (Nat × Blk)) (n : Nat) : Prop := ∃ c, xs.length ≤ c ∧ v = vS k 1 0 xs.length c ∧ Hout = [(k, .own 3 c (.ints xs))] ∧ n = k + 1
theorem MadeI.out {xs : List Int} {k : Nat} : ∀ v Hout n1, MadeI xs k v Hout n1 → ∃ b, Hout = [(k, b)] ∧ n1 = k + 1 ∧ b.keys = [] := fun _ _ _ ⟨c, _, _, h2, h3⟩ => ⟨_, h2, h3, by simp [Blk.keys, Elts.keys, Elts.all, ints_keys]⟩
theorem d_toIntS (xs : List Int) (c : Nat) (hl : xs.length ≤ 1099511627776) : Does Tryz.prog 22 [vS 1 1 0 xs.length c] [(1, .ro (.ints xs))] 2 (MadeI xs 2) := by
 refine Does.intro TT Tryz.func22 rfl (by kernel_rfl) Zz Zz fun E hE => ?_
 (repeat' (first | refine stx ?_ | (refine stq ?_ ?_ <;> (intro hc; ((try simp at hc) <;> try contradiction))) | fail))
 refine w_G hE (fun k : Nat => k ≤ xs.length) (fun k => xs.length - k)
  (fun k => [(0, vS 1 1 0 xs.length c), (3, vS 2 1 0 xs.length xs.length), (4, vI k)]) (fun k => [(1, .ro (.ints xs)), (2, .own 3 xs.length (.ints (xs.take k ++ List.replicate (xs.length - k) 0)))]) 3 [] 0 (Nat.zero_le _) ⟨w_1, w_2, rfl⟩ ?_
 intro k h1
 (repeat' (first | refine stx ?_ | (refine stq ?_ ?_ <;> (intro hc; ((try simp at hc) <;> try contradiction))) | fail))
 ·refine ⟨[], k + 1, hc, w_4, ⟨w_1, ⟨rfl, own_ints ?_, trivial⟩, rfl⟩⟩
  rw [getD_at hc]
  simpa using set_take_rep hc
 ·have : k = xs.length := by omega
  subst this
  exact fin rfl trivial [] (vS 2 1 0 xs.length xs.length) [(2, .own 3 xs.length (.ints xs))] 3 ⟨_, Nat.le_refl _, rfl, rfl, rfl⟩ rfl ⟨trivial, ⟨own_ints (by simp), trivial⟩, rfl⟩ rfl
theorem d_eqIntS (xs ys : List Int) (c d : Nat) (hl : xs.length ≤ 1099511627776) (hl' : ys.length ≤ 1099511627776) : Does Tryz.prog 25 [vS 1 1 0 xs.length c, vS 2 1 0 ys.length d] [(1, .ro (.ints xs)), (2, .ro (.ints ys))] 3 (Ret (vB (decide (xs = ys))) 3) := by
 refine Does.intro TT Tryz.func25 rfl (by kernel_rfl) Zz Zz fun E hE => ?_
 (repeat' (first | refine stx ?_ | (refine stq ?_ ?_ <;> (intro hc; ((try simp at hc) <;> try contradiction))) | fail))
 ·refine fin_ret rfl w_3 (congrArg vB ?_) rfl
  symm; apply decide_eq_false; intro e; subst e; exact hc rfl
 ·refine w_G hE (fun k : Nat => k ≤ xs.length ∧ xs.take k = ys.take k) (fun k => xs.length - k)
   (fun k => [(0, vS 1 1 0 xs.length c), (1, vS 2 1 0 ys.length d), (5, vI k)]) (fun _ => [(1, .ro (.ints xs)), (2, .ro (.ints ys))]) 3 [] 0 ⟨Nat.zero_le _, rfl⟩ ⟨w_1, w_2, rfl⟩ ?_
  rintro k ⟨h1, h2⟩
  (repeat' (first | refine stx ?_ | (refine stq ?_ ?_ <;> (intro hc; ((try simp at hc) <;> try contradiction))) | fail))
  ·refine fin_ret rfl w_3 (congrArg vB ?_) rfl
   symm; apply decide_eq_false; intro e; subst e; exact hc rfl
  ·have hk : k < ys.length := by omega
   refine ⟨[], k + 1, ⟨by omega, ?_⟩, w_4, ⟨w_1, w_2, rfl⟩⟩
   rw [gD (by assumption), gD hk] at hc
   rw [List.take_succ_eq_append_getElem (by assumption), List.take_succ_eq_append_getElem hk, h2, hc]
  ·refine fin_ret rfl w_3 (congrArg vB ?_) rfl
   rw [List.take_of_length_le (by omega), List.take_of_length_le (by omega)] at h2
   simp [h2]
attribute [simp] marks_len
theorem marks_at {k : Int} {n j : Nat} (h : j < n) : (marks k n)[j]?.getD 0 = k + (j : Int) := by simp [marks, h]
def Marks (k : Int) (t : TypeId) (c n : Nat) (v : AV) (Hout : List (Nat × Blk)) (n1 : Nat) : Prop := v = vI (k + n) ∧ Hout = [(1, .own t c (.ints (marks k n)))] ∧ n1 = 2
theorem d_markIntS (xs : List Int) (c cap : Nat) (k : Int) (hl : xs.length ≤ 1099511627776) (hk : 0 ≤ k) (hk' : k ≤ 4611686018427387904) : Does Tryz.prog 26 [vS 1 1 0 xs.length c, vI k] [(1, .own 3 cap (.ints xs))] 2 (Marks k 3 cap xs.length) := by
 refine Does.intro TT Tryz.func26 rfl (by kernel_rfl) Zz Zz fun E hE => ?_
 (repeat' (first | refine stx ?_ | (refine stq ?_ ?_ <;> (intro hc; ((try simp at hc) <;> try contradiction))) | fail))
 refine w_G hE (fun i : Nat => i ≤ xs.length) (fun i => xs.length - i)
  (fun i => [(0, vS 1 1 0 xs.length c), (1, vI (k + i)), (5, vI i)]) (fun i => [(1, .own 3 cap (.ints (marks k i ++ xs.drop i)))]) 2 [] 0 (Nat.zero_le _) ⟨w_1, w_2, rfl⟩ ?_
 intro i h1
 (repeat' (first | refine stx ?_ | (refine stq ?_ ?_ <;> (intro hc; ((try simp at hc) <;> try contradiction))) | fail))
 ·refine ⟨[], i + 1, hc, w_4, ⟨⟨rfl, congrArg some (congrArg vI (show k + (i : Int) + 1 = k + ((i + 1 : Nat) : Int) by omega)), rfl, trivial⟩, ⟨own_ints ?_, trivial⟩, rfl⟩⟩
  rw [← marks_step hc]; simp
 ·have : i = xs.length := by omega
  subst this
  exact fin rfl trivial [] (vI (k + xs.length)) [(1, .own 3 cap (.ints (marks k xs.length)))] 2 ⟨rfl, rfl, rfl⟩ rfl ⟨trivial, ⟨own_ints (by simp), trivial⟩, rfl⟩ rfl
theorem d_heldIntS (n : Nat) (c : Nat) (k : Int) (hl : n ≤ 1099511627776) (hk : 0 ≤ k) (hk' : k ≤ 4611686018427387904) : Does Tryz.prog 40 [vS 1 1 0 n c, vI k] [(1, .ro (.ints (marks k n)))] 2 (Ret (vI (k + n)) 2) := by
 refine Does.intro TT Tryz.func40 rfl (by kernel_rfl) Zz Zz fun E hE => ?_
 (repeat' (first | refine stx ?_ | (refine stq ?_ ?_ <;> (intro hc; ((try simp at hc) <;> try contradiction))) | fail))
 refine w_G hE (fun i : Nat => i ≤ n) (fun i => n - i)
  (fun i => [(0, vS 1 1 0 n c), (1, vI (k + i)), (5, vI i)]) (fun i => [(1, .ro (.ints (marks k n)))]) 2 [] 0 (Nat.zero_le _) ⟨w_1, w_2, rfl⟩ ?_
 intro i h1
 (repeat' (first | refine stx ?_ | (refine stq ?_ ?_ <;> (intro hc; ((try simp at hc) <;> try contradiction))) | fail))
 ·exact absurd (marks_at (by assumption)) hc
 ·exact ⟨[], i + 1, by assumption, w_4, ⟨⟨rfl, congrArg some (congrArg vI (show k + (i : Int) + 1 = k + ((i + 1 : Nat) : Int) by omega)), rfl, trivial⟩, ⟨rfl, trivial⟩, rfl⟩⟩
 ·have : i = n := by omega
  subst this
  refine fin_ret rfl w_3 (rfl) rfl
end Go.Proofs.YtekpamojojfplaaGreat
