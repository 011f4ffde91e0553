/-
  TEXTS OF THE PROOF, put together: bDraw, bDrawM, Am14, bRelsFn, Law, bLaw, bLawB.
-/
import Derived.Test.YtekpamojojfplaaGreatC08
import Derived.Test.YtekpamojojfplaaGreatC07
import Derived.Test.YtekpamojojfplaaGreatC17
import Derived.Test.YtekpamojojfplaaGreatC35
import Derived.Test.YtekpamojojfplaaGreatC23
import Derived.Test.YtekpamojojfplaaGreatRows
import Derived.ProofKit
import Derived.Lib.SmallJoins
import Derived.OpenShut
set_option linter.unusedVariables false
set_option linter.unusedSimpArgs false
namespace Go.Proofs.YtekpamojojfplaaGreat
open Go.RowKit
theorem and255 (x : Int) : 0 ≤ bitV .and x 255 ∧ bitV .and x 255 ≤ 255 := by
  unfold bitV
  have h : (BitVec.ofInt 64 x &&& BitVec.ofInt 64 255).toNat ≤ 255 := by
    rw [BitVec.toNat_and]
    exact Nat.le_trans Nat.and_le_right (by decide)
  have e : bits .and .i64 x 255 = IntKind.i64.wrap ((BitVec.ofInt 64 x &&& BitVec.ofInt 64 255).toNat : Nat) := rfl
  rw [e, IntKind.wrap_i64]
  omega
def curL (c n i : Nat) (h : Int) : List SV := [.sl 1 1 0 n c, .int i, .int h]
def vC : AV := .one (.ptr 2 3 0 0)
def Drew (t : TypeId) (n c : Nat) (φ : Int → Prop) (v : AV) (Hout : List (Nat × Blk)) (n1 : Nat) : Prop :=
  ∃ (r : Int) (i : Nat) (h : Int), φ r ∧ v = vI r ∧ Hout = [(2, .own t 1 (.lit (curL c n i h)))] ∧ n1 = 3
theorem d_big (bs : List Int) (c : Nat) : Does Tryz.prog 9 [vS 1 1 0 bs.length c] [(1, .ro (.bytes bs))] 2 (Ret (vB (decide (1048576 < (bs.length : Int)))) 2) := by
 refine Does.intro TT Tryz.func9 rfl (by kernel_rfl) Zz Zz fun E hE => ?_
 (repeat' (first | refine stx ?_ | (refine stq ?_ ?_ <;> (intro hc; ((try simp at hc) <;> try contradiction))) | fail))
 refine fin_ret rfl w_3 (rfl) rfl
def NewC (t : TypeId) (n c : Nat) (v : AV) (Hout : List (Nat × Blk)) (n1 : Nat) : Prop :=
  ∃ (i : Nat) (h : Int), v = vC ∧ Hout = [(2, .own t 1 (.lit (curL c n i h)))] ∧ n1 = 3
set_option maxHeartbeats 1000000 in
theorem d_l1New (bs : List Int) (c : Nat) (hl : bs.length ≤ 1048576) : Does Tryz.prog 74 [vS 1 1 0 bs.length c] [(1, .ro (.bytes bs))] 2 (NewC 112 bs.length c) := by
 refine Does.intro TT Tryz.func74 rfl (by kernel_rfl) Zz Zz fun E hE => ?_
 (repeat' (first | refine stx ?_ | (refine stq ?_ ?_ <;> (intro hc; ((try simp at hc) <;> try contradiction))) | fail))
 refine w_G hE (fun p : Int × Int => 0 ≤ p.1 ∧ p.1 ≤ bs.length) (fun p => bs.length - p.1.toNat)
  (fun p => [(0, vS 1 1 0 bs.length c), (3, vI p.2), (4, vI p.1)]) (fun _ => [(1, .ro (.bytes bs))]) 2 [] (0, 10101 + bs.length) ⟨Int.le_refl _, by dsimp only; omega⟩ ⟨w_1, w_2, rfl⟩ ?_
 rintro ⟨i, h⟩ ⟨h0, h1⟩
 dsimp only at h0 h1 ⊢
 ((repeat' (first | refine stx ?_ | (first | refine awpL_wrap Zz Zz Zz Zz ?_ | refine awpQ_wrap Zz Zz Zz Zz ?_) | (refine stq ?_ ?_ <;> (intro hc; ((try simp at hc) <;> try contradiction))) | fail)) <;> try (exfalso; omega))
 ·exact ⟨[], (i + 1, _), ⟨by dsimp only; omega, by dsimp only; omega⟩, w_4, ⟨⟨rfl, rfl, rfl, trivial⟩, ⟨rfl, trivial⟩, rfl⟩⟩
 all_goals exact fin rfl w_3 [(2, 2)] vC [(2, .own 112 1 (.lit (curL c bs.length 0 h)))] 3 ⟨0, h, rfl, rfl, rfl⟩ rfl ⟨trivial, ⟨rfl, trivial⟩, rfl⟩ rfl
set_option maxHeartbeats 1000000 in
theorem d_l1Byte (bs : List Int) (c i : Nat) (h : Int) (hl : bs.length ≤ 1048576) : Does Tryz.prog 163 [vC] [(1, .ro (.bytes bs)), (2, .own 112 1 (.lit (curL c bs.length i h)))] 3 (Drew 112 bs.length c fun r => 0 ≤ r ∧ r ≤ 255) := by
 refine Does.intro TT Tryz.func163 rfl (by kernel_rfl) Zz Zz fun E hE => ?_
 ((repeat' (first | refine stx ?_ | (first | refine awpL_wrap Zz Zz Zz Zz ?_ | refine awpQ_wrap Zz Zz Zz Zz ?_) | (refine stq ?_ ?_ <;> (intro hc; ((try simp at hc) <;> try contradiction))) | fail)) <;> try (exfalso; omega))
 ·exact fin rfl w_3 [] (vI _) [(2, .own 112 1 (.lit (curL c bs.length (i + 1) _)))] 3 ⟨_, _, _, and255 _, rfl, rfl, rfl⟩ rfl ⟨trivial, ⟨rfl, trivial⟩, rfl⟩ rfl
 ·exact fin rfl w_3 [] (vI _) [(2, .own 112 1 (.lit (curL c bs.length i _)))] 3 ⟨_, _, _, and255 _, rfl, rfl, rfl⟩ rfl ⟨trivial, ⟨rfl, trivial⟩, rfl⟩ rfl
theorem tmod_in' {x n : Int} (h : 0 ≤ x) : 0 ≤ x.tmod n ∧ (0 < n → x.tmod n < n) := by
  refine ⟨Int.tmod_nonneg n h, fun hn => ?_⟩
  rw [Int.tmod_eq_emod_of_nonneg h]
  exact Int.emod_lt_of_pos x hn
set_option maxHeartbeats 1000000 in
theorem d_l1Below (bs : List Int) (c i : Nat) (h : Int) (n : Int) (hl : bs.length ≤ 1048576) : Does Tryz.prog 124 [vC, vI n] [(1, .ro (.bytes bs)), (2, .own 112 1 (.lit (curL c bs.length i h)))] 3 (Drew 112 bs.length c fun r => 0 ≤ r ∧ (0 < n → r < n)) := by
 refine Does.intro TT Tryz.func124 rfl (by kernel_rfl) Zz Zz fun E hE => ?_
 ((repeat' (first | refine stx ?_ | ((refine zqe (d_l1Byte bs c _ _ hl) ?_); rintro v Hout n1 ⟨r, i', h', hr, rfl, rfl, rfl⟩) | (refine stq ?_ ?_ <;> (intro hc; ((try simp at hc) <;> try contradiction))) | fail)) <;> try (exfalso; omega))
 ·exact fin rfl w_3 [] (vI 0) [(2, .own 112 1 (.lit (curL c bs.length i h)))] 3 ⟨_, _, _, ⟨by omega, by omega⟩, rfl, rfl, rfl⟩ rfl ⟨trivial, ⟨rfl, trivial⟩, rfl⟩ rfl
 all_goals exact fin rfl w_3 [] (vI _) [(2, .own 112 1 (.lit (curL c bs.length _ _)))] 3 ⟨_, _, _, tmod_in' (by omega), rfl, rfl, rfl⟩ rfl ⟨trivial, ⟨rfl, trivial⟩, rfl⟩ rfl
def DrewB (t : TypeId) (n c : Nat) (v : AV) (Hout : List (Nat × Blk)) (n1 : Nat) : Prop :=
  ∃ (b : Bool) (i : Nat) (h : Int), v = vB b ∧ Hout = [(2, .own t 1 (.lit (curL c n i h)))] ∧ n1 = 3
theorem d_l1Once (bs : List Int) (c i : Nat) (h : Int) (n : Int) (hl : bs.length ≤ 1048576) : Does Tryz.prog 84 [vC, vI n] [(1, .ro (.bytes bs)), (2, .own 112 1 (.lit (curL c bs.length i h)))] 3 (DrewB 112 bs.length c) := by
 refine Does.intro TT Tryz.func84 rfl (by kernel_rfl) Zz Zz fun E hE => ?_
 ((repeat' (first | refine stx ?_ | ((refine zqe (d_l1Below bs c _ _ n hl) ?_); rintro v Hout n1 ⟨r, i', h', hr, rfl, rfl, rfl⟩) | (refine stq ?_ ?_ <;> (intro hc; ((try simp at hc) <;> try contradiction))) | fail)) <;> try (exfalso; omega))
 exact fin rfl w_3 [] (vB _) [(2, .own 112 1 (.lit (curL c bs.length _ _)))] 3 ⟨_, _, _, rfl, rfl, rfl⟩ rfl ⟨trivial, ⟨rfl, trivial⟩, rfl⟩ rfl
theorem d_l1PickInt (bs : List Int) (c i : Nat) (h : Int) (xs : List Int) (n cx : Nat) (hn : n = xs.length) (h0 : 0 < n) (hl : bs.length ≤ 1048576) : Does Tryz.prog 171 [vC, vS 3 1 0 n cx] [(1, .ro (.bytes bs)), (2, .own 112 1 (.lit (curL c bs.length i h))), (3, .ro (.ints xs))] 4 (fun v Hout n1 => ∃ (r : Int) (i : Nat) (h : Int), r ∈ xs ∧ v = vI r ∧ Hout = [(2, .own 112 1 (.lit (curL c bs.length i h)))] ∧ n1 = 4) := by
 refine Does.intro TT Tryz.func171 rfl (by kernel_rfl) Zz Zz fun E hE => ?_
 ((repeat' (first | refine stx ?_ | ((refine zqe (d_l1Below bs c _ _ n hl) ?_); rintro v Hout n1 ⟨r, i', h', ⟨hr1, hr2⟩, rfl, rfl, rfl⟩; replace hr2 := hr2 (by omega)) | (refine stq ?_ ?_ <;> (intro hc; ((try simp at hc) <;> try contradiction))) | fail)) <;> try (exfalso; omega))
 have hlt : 0 + r.toNat < xs.length := by omega
 exact fin rfl w_3 [] (vI _) [(2, .own 112 1 (.lit (curL c bs.length _ _)))] 4 ⟨_, _, _, (by rw [List.getD_eq_getElem?_getD, List.getElem?_eq_getElem hlt]; exact List.getElem_mem hlt), rfl, rfl, rfl⟩ rfl ⟨trivial, ⟨rfl, trivial⟩, rfl⟩ rfl
theorem d_l1Odd (bs : List Int) (c i : Nat) (h : Int) (hl : bs.length ≤ 1048576) : Does Tryz.prog 164 [vC] [(1, .ro (.bytes bs)), (2, .own 112 1 (.lit (curL c bs.length i h)))] 3 (Drew 112 bs.length c fun r => -9223372036854775808 ≤ r ∧ r ≤ 9223372036854775807) := by
 refine Does.intro TT Tryz.func164 rfl (by kernel_rfl) Zz Zz fun E hE => ?_
 ((repeat' (first | refine stx ?_ | ((refine w_E (d_l1PickInt bs c _ _ [0, 1, -1, 2, 400000000, -400000000, 400000001, -400000001, 399999999, 9223372036854775807, -9223372036854775808] 11 _ rfl (by omega) hl) Zz Zz Zz Zz Zz Zz Zz ft rfl ?_); rintro v Hout n1 ⟨r, i', h', hr, rfl, rfl, rfl⟩) | (refine stq ?_ ?_ <;> (intro hc; ((try simp at hc) <;> try contradiction))) | fail)) <;> try (exfalso; omega))
 exact fin rfl w_3 [] (vI _) [(2, .own 112 1 (.lit (curL c bs.length _ _)))] 3 ⟨_, _, _, (by simp at hr; omega), rfl, rfl, rfl⟩ rfl ⟨trivial, ⟨rfl, trivial⟩, rfl⟩ rfl
end Go.Proofs.YtekpamojojfplaaGreat
namespace Go.Proofs.YtekpamojojfplaaGreat
open Go.RowKit
theorem d_l1Num (bs : List Int) (c i : Nat) (h : Int) (m : Int) (hm : 0 ≤ m ∧ m ≤ 1000) (hl : bs.length ≤ 1048576) : Does Tryz.prog 125 [vC, vI m] [(1, .ro (.bytes bs)), (2, .own 112 1 (.lit (curL c bs.length i h)))] 3 (Drew 112 bs.length c fun r => -9223372036854775808 ≤ r ∧ r ≤ 9223372036854775807) := by
 refine Does.intro TT Tryz.func125 rfl (by kernel_rfl) Zz Zz fun E hE => ?_
 ((repeat' (first | refine stp ?_ | ((refine zqe (d_l1Once bs c _ _ 40 hl) ?_); rintro v Hout n1 ⟨b0, i0, h0, rfl, rfl, rfl⟩; cases b0) | ((refine zqe (d_l1Odd bs c _ _ hl) ?_); rintro v Hout n1 ⟨r1, i1, h1, hr1, rfl, rfl, rfl⟩) | ((refine zqe (d_l1Below bs c _ _ _ hl) ?_); rintro v Hout n1 ⟨r2, i2, h2, ⟨hr2, hr3⟩, rfl, rfl, rfl⟩; replace hr3 := hr3 (by omega)) | (refine stq ?_ ?_ <;> (intro hc; ((try simp at hc) <;> try contradiction))) | fail)) <;> try (exfalso; omega))
 all_goals exact fin rfl w_3 [] (vI _) [(2, .own 112 1 (.lit (curL c bs.length _ _)))] 3 ⟨_, _, _, (by first | assumption | omega), rfl, rfl, rfl⟩ rfl ⟨trivial, ⟨rfl, trivial⟩, rfl⟩ rfl
def DrewM (t tc : TypeId) (nb c : Nat) (k : Int) (v : AV) (Hout : List (Nat × Blk)) (n1 : Nat) : Prop :=
  ∃ (r : Int) (zs : List Int) (cap i : Nat) (h : Int), zs.length ≤ 1000 ∧ zs.length ≤ cap ∧ v = .agg [.int r, .int k, .sl 3 1 0 zs.length cap] ∧ Hout = [(2, .own tc 1 (.lit (curL c nb i h))), (3, .own t cap (.ints zs))] ∧ n1 = 4
def SpoilM (t tc : TypeId) (nb c : Nat) (k : Int) (v : AV) (Hout : List (Nat × Blk)) (n1 : Nat) : Prop :=
  ∃ (r : Int) (zs : List Int) (cap i : Nat) (h : Int), zs.length ≤ 1000 ∧ zs.length ≤ cap ∧ ((v = .agg [.int r, .int k, .sl 3 1 0 zs.length cap] ∧ Hout = [(2, .own tc 1 (.lit (curL c nb i h))), (3, .own t cap (.ints zs))] ∧ n1 = 4) ∨ (v = .agg [.int r, .int k, .sl 4 1 0 zs.length cap] ∧ Hout = [(2, .own tc 1 (.lit (curL c nb i h))), (4, .own t cap (.ints zs))] ∧ n1 = 5))
def DrewAdd (t : TypeId) (v : AV) (Hout : List (Nat × Blk)) (n1 : Nat) : Prop :=
  ∃ (k : Nat) (r : Int) (zs bs cs : List Int) (cap cb cc : Nat), k ≤ 3 ∧ zs.length ≤ 1000 ∧ bs.length = k ∧ cs.length = k ∧ zs.length ≤ cap ∧ bs.length ≤ cb ∧ cs.length ≤ cc ∧ (∀ p, -9223372036854775808 ≤ bs.getD p 0 ∧ bs.getD p 0 ≤ 9223372036854775807) ∧ (∀ p, -9223372036854775808 ≤ cs.getD p 0 ∧ cs.getD p 0 ≤ 9223372036854775807) ∧ v = .tup [.agg [.int r, .int k, .sl 2 1 0 zs.length cap], .one (.sl 3 1 0 bs.length cb), .one (.sl 4 1 0 cs.length cc)] ∧ Hout = [(2, .own t cap (.ints zs)), (3, .own t cb (.ints bs)), (4, .own t cc (.ints cs))] ∧ n1 = 5
end Go.Proofs.YtekpamojojfplaaGreat
namespace Go.Proofs.YtekpamojojfplaaGreat
open Go.RowKit
section
variable {P : Program} {E : Env} {N : Nat} {Q : Post} {fr : Nat → Option AV} {H : Nat → Option Blk} {nx : Nat} {l0 : List Oper} {ρs : Rho} {nxs : Nat} {hs : List (Nat × Blk)} {fuel : Nat} {listed : Array Bool}
end
end Go.Proofs.YtekpamojojfplaaGreat
namespace Go.Proofs.YtekpamojojfplaaGreat
open Go.RowKit
def DrewVs (t : TypeId) (v : AV) (Hout : List (Nat × Blk)) (n1 : Nat) : Prop := ∃ (zs : List Int) (cap : Nat), zs.length ≤ 4 ∧ zs.length ≤ cap ∧ v = vS 2 1 0 zs.length cap ∧ Hout = [(2, .own t cap (.ints zs))] ∧ n1 = 3
def DrewVc (t tc : TypeId) (nb c : Nat) (v : AV) (Hout : List (Nat × Blk)) (n1 : Nat) : Prop :=
  ∃ (zs : List Int) (cap i : Nat) (h : Int), zs.length ≤ 4 ∧ zs.length ≤ cap ∧ v = vS 3 1 0 zs.length cap ∧ Hout = [(2, .own tc 1 (.lit (curL c nb i h))), (3, .own t cap (.ints zs))] ∧ n1 = 4
set_option maxHeartbeats 2000000 in
theorem d_l26Values (bs : List Int) (c i : Nat) (h : Int) (hl : bs.length ≤ 1048576) : Does Tryz.prog 73 [vC] [(1, .ro (.bytes bs)), (2, .own 112 1 (.lit (curL c bs.length i h)))] 3 (DrewVc 3 112 bs.length c) := by
 refine Does.intro TT Tryz.func73 rfl (by kernel_rfl) Zz Zz fun E hE => ?_
 ((repeat' (first | refine stx ?_ | ((refine zqe (d_l1Below bs c _ _ 5 hl) ?_); rintro v Hout n1 ⟨r2, i2, h2, ⟨hr2, hr3⟩, rfl, rfl, rfl⟩; replace hr3 := hr3 (by omega)) | (refine stq ?_ ?_ <;> (intro hc; ((try simp at hc) <;> try contradiction))) | fail)) <;> try (exfalso; omega))
 obtain ⟨m, rfl⟩ : ∃ m : Nat, r2 = m := ⟨r2.toNat, by omega⟩
 refine w_G hE (fun x : Nat × List Int × Nat × Nat × Int => x.1 ≤ m ∧ x.2.1.length + x.1 = m ∧ x.2.1.length ≤ x.2.2.1) (fun x => x.1)
  (fun x => [(0, vC), (3, vS 3 1 0 x.2.1.length x.2.2.1), (4, vI x.1)]) (fun x => [(1, .ro (.bytes bs)), (2, .own 112 1 (.lit (curL c bs.length x.2.2.2.1 x.2.2.2.2))), (3, .own 3 x.2.2.1 (.ints x.2.1))]) 4 [] (m, [], 0, i2, h2) ⟨Nat.le_refl _, by simp, Nat.le_refl _⟩ ⟨w_1, w_2, rfl⟩ ?_
 rintro ⟨k, zs, cp, i1, h1⟩ ⟨hk, hz, hcp⟩
 dsimp only at hk hz hcp ⊢
 by_cases hkl : 0 < k
 ·have hkl2 : ¬ k = 0 := by omega
  ((repeat' (first | refine stx ?_ | ((refine w_E (d_l1Num bs c _ _ 30 (by omega) hl) Zz Zz Zz Zz Zz Zz Zz ft rfl ?_); rintro v Hout n1 ⟨r3, i3, h3, hr4, rfl, rfl, rfl⟩) | (refine zqx ?_; intro cap hcap) | (refine stq ?_ ?_ <;> (intro hc; ((try simp at hc) <;> try contradiction))) | fail)) <;> try (exfalso; omega))
  all_goals exact ⟨[(3, 5)], (k - 1, zs ++ [r3], cap, i3, h3), ⟨by dsimp only; omega, by dsimp only; simp; omega, by dsimp only at *; simpa using hcap⟩, by dsimp only; omega, ⟨w_1, w_2, rfl⟩⟩
 ·obtain rfl : k = 0 := by omega
  ((repeat' (first | refine stx ?_ | (refine stq ?_ ?_ <;> (intro hc; ((try simp at hc) <;> try contradiction))) | fail)) <;> try (exfalso; omega))
  exact fin rfl w_3 [] (vS 3 1 0 zs.length cp) [(2, .own 112 1 (.lit (curL c bs.length i1 h1))), (3, .own 3 cp (.ints zs))] 4 ⟨zs, cp, i1, h1, by omega, hcp, rfl, rfl, rfl⟩ rfl ⟨trivial, ⟨rfl, rfl, trivial⟩, rfl⟩ rfl
theorem d_drawRels (bs : List Int) (c : Nat) (hl : bs.length ≤ 1048576) : Does Tryz.prog 35 [vS 1 1 0 bs.length c] [(1, .ro (.bytes bs))] 2 (DrewVs 3) := by
 refine Does.intro TT Tryz.func35 rfl (by kernel_rfl) Zz Zz fun E hE => ?_
 ((repeat' (first | refine stx ?_ | ((refine zqe (d_l1New bs c hl) ?_); rintro v Hout n1 ⟨i0, h0, rfl, rfl, rfl⟩) | ((refine zqe (d_l26Values bs c _ _ hl) ?_); rintro v Hout n1 ⟨zs, cap, i1, h1, hz, hcap, rfl, rfl, rfl⟩) | (refine stq ?_ ?_ <;> (intro hc; ((try simp at hc) <;> try contradiction))) | fail)) <;> try (exfalso; omega))
 all_goals exact fin rfl w_3 [(2, 3)] (vS 2 1 0 zs.length cap) [(2, .own 3 cap (.ints zs))] 3 ⟨zs, cap, hz, hcap, rfl, rfl, rfl⟩ rfl ⟨trivial, ⟨rfl, trivial⟩, rfl⟩ rfl
theorem sr_form (v : List Int) : ∃ (ys : List Int) (ok : Bool), (ok = true → srO v = some ys) ∧ (ok = false → ys = []) ∧ ∀ t k, LsO t (srO v) k = LsB t ys ok k := by
  cases h : srO v with
  | none => exact ⟨[], false, (fun h => by cases h), fun _ => rfl, fun _ _ => rfl⟩
  | some ys => exact ⟨ys, true, fun _ => rfl, (fun h => by cases h), fun _ _ => rfl⟩
set_option maxRecDepth 100000 in
set_option maxHeartbeats 32000000 in
theorem d_fnRels (bs : List Int) (c : Nat) : Does Tryz.prog 7 [vS 1 1 0 bs.length c] [(1, .ro (.bytes bs))] 2 (Ret (vB true) 2) := by
 refine Does.intro TT Tryz.func7 rfl (by kernel_rfl) Zz Zz fun E hE => ?_
 by_cases hbg : (1048576 : Int) < bs.length
 ·((repeat' (first | refine stx ?_ | (refine zqc (d_big _ _) ?_ <;> simp only [hbg]) | (refine stq ?_ ?_ <;> (intro hc; ((try simp at hc) <;> try contradiction))) | fail)) <;> try (exfalso; omega))
  all_goals refine fin_ret rfl w_3 (rfl) rfl
 ·have hl : bs.length ≤ 1048576 := by omega
  ((repeat' (first | refine stp ?_ | (refine zqc (d_big _ _) ?_ <;> simp only [hbg]) | ((refine zqe (d_drawRels bs c hl) ?_)) | (refine stq ?_ ?_ <;> (intro hc; ((try simp at hc) <;> try contradiction))) | fail)) <;> try (exfalso; omega))
  rintro v Hout n1 ⟨vs, cv, hv4, hcv, rfl, rfl, rfl⟩
  have hv1 : vs.length ≤ 1099511627776 := by omega
  have h1 := d_relI vs cv hv1
  have h2 := d_relS vs cv hv1
  have h3 := d_srI vs cv hv1
  cases hR : relsO vs with
  | none =>
   rw [hR] at h1 h2
   rw [srO_no hR] at h3
   ((repeat' (first | refine stx ?_ | ((refine zqe (h1) ?_); rintro v Hout n1 ⟨rfl, rfl, rfl⟩) | ((refine zqe (h2) ?_); rintro v Hout n1 ⟨rfl, rfl, rfl⟩) | ((refine zqe (h3) ?_); rintro v Hout n1 ⟨cm, hcm, rfl, rfl, rfl⟩) | (refine stq ?_ ?_ <;> (intro hc; ((try simp at hc) <;> try contradiction))) | fail)) <;> try (exfalso; omega))
   all_goals refine fin_ret rfl w_3 (rfl) rfl
  | some s =>
   obtain ⟨b, t⟩ := s
   rw [hR] at h1 h2
   obtain ⟨ys, ok, hok, hno, hZ⟩ := sr_form vs
   rw [hZ] at h3
   obtain ⟨h6, hvn, hb, hbn, ht, -, -⟩ := rels_spec hR
   have hrow := fun i (hi : i < t) => rels_row hR hi
   have hyn : ok = true → ys.length = vs.length ∧ ys.all numB = true ∧ relB vs ys = true ∧ (∀ i, i < t → sqS ys vs.length ≤ sqR b (i * vs.length) vs.length) ∧ ∀ y : List Int, relB vs y = true → sqS ys vs.length ≤ sqS y vs.length := fun h => by
    obtain ⟨b', t', e, q1, q2, q3, q4, q5⟩ := sr_spec (hok h)
    rw [hR] at e
    cases e
    exact ⟨q1, q2, q3, q4, q5⟩
   ((repeat' (first | refine stx ?_ | ((refine zqe (h1) ?_); rintro v Hout n1 ⟨cb, hcb, rfl, rfl, rfl⟩) | ((refine zqe (h2) ?_); rintro v Hout n1 ⟨cd, hcd, rfl, rfl, rfl⟩) | ((refine zqe (h3) ?_); rintro v Hout n1 ⟨cm, hcm, rfl, rfl, rfl⟩) | (refine stq ?_ ?_ <;> (intro hc; ((try simp at hc) <;> try contradiction))) | fail)) <;> try (exfalso; omega))
   dsimp only at hcb
   ((first | refine awpL_ghost (Ghost.reveal 3 rfl) ?_ | refine awp_ghost (Ghost.reveal 3 rfl) ?_ | refine awpH_ghost (Ghost.reveal 3 rfl) ?_ | refine awpHop_ghost (Ghost.reveal 3 rfl) ?_); rintro _ _ ⟨ab, rfl, rfl⟩)
   refine w_G hE (fun i : Nat => i ≤ t) (fun i => t - i)
    (fun i => [(3, vS 2 1 0 vs.length cv), (4, .one (.ptr 4 3 0 0)), (8, vS 7 1 0 ys.length cm), (9, vB ok), (10, vI i)])
    (fun i => [(2, .own 3 cv (.ints vs)), (3, .al ab (.ints b)), (4, .own 26 1 (.lit [.int t, .int vs.length, .sl 3 1 0 b.length cb])), (7, .own 3 cm (.ints ys))]) 8 [] 0 (Nat.zero_le _) ⟨w_1, w_2, rfl⟩ ?_
   intro i hi
   by_cases hit : i < t
   ·have hit2 : ¬ t ≤ i := by omega
    obtain ⟨q1, q2, q3, q4, q5⟩ := sl_row (ca := cb) hit (by omega) hb hcb
    have hkv : (i : Int) * vs.length ≤ 24 ∧ ((i : Int) + 1) * vs.length ≤ 24 := by
     have h7 : i * vs.length ≤ 4 * 4 := Nat.mul_le_mul (by omega) (by omega)
     have h8 : (i : Int) * vs.length = ((i * vs.length : Nat) : Int) := by simp
     rw [Int.add_mul, Int.one_mul]
     omega
    have hY : (b.drop (slOff 0 ((i : Int) * vs.length).toNat cb)).take ((((i : Int) + 1) * vs.length).toNat - ((i : Int) * vs.length).toNat) = subX b (i * vs.length) vs.length := by
     rw [q1, q2]; rfl
    have hYl : (subX b (i * vs.length) vs.length).length = vs.length := by unfold subX; rw [List.length_take, List.length_drop]; omega
    have hir := fun ca cb => d_isrI vs (subX b (i * vs.length) vs.length) ca cb hv1 (by omega)
    rw [hrow i hit, show (subX b (i * vs.length) vs.length).length = (((i : Int) + 1) * vs.length).toNat - ((i : Int) * vs.length).toNat by rw [q2, hYl], ← hY] at hir
    ((repeat' (first | refine stx ?_ | ((refine awpL_view 69 Zz Zz Zz Zz Zz Zz (by first | omega | (simp only [Elts.len]; omega)) rfl ints_keys ?_; intro av); refine zqc (hir _ _) ?_) | (refine stq ?_ ?_ <;> (intro hc; ((try simp at hc) <;> try contradiction))) | fail)) <;> try (exfalso; omega))
    exact ⟨[], i + 1, hit, w_4, ⟨w_1, w_2, rfl⟩⟩
   ·obtain rfl : i = t := by omega
    cases ok with
    | false =>
     obtain rfl := hno rfl
     ((repeat' (first | refine stx ?_ | (refine stq ?_ ?_ <;> (intro hc; ((try simp at hc) <;> try contradiction))) | fail)) <;> try (exfalso; omega))
     all_goals refine fin_ret rfl w_3 (rfl) rfl
    | true =>
     obtain ⟨y1, y2, y3, y4, y5⟩ := hyn rfl
     have hy1 : ys.length ≤ 1099511627776 := by omega
     ((repeat' (first | refine stx ?_ | (refine stq ?_ ?_ <;> (intro hc; ((try simp at hc) <;> try contradiction))) | fail)) <;> try (exfalso; omega))
     refine w_G hE (fun k : Nat => k ≤ ys.length) (fun k => ys.length - k)
      (fun k => [(3, vS 2 1 0 vs.length cv), (4, .one (.ptr 4 3 0 0)), (8, vS 7 1 0 ys.length cm), (11, vI (sqS ys k)), (12, vI k)])
      (fun k => [(2, .own 3 cv (.ints vs)), (3, .al ab (.ints b)), (4, .own 26 1 (.lit [.int i, .int vs.length, .sl 3 1 0 b.length cb])), (7, .own 3 cm (.ints ys))]) 8 [] 0 (Nat.zero_le _) ⟨w_1, w_2, rfl⟩ ?_
     intro k hk
     have hs1 := sqR_bd y2 (o := 0) k
     rw [← sqS_R] at hs1
     by_cases hky : k < ys.length
     ·have e0 : 0 + (k : Int).toNat = k := by omega
      have n1 := num_getD y2 (0 + (k : Int).toNat)
      have n2 := prod_num n1 n1
      have es : sqS ys (k + 1) = sqS ys k + ys.getD (0 + (k : Int).toNat) 0 * ys.getD (0 + (k : Int).toNat) 0 := by rw [e0]; rfl
      ((repeat' (first | refine stx ?_ | (refine stq ?_ ?_ <;> (intro hc; ((try simp at hc) <;> try contradiction))) | fail)) <;> try (exfalso; omega))
      exact ⟨[], k + 1, hky, w_4, ⟨⟨rfl, rfl, rfl, congrArg some (congrArg vI es.symm), rfl, trivial⟩, ⟨rfl, rfl, rfl, rfl, trivial⟩, rfl⟩⟩
     ·obtain rfl : k = ys.length := by omega
      generalize hN : sqS ys ys.length = N at *
      rw [y1] at hN
      rw [hN] at y4 y5
      have hN1 : 0 ≤ N ∧ N ≤ 1000000000000000000 := by omega
      ((repeat' (first | refine stx ?_ | (refine stq ?_ ?_ <;> (intro hc; ((try simp at hc) <;> try contradiction))) | fail)) <;> try (exfalso; omega))
      refine w_G hE (fun k : Nat => k ≤ i) (fun k => i - k)
       (fun k => [(3, vS 2 1 0 vs.length cv), (4, .one (.ptr 4 3 0 0)), (8, vS 7 1 0 ys.length cm), (11, vI N), (13, vI k)])
       (fun k => [(2, .own 3 cv (.ints vs)), (3, .al ab (.ints b)), (4, .own 26 1 (.lit [.int i, .int vs.length, .sl 3 1 0 b.length cb])), (7, .own 3 cm (.ints ys))]) 8 [] 0 (Nat.zero_le _) ⟨w_1, w_2, rfl⟩ ?_
      intro k hk
      by_cases hki : k < i
      ·have hki2 : ¬ i ≤ k := by omega
       have hrin := row_in (c := vs.length) hki
       ((repeat' (first | refine stx ?_ | (refine stq ?_ ?_ <;> (intro hc; ((try simp at hc) <;> try contradiction))) | fail)) <;> try (exfalso; omega))
       refine w_G hE (fun j : Nat => j ≤ vs.length) (fun j => vs.length - j)
        (fun j => [(3, vS 2 1 0 vs.length cv), (4, .one (.ptr 4 3 0 0)), (8, vS 7 1 0 ys.length cm), (11, vI N), (13, vI k), (14, vI (sqR b (k * vs.length) j)), (15, vI j)])
        (fun j => [(2, .own 3 cv (.ints vs)), (3, .al ab (.ints b)), (4, .own 26 1 (.lit [.int i, .int vs.length, .sl 3 1 0 b.length cb])), (7, .own 3 cm (.ints ys))]) 8 [] 0 (Nat.zero_le _) ⟨w_1, w_2, rfl⟩ ?_
       intro j hj
       have hs2 := sqR_bd hbn (o := k * vs.length) j
       by_cases hjl : j < vs.length
       ·have hjl2 : ¬ vs.length ≤ j := by omega
        have e1 : 0 + ((k : Int) * vs.length + j).toNat = k * vs.length + j := cell_natT
        have hkv : 0 ≤ (k : Int) * vs.length ∧ (k : Int) * vs.length ≤ 24 := by
         have h7 : k * vs.length ≤ 4 * 4 := Nat.mul_le_mul (by omega) (by omega)
         have h8 : (k : Int) * vs.length = ((k * vs.length : Nat) : Int) := by simp
         omega
        have h9 : (k : Int) * vs.length = ((k * vs.length : Nat) : Int) := by simp
        have n1 := num_getD hbn (0 + ((k : Int) * vs.length + j).toNat)
        have n2 := prod_num n1 n1
        have es : sqR b (k * vs.length) (j + 1) = sqR b (k * vs.length) j + b.getD (0 + ((k : Int) * vs.length + j).toNat) 0 * b.getD (0 + ((k : Int) * vs.length + j).toNat) 0 := by rw [e1]; rfl
        ((repeat' (first | refine stx ?_ | (refine stq ?_ ?_ <;> (intro hc; ((try simp at hc) <;> try contradiction))) | fail)) <;> try (exfalso; omega))
        exact ⟨[], j + 1, hjl, w_4, ⟨⟨rfl, rfl, rfl, rfl, rfl, congrArg some (congrArg vI es.symm), rfl, trivial⟩, ⟨rfl, rfl, rfl, rfl, trivial⟩, rfl⟩⟩
       ·obtain rfl : j = vs.length := by omega
        have hle := y4 k hki
        have hle2 : ¬ sqR b (k * vs.length) vs.length < N := by omega
        ((repeat' (first | refine stx ?_ | (refine stq ?_ ?_ <;> (intro hc; ((try simp at hc) <;> try contradiction))) | fail)) <;> try (exfalso; omega))
        exact ⟨[], k + 1, hki, w_4, ⟨w_1, w_2, rfl⟩⟩
      ·obtain rfl : k = i := by omega
       ((repeat' (first | refine stx ?_ | (refine stq ?_ ?_ <;> (intro hc; ((try simp at hc) <;> try contradiction))) | fail)) <;> try (exfalso; omega))
       refine w_G hE (fun p : Nat => p ≤ vs.length) (fun p => vs.length - p)
        (fun p => [(3, vS 2 1 0 vs.length cv), (8, vS 7 1 0 ys.length cm), (11, vI N), (16, vI p)])
        (fun p => [(2, .own 3 cv (.ints vs)), (7, .own 3 cm (.ints ys))]) 8 [] 0 (Nat.zero_le _) ⟨w_1, w_2, rfl⟩ ?_
       intro p hp
       by_cases hpl : p < vs.length
       ·((repeat' (first | refine stx ?_ | (refine stq ?_ ?_ <;> (intro hc; ((try simp at hc) <;> try contradiction))) | fail)) <;> try (exfalso; omega))
        refine w_G hE (fun q : Nat => q ≤ p) (fun q => p - q)
         (fun q => [(3, vS 2 1 0 vs.length cv), (8, vS 7 1 0 ys.length cm), (11, vI N), (16, vI p), (17, vI q)])
         (fun q => [(2, .own 3 cv (.ints vs)), (7, .own 3 cm (.ints ys))]) 8 [] 0 (Nat.zero_le _) ⟨w_1, w_2, rfl⟩ ?_
        intro q hq
        by_cases hqp : q < p
        ·have hqp2 : ¬ p ≤ q := by omega
         have eY : (((List.replicate (vs.length : Int).toNat (0 : Int)).set (0 + (p : Int).toNat) 1).set (0 + (q : Int).toNat) (-1)) = ((List.replicate vs.length (0 : Int)).set p 1).set q (-1) := by
          rw [show (vs.length : Int).toNat = vs.length by omega, show 0 + (p : Int).toNat = p by omega, show 0 + (q : Int).toNat = q by omega]
         have eL : (((List.replicate (vs.length : Int).toNat (0 : Int)).set (0 + (p : Int).toNat) 1).set (0 + (q : Int).toNat) (-1)).length = (vs.length : Int).toNat := by simp
         have hir := fun ca cb => d_isrI vs (((List.replicate (vs.length : Int).toNat (0 : Int)).set (0 + (p : Int).toNat) 1).set (0 + (q : Int).toNat) (-1)) ca cb hv1 (by rw [eL]; omega)
         rw [eL] at hir
         cases hB : relB vs (((List.replicate (vs.length : Int).toNat (0 : Int)).set (0 + (p : Int).toNat) 1).set (0 + (q : Int).toNat) (-1)) with
         | false =>
          rw [hB] at hir
          ((repeat' (first | refine stx ?_ | refine zqc (hir _ _) ?_ | (refine stq ?_ ?_ <;> (intro hc; ((try simp at hc) <;> try contradiction))) | fail)) <;> try (exfalso; omega))
          all_goals exact ⟨[], q + 1, hqp, w_4, ⟨w_1, w_2, rfl⟩⟩
         | true =>
          rw [hB] at hir
          have hle := y5 _ hB
          rw [eY, dif_sq hpl (by omega) (by omega)] at hle
          have hle2 : ¬ 2 < N := by omega
          ((repeat' (first | refine stx ?_ | refine zqc (hir _ _) ?_ | (refine stq ?_ ?_ <;> (intro hc; ((try simp at hc) <;> try contradiction))) | fail)) <;> try (exfalso; omega))
          all_goals exact ⟨[], q + 1, hqp, w_4, ⟨w_1, w_2, rfl⟩⟩
        ·obtain rfl : q = p := by omega
         ((repeat' (first | refine stx ?_ | (refine stq ?_ ?_ <;> (intro hc; ((try simp at hc) <;> try contradiction))) | fail)) <;> try (exfalso; omega))
         exact ⟨[], q + 1, hpl, w_4, ⟨w_1, w_2, rfl⟩⟩
       ·obtain rfl : p = vs.length := by omega
        have f1 := fun ca cb => d_isrI vs ys ca cb hv1 hy1
        have f2 := fun ca cb => d_isrS vs ys ca cb hv1 hy1
        rw [y3] at f1 f2
        ((repeat' (first | refine stx ?_ | refine zqc (f1 _ _) ?_ | refine zqc (f2 _ _) ?_ | (refine stq ?_ ?_ <;> (intro hc; ((try simp at hc) <;> try contradiction))) | fail)) <;> try (exfalso; omega))
        all_goals refine fin_ret rfl w_3 (rfl) rfl
end Go.Proofs.YtekpamojojfplaaGreat
namespace Go.Proofs.YtekpamojojfplaaGreat
open Go.ChangeShapes Go.WideShapes Go.ChangeAt Go.RowKit Go.Joins
theorem Tryz.own : ownKnob Tryz.prog.godebug = none := by kernel_rfl
theorem Tryz.laidOut : laidOutB Tryz.prog = true := by kernel_rfl
theorem trodAll_below {H : Type} {enc : TypeId × Value → H} {P : Program} (hl : laidOutB P = true) {W W' : World} (hb : Below W.heap.size W W') :
    ∀ {ts : List TypeId} {vs : List Value} {ds : List (DataW H)} {ps : List MemPlace}, (∀ t ∈ ts, P.readableRec t = true ∧ t < P.types.size) →
      DataW.TrodAll enc P W 0 (fun _ => true) true ts vs ds ps → (∀ x ∈ ps, x.block < W.heap.size) → DataW.TrodAll enc P W' 0 (fun b => decide (b < W.heap.size)) true ts vs ds ps
  | [], vs, ds, ps, _, h, _ => by
    obtain ⟨rfl, rfl, rfl⟩ := trodAll_nil h
    exact trodAll_mk0
  | t :: ts, vs, ds, ps, ht, h, hlt => by
    obtain ⟨v, vs', d, ds', p, q, rfl, rfl, rfl, hd, hr⟩ := trodAll_cons h
    exact trodAll_cons_mk (Below.trod hl (ht t (by simp)).1 (ht t (by simp)).2 hd hb (fun x hx => hlt x (by simp [hx])))
      (trodAll_below hl hb (fun u hu => ht u (by simp [hu])) hr (fun x hx => hlt x (by simp [hx])))
theorem law_post {H : Type} {enc : TypeId × Value → H} {P : Program} (hl : laidOutB P = true) {f : Func} {s : ChangeSpec} {tb : TypeId} (hres : f.resultTypes = #[tb]) (hT : P.underlying tb = some .bool)
    (hp : ∀ t ∈ f.params.toList, P.readableRec t = true ∧ t < P.types.size) {W W' : World} {args : Array Value} {ds gs : List (DataW H)} {before : List MemPlace}
    (hvars : s.vars = []) (hW : DataW.Whole enc P f.params.toList s.vars false W args.toList ds gs before) (hfn : s.fn H (ds ++ gs) = { results := [.lit (.bool true)], args := ds }) (hb : Below W.heap.size W W') :
    s.post enc P f false true false false W args (.bool true) W' := by
  have hW0 := hW
  obtain ⟨p, q, hA, hV, hpq, hz, hn⟩ := hW
  have hlt : ∀ x ∈ p, x.block < W.heap.size := fun x hx => hW0.lt x (by rw [hpq]; simp [hx])
  refine ⟨ds, gs, before, [], p, [], hW0, ?_, ?_, ?_, hb.frame _, fun h => by cases h⟩
  · rw [hfn, hres]
    exact trodAll_mk1 (shut_bool hT true)
  · rw [hfn]
    exact trodAll_below hl hb hp hA hlt
  · rw [hfn, hvars]
    rfl
end Go.Proofs.YtekpamojojfplaaGreat
namespace Go.Proofs.YtekpamojojfplaaGreat
open Go.ChangeShapes Go.WideShapes Go.ChangeAt Go.RowKit Go.Joins
def plainB : Blk → Bool
  | .ro e => !e.flag
  | .dead => true
  | _ => false
theorem Elts.flag_rds {e : Elts} (h : e.flag = false) : e.rds = [] := by
  cases e with
  | rows q f l => simp only [Elts.flag] at h; subst h; rfl
  | vals f l => simp only [Elts.flag] at h; subst h; rfl
  | mats f l => simp only [Elts.flag] at h; subst h; rfl
  | _ => rfl
theorem plainB_sound {b : Blk} (h : plainB b = true) : b.isOwn = false ∧ b.isAl = false ∧ b.rds = [] ∧ ∀ g, ¬ b.Far g := by
  cases b with
  | dead => exact ⟨rfl, rfl, rfl, fun g ⟨x, hx, _⟩ => by cases hx⟩
  | ro e =>
    simp only [plainB, Bool.not_eq_true'] at h
    have h0 := Elts.flag_rds h
    exact ⟨rfl, rfl, h0, fun g ⟨x, hx, _⟩ => by have : x ∈ e.rds := hx
                                                rw [h0] at this; cases this⟩
  | _ => cases h
def roIn (Hin : List (Nat × Blk)) (n0 : Nat) : Bool := Hin.all fun p => Nat.blt p.1 n0 && plainB p.2 && p.2.keys.all fun k => Nat.blt k n0
def BlksOK (ρ : Rho) (w : World) : List (Nat × Blk) → Prop
  | [] => True
  | p :: r => BlkOK ρ p.1 w p.2 ∧ BlksOK ρ w r
theorem BlksOK.at_ {ρ : Rho} {w : World} : ∀ {l : List (Nat × Blk)}, BlksOK ρ w l → ∀ p ∈ l, BlkOK ρ p.1 w p.2
  | p :: r, h, q, hq => by
    rcases List.mem_cons.1 hq with rfl | hq
    · exact h.1
    · exact BlksOK.at_ h.2 q hq
theorem Does.gives {f : FuncId} {args : List AV} {Hin : List (Nat × Blk)} {n0 n : Nat} {v : AV} (h : Does Tryz.prog f args Hin n0 (Ret v n)) (ρ : Rho) (w : World) (h0 : ρ 0 = none) (hpos : 0 < n0) (hin : roIn Hin n0 = true)
    (hb : BlksOK ρ w Hin) (ha : leB n0 (args.flatMap AV.keys) = true) (hv : v.keys = []) : Gives Tryz.prog f (args.map (AV.conc ρ)).toArray w (v.conc ρ) := by
  have hk : ∀ {k b}, lk Hin k = some b → k < n0 ∧ b.isOwn = false ∧ (∀ k' ∈ b.keys, k' < n0) ∧ b.rds = [] ∧ ∀ g, ¬ b.Far g := fun hl => by
    have := List.all_eq_true.1 hin _ (lk_mem hl)
    simp only [Bool.and_eq_true, Bool.not_eq_true', List.all_eq_true] at this
    obtain ⟨f1, _, f2, f3⟩ := plainB_sound this.1.2
    exact ⟨nblt this.1.1, f1, fun k' hk' => nblt (this.2 k' hk'), f2, f3⟩
  have ha' := leB_sound ha
  refine Gives.of_below (Calls.mono (h.calls ρ w ⟨h0, fun k b hl => hb.at_ _ (lk_mem hl), fun k b hl => ⟨(hk hl).1, (hk hl).2.2.1⟩, fun k k' b b' p p' hl _ ho => ?_, fun k b p hl _ _ hge => ?_, fun k b hl ho => ?_, ⟨rfl, rfl, rfl, Nat.le_refl _, fun _ _ _ _ => rfl⟩, fun _ _ => rfl, Nat.le_refl _, hpos, fun k b hl x hx => ?_, fun k k' b b' p g hl _ ho => ?_, fun k k' t t' q q' l l' hl => ?_, fun k t q l hl => ?_, fun k k' t q l e p hl => ?_⟩
    (fun u hu k hk' => ha' k (List.mem_flatMap.2 ⟨u, hu, hk'⟩))) ?_)
  · rw [(hk hl).2.1] at ho; cases ho
  · have := (hk hl).1
    exact absurd hge (by simpa [envOf] using this)
  · rw [(hk hl).2.1] at ho; cases ho
  · rw [(hk hl).2.2.2.1] at hx; cases hx
  · rw [(hk hl).2.1] at ho; cases ho
  · cases (hk hl).2.1
  · cases (hk hl).2.1
  · cases (hk hl).2.1
  · rintro e w' ⟨ρ', v', Hout, n1, ⟨rfl, rfl, rfl⟩, rfl, hH, _⟩
    refine ⟨congrArg _ (AV.conc_congr fun k hk' => by rw [hv] at hk'; cases hk'), hH.keeps.os, hH.keeps.tape, hH.keeps.output, hH.keeps.size, fun b hlt => hH.keeps.block b hlt (fun k p _ ho _ => ?_) fun ⟨k, t, q, l, hl, _⟩ => ?_⟩
    · obtain ⟨b', hl, ho⟩ := ho
      rw [(hk hl).2.1] at ho; cases ho
    · cases (hk hl).2.1
def rhoOf (l : List (Nat × Option Addr)) : Rho := fun k => match lk l k with
  | some (some a) => some (a.block, a.off)
  | _ => none
def SlOK (A : Option Addr) : Prop := ∀ a, A = some a → a.spot = none
theorem rhoOf_adr {l : List (Nat × Option Addr)} {k : Nat} {A : Option Addr} (hA : SlOK A) (h : lk l k = some A) : adr (rhoOf l) k 0 = A := by
  cases A with
  | none => simp [adr, rhoOf, h]
  | some a =>
    have := hA a rfl
    cases a
    simp at this
    subst this
    simp [adr, rhoOf, h]
theorem RI.blk {l : List (Nat × Option Addr)} {k : Nat} {A : Option Addr} {w : World} {xs : List Int} (hR : RI w A xs) (h : lk l k = some A) : BlkOK (rhoOf l) k w (.ro (.ints xs)) := by
  cases A with
  | none =>
    have : ¬0 < xs.length := fun h => by obtain ⟨b, off, e, _⟩ := hR h; cases e
    have hρ : rhoOf l k = none := by simp [rhoOf, h]
    simp only [BlkOK, hρ, Elts.len]
    omega
  | some a =>
    have hρ : rhoOf l k = some (a.block, a.off) := by simp [rhoOf, h]
    simp only [BlkOK, hρ]
    refine ⟨fun hl => ?_, fun j u hu => ?_⟩
    · obtain ⟨b, off, e, hb, _⟩ := hR hl
      cases e; exact hb
    · simp only [Elts.all, List.getElem?_map, Option.map_eq_some_iff] at hu
      obtain ⟨n, hn, rfl⟩ := hu
      obtain ⟨hj, rfl⟩ := List.getElem?_eq_some_iff.1 hn
      obtain ⟨b, off, e, _, hc⟩ := hR (by omega)
      cases e; exact hc j hj
theorem okWide_spot {P : Program} {w : World} {r : Reach} {b : Nat} {t e : TypeId} {A : Option Addr} {n c : Nat} (ht : P.underlying t = some (.slice e)) (h : Cell.okWide P w r b t (.slice A n c)) : SlOK A ∧ n ≤ c := by
  simp only [Cell.okWide, ht] at h
  cases A with
  | none =>
    refine ⟨fun a e => (by cases e), ?_⟩
    simp only [Cell.ok, ht] at h
    split at h <;> simp_all
  | some a =>
    simp only [Cell.ok, ht] at h
    refine ⟨fun a' e => ?_, h.1⟩
    cases e
    exact h.2.2.2.1
end Go.Proofs.YtekpamojojfplaaGreat
namespace Go.Proofs.YtekpamojojfplaaGreat
open Go.ChangeShapes Go.WideShapes Go.ChangeAt Go.RowKit Go.Joins
def RB (w : World) (A : Option Addr) (xs : List Int) : Prop :=
  0 < xs.length → ∃ b off, A = some ⟨b, off, none⟩ ∧ b < w.heap.size ∧ ∀ k (h : k < xs.length), w.cell? ⟨b, off + k, none⟩ = some (.int .u8 xs[k])
set_option maxRecDepth 100000 in
theorem open_RB {H : Type} {enc : TypeId × Value → H} {w : World} {fuel : Nat} {cs : List Value} {x : DataW H × List MemPlace}
    (h : DataW.trod enc Tryz.prog w 0 (fun _ => true) true fuel 22 cs = some x) :
    ∃ (A : Option Addr) (c : Nat) (xs : List Int), cs = [.slice A xs.length c] ∧ xs.length ≤ 9223372036854775807 ∧ RB w A xs := by
  rcases open_ints Tryz.underlying22 Tryz.underlying5 (by kernel_rfl) h with ⟨rfl, _⟩ | ⟨a, len, cap, zs, rfl, _, hl, hm, hz, _, hc, hw⟩
  · exact ⟨none, 0, [], rfl, by simp, fun h => absurd h (by simp)⟩
  · simp only [if_true] at hz
    have hm' : cap ≤ 9223372036854775807 := by simpa [maxLen] using hm
    refine ⟨some a, cap, zs.take len, by simp; omega, by simp; omega, fun h0 => ?_⟩
    have hlen : len ≤ zs.length := by omega
    obtain ⟨b, off, rfl, hc'⟩ := ints_at hc (by simp at h0; omega)
    refine ⟨b, off, rfl, World.block_lt_of_cell? w ⟨b, off + 0, none⟩ (hc' 0 (by simp at h0; omega)), fun k hk => ?_⟩
    have hk' : k < zs.length := by simp at hk; omega
    rw [hc' k hk']
    simp [hk']
set_option maxRecDepth 100000 in
theorem open_RB_arg {H : Type} {enc : TypeId × Value → H} {w : World} {v : Value} {d : DataW H} {p : List MemPlace} {b : Nat}
    (hv : Value.okWide Tryz.prog w .any b 22 v) (h : DataW.Trod enc Tryz.prog w 0 (fun _ => true) true 22 v d p) :
    ∃ (A : Option Addr) (c : Nat) (xs : List Int), v = .slice A xs.length c ∧ xs.length ≤ 9223372036854775807 ∧ RB w A xs ∧ SlOK A ∧ xs.length ≤ c := by
  obtain ⟨a0, len, cap, rfl⟩ := okWide_slice Tryz.underlying22 hv
  obtain ⟨fuel, hf⟩ := h
  obtain ⟨A, c, xs, hcs, h1, h2⟩ := open_RB hf
  have : Value.slice a0 len cap = .slice A xs.length c := by simpa [Value.cells] using hcs
  cases this
  simp only [Value.okWide, Tryz.underlying22] at hv
  obtain ⟨h4, h5⟩ := okWide_spot Tryz.underlying22 hv
  exact ⟨_, _, xs, rfl, h1, h2, h4, h5⟩
theorem RB.blk {l : List (Nat × Option Addr)} {k : Nat} {A : Option Addr} {w : World} {xs : List Int} (hR : RB w A xs) (h : lk l k = some A) : BlkOK (rhoOf l) k w (.ro (.bytes xs)) := by
  cases A with
  | none =>
    have : ¬0 < xs.length := fun h => by obtain ⟨b, off, e, _⟩ := hR h; cases e
    have hρ : rhoOf l k = none := by simp [rhoOf, h]
    simp only [BlkOK, hρ, Elts.len]
    omega
  | some a =>
    have hρ : rhoOf l k = some (a.block, a.off) := by simp [rhoOf, h]
    simp only [BlkOK, hρ]
    refine ⟨fun hl => ?_, fun j u hu => ?_⟩
    · obtain ⟨b, off, e, hb, _⟩ := hR hl
      cases e; exact hb
    · simp only [Elts.all, List.getElem?_map, Option.map_eq_some_iff] at hu
      obtain ⟨n, hn, rfl⟩ := hu
      obtain ⟨hj, rfl⟩ := List.getElem?_eq_some_iff.1 hn
      obtain ⟨b, off, e, _, hc⟩ := hR (by omega)
      cases e; exact hc j hj
theorem code_gives {f : FuncId} (h : ∀ (bs : List Int) (c : Nat), Does Tryz.prog f [vS 1 1 0 bs.length c] [(1, .ro (.bytes bs))] 2 (Ret (vB true) 2)) (A : Option Addr) (c : Nat) (bs : List Int) (w : World) (hR : RB w A bs) (hs : SlOK A) : Gives Tryz.prog f #[.slice A bs.length c] w (.bool true) := by
  have h1 : roIn [(1, .ro (.bytes bs))] 2 = true := by simp [roIn, plainB, Elts.flag, Blk.keys, Elts.keys, Elts.all, bytes_keys]
  have h2 : BlksOK (rhoOf [(1, A)]) w [(1, .ro (.bytes bs))] := ⟨hR.blk (l := [(1, A)]) (k := 1) rfl, trivial⟩
  have h := Does.gives (h bs c) (rhoOf [(1, A)]) w rfl (by decide) h1 h2 Zz Zz
  have e1 : adr (rhoOf [(1, A)]) 1 0 = A := rhoOf_adr hs rfl
  have e2 : ([vS 1 1 0 bs.length c].map (AV.conc (rhoOf [(1, A)]))).toArray = #[.slice A bs.length c] := by simp [AV.conc, SV.conc, vS, e1]
  rw [e2] at h
  exact h
end Go.Proofs.YtekpamojojfplaaGreat
