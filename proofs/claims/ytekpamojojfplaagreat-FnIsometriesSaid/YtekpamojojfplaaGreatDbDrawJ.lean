/-
  CONTRACTS: the drawing of one form.
-/
import Derived.Test.YtekpamojojfplaaGreatDbDrawI
set_option linter.unusedVariables false
set_option linter.unusedSimpArgs false
namespace Go.Proofs.YtekpamojojfplaaGreat
open Go.RowKit

def DrewG (t tc : TypeId) (nb c : Nat) (v : AV) (Hout : List (Nat × Blk)) (n1 : Nat) : Prop :=
  ∃ (r k : Int) (zs : List Int) (cap i : Nat) (h : Int), zs.length ≤ 10 ∧ zs.length ≤ cap ∧ v = .agg [.int r, .int k, .sl 3 1 0 zs.length cap] ∧ Hout = [(2, .own tc 1 (.lit (curL c nb i h))), (3, .own t cap (.ints zs))] ∧ n1 = 4
set_option maxHeartbeats 8000000 in
theorem d_gramD (bs : List Int) (c i : Nat) (h : Int) (hl : bs.length ≤ 1048576) : Does Tryz.prog 83 [vC] [(1, .ro (.bytes bs)), (2, .own 112 1 (.lit (curL c bs.length i h)))] 3 (DrewG 3 112 bs.length c) := by
  refine Does.intro TT Tryz.func83 rfl (by kernel_rfl) rfl rfl fun E hE => ?_
  ((repeat' (first | refine stp ?_ | (refine stq ?_ ?_ <;> (intro hc; ((try simp at hc) <;> try contradiction))) | fail)) <;> try (exfalso; omega))
  (refine w_E (d_l1Below bs c _ _ 3 hl) rfl rfl rfl rfl rfl rfl rfl ft rfl ?_)
  rintro v Hout n1 ⟨r0, i0, h0, ⟨hr1, hr2⟩, rfl, rfl, rfl⟩
  replace hr2 := hr2 (by omega)
  obtain ⟨n, hn⟩ : ∃ n : Nat, 1 + r0 = n := ⟨(1 + r0).toNat, by omega⟩
  ((repeat' (first | refine stp ?_ | (refine stq ?_ ?_ <;> (intro hc; ((try simp at hc) <;> try contradiction))) | fail)) <;> try (exfalso; omega))
  rw [hn]
  (refine w_E (d_basis bs c _ n _ hl (by omega)) rfl rfl rfl rfl rfl rfl rfl ft rfl ?_)
  rintro v Hout n1 ⟨xs, i1, h1, hx, hbx, rfl, rfl, rfl⟩
  have hn3 : n ≤ 3 := by omega
  have hn1 : 1 ≤ n := by omega
  have hnn : n * n ≤ 3 * 3 := Nat.mul_le_mul hn3 hn3
  have hnn1 : 1 * 1 ≤ n * n := Nat.mul_le_mul hn1 hn1
  have htx := turnM_bnd (r := n) (c := n) hbx
  have hpr := bnd_prod hbx htx (by decide)
  have hb0 := mulM_bnd (r := n) (n := n) (c := n) (C := 120000000000) hbx htx hn3 (by decide) (by decide)
  have hgl : (mulM n n n xs (turnM xs n n)).length = n * n := mulM_len
  generalize hG : mulM n n n xs (turnM xs n n) = gs at hb0 hgl
  have hmul := fun ca cb => d_l3MulB n n n (n * n) (n * n) xs (turnM xs n n) ca cb hx.symm turnM_len.symm (by omega) (by omega) (by omega) hx turnM_len hpr
  unfold MulOut at hmul
  rw [hG] at hmul
  ((repeat' (first | (refine awp_cutR 2 hE (fun _ : Unit => True) (fun _ => [(0, vC), (2, .one (.ptr 3 3 0 0)), (4, .one (.ptr 5 3 0 0))]) (fun _ => [(1, .ro (.bytes bs)), (2, .own 112 1 (.lit (curL c bs.length i1 h1))), (3, .own 26 1 (.lit zeroM)), (4, .own 3 (n * n) (.ints gs)), (5, .own 26 1 (.lit [.int n, .int n, .sl 4 1 0 (n * n) (n * n)]))]) 6 ?_ ?_) | refine stp ?_ | (refine stq ?_ ?_ <;> (intro hc; ((try simp at hc) <;> try contradiction))) | fail)) <;> try (exfalso; omega))
  · refine awp_held TM [(5, _)] sb rfl (fun ρs => ?_)
    refine zt0 ?_
    refine zt1 ?_
    refine w_u [2, 4] kr rfl ⟨?_, ?_, trivial⟩
    first | (refine zho ?_) | (refine w_D _ (d_turnS n n xs (n * n) _ hx.symm (by omega) (by omega) hx) rfl rfl rfl rfl rfl rfl rfl rfl ft rfl rfl (TurnO.out) sb rfl rfl ?_; rintro v b ⟨rfl, he, -⟩; cases he) | (refine w_F _ (hmul _ _) rfl rfl rfl rfl rfl rfl rfl rfl ft rfl rfl ?_; rintro v Hout n1 ⟨rfl, rfl, rfl⟩; refine ⟨sb, ?_⟩)
    refine w_u [3, 4] kr rfl ⟨?_, ?_, trivial⟩
    first | (refine zho ?_) | (refine w_D _ (d_turnS n n xs (n * n) _ hx.symm (by omega) (by omega) hx) rfl rfl rfl rfl rfl rfl rfl rfl ft rfl rfl (TurnO.out) sb rfl rfl ?_; rintro v b ⟨rfl, he, -⟩; cases he) | (refine w_F _ (hmul _ _) rfl rfl rfl rfl rfl rfl rfl rfl ft rfl rfl ?_; rintro v Hout n1 ⟨rfl, rfl, rfl⟩; refine ⟨sb, ?_⟩)
    refine w_u [4] kr rfl ⟨?_, trivial⟩
    first | (refine zho ?_) | (refine w_D _ (d_turnS n n xs (n * n) _ hx.symm (by omega) (by omega) hx) rfl rfl rfl rfl rfl rfl rfl rfl ft rfl rfl (TurnO.out) sb rfl rfl ?_; rintro v b ⟨rfl, he, -⟩; cases he) | (refine w_F _ (hmul _ _) rfl rfl rfl rfl rfl rfl rfl rfl ft rfl rfl ?_; rintro v Hout n1 ⟨rfl, rfl, rfl⟩; refine ⟨sb, ?_⟩)
    refine w_u [5] kr rfl ⟨?_, trivial⟩
    first | (refine zho ?_) | (refine w_D _ (d_turnS n n xs (n * n) _ hx.symm (by omega) (by omega) hx) rfl rfl rfl rfl rfl rfl rfl rfl ft rfl rfl (TurnO.out) sb rfl rfl ?_; rintro v b ⟨rfl, he, -⟩; cases he) | (refine w_F _ (hmul _ _) rfl rfl rfl rfl rfl rfl rfl rfl ft rfl rfl ?_; rintro v Hout n1 ⟨rfl, rfl, rfl⟩; refine ⟨sb, ?_⟩)
    refine w_v kr ?_
    rotate_left
    first | (refine zho ?_) | (refine w_D _ (d_turnS n n xs (n * n) _ hx.symm (by omega) (by omega) hx) rfl rfl rfl rfl rfl rfl rfl rfl ft rfl rfl (TurnO.out) sb rfl rfl ?_; rintro v b ⟨rfl, he, -⟩; cases he) | (refine w_F _ (hmul _ _) rfl rfl rfl rfl rfl rfl rfl rfl ft rfl rfl ?_; rintro v Hout n1 ⟨rfl, rfl, rfl⟩; refine ⟨sb, ?_⟩)
    refine w_u [3] kr rfl ⟨?_, trivial⟩
    first | (refine zho ?_) | (refine w_D _ (d_turnS n n xs (n * n) _ hx.symm (by omega) (by omega) hx) rfl rfl rfl rfl rfl rfl rfl rfl ft rfl rfl (TurnO.out) sb rfl rfl ?_; rintro v b ⟨rfl, he, -⟩; cases he) | (refine w_F _ (hmul _ _) rfl rfl rfl rfl rfl rfl rfl rfl ft rfl rfl ?_; rintro v Hout n1 ⟨rfl, rfl, rfl⟩; refine ⟨sb, ?_⟩)
    refine w_u [5] kr rfl ⟨?_, trivial⟩
    first | (refine zho ?_) | (refine w_D _ (d_turnS n n xs (n * n) _ hx.symm (by omega) (by omega) hx) rfl rfl rfl rfl rfl rfl rfl rfl ft rfl rfl (TurnO.out) sb rfl rfl ?_; rintro v b ⟨rfl, he, -⟩; cases he) | (refine w_F _ (hmul _ _) rfl rfl rfl rfl rfl rfl rfl rfl ft rfl rfl ?_; rintro v Hout n1 ⟨rfl, rfl, rfl⟩; refine ⟨sb, ?_⟩)
    refine w_v kr ?_
    rotate_left
    first | (refine zho ?_) | (refine w_D _ (d_turnS n n xs (n * n) _ hx.symm (by omega) (by omega) hx) rfl rfl rfl rfl rfl rfl rfl rfl ft rfl rfl (TurnO.out) sb rfl rfl ?_; rintro v b ⟨rfl, he, -⟩; cases he) | (refine w_F _ (hmul _ _) rfl rfl rfl rfl rfl rfl rfl rfl ft rfl rfl ?_; rintro v Hout n1 ⟨rfl, rfl, rfl⟩; refine ⟨sb, ?_⟩)
    refine w_u [2] kr rfl ⟨?_, trivial⟩
    first | (refine zho ?_) | (refine w_D _ (d_turnS n n xs (n * n) _ hx.symm (by omega) (by omega) hx) rfl rfl rfl rfl rfl rfl rfl rfl ft rfl rfl (TurnO.out) sb rfl rfl ?_; rintro v b ⟨rfl, he, -⟩; cases he) | (refine w_F _ (hmul _ _) rfl rfl rfl rfl rfl rfl rfl rfl ft rfl rfl ?_; rintro v Hout n1 ⟨rfl, rfl, rfl⟩; refine ⟨sb, ?_⟩)
    refine w_u [3] kr rfl ⟨?_, trivial⟩
    first | (refine zho ?_) | (refine w_D _ (d_turnS n n xs (n * n) _ hx.symm (by omega) (by omega) hx) rfl rfl rfl rfl rfl rfl rfl rfl ft rfl rfl (TurnO.out) sb rfl rfl ?_; rintro v b ⟨rfl, he, -⟩; cases he) | (refine w_F _ (hmul _ _) rfl rfl rfl rfl rfl rfl rfl rfl ft rfl rfl ?_; rintro v Hout n1 ⟨rfl, rfl, rfl⟩; refine ⟨sb, ?_⟩)
    refine w_u [5] kr rfl ⟨?_, trivial⟩
    first | (refine zho ?_) | (refine w_D _ (d_turnS n n xs (n * n) _ hx.symm (by omega) (by omega) hx) rfl rfl rfl rfl rfl rfl rfl rfl ft rfl rfl (TurnO.out) sb rfl rfl ?_; rintro v b ⟨rfl, he, -⟩; cases he) | (refine w_F _ (hmul _ _) rfl rfl rfl rfl rfl rfl rfl rfl ft rfl rfl ?_; rintro v Hout n1 ⟨rfl, rfl, rfl⟩; refine ⟨sb, ?_⟩)
    refine w_v kr ?_
    rotate_left
    all_goals ((repeat' (first | refine stp ?_ | (refine stq ?_ ?_ <;> (intro hc; ((try simp at hc) <;> try contradiction))) | fail)) <;> try (exfalso; omega))
    · exact ⟨[(4, 7), (5, 8)], (), trivial, ⟨w_1, w_2, rfl⟩⟩
    · exact ⟨[(4, 8), (5, 7)], (), trivial, ⟨w_1, w_2, rfl⟩⟩
    · exact ⟨[(4, 8), (5, 6)], (), trivial, ⟨w_1, w_2, rfl⟩⟩
  · rintro ⟨⟩ -
    have hnnI : (1 : Int) ≤ ((n * n : Nat) : Int) := by omega
    ((repeat' (first | (refine awp_cut 3 hE (fun z : Nat × List Int × Nat × Int => z.1 ≤ 3 ∧ 1 ≤ z.1 ∧ z.2.1.length = z.1 * z.1 ∧ Bnd z.2.1 120000000000) (fun _ => [(0, vC), (2, .one (.ptr 3 3 0 0)), (4, .one (.ptr 5 3 0 0))]) (fun z => [(1, .ro (.bytes bs)), (2, .own 112 1 (.lit (curL c bs.length z.2.2.1 z.2.2.2))), (3, .own 26 1 (.lit zeroM)), (4, .own 3 (z.1 * z.1) (.ints z.2.1)), (5, .own 26 1 (.lit [.int z.1, .int z.1, .sl 4 1 0 (z.1 * z.1) (z.1 * z.1)]))]) 6 ?_ ?_) | refine stp ?_ | (refine stq ?_ ?_ <;> (intro hc; ((try simp at hc) <;> try contradiction))) | fail)) <;> try (exfalso; omega))
    · ((repeat' (first | refine stp ?_ | ((refine w_E (d_l1Once bs c _ _ 3 hl) rfl rfl rfl rfl rfl rfl rfl ft rfl ?_); rintro v Hout n1 ⟨b3, i3, h3, rfl, rfl, rfl⟩; cases b3) | (refine stq ?_ ?_ <;> (intro hc; ((try simp at hc) <;> try contradiction))) | fail)) <;> try (exfalso; omega))
      · exact ⟨[], (n, gs, i3, h3), ⟨hn3, hn1, hgl, hb0⟩, ⟨w_1, w_2, rfl⟩⟩
      · exact ⟨[(4, 6)], (2, [2, 1, 1, 2], i3, h3), ⟨by omega, by omega, rfl, fun p => by
          match p with
          | 0 => show -120000000000 ≤ (2 : Int) ∧ (2 : Int) ≤ 120000000000; omega
          | 1 => show -120000000000 ≤ (1 : Int) ∧ (1 : Int) ≤ 120000000000; omega
          | 2 => show -120000000000 ≤ (1 : Int) ∧ (1 : Int) ≤ 120000000000; omega
          | 3 => show -120000000000 ≤ (2 : Int) ∧ (2 : Int) ≤ 120000000000; omega
          | p + 4 => simp⟩, ⟨w_1, w_2, rfl⟩⟩
      · exact ⟨[], (n, gs, i3, h3), ⟨hn3, hn1, hgl, hb0⟩, ⟨w_1, w_2, rfl⟩⟩
    · clear hG hmul hgl hb0 hpr htx hnnI hnn hnn1 hbx hx
      rintro ⟨q, zs, i3, h3⟩ ⟨hq3, hq1, hzl, hbz⟩
      dsimp only at hq3 hq1 hzl hbz ⊢
      have hqq : q * q ≤ 3 * 3 := Nat.mul_le_mul hq3 hq3
      have hqq1 : 1 * 1 ≤ q * q := Nat.mul_le_mul hq1 hq1
      have hqqI : (1 : Int) ≤ ((q * q : Nat) : Int) := by omega
      ((repeat' (first | (refine awp_cut 5 hE (fun z : List Int × Nat × Int => z.1.length = q * q) (fun _ => [(0, vC), (2, .one (.ptr 3 3 0 0)), (4, .one (.ptr 5 3 0 0))]) (fun z => [(1, .ro (.bytes bs)), (2, .own 112 1 (.lit (curL c bs.length z.2.1 z.2.2))), (3, .own 26 1 (.lit zeroM)), (4, .own 3 (q * q) (.ints z.1)), (5, .own 26 1 (.lit [.int q, .int q, .sl 4 1 0 (q * q) (q * q)]))]) 6 ?_ ?_) | refine stp ?_ | (refine stq ?_ ?_ <;> (intro hc; ((try simp at hc) <;> try contradiction))) | fail)) <;> try (exfalso; omega))
      · ((repeat' (first | refine stp ?_ | ((refine w_E (d_l1Once bs c _ _ 20 hl) rfl rfl rfl rfl rfl rfl rfl ft rfl ?_); rintro v Hout n1 ⟨b4, i4, h4, rfl, rfl, rfl⟩; cases b4) | (refine stq ?_ ?_ <;> (intro hc; ((try simp at hc) <;> try contradiction))) | fail)) <;> try (exfalso; omega))
        · exact ⟨[], (zs, i4, h4), hzl, ⟨w_1, w_2, rfl⟩⟩
        · have hz0 := hbz (0 + (0 : Int).toNat)
          refine awp_held TM [(5, _)] sb rfl (fun ρs => ?_)
          refine zt0 ?_
          refine zt1 ?_
          refine zt2 ?_
          refine zt3 ?_
          refine zt4 ?_
          refine zt6 ?_
          refine w_u [5, 7] kr rfl ⟨?_, ?_, trivial⟩
          first | (refine zho ?_) | (refine w_F _ (d_l1Below bs c _ _ 9 hl) rfl rfl rfl rfl rfl rfl rfl rfl ft rfl rfl ?_; rintro v Hout n1 ⟨r9, i9, h9, ⟨hr9, hr10⟩, rfl, rfl, rfl⟩; refine ⟨sb, ?_⟩; replace hr10 := hr10 (by omega))
          refine w_u [7] kr rfl ⟨?_, trivial⟩
          first | (refine zho ?_) | (refine w_F _ (d_l1Below bs c _ _ 9 hl) rfl rfl rfl rfl rfl rfl rfl rfl ft rfl rfl ?_; rintro v Hout n1 ⟨r9, i9, h9, ⟨hr9, hr10⟩, rfl, rfl, rfl⟩; refine ⟨sb, ?_⟩; replace hr10 := hr10 (by omega))
          refine zt8 ?_
          refine zt9 ?_
          refine w_u [10] kr rfl ⟨?_, trivial⟩
          first | (refine zho ?_) | (refine w_F _ (d_l1Below bs c _ _ 9 hl) rfl rfl rfl rfl rfl rfl rfl rfl ft rfl rfl ?_; rintro v Hout n1 ⟨r9, i9, h9, ⟨hr9, hr10⟩, rfl, rfl, rfl⟩; refine ⟨sb, ?_⟩; replace hr10 := hr10 (by omega))
          refine w_v kr ?_
          rotate_left
          first | (refine zho ?_) | (refine w_F _ (d_l1Below bs c _ _ 9 hl) rfl rfl rfl rfl rfl rfl rfl rfl ft rfl rfl ?_; rintro v Hout n1 ⟨r9, i9, h9, ⟨hr9, hr10⟩, rfl, rfl, rfl⟩; refine ⟨sb, ?_⟩; replace hr10 := hr10 (by omega))
          refine w_u [5] kr rfl ⟨?_, trivial⟩
          first | (refine zho ?_) | (refine w_F _ (d_l1Below bs c _ _ 9 hl) rfl rfl rfl rfl rfl rfl rfl rfl ft rfl rfl ?_; rintro v Hout n1 ⟨r9, i9, h9, ⟨hr9, hr10⟩, rfl, rfl, rfl⟩; refine ⟨sb, ?_⟩; replace hr10 := hr10 (by omega))
          refine zt8 ?_
          refine zt9 ?_
          refine w_u [10] kr rfl ⟨?_, trivial⟩
          first | (refine zho ?_) | (refine w_F _ (d_l1Below bs c _ _ 9 hl) rfl rfl rfl rfl rfl rfl rfl rfl ft rfl rfl ?_; rintro v Hout n1 ⟨r9, i9, h9, ⟨hr9, hr10⟩, rfl, rfl, rfl⟩; refine ⟨sb, ?_⟩; replace hr10 := hr10 (by omega))
          refine w_v kr ?_
          rotate_left
          all_goals ((repeat' (first | refine stp ?_ | (refine stq ?_ ?_ <;> (intro hc; ((try simp at hc) <;> try contradiction))) | fail)) <;> try (exfalso; omega))
          all_goals exact ⟨[], (zs.set (0 + (0 : Int).toNat) (zs.getD (0 + (0 : Int).toNat) 0 - r9), i9, h9), by dsimp only; rw [List.length_set]; exact hzl, ⟨w_1, ⟨rfl, rfl, rfl, own_ints rfl, rfl, trivial⟩, rfl⟩⟩
      · rintro ⟨ys, i5, h5⟩ hyl
        dsimp only at hyl ⊢
        ((repeat' (first | refine stp ?_ | ((refine w_E (d_l3SpoilL bs c _ (q * q) (q * q) _ q q ys hyl.symm (by omega) (by omega) (by omega) hl) rfl rfl rfl rfl rfl rfl rfl ft rfl ?_)) | (refine stq ?_ ?_ <;> (intro hc; ((try simp at hc) <;> try contradiction))) | fail)) <;> try (exfalso; omega))
        rintro v Hout n1 ⟨r6, ws, cap, i6, h6, hw, hwc, ⟨rfl, rfl, rfl⟩ | ⟨rfl, rfl, rfl⟩⟩
        all_goals ((repeat' (first | refine stp ?_ | (refine stq ?_ ?_ <;> (intro hc; ((try simp at hc) <;> try contradiction))) | fail)) <;> try (exfalso; omega))
        · exact fin rfl w_3 [(3, 4)] (.agg [.int r6, .int q, .sl 3 1 0 ws.length cap]) [(2, .own 112 1 (.lit (curL c bs.length i6 h6))), (3, .own 3 cap (.ints ws))] 4 ⟨r6, q, ws, cap, i6, h6, by omega, hwc, rfl, rfl, rfl⟩ rfl ⟨trivial, ⟨rfl, rfl, trivial⟩, rfl⟩ rfl
        · exact fin rfl w_3 [(3, 6)] (.agg [.int r6, .int q, .sl 3 1 0 ws.length cap]) [(2, .own 112 1 (.lit (curL c bs.length i6 h6))), (3, .own 3 cap (.ints ws))] 4 ⟨r6, q, ws, cap, i6, h6, by omega, hwc, rfl, rfl, rfl⟩ rfl ⟨trivial, ⟨rfl, rfl, trivial⟩, rfl⟩ rfl
end Go.Proofs.YtekpamojojfplaaGreat
