/-
  CONTRACTS: the drawing of two forms, often of one class.
-/
import Derived.Test.YtekpamojojfplaaGreatDbDrawJ
set_option linter.unusedVariables false
set_option linter.unusedSimpArgs false
namespace Go.Proofs.YtekpamojojfplaaGreat
open Go.RowKit

def DrewT (t : TypeId) (v : AV) (Hout : List (Nat × Blk)) (n1 : Nat) : Prop :=
  ∃ (r k r' k' : Int) (zs ys : List Int) (cz cy : Nat), zs.length ≤ 10 ∧ ys.length ≤ 10 ∧ zs.length ≤ cz ∧ ys.length ≤ cy ∧ v = .tup [.agg [.int r, .int k, .sl 2 1 0 zs.length cz], .agg [.int r', .int k', .sl 3 1 0 ys.length cy]] ∧ Hout = [(2, .own t cz (.ints zs)), (3, .own t cy (.ints ys))] ∧ n1 = 4
set_option maxRecDepth 100000 in
set_option maxHeartbeats 8000000 in
theorem d_two (bs : List Int) (c : Nat) (hl : bs.length ≤ 1048576) : Does Tryz.prog 41 [vS 1 1 0 bs.length c] [(1, .ro (.bytes bs))] 2 (DrewT 3) := by
  refine Does.intro TT Tryz.func41 rfl (by kernel_rfl) rfl rfl fun E hE => ?_
  ((repeat' (first | refine stp ?_ | (refine stq ?_ ?_ <;> (intro hc; ((try simp at hc) <;> try contradiction))) | fail)) <;> try (exfalso; omega))
  (refine w_E (d_l1New bs c hl) rfl rfl rfl rfl rfl rfl rfl ft rfl ?_)
  rintro v Hout n1 ⟨i0, h0, rfl, rfl, rfl⟩
  ((repeat' (first | refine stp ?_ | (refine stq ?_ ?_ <;> (intro hc; ((try simp at hc) <;> try contradiction))) | fail)) <;> try (exfalso; omega))
  (refine w_E (d_gramD bs c _ _ hl) rfl rfl rfl rfl rfl rfl rfl ft rfl ?_)
  rintro v Hout n1 ⟨r, k, zs, cz, i1, h1, hz, hcz, rfl, rfl, rfl⟩
  have gs := d_gramS r k zs cz (by omega)
  cases hG : gramB r k zs with
  | false =>
    rw [hG] at gs
    ((repeat' (first | refine stp ?_ | (first | refine w_z (gs) rfl rfl rfl rfl rfl rfl rfl rfl ft rfl rfl ?_ | refine w_A (gs) rfl rfl rfl rfl rfl rfl rfl rfl ft rfl rfl ?_) | (refine stq ?_ ?_ <;> (intro hc; ((try simp at hc) <;> try contradiction))) | fail)) <;> try (exfalso; omega))
    refine awp_held TM [(6, _)] sb rfl (fun ρs => ?_)
    refine zt0 ?_
    refine zt1 ?_
    refine w_u [2] kr rfl ⟨?_, trivial⟩
    first | (refine zho ?_) | (refine w_F _ (d_gramD bs c _ _ hl) rfl rfl rfl rfl rfl rfl rfl rfl ft rfl rfl ?_; rintro v Hout n1 ⟨r2, k2, ys, cy, i2, h2, hy, hcy, rfl, rfl, rfl⟩; refine ⟨sb, ?_⟩)
    refine w_u [3] kr rfl ⟨?_, trivial⟩
    first | (refine zho ?_) | (refine w_F _ (d_gramD bs c _ _ hl) rfl rfl rfl rfl rfl rfl rfl rfl ft rfl rfl ?_; rintro v Hout n1 ⟨r2, k2, ys, cy, i2, h2, hy, hcy, rfl, rfl, rfl⟩; refine ⟨sb, ?_⟩)
    refine w_u [4] kr rfl ⟨?_, trivial⟩
    first | (refine zho ?_) | (refine w_F _ (d_gramD bs c _ _ hl) rfl rfl rfl rfl rfl rfl rfl rfl ft rfl rfl ?_; rintro v Hout n1 ⟨r2, k2, ys, cy, i2, h2, hy, hcy, rfl, rfl, rfl⟩; refine ⟨sb, ?_⟩)
    refine w_v kr ?_
    rotate_left
    all_goals ((repeat' (first | refine stp ?_ | (refine stq ?_ ?_ <;> (intro hc; ((try simp at hc) <;> try contradiction))) | fail)) <;> try (exfalso; omega))
    exact fin rfl w_3 [(2, 5), (3, 7)] (.tup [.agg [.int r, .int k, .sl 2 1 0 zs.length cz], .agg [.int r2, .int k2, .sl 3 1 0 ys.length cy]]) [(2, .own 3 cz (.ints zs)), (3, .own 3 cy (.ints ys))] 4 ⟨_, _, _, _, _, _, _, _, hz, hy, hcz, hcy, rfl, rfl, rfl⟩ rfl ⟨trivial, ⟨rfl, rfl, trivial⟩, rfl⟩ rfl
  | true =>
    rw [hG] at gs
    obtain ⟨n, rfl, rfl, hn, hzn, hnum, -⟩ := gramB_nat hG
    have hn3 : n ≤ 3 := by
      rcases Nat.lt_or_ge n 4 with c | c
      · omega
      · have := Nat.mul_le_mul c c; omega
    ((repeat' (first | refine stp ?_ | (first | refine w_z (gs) rfl rfl rfl rfl rfl rfl rfl rfl ft rfl rfl ?_ | refine w_A (gs) rfl rfl rfl rfl rfl rfl rfl rfl ft rfl rfl ?_) | ((refine w_E (d_l1Once bs c _ _ 4 hl) rfl rfl rfl rfl rfl rfl rfl ft rfl ?_); rintro v Hout n1 ⟨b0, i2, h2, rfl, rfl, rfl⟩; cases b0) | (refine stq ?_ ?_ <;> (intro hc; ((try simp at hc) <;> try contradiction))) | fail)) <;> try (exfalso; omega))
    · ((repeat' (first | refine stp ?_ | ((refine w_E (d_uni bs c _ n _ hl (by omega)) rfl rfl rfl rfl rfl rfl rfl ft rfl ?_); rintro v Hout n1 ⟨us, i3, h3, hu, hbu, rfl, rfl, rfl⟩) | (refine stq ?_ ?_ <;> (intro hc; ((try simp at hc) <;> try contradiction))) | fail)) <;> try (exfalso; omega))
      have hbz := bnd_num hnum
      have hpr := bnd_prod hbu hbz (by decide)
      have hbm := mulM_bnd (r := n) (n := n) (c := n) (C := 300000000000) hbu hbz hn3 (by decide) (by decide)
      have htu := turnM_bnd (r := n) (c := n) hbu
      have hpr2 := bnd_prod hbm htu (by decide)
      have f1 := fun ca cb => d_l3MulB n n n (n * n) zs.length us zs ca cb hu.symm rfl (by omega) (by omega) (by omega) hu hzn hpr
      have f2 := fun ca cb => d_l3MulB n n n (n * n) (n * n) (mulM n n n us zs) (turnM us n n) ca cb mulM_len.symm turnM_len.symm (by omega) (by omega) (by omega) mulM_len turnM_len hpr2
      refine awp_held TM [(6, _), (8, _)] sb rfl (fun ρs => ?_)
      refine zt0 ?_
      refine zt1 ?_
      refine zt3 ?_
      refine zt6 ?_
      refine w_u [2] kr rfl ⟨?_, trivial⟩
      first | (refine zho ?_) | (refine w_D _ (d_turnS n n us (n * n) _ hu.symm (by omega) (by omega) hu) rfl rfl rfl rfl rfl rfl rfl rfl ft rfl rfl (TurnO.out) sb rfl rfl ?_; rintro v b ⟨rfl, he, -⟩; cases he) | (refine w_F _ (f1 _ _) rfl rfl rfl rfl rfl rfl rfl rfl ft rfl rfl ?_; rintro v Hout n1 ⟨rfl, rfl, rfl⟩; refine ⟨sb, ?_⟩) | (refine w_F _ (f2 _ _) rfl rfl rfl rfl rfl rfl rfl rfl ft rfl rfl ?_; rintro v Hout n1 ⟨rfl, rfl, rfl⟩; refine ⟨sb, ?_⟩)
      refine w_u [4] kr rfl ⟨?_, trivial⟩
      first | (refine zho ?_) | (refine w_D _ (d_turnS n n us (n * n) _ hu.symm (by omega) (by omega) hu) rfl rfl rfl rfl rfl rfl rfl rfl ft rfl rfl (TurnO.out) sb rfl rfl ?_; rintro v b ⟨rfl, he, -⟩; cases he) | (refine w_F _ (f1 _ _) rfl rfl rfl rfl rfl rfl rfl rfl ft rfl rfl ?_; rintro v Hout n1 ⟨rfl, rfl, rfl⟩; refine ⟨sb, ?_⟩) | (refine w_F _ (f2 _ _) rfl rfl rfl rfl rfl rfl rfl rfl ft rfl rfl ?_; rintro v Hout n1 ⟨rfl, rfl, rfl⟩; refine ⟨sb, ?_⟩)
      refine w_u [5] kr rfl ⟨?_, trivial⟩
      first | (refine zho ?_) | (refine w_D _ (d_turnS n n us (n * n) _ hu.symm (by omega) (by omega) hu) rfl rfl rfl rfl rfl rfl rfl rfl ft rfl rfl (TurnO.out) sb rfl rfl ?_; rintro v b ⟨rfl, he, -⟩; cases he) | (refine w_F _ (f1 _ _) rfl rfl rfl rfl rfl rfl rfl rfl ft rfl rfl ?_; rintro v Hout n1 ⟨rfl, rfl, rfl⟩; refine ⟨sb, ?_⟩) | (refine w_F _ (f2 _ _) rfl rfl rfl rfl rfl rfl rfl rfl ft rfl rfl ?_; rintro v Hout n1 ⟨rfl, rfl, rfl⟩; refine ⟨sb, ?_⟩)
      refine w_u [7] kr rfl ⟨?_, trivial⟩
      first | (refine zho ?_) | (refine w_D _ (d_turnS n n us (n * n) _ hu.symm (by omega) (by omega) hu) rfl rfl rfl rfl rfl rfl rfl rfl ft rfl rfl (TurnO.out) sb rfl rfl ?_; rintro v b ⟨rfl, he, -⟩; cases he) | (refine w_F _ (f1 _ _) rfl rfl rfl rfl rfl rfl rfl rfl ft rfl rfl ?_; rintro v Hout n1 ⟨rfl, rfl, rfl⟩; refine ⟨sb, ?_⟩) | (refine w_F _ (f2 _ _) rfl rfl rfl rfl rfl rfl rfl rfl ft rfl rfl ?_; rintro v Hout n1 ⟨rfl, rfl, rfl⟩; refine ⟨sb, ?_⟩)
      refine w_u [8] kr rfl ⟨?_, trivial⟩
      first | (refine zho ?_) | (refine w_D _ (d_turnS n n us (n * n) _ hu.symm (by omega) (by omega) hu) rfl rfl rfl rfl rfl rfl rfl rfl ft rfl rfl (TurnO.out) sb rfl rfl ?_; rintro v b ⟨rfl, he, -⟩; cases he) | (refine w_F _ (f1 _ _) rfl rfl rfl rfl rfl rfl rfl rfl ft rfl rfl ?_; rintro v Hout n1 ⟨rfl, rfl, rfl⟩; refine ⟨sb, ?_⟩) | (refine w_F _ (f2 _ _) rfl rfl rfl rfl rfl rfl rfl rfl ft rfl rfl ?_; rintro v Hout n1 ⟨rfl, rfl, rfl⟩; refine ⟨sb, ?_⟩)
      refine w_v kr ?_
      rotate_left
      all_goals ((repeat' (first | refine stp ?_ | (refine stq ?_ ?_ <;> (intro hc; ((try simp at hc) <;> try contradiction))) | fail)) <;> try (exfalso; omega))
      exact fin rfl w_3 [(2, 11), (3, 5)] (.tup [.agg [.int n, .int n, .sl 2 1 0 (n * n) (n * n)], .agg [.int n, .int n, .sl 3 1 0 zs.length cz]]) [(2, .own 3 (n * n) (.ints (mulM n n n (mulM n n n us zs) (turnM us n n)))), (3, .own 3 cz (.ints zs))] 4 ⟨n, n, n, n, mulM n n n (mulM n n n us zs) (turnM us n n), zs, n * n, cz, by rw [mulM_len, ← hzn]; exact hz, hz, Nat.le_of_eq mulM_len, hcz, by rw [mulM_len], rfl, rfl⟩ rfl ⟨trivial, ⟨own_ints rfl, rfl, trivial⟩, rfl⟩ rfl
    · refine awp_held TM [(6, _)] sb rfl (fun ρs => ?_)
      refine zt0 ?_
      refine zt1 ?_
      refine w_u [2] kr rfl ⟨?_, trivial⟩
      first | (refine zho ?_) | (refine w_F _ (d_gramD bs c _ _ hl) rfl rfl rfl rfl rfl rfl rfl rfl ft rfl rfl ?_; rintro v Hout n1 ⟨r2, k2, ys, cy, i3, h3, hy, hcy, rfl, rfl, rfl⟩; refine ⟨sb, ?_⟩)
      refine w_u [3] kr rfl ⟨?_, trivial⟩
      first | (refine zho ?_) | (refine w_F _ (d_gramD bs c _ _ hl) rfl rfl rfl rfl rfl rfl rfl rfl ft rfl rfl ?_; rintro v Hout n1 ⟨r2, k2, ys, cy, i3, h3, hy, hcy, rfl, rfl, rfl⟩; refine ⟨sb, ?_⟩)
      refine w_u [4] kr rfl ⟨?_, trivial⟩
      first | (refine zho ?_) | (refine w_F _ (d_gramD bs c _ _ hl) rfl rfl rfl rfl rfl rfl rfl rfl ft rfl rfl ?_; rintro v Hout n1 ⟨r2, k2, ys, cy, i3, h3, hy, hcy, rfl, rfl, rfl⟩; refine ⟨sb, ?_⟩)
      refine w_v kr ?_
      rotate_left
      all_goals ((repeat' (first | refine stp ?_ | (refine stq ?_ ?_ <;> (intro hc; ((try simp at hc) <;> try contradiction))) | fail)) <;> try (exfalso; omega))
      exact fin rfl w_3 [(2, 5), (3, 7)] (.tup [.agg [.int n, .int n, .sl 2 1 0 zs.length cz], .agg [.int r2, .int k2, .sl 3 1 0 ys.length cy]]) [(2, .own 3 cz (.ints zs)), (3, .own 3 cy (.ints ys))] 4 ⟨_, _, _, _, zs, ys, _, _, hz, hy, hcz, hcy, rfl, rfl, rfl⟩ rfl ⟨trivial, ⟨rfl, rfl, trivial⟩, rfl⟩ rfl
theorem d_drawIso (bs : List Int) (c : Nat) (hl : bs.length ≤ 1048576) : Does Tryz.prog 10 [vS 1 1 0 bs.length c] [(1, .ro (.bytes bs))] 2 (DrewT 3) := by
  refine Does.intro TT Tryz.func10 rfl (by kernel_rfl) rfl rfl fun E hE => ?_
  ((repeat' (first | refine stx ?_ | ((refine w_E (d_two bs c hl) rfl rfl rfl rfl rfl rfl rfl ft rfl ?_); rintro v Hout n1 ⟨r, k, r', k', zs, ys, cz, cy, hz, hy, hcz, hcy, rfl, rfl, rfl⟩) | (refine stq ?_ ?_ <;> (intro hc; ((try simp at hc) <;> try contradiction))) | fail)) <;> try (exfalso; omega))
  exact fin rfl w_3 [(2, 4), (3, 5)] (.tup [.agg [.int r, .int k, .sl 2 1 0 zs.length cz], .agg [.int r', .int k', .sl 3 1 0 ys.length cy]]) [(2, .own 3 cz (.ints zs)), (3, .own 3 cy (.ints ys))] 4 ⟨_, _, _, _, zs, ys, _, _, hz, hy, hcz, hcy, rfl, rfl, rfl⟩ rfl ⟨trivial, ⟨rfl, rfl, trivial⟩, rfl⟩ rfl
end Go.Proofs.YtekpamojojfplaaGreat
