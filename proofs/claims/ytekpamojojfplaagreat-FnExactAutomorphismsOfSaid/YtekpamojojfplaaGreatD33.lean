/-
  TEXTS OF THE PROOF, put together: bIsoLawN, bIsoLaw, bMS, bMS2.
-/
import Derived.Test.YtekpamojojfplaaGreatD31
import Derived.Test.YtekpamojojfplaaGreatD32
import Derived.Test.YtekpamojojfplaaGreatD23
set_option linter.unusedVariables false
set_option linter.unusedSimpArgs false
namespace Go.Proofs.YtekpamojojfplaaGreat
open Go.RowKit
set_option maxRecDepth 100000 in
set_option maxHeartbeats 16000000 in
theorem d_lawIsoN (gr gc pr pc : Int) (gx hx : List Int) (ca cb : Nat) (hn : gx.length ≤ 9223372036854775807) (hn' : hx.length ≤ 9223372036854775807) (n : Nat) (ys : List Int) (hO : isoO gr gc gx pr pc hx = some (some (n, ys))) :
    Does Tryz.prog 5 [vM gr gc 1 gx.length ca, vM pr pc 2 hx.length cb] [(1, .ro (.ints gx)), (2, .ro (.ints hx))] 3 (Ret (vB true) 3) := by
  refine Does.intro TT Tryz.func5 rfl (by kernel_rfl) Zz Zz fun E hE => ?_
  have e1 := d_szMatrix gr gc gx ca 1048576 (by omega) hn
  by_cases q1 : 0 ≤ szL 1048576 gx.length
  · obtain ⟨a1, a2, a3⟩ := szL_inI (by omega) q1
    have e2 := d_szMatrix pr pc hx cb _ ⟨a1, a2⟩ hn'
    by_cases q2 : 0 ≤ szL (szL 1048576 gx.length) hx.length
    · obtain ⟨b1, b2, b3⟩ := szL_inI ⟨a1, a2⟩ q2
      have le1 : szL 1048576 gx.length ≤ 1048576 := by unfold szL; split <;> omega
      have le2 : szL (szL 1048576 gx.length) hx.length ≤ 1048576 := by
        generalize szL 1048576 gx.length = u at *
        unfold szL; split <;> omega
      have hl : gx.length ≤ 1099511627776 := by omega
      have hl' : hx.length ≤ 1099511627776 := by omega
      have h1 := fun ca cb => d_isoOS gr gc pr pc gx hx ca cb hl hl'
      have h2 := fun ca cb h h' => d_isoOI gr gc pr pc gx hx ca cb hl hl' h h'
      rw [hO] at h1 h2
      obtain ⟨hn6, hyl⟩ := iso_len hO
      have hnn := Nat.mul_le_mul hn6 hn6
      have hyy : ys.length ≤ 1099511627776 := by omega
      ((repeat' (first | (refine awp_cutR 8 hE (fun _ : Nat => True) (fun _ => [(2, .one (.ptr 3 3 0 0)), (3, .one (.ptr 4 3 0 0)), (6, .one (.ptr 5 3 0 0)), (7, vB true), (8, vB true)]) (fun z => [(1, .ro (.ints gx)), (2, .ro (.ints hx)), (3, .own 46 1 (.lit [.int gr, .int gc, .sl 1 1 0 gx.length ca])), (4, .own 46 1 (.lit [.int pr, .int pc, .sl 2 1 0 hx.length cb])), (5, .own 26 1 (.lit [.int n, .int n, .sl 6 1 0 ys.length z])), (6, .own 3 z (.ints ys))]) 7 ?_ ?_) | refine stp ?_ | refine zqc (e1) ?_ | refine zqc (e2) ?_ | (refine stq ?_ ?_ <;> (intro hc; ((try simp at hc) <;> try contradiction))) | fail)) <;> try (exfalso; omega))
      · refine awp_held TM [(3, _), (4, _)] sb rfl (fun ρs => ?_)
        refine zt0 ?_
        refine zt2 ?_
        refine w_u [1, 9] kr rfl ⟨?_, ?_, trivial⟩
        first | (refine zho ?_) | (refine w_D _ (d_toMatrix gr gc gx _ hl) Zz Zz Zz Zz Zz Zz Zz Zz ft Zz Zz (MadeMx.out) sb Zz Zz ?_; rintro v b ⟨c1g, hc1g, rfl, he, -⟩; cases he) | (refine w_D _ (d_toMatrix pr pc hx _ hl') Zz Zz Zz Zz Zz Zz Zz Zz ft Zz Zz (MadeMx.out) sb Zz Zz ?_; rintro v b ⟨c1h, hc1h, rfl, he, -⟩; cases he) | (refine zqf (h1 _ _) ?_; rintro v Hout n1 ⟨cw, rfl, rfl, rfl⟩; refine ⟨sb, ?_⟩)
        refine w_u [3, 9] kr rfl ⟨?_, ?_, trivial⟩
        first | (refine zho ?_) | (refine w_D _ (d_toMatrix gr gc gx _ hl) Zz Zz Zz Zz Zz Zz Zz Zz ft Zz Zz (MadeMx.out) sb Zz Zz ?_; rintro v b ⟨c1g, hc1g, rfl, he, -⟩; cases he) | (refine w_D _ (d_toMatrix pr pc hx _ hl') Zz Zz Zz Zz Zz Zz Zz Zz ft Zz Zz (MadeMx.out) sb Zz Zz ?_; rintro v b ⟨c1h, hc1h, rfl, he, -⟩; cases he) | (refine zqf (h1 _ _) ?_; rintro v Hout n1 ⟨cw, rfl, rfl, rfl⟩; refine ⟨sb, ?_⟩)
        refine w_u [4, 9] kr rfl ⟨?_, ?_, trivial⟩
        first | (refine zho ?_) | (refine w_D _ (d_toMatrix gr gc gx _ hl) Zz Zz Zz Zz Zz Zz Zz Zz ft Zz Zz (MadeMx.out) sb Zz Zz ?_; rintro v b ⟨c1g, hc1g, rfl, he, -⟩; cases he) | (refine w_D _ (d_toMatrix pr pc hx _ hl') Zz Zz Zz Zz Zz Zz Zz Zz ft Zz Zz (MadeMx.out) sb Zz Zz ?_; rintro v b ⟨c1h, hc1h, rfl, he, -⟩; cases he) | (refine zqf (h1 _ _) ?_; rintro v Hout n1 ⟨cw, rfl, rfl, rfl⟩; refine ⟨sb, ?_⟩)
        refine zt5 ?_
        refine zt6 ?_
        refine zt7 ?_
        refine zt8 ?_
        refine w_u [9] kr rfl ⟨?_, trivial⟩
        first | (refine zho ?_) | (refine w_D _ (d_toMatrix gr gc gx _ hl) Zz Zz Zz Zz Zz Zz Zz Zz ft Zz Zz (MadeMx.out) sb Zz Zz ?_; rintro v b ⟨c1g, hc1g, rfl, he, -⟩; cases he) | (refine w_D _ (d_toMatrix pr pc hx _ hl') Zz Zz Zz Zz Zz Zz Zz Zz ft Zz Zz (MadeMx.out) sb Zz Zz ?_; rintro v b ⟨c1h, hc1h, rfl, he, -⟩; cases he) | (refine zqf (h1 _ _) ?_; rintro v Hout n1 ⟨cw, rfl, rfl, rfl⟩; refine ⟨sb, ?_⟩)
        refine w_u [10] kr rfl ⟨?_, trivial⟩
        first | (refine zho ?_) | (refine w_D _ (d_toMatrix gr gc gx _ hl) Zz Zz Zz Zz Zz Zz Zz Zz ft Zz Zz (MadeMx.out) sb Zz Zz ?_; rintro v b ⟨c1g, hc1g, rfl, he, -⟩; cases he) | (refine w_D _ (d_toMatrix pr pc hx _ hl') Zz Zz Zz Zz Zz Zz Zz Zz ft Zz Zz (MadeMx.out) sb Zz Zz ?_; rintro v b ⟨c1h, hc1h, rfl, he, -⟩; cases he) | (refine zqf (h1 _ _) ?_; rintro v Hout n1 ⟨cw, rfl, rfl, rfl⟩; refine ⟨sb, ?_⟩)
        refine zt11 ?_
        refine zt12 ?_
        refine w_v kr ?_
        rotate_left
        first | (refine zho ?_) | (refine w_D _ (d_toMatrix gr gc gx _ hl) Zz Zz Zz Zz Zz Zz Zz Zz ft Zz Zz (MadeMx.out) sb Zz Zz ?_; rintro v b ⟨c1g, hc1g, rfl, he, -⟩; cases he) | (refine w_D _ (d_toMatrix pr pc hx _ hl') Zz Zz Zz Zz Zz Zz Zz Zz ft Zz Zz (MadeMx.out) sb Zz Zz ?_; rintro v b ⟨c1h, hc1h, rfl, he, -⟩; cases he) | (refine zqf (h1 _ _) ?_; rintro v Hout n1 ⟨cw, rfl, rfl, rfl⟩; refine ⟨sb, ?_⟩)
        refine w_u [4] kr rfl ⟨?_, trivial⟩
        first | (refine zho ?_) | (refine w_D _ (d_toMatrix gr gc gx _ hl) Zz Zz Zz Zz Zz Zz Zz Zz ft Zz Zz (MadeMx.out) sb Zz Zz ?_; rintro v b ⟨c1g, hc1g, rfl, he, -⟩; cases he) | (refine w_D _ (d_toMatrix pr pc hx _ hl') Zz Zz Zz Zz Zz Zz Zz Zz ft Zz Zz (MadeMx.out) sb Zz Zz ?_; rintro v b ⟨c1h, hc1h, rfl, he, -⟩; cases he) | (refine zqf (h1 _ _) ?_; rintro v Hout n1 ⟨cw, rfl, rfl, rfl⟩; refine ⟨sb, ?_⟩)
        refine zt5 ?_
        refine zt6 ?_
        refine zt7 ?_
        refine zt8 ?_
        refine w_u [10] kr rfl ⟨?_, trivial⟩
        first | (refine zho ?_) | (refine w_D _ (d_toMatrix gr gc gx _ hl) Zz Zz Zz Zz Zz Zz Zz Zz ft Zz Zz (MadeMx.out) sb Zz Zz ?_; rintro v b ⟨c1g, hc1g, rfl, he, -⟩; cases he) | (refine w_D _ (d_toMatrix pr pc hx _ hl') Zz Zz Zz Zz Zz Zz Zz Zz ft Zz Zz (MadeMx.out) sb Zz Zz ?_; rintro v b ⟨c1h, hc1h, rfl, he, -⟩; cases he) | (refine zqf (h1 _ _) ?_; rintro v Hout n1 ⟨cw, rfl, rfl, rfl⟩; refine ⟨sb, ?_⟩)
        refine zt11 ?_
        refine zt12 ?_
        refine w_v kr ?_
        rotate_left
        first | (refine zho ?_) | (refine w_D _ (d_toMatrix gr gc gx _ hl) Zz Zz Zz Zz Zz Zz Zz Zz ft Zz Zz (MadeMx.out) sb Zz Zz ?_; rintro v b ⟨c1g, hc1g, rfl, he, -⟩; cases he) | (refine w_D _ (d_toMatrix pr pc hx _ hl') Zz Zz Zz Zz Zz Zz Zz Zz ft Zz Zz (MadeMx.out) sb Zz Zz ?_; rintro v b ⟨c1h, hc1h, rfl, he, -⟩; cases he) | (refine zqf (h1 _ _) ?_; rintro v Hout n1 ⟨cw, rfl, rfl, rfl⟩; refine ⟨sb, ?_⟩)
        refine w_u [3] kr rfl ⟨?_, trivial⟩
        first | (refine zho ?_) | (refine w_D _ (d_toMatrix gr gc gx _ hl) Zz Zz Zz Zz Zz Zz Zz Zz ft Zz Zz (MadeMx.out) sb Zz Zz ?_; rintro v b ⟨c1g, hc1g, rfl, he, -⟩; cases he) | (refine w_D _ (d_toMatrix pr pc hx _ hl') Zz Zz Zz Zz Zz Zz Zz Zz ft Zz Zz (MadeMx.out) sb Zz Zz ?_; rintro v b ⟨c1h, hc1h, rfl, he, -⟩; cases he) | (refine zqf (h1 _ _) ?_; rintro v Hout n1 ⟨cw, rfl, rfl, rfl⟩; refine ⟨sb, ?_⟩)
        refine w_u [4] kr rfl ⟨?_, trivial⟩
        first | (refine zho ?_) | (refine w_D _ (d_toMatrix gr gc gx _ hl) Zz Zz Zz Zz Zz Zz Zz Zz ft Zz Zz (MadeMx.out) sb Zz Zz ?_; rintro v b ⟨c1g, hc1g, rfl, he, -⟩; cases he) | (refine w_D _ (d_toMatrix pr pc hx _ hl') Zz Zz Zz Zz Zz Zz Zz Zz ft Zz Zz (MadeMx.out) sb Zz Zz ?_; rintro v b ⟨c1h, hc1h, rfl, he, -⟩; cases he) | (refine zqf (h1 _ _) ?_; rintro v Hout n1 ⟨cw, rfl, rfl, rfl⟩; refine ⟨sb, ?_⟩)
        refine zt5 ?_
        refine zt6 ?_
        refine zt7 ?_
        refine zt8 ?_
        refine w_u [10] kr rfl ⟨?_, trivial⟩
        first | (refine zho ?_) | (refine w_D _ (d_toMatrix gr gc gx _ hl) Zz Zz Zz Zz Zz Zz Zz Zz ft Zz Zz (MadeMx.out) sb Zz Zz ?_; rintro v b ⟨c1g, hc1g, rfl, he, -⟩; cases he) | (refine w_D _ (d_toMatrix pr pc hx _ hl') Zz Zz Zz Zz Zz Zz Zz Zz ft Zz Zz (MadeMx.out) sb Zz Zz ?_; rintro v b ⟨c1h, hc1h, rfl, he, -⟩; cases he) | (refine zqf (h1 _ _) ?_; rintro v Hout n1 ⟨cw, rfl, rfl, rfl⟩; refine ⟨sb, ?_⟩)
        refine zt11 ?_
        refine zt12 ?_
        refine w_v kr ?_
        rotate_left
        first | (refine zho ?_) | (refine w_D _ (d_toMatrix gr gc gx _ hl) Zz Zz Zz Zz Zz Zz Zz Zz ft Zz Zz (MadeMx.out) sb Zz Zz ?_; rintro v b ⟨c1g, hc1g, rfl, he, -⟩; cases he) | (refine w_D _ (d_toMatrix pr pc hx _ hl') Zz Zz Zz Zz Zz Zz Zz Zz ft Zz Zz (MadeMx.out) sb Zz Zz ?_; rintro v b ⟨c1h, hc1h, rfl, he, -⟩; cases he) | (refine zqf (h1 _ _) ?_; rintro v Hout n1 ⟨cw, rfl, rfl, rfl⟩; refine ⟨sb, ?_⟩)
        refine w_u [1] kr rfl ⟨?_, trivial⟩
        first | (refine zho ?_) | (refine w_D _ (d_toMatrix gr gc gx _ hl) Zz Zz Zz Zz Zz Zz Zz Zz ft Zz Zz (MadeMx.out) sb Zz Zz ?_; rintro v b ⟨c1g, hc1g, rfl, he, -⟩; cases he) | (refine w_D _ (d_toMatrix pr pc hx _ hl') Zz Zz Zz Zz Zz Zz Zz Zz ft Zz Zz (MadeMx.out) sb Zz Zz ?_; rintro v b ⟨c1h, hc1h, rfl, he, -⟩; cases he) | (refine zqf (h1 _ _) ?_; rintro v Hout n1 ⟨cw, rfl, rfl, rfl⟩; refine ⟨sb, ?_⟩)
        refine w_u [3] kr rfl ⟨?_, trivial⟩
        first | (refine zho ?_) | (refine w_D _ (d_toMatrix gr gc gx _ hl) Zz Zz Zz Zz Zz Zz Zz Zz ft Zz Zz (MadeMx.out) sb Zz Zz ?_; rintro v b ⟨c1g, hc1g, rfl, he, -⟩; cases he) | (refine w_D _ (d_toMatrix pr pc hx _ hl') Zz Zz Zz Zz Zz Zz Zz Zz ft Zz Zz (MadeMx.out) sb Zz Zz ?_; rintro v b ⟨c1h, hc1h, rfl, he, -⟩; cases he) | (refine zqf (h1 _ _) ?_; rintro v Hout n1 ⟨cw, rfl, rfl, rfl⟩; refine ⟨sb, ?_⟩)
        refine w_u [4] kr rfl ⟨?_, trivial⟩
        first | (refine zho ?_) | (refine w_D _ (d_toMatrix gr gc gx _ hl) Zz Zz Zz Zz Zz Zz Zz Zz ft Zz Zz (MadeMx.out) sb Zz Zz ?_; rintro v b ⟨c1g, hc1g, rfl, he, -⟩; cases he) | (refine w_D _ (d_toMatrix pr pc hx _ hl') Zz Zz Zz Zz Zz Zz Zz Zz ft Zz Zz (MadeMx.out) sb Zz Zz ?_; rintro v b ⟨c1h, hc1h, rfl, he, -⟩; cases he) | (refine zqf (h1 _ _) ?_; rintro v Hout n1 ⟨cw, rfl, rfl, rfl⟩; refine ⟨sb, ?_⟩)
        refine zt5 ?_
        refine zt6 ?_
        refine zt7 ?_
        refine zt8 ?_
        refine w_u [10] kr rfl ⟨?_, trivial⟩
        first | (refine zho ?_) | (refine w_D _ (d_toMatrix gr gc gx _ hl) Zz Zz Zz Zz Zz Zz Zz Zz ft Zz Zz (MadeMx.out) sb Zz Zz ?_; rintro v b ⟨c1g, hc1g, rfl, he, -⟩; cases he) | (refine w_D _ (d_toMatrix pr pc hx _ hl') Zz Zz Zz Zz Zz Zz Zz Zz ft Zz Zz (MadeMx.out) sb Zz Zz ?_; rintro v b ⟨c1h, hc1h, rfl, he, -⟩; cases he) | (refine zqf (h1 _ _) ?_; rintro v Hout n1 ⟨cw, rfl, rfl, rfl⟩; refine ⟨sb, ?_⟩)
        refine zt11 ?_
        refine zt12 ?_
        refine w_v kr ?_
        rotate_left
        · exact ⟨[(5, 8), (6, 7)], cw, trivial, ⟨w_1, w_2, rfl⟩⟩
        · exact ⟨[(5, 7), (6, 8)], cw, trivial, ⟨w_1, w_2, rfl⟩⟩
        · exact ⟨[(5, 6), (6, 8)], cw, trivial, ⟨w_1, w_2, rfl⟩⟩
        · exact ⟨[(5, 5), (6, 8)], cw, trivial, ⟨w_1, w_2, rfl⟩⟩
      rintro z -
      try dsimp only
      ((repeat' (first | refine stp ?_ | (refine w_C (d_toMatrix gr gc gx _ hl) Zz Zz Zz Zz Zz Zz Zz ft Zz Zz (MadeMx.out) ?_; rintro v b ⟨c2g, hc2g, rfl, he, -⟩; cases he) | (refine w_C (d_toMatrix pr pc hx _ hl') Zz Zz Zz Zz Zz Zz Zz ft Zz Zz (MadeMx.out) ?_; rintro v b ⟨c2h, hc2h, rfl, he, -⟩; cases he) | ((refine zqe (h2 _ _ hc2g hc2h) ?_); rintro v Hout n1 ⟨cg, rfl, rfl, rfl⟩) | refine zqc (d_eqMatrix n n n n ys ys _ _ hyy hyy) ?_ | (refine stq ?_ ?_ <;> (intro hc; ((try simp at hc) <;> try contradiction))) | fail)) <;> try (exfalso; omega))
      refine awp_held TM [(8, _), (3, _)] sb rfl (fun ρs => ?_)
      refine zt0 ?_
      refine zt1 ?_
      refine w_u [2] kr rfl ⟨?_, trivial⟩
      first | (refine zho ?_) | (refine w_D _ (d_toMatrix gr gc gx _ hl) Zz Zz Zz Zz Zz Zz Zz Zz ft Zz Zz (MadeMx.out) sb Zz Zz ?_; rintro v b ⟨c3g, hc3g, rfl, he, -⟩; cases he) | refine zqb (d_eqMatrix gr gc gr gc gx gx _ _ hl hl) ?_
      refine w_u [3] kr rfl ⟨?_, trivial⟩
      first | (refine zho ?_) | (refine w_D _ (d_toMatrix gr gc gx _ hl) Zz Zz Zz Zz Zz Zz Zz Zz ft Zz Zz (MadeMx.out) sb Zz Zz ?_; rintro v b ⟨c3g, hc3g, rfl, he, -⟩; cases he) | refine zqb (d_eqMatrix gr gc gr gc gx gx _ _ hl hl) ?_
      refine zt4 ?_
      refine w_v kr ?_
      rotate_left
      all_goals ((repeat' (first | refine stp ?_ | (refine stq ?_ ?_ <;> (intro hc; ((try simp at hc) <;> try contradiction))) | fail)) <;> try (exfalso; omega))
      all_goals
        refine awp_held TM [(10, _), (4, _)] sb rfl (fun ρs => ?_)
        refine zt0 ?_
        refine zt1 ?_
        refine w_u [2] kr rfl ⟨?_, trivial⟩
        first | (refine zho ?_) | (refine w_D _ (d_toMatrix pr pc hx _ hl') Zz Zz Zz Zz Zz Zz Zz Zz ft Zz Zz (MadeMx.out) sb Zz Zz ?_; rintro v b ⟨c4h, hc4h, rfl, he, -⟩; cases he) | refine zqb (d_eqMatrix pr pc pr pc hx hx _ _ hl' hl') ?_
        refine w_u [3] kr rfl ⟨?_, trivial⟩
        first | (refine zho ?_) | (refine w_D _ (d_toMatrix pr pc hx _ hl') Zz Zz Zz Zz Zz Zz Zz Zz ft Zz Zz (MadeMx.out) sb Zz Zz ?_; rintro v b ⟨c4h, hc4h, rfl, he, -⟩; cases he) | refine zqb (d_eqMatrix pr pc pr pc hx hx _ _ hl' hl') ?_
        refine zt4 ?_
        refine w_v kr ?_
        rotate_left
      all_goals ((repeat' (first | refine stp ?_ | ((refine w_E (d_markMatrix gr gc gx _ _ 1 hl (by omega) (by omega)) Zz Zz Zz Zz Zz Zz Zz ft rfl ?_); rintro v Hout n1 ⟨rfl, rfl, rfl⟩) | ((refine w_E (d_markMatrix pr pc hx _ _ (1 + gx.length) hl' (by omega) (by omega)) Zz Zz Zz Zz Zz Zz Zz ft rfl ?_); rintro v Hout n1 ⟨rfl, rfl, rfl⟩) | refine zqc (d_eqMatrix n n n n ys ys _ _ hyy hyy) ?_ | ((refine w_E (d_markMatrix n n ys _ _ 1 hyy (by omega) (by omega)) Zz Zz Zz Zz Zz Zz Zz ft rfl ?_); rintro v Hout n1 ⟨rfl, rfl, rfl⟩) | (first | refine w_z (d_heldMatrix n n ys.length _ 1 hyy (by omega) (by omega)) Zz Zz Zz Zz Zz Zz Zz Zz ft Zz Zz ?_ | refine w_A (d_heldMatrix n n ys.length _ 1 hyy (by omega) (by omega)) Zz Zz Zz Zz Zz Zz Zz Zz ft Zz Zz ?_) | (refine stq ?_ ?_ <;> (intro hc; ((try simp at hc) <;> try contradiction))) | fail)) <;> try (exfalso; omega))
      all_goals
        refine awp_held TM [(3, _), (4, _)] sb rfl (fun ρs => ?_)
        refine zt0 ?_
        refine zt2 ?_
        refine w_u [1, 9] kr rfl ⟨?_, ?_, trivial⟩
        first | (refine zho ?_) | (refine w_D _ (d_toMatrix gr gc gx _ hl) Zz Zz Zz Zz Zz Zz Zz Zz ft Zz Zz (MadeMx.out) sb Zz Zz ?_; rintro v b ⟨c5g, hc5g, rfl, he, -⟩; cases he) | (refine w_D _ (d_toMatrix pr pc hx _ hl') Zz Zz Zz Zz Zz Zz Zz Zz ft Zz Zz (MadeMx.out) sb Zz Zz ?_; rintro v b ⟨c5h, hc5h, rfl, he, -⟩; cases he) | (refine zqf (h2 _ _ hc5g hc5h) ?_; rintro v Hout n1 ⟨ck, rfl, rfl, rfl⟩; refine ⟨sb, ?_⟩)
        refine w_u [3, 9] kr rfl ⟨?_, ?_, trivial⟩
        first | (refine zho ?_) | (refine w_D _ (d_toMatrix gr gc gx _ hl) Zz Zz Zz Zz Zz Zz Zz Zz ft Zz Zz (MadeMx.out) sb Zz Zz ?_; rintro v b ⟨c5g, hc5g, rfl, he, -⟩; cases he) | (refine w_D _ (d_toMatrix pr pc hx _ hl') Zz Zz Zz Zz Zz Zz Zz Zz ft Zz Zz (MadeMx.out) sb Zz Zz ?_; rintro v b ⟨c5h, hc5h, rfl, he, -⟩; cases he) | (refine zqf (h2 _ _ hc5g hc5h) ?_; rintro v Hout n1 ⟨ck, rfl, rfl, rfl⟩; refine ⟨sb, ?_⟩)
        refine w_u [4, 9] kr rfl ⟨?_, ?_, trivial⟩
        first | (refine zho ?_) | (refine w_D _ (d_toMatrix gr gc gx _ hl) Zz Zz Zz Zz Zz Zz Zz Zz ft Zz Zz (MadeMx.out) sb Zz Zz ?_; rintro v b ⟨c5g, hc5g, rfl, he, -⟩; cases he) | (refine w_D _ (d_toMatrix pr pc hx _ hl') Zz Zz Zz Zz Zz Zz Zz Zz ft Zz Zz (MadeMx.out) sb Zz Zz ?_; rintro v b ⟨c5h, hc5h, rfl, he, -⟩; cases he) | (refine zqf (h2 _ _ hc5g hc5h) ?_; rintro v Hout n1 ⟨ck, rfl, rfl, rfl⟩; refine ⟨sb, ?_⟩)
        refine zt5 ?_
        refine zt6 ?_
        refine zt7 ?_
        refine zt8 ?_
        refine w_u [9] kr rfl ⟨?_, trivial⟩
        first | (refine zho ?_) | (refine w_D _ (d_toMatrix gr gc gx _ hl) Zz Zz Zz Zz Zz Zz Zz Zz ft Zz Zz (MadeMx.out) sb Zz Zz ?_; rintro v b ⟨c5g, hc5g, rfl, he, -⟩; cases he) | (refine w_D _ (d_toMatrix pr pc hx _ hl') Zz Zz Zz Zz Zz Zz Zz Zz ft Zz Zz (MadeMx.out) sb Zz Zz ?_; rintro v b ⟨c5h, hc5h, rfl, he, -⟩; cases he) | (refine zqf (h2 _ _ hc5g hc5h) ?_; rintro v Hout n1 ⟨ck, rfl, rfl, rfl⟩; refine ⟨sb, ?_⟩)
        refine w_u [10] kr rfl ⟨?_, trivial⟩
        first | (refine zho ?_) | (refine w_D _ (d_toMatrix gr gc gx _ hl) Zz Zz Zz Zz Zz Zz Zz Zz ft Zz Zz (MadeMx.out) sb Zz Zz ?_; rintro v b ⟨c5g, hc5g, rfl, he, -⟩; cases he) | (refine w_D _ (d_toMatrix pr pc hx _ hl') Zz Zz Zz Zz Zz Zz Zz Zz ft Zz Zz (MadeMx.out) sb Zz Zz ?_; rintro v b ⟨c5h, hc5h, rfl, he, -⟩; cases he) | (refine zqf (h2 _ _ hc5g hc5h) ?_; rintro v Hout n1 ⟨ck, rfl, rfl, rfl⟩; refine ⟨sb, ?_⟩)
        refine zt11 ?_
        refine zt12 ?_
        refine w_v kr ?_
        rotate_left
        first | (refine zho ?_) | (refine w_D _ (d_toMatrix gr gc gx _ hl) Zz Zz Zz Zz Zz Zz Zz Zz ft Zz Zz (MadeMx.out) sb Zz Zz ?_; rintro v b ⟨c5g, hc5g, rfl, he, -⟩; cases he) | (refine w_D _ (d_toMatrix pr pc hx _ hl') Zz Zz Zz Zz Zz Zz Zz Zz ft Zz Zz (MadeMx.out) sb Zz Zz ?_; rintro v b ⟨c5h, hc5h, rfl, he, -⟩; cases he) | (refine zqf (h2 _ _ hc5g hc5h) ?_; rintro v Hout n1 ⟨ck, rfl, rfl, rfl⟩; refine ⟨sb, ?_⟩)
        refine w_u [4] kr rfl ⟨?_, trivial⟩
        first | (refine zho ?_) | (refine w_D _ (d_toMatrix gr gc gx _ hl) Zz Zz Zz Zz Zz Zz Zz Zz ft Zz Zz (MadeMx.out) sb Zz Zz ?_; rintro v b ⟨c5g, hc5g, rfl, he, -⟩; cases he) | (refine w_D _ (d_toMatrix pr pc hx _ hl') Zz Zz Zz Zz Zz Zz Zz Zz ft Zz Zz (MadeMx.out) sb Zz Zz ?_; rintro v b ⟨c5h, hc5h, rfl, he, -⟩; cases he) | (refine zqf (h2 _ _ hc5g hc5h) ?_; rintro v Hout n1 ⟨ck, rfl, rfl, rfl⟩; refine ⟨sb, ?_⟩)
        refine zt5 ?_
        refine zt6 ?_
        refine zt7 ?_
        refine zt8 ?_
        refine w_u [10] kr rfl ⟨?_, trivial⟩
        first | (refine zho ?_) | (refine w_D _ (d_toMatrix gr gc gx _ hl) Zz Zz Zz Zz Zz Zz Zz Zz ft Zz Zz (MadeMx.out) sb Zz Zz ?_; rintro v b ⟨c5g, hc5g, rfl, he, -⟩; cases he) | (refine w_D _ (d_toMatrix pr pc hx _ hl') Zz Zz Zz Zz Zz Zz Zz Zz ft Zz Zz (MadeMx.out) sb Zz Zz ?_; rintro v b ⟨c5h, hc5h, rfl, he, -⟩; cases he) | (refine zqf (h2 _ _ hc5g hc5h) ?_; rintro v Hout n1 ⟨ck, rfl, rfl, rfl⟩; refine ⟨sb, ?_⟩)
        refine zt11 ?_
        refine zt12 ?_
        refine w_v kr ?_
        rotate_left
        first | (refine zho ?_) | (refine w_D _ (d_toMatrix gr gc gx _ hl) Zz Zz Zz Zz Zz Zz Zz Zz ft Zz Zz (MadeMx.out) sb Zz Zz ?_; rintro v b ⟨c5g, hc5g, rfl, he, -⟩; cases he) | (refine w_D _ (d_toMatrix pr pc hx _ hl') Zz Zz Zz Zz Zz Zz Zz Zz ft Zz Zz (MadeMx.out) sb Zz Zz ?_; rintro v b ⟨c5h, hc5h, rfl, he, -⟩; cases he) | (refine zqf (h2 _ _ hc5g hc5h) ?_; rintro v Hout n1 ⟨ck, rfl, rfl, rfl⟩; refine ⟨sb, ?_⟩)
        refine w_u [3] kr rfl ⟨?_, trivial⟩
        first | (refine zho ?_) | (refine w_D _ (d_toMatrix gr gc gx _ hl) Zz Zz Zz Zz Zz Zz Zz Zz ft Zz Zz (MadeMx.out) sb Zz Zz ?_; rintro v b ⟨c5g, hc5g, rfl, he, -⟩; cases he) | (refine w_D _ (d_toMatrix pr pc hx _ hl') Zz Zz Zz Zz Zz Zz Zz Zz ft Zz Zz (MadeMx.out) sb Zz Zz ?_; rintro v b ⟨c5h, hc5h, rfl, he, -⟩; cases he) | (refine zqf (h2 _ _ hc5g hc5h) ?_; rintro v Hout n1 ⟨ck, rfl, rfl, rfl⟩; refine ⟨sb, ?_⟩)
        refine w_u [4] kr rfl ⟨?_, trivial⟩
        first | (refine zho ?_) | (refine w_D _ (d_toMatrix gr gc gx _ hl) Zz Zz Zz Zz Zz Zz Zz Zz ft Zz Zz (MadeMx.out) sb Zz Zz ?_; rintro v b ⟨c5g, hc5g, rfl, he, -⟩; cases he) | (refine w_D _ (d_toMatrix pr pc hx _ hl') Zz Zz Zz Zz Zz Zz Zz Zz ft Zz Zz (MadeMx.out) sb Zz Zz ?_; rintro v b ⟨c5h, hc5h, rfl, he, -⟩; cases he) | (refine zqf (h2 _ _ hc5g hc5h) ?_; rintro v Hout n1 ⟨ck, rfl, rfl, rfl⟩; refine ⟨sb, ?_⟩)
        refine zt5 ?_
        refine zt6 ?_
        refine zt7 ?_
        refine zt8 ?_
        refine w_u [10] kr rfl ⟨?_, trivial⟩
        first | (refine zho ?_) | (refine w_D _ (d_toMatrix gr gc gx _ hl) Zz Zz Zz Zz Zz Zz Zz Zz ft Zz Zz (MadeMx.out) sb Zz Zz ?_; rintro v b ⟨c5g, hc5g, rfl, he, -⟩; cases he) | (refine w_D _ (d_toMatrix pr pc hx _ hl') Zz Zz Zz Zz Zz Zz Zz Zz ft Zz Zz (MadeMx.out) sb Zz Zz ?_; rintro v b ⟨c5h, hc5h, rfl, he, -⟩; cases he) | (refine zqf (h2 _ _ hc5g hc5h) ?_; rintro v Hout n1 ⟨ck, rfl, rfl, rfl⟩; refine ⟨sb, ?_⟩)
        refine zt11 ?_
        refine zt12 ?_
        refine w_v kr ?_
        rotate_left
        first | (refine zho ?_) | (refine w_D _ (d_toMatrix gr gc gx _ hl) Zz Zz Zz Zz Zz Zz Zz Zz ft Zz Zz (MadeMx.out) sb Zz Zz ?_; rintro v b ⟨c5g, hc5g, rfl, he, -⟩; cases he) | (refine w_D _ (d_toMatrix pr pc hx _ hl') Zz Zz Zz Zz Zz Zz Zz Zz ft Zz Zz (MadeMx.out) sb Zz Zz ?_; rintro v b ⟨c5h, hc5h, rfl, he, -⟩; cases he) | (refine zqf (h2 _ _ hc5g hc5h) ?_; rintro v Hout n1 ⟨ck, rfl, rfl, rfl⟩; refine ⟨sb, ?_⟩)
        refine w_u [1] kr rfl ⟨?_, trivial⟩
        first | (refine zho ?_) | (refine w_D _ (d_toMatrix gr gc gx _ hl) Zz Zz Zz Zz Zz Zz Zz Zz ft Zz Zz (MadeMx.out) sb Zz Zz ?_; rintro v b ⟨c5g, hc5g, rfl, he, -⟩; cases he) | (refine w_D _ (d_toMatrix pr pc hx _ hl') Zz Zz Zz Zz Zz Zz Zz Zz ft Zz Zz (MadeMx.out) sb Zz Zz ?_; rintro v b ⟨c5h, hc5h, rfl, he, -⟩; cases he) | (refine zqf (h2 _ _ hc5g hc5h) ?_; rintro v Hout n1 ⟨ck, rfl, rfl, rfl⟩; refine ⟨sb, ?_⟩)
        refine w_u [3] kr rfl ⟨?_, trivial⟩
        first | (refine zho ?_) | (refine w_D _ (d_toMatrix gr gc gx _ hl) Zz Zz Zz Zz Zz Zz Zz Zz ft Zz Zz (MadeMx.out) sb Zz Zz ?_; rintro v b ⟨c5g, hc5g, rfl, he, -⟩; cases he) | (refine w_D _ (d_toMatrix pr pc hx _ hl') Zz Zz Zz Zz Zz Zz Zz Zz ft Zz Zz (MadeMx.out) sb Zz Zz ?_; rintro v b ⟨c5h, hc5h, rfl, he, -⟩; cases he) | (refine zqf (h2 _ _ hc5g hc5h) ?_; rintro v Hout n1 ⟨ck, rfl, rfl, rfl⟩; refine ⟨sb, ?_⟩)
        refine w_u [4] kr rfl ⟨?_, trivial⟩
        first | (refine zho ?_) | (refine w_D _ (d_toMatrix gr gc gx _ hl) Zz Zz Zz Zz Zz Zz Zz Zz ft Zz Zz (MadeMx.out) sb Zz Zz ?_; rintro v b ⟨c5g, hc5g, rfl, he, -⟩; cases he) | (refine w_D _ (d_toMatrix pr pc hx _ hl') Zz Zz Zz Zz Zz Zz Zz Zz ft Zz Zz (MadeMx.out) sb Zz Zz ?_; rintro v b ⟨c5h, hc5h, rfl, he, -⟩; cases he) | (refine zqf (h2 _ _ hc5g hc5h) ?_; rintro v Hout n1 ⟨ck, rfl, rfl, rfl⟩; refine ⟨sb, ?_⟩)
        refine zt5 ?_
        refine zt6 ?_
        refine zt7 ?_
        refine zt8 ?_
        refine w_u [10] kr rfl ⟨?_, trivial⟩
        first | (refine zho ?_) | (refine w_D _ (d_toMatrix gr gc gx _ hl) Zz Zz Zz Zz Zz Zz Zz Zz ft Zz Zz (MadeMx.out) sb Zz Zz ?_; rintro v b ⟨c5g, hc5g, rfl, he, -⟩; cases he) | (refine w_D _ (d_toMatrix pr pc hx _ hl') Zz Zz Zz Zz Zz Zz Zz Zz ft Zz Zz (MadeMx.out) sb Zz Zz ?_; rintro v b ⟨c5h, hc5h, rfl, he, -⟩; cases he) | (refine zqf (h2 _ _ hc5g hc5h) ?_; rintro v Hout n1 ⟨ck, rfl, rfl, rfl⟩; refine ⟨sb, ?_⟩)
        refine zt11 ?_
        refine zt12 ?_
        refine w_v kr ?_
        rotate_left
      all_goals ((repeat' (first | refine stp ?_ | refine zqc (d_eqMatrix n n n n ys ys _ _ hyy hyy) ?_ | (first | refine w_z (d_heldMatrix n n ys.length _ 1 hyy (by omega) (by omega)) Zz Zz Zz Zz Zz Zz Zz Zz ft Zz Zz ?_ | refine w_A (d_heldMatrix n n ys.length _ 1 hyy (by omega) (by omega)) Zz Zz Zz Zz Zz Zz Zz Zz ft Zz Zz ?_) | (refine stq ?_ ?_ <;> (intro hc; ((try simp at hc) <;> try contradiction))) | fail)) <;> try (exfalso; omega))
      all_goals refine fin_ret rfl w_3 (rfl) rfl
    · ((repeat' (first | refine stp ?_ | refine zqc (e1) ?_ | refine zqc (e2) ?_ | (refine stq ?_ ?_ <;> (intro hc; ((try simp at hc) <;> try contradiction))) | fail)) <;> try (exfalso; omega))
      all_goals refine fin_ret rfl w_3 (rfl) rfl
  · ((repeat' (first | refine stp ?_ | refine zqc (e1) ?_ | (refine stq ?_ ?_ <;> (intro hc; ((try simp at hc) <;> try contradiction))) | fail)) <;> try (exfalso; omega))
    all_goals refine fin_ret rfl w_3 (rfl) rfl
end Go.Proofs.YtekpamojojfplaaGreat
namespace Go.Proofs.YtekpamojojfplaaGreat
open Go.RowKit
theorem d_lawIsoF (gr gc pr pc : Int) (gx hx : List Int) (ca cb : Nat) (hn : gx.length ≤ 9223372036854775807) (hn' : hx.length ≤ 9223372036854775807) :
    Does Tryz.prog 5 [vM gr gc 1 gx.length ca, vM pr pc 2 hx.length cb] [(1, .ro (.ints gx)), (2, .ro (.ints hx))] 3 (Ret (vB true) 3) := by
  rcases iso_form (o := isoO gr gc gx pr pc hx) with ⟨kn, hZ⟩ | ⟨n, ys, hO⟩
  · exact d_lawIsoZ gr gc pr pc gx hx ca cb hn hn' kn hZ
  · exact d_lawIsoN gr gc pr pc gx hx ca cb hn hn' n ys hO
end Go.Proofs.YtekpamojojfplaaGreat
namespace Go.Proofs.YtekpamojojfplaaGreat
open Go.RowKit
abbrev matD : Int × Int × Row := (0, 0, rowD)
def matsX (l : List (Int × Int × Row)) : List (Int × Int × List Int) := l.map fun m => (m.1, m.2.1, m.2.2.xs)
def matsN (l : List (Int × Int × Row)) : Prop := l.length ≤ 1000000 ∧ ∀ m ∈ l, m.2.2.xs.length ≤ 1000000
theorem matsN_at {l : List (Int × Int × Row)} (h : matsN l) (j : Nat) : (l.getD j matD).2.2.xs.length ≤ 1000000 := by
  rw [List.getD_eq_getElem?_getD]
  cases c : l[j]? with
  | none => simp [rowD]
  | some r => exact h.2 r (List.mem_of_getElem? c)
theorem matsX_at {l l' : List (Int × Int × Row)} (h : matsX l = matsX l') (j : Nat) : (l.getD j matD).1 = (l'.getD j matD).1 ∧ (l.getD j matD).2.1 = (l'.getD j matD).2.1 ∧ (l.getD j matD).2.2.xs = (l'.getD j matD).2.2.xs := by
  have e := congrArg (fun x => x[j]?) h
  simp only [matsX, List.getElem?_map] at e
  rw [List.getD_eq_getElem?_getD, List.getD_eq_getElem?_getD]
  cases c : l[j]? <;> cases c' : l'[j]? <;> rw [c, c'] at e <;> simp at e ⊢
  exact e
set_option maxHeartbeats 4000000 in
theorem d_eqMS (l l' : List (Int × Int × Row)) (c d : Nat) (hl : matsN l) (hl' : matsN l') (h : matsX l = matsX l') : Does Tryz.prog 32 [.one (.sl 1 3 0 l.length c), .one (.sl 2 3 0 l'.length d)] [(1, .ro (.mats true l)), (2, .ro (.mats true l'))] 3 (Ret (vB true) 3) := by
 refine Does.intro TT Tryz.func32 rfl (by kernel_rfl) Zz Zz fun E hE => ?_
 have hl1 := hl.1
 have hl2 := hl'.1
 have hn : l.length = l'.length := by have := congrArg List.length h; simpa [matsX] using this
 ((repeat' (first | refine stx ?_ | (refine stq ?_ ?_ <;> (intro hc; ((try simp at hc) <;> try contradiction))) | fail)) <;> try (exfalso; omega))
 refine w_G hE (fun k : Nat => k ≤ l.length) (fun k => l.length - k)
  (fun k => [(0, .one (.sl 1 3 0 l.length c)), (1, .one (.sl 2 3 0 l'.length d)), (5, vI k)]) (fun _ => [(1, .ro (.mats true l)), (2, .ro (.mats true l'))]) 3 [] 0 (Nat.zero_le _) ⟨w_1, w_2, rfl⟩ ?_
 intro k h1
 by_cases hk : k < l.length
 ·have hk' : k < l'.length := by omega
  have n1 := matsN_at hl (0 + (k : Int).toNat)
  have n2 := matsN_at hl' (0 + (k : Int).toNat)
  have he := fun c d => d_eqMatrix (l.getD (0 + (k : Int).toNat) matD).1 (l.getD (0 + (k : Int).toNat) matD).2.1 (l'.getD (0 + (k : Int).toNat) matD).1 (l'.getD (0 + (k : Int).toNat) matD).2.1 (l.getD (0 + (k : Int).toNat) matD).2.2.xs (l'.getD (0 + (k : Int).toNat) matD).2.2.xs c d (by omega) (by omega)
  have hb : decide ((l.getD (0 + (k : Int).toNat) matD).1 = (l'.getD (0 + (k : Int).toNat) matD).1 ∧ (l.getD (0 + (k : Int).toNat) matD).2.1 = (l'.getD (0 + (k : Int).toNat) matD).2.1 ∧ (l.getD (0 + (k : Int).toNat) matD).2.2.xs = (l'.getD (0 + (k : Int).toNat) matD).2.2.xs) = true := decide_eq_true (matsX_at h _)
  rw [hb] at he
  ((repeat' (first | refine stp ?_ | (refine stq ?_ ?_ <;> (intro hc; ((try simp at hc) <;> try contradiction))) | fail)) <;> try (exfalso; omega))
  refine awp_held TM [] sb rfl (fun ρs => ?_)
  refine zt0 ?_
  refine zt1 ?_
  refine zt2 ?_
  refine zt4 ?_
  refine zt5 ?_
  refine zt6 ?_
  refine w_u [3, 7] kr rfl ⟨?_, ?_, trivial⟩
  first | (refine zho ?_) | refine zqb (he _ _) ?_
  refine w_u [7] kr rfl ⟨?_, trivial⟩
  first | (refine zho ?_) | refine zqb (he _ _) ?_
  refine w_u [8] kr rfl ⟨?_, trivial⟩
  first | (refine zho ?_) | refine zqb (he _ _) ?_
  refine zt9 ?_
  refine w_v kr ?_
  rotate_left
  first | (refine zho ?_) | refine zqb (he _ _) ?_
  refine w_u [3] kr rfl ⟨?_, trivial⟩
  first | (refine zho ?_) | refine zqb (he _ _) ?_
  refine w_u [8] kr rfl ⟨?_, trivial⟩
  first | (refine zho ?_) | refine zqb (he _ _) ?_
  refine zt9 ?_
  refine w_v kr ?_
  rotate_left
  all_goals ((repeat' (first | refine stx ?_ | (refine stq ?_ ?_ <;> (intro hc; ((try simp at hc) <;> try contradiction))) | fail)) <;> try (exfalso; omega))
  all_goals exact ⟨[], k + 1, hk, w_4, ⟨w_1, w_2, rfl⟩⟩
 ·((repeat' (first | refine stx ?_ | (refine stq ?_ ?_ <;> (intro hc; ((try simp at hc) <;> try contradiction))) | fail)) <;> try (exfalso; omega))
  refine fin_ret rfl w_3 (rfl) rfl
end Go.Proofs.YtekpamojojfplaaGreat
namespace Go.Proofs.YtekpamojojfplaaGreat
open Go.RowKit
def totM (l : List (Int × Int × Row)) : Nat := (l.map fun m => m.2.2.xs.length + 2).sum
@[simp] theorem totM_nil : totM [] = 0 := rfl
theorem totM_next {l : List (Int × Int × Row)} {i : Nat} (h : i < l.length) : totM (l.take (i + 1)) = totM (l.take i) + (l[i].2.2.xs.length + 2) := by
  rw [List.take_succ_eq_append_getElem h]; simp only [totM, List.map_append, List.map_cons, List.map_nil, List.sum_append, List.sum_cons, List.sum_nil]; omega
theorem totM_bd {l : List (Int × Int × Row)} {c : Nat} (h : ∀ m ∈ l, m.2.2.xs.length ≤ c) : totM l ≤ l.length * (c + 2) := by
  induction l with
  | nil => simp [totM]
  | cons r l ih =>
    have h1 := h r (by simp)
    have h2 := ih fun r hr => h r (by simp [hr])
    simp only [totM, List.map_cons, List.sum_cons, List.length_cons, Nat.succ_mul] at h2 ⊢
    omega
theorem totM_le {l : List (Int × Int × Row)} (h : matsN l) (i : Nat) : totM (l.take i) ≤ 2000000000000 := by
  have h1 : totM (l.take i) ≤ (l.take i).length * (1000000 + 2) := totM_bd fun r hr => h.2 r (List.mem_of_mem_take hr)
  have h2 : (l.take i).length ≤ 1000000 := Nat.le_trans (List.length_take_le' i l) h.1
  have : (l.take i).length * (1000000 + 2) ≤ 1000000 * (1000000 + 2) := Nat.mul_le_mul_right _ h2
  omega
def numM (k : Int) : List (Int × Int × Row) → List (Int × Int × Row)
  | [] => []
  | m :: l => (k, k + 1, m.2.2) :: numM (k + ((m.2.2.xs.length + 2 : Nat) : Int)) l
def markM (k : Int) : List (Int × Int × Row) → List (Int × Int × Row)
  | [] => []
  | m :: l => (k, k + 1, m.2.2.put (marks (k + 2) m.2.2.xs.length)) :: markM (k + ((m.2.2.xs.length + 2 : Nat) : Int)) l
theorem numM_len {l : List (Int × Int × Row)} : ∀ {k : Int}, (numM k l).length = l.length := by
  induction l with
  | nil => intro k; rfl
  | cons r l ih => intro k; simp [numM, ih]
theorem markM_len {l : List (Int × Int × Row)} : ∀ {k : Int}, (markM k l).length = l.length := by
  induction l with
  | nil => intro k; rfl
  | cons r l ih => intro k; simp [markM, ih]
theorem numM_app {l m : List (Int × Int × Row)} : ∀ {k : Int}, numM k (l ++ m) = numM k l ++ numM (k + (totM l : Nat)) m := by
  induction l with
  | nil => intro k; simp [numM, totM]
  | cons r l ih =>
    intro k
    simp only [List.cons_append, numM, ih, totM, List.map_cons, List.sum_cons]
    congr 3
    push_cast
    omega
theorem markM_app {l m : List (Int × Int × Row)} : ∀ {k : Int}, markM k (l ++ m) = markM k l ++ markM (k + (totM l : Nat)) m := by
  induction l with
  | nil => intro k; simp [markM, totM]
  | cons r l ih =>
    intro k
    simp only [List.cons_append, markM, ih, totM, List.map_cons, List.sum_cons]
    congr 3
    push_cast
    omega
theorem numM_next {l : List (Int × Int × Row)} {k : Int} {i : Nat} (h : i < l.length) : numM k (l.take (i + 1)) = numM k (l.take i) ++ [(k + (totM (l.take i) : Nat), k + (totM (l.take i) : Nat) + 1, l[i].2.2)] := by
  rw [List.take_succ_eq_append_getElem h, numM_app]; rfl
theorem markM_next {l : List (Int × Int × Row)} {k : Int} {i : Nat} (h : i < l.length) : markM k (l.take (i + 1)) = markM k (l.take i) ++ [(k + (totM (l.take i) : Nat), k + (totM (l.take i) : Nat) + 1, l[i].2.2.put (marks (k + (totM (l.take i) : Nat) + 2) l[i].2.2.xs.length))] := by
  rw [List.take_succ_eq_append_getElem h, markM_app]; rfl
theorem markM_all {l : List (Int × Int × Row)} : ∀ {k : Int}, (markM k l).flatMap svM = (numM k l).flatMap svM := by
  induction l with
  | nil => intro k; rfl
  | cons r l ih => intro k; simp [markM, numM, ih, svM, Row.hd, Row.put]
abbrev set2 (L : List (Int × Int × Row)) (j : Nat) (x y : Int) : List (Int × Int × Row) := (L.set j (x, (L.getD j (0, 0, rowD)).2.1, (L.getD j (0, 0, rowD)).2.2)).set j (((L.set j (x, (L.getD j (0, 0, rowD)).2.1, (L.getD j (0, 0, rowD)).2.2)).getD j (0, 0, rowD)).1, y, ((L.set j (x, (L.getD j (0, 0, rowD)).2.1, (L.getD j (0, 0, rowD)).2.2)).getD j (0, 0, rowD)).2.2)
theorem set2_at {A B : List (Int × Int × Row)} {m : Int × Int × Row} {j : Nat} (x y : Int) (hj : A.length = j) : set2 (A ++ m :: B) j x y = A ++ (x, y, m.2.2) :: B := by
  subst hj
  simp [set2, List.set_append_right]
theorem set2_row {A B : List (Int × Int × Row)} {m : Int × Int × Row} {j : Nat} (x y : Int) (hj : A.length = j) : ((set2 (A ++ m :: B) j x y).getD j (0, 0, rowD)).2.2 = m.2.2 := by
  rw [set2_at x y hj]; subst hj; simp
theorem own_matsA {t : TypeId} {c : Nat} {m : Nat → Nat} {a b : List (Int × Int × Row)} (h : a = b) : some (Blk.own t c (.mats false a)) = some ((Blk.own t c (.mats false b)).ren m) := by subst h; rfl
def MarksMS (k : Int) (tm t : TypeId) (cap : Nat) (l : List (Int × Int × Row)) (v : AV) (Hout : List (Nat × Blk)) (n1 : Nat) : Prop := v = vI (k + (totM l : Nat)) ∧ Hout = [(1, .own tm cap (.mats false (numM k l))), (2, .tok t false ((markM k l).map fun m => m.2.2))] ∧ n1 = 3
set_option maxHeartbeats 4000000 in
theorem d_markMS (l : List (Int × Int × Row)) (c cap : Nat) (k : Int) (hl : matsN l) (hk : 0 ≤ k) (hk' : k ≤ 1000000000000) : Does Tryz.prog 33 [.one (.sl 1 3 0 l.length c), vI k] [(1, .own 26 cap (.mats false l)), (2, .tok 3 false (l.map fun m => m.2.2))] 3 (MarksMS k 26 3 cap l) := by
 refine Does.intro TT Tryz.func33 rfl (by kernel_rfl) Zz Zz fun E hE => ?_
 have hl1 := hl.1
 ((repeat' (first | refine stx ?_ | (refine stq ?_ ?_ <;> (intro hc; ((try simp at hc) <;> try contradiction))) | fail)) <;> try (exfalso; omega))
 refine w_G hE (fun i : Nat => i ≤ l.length) (fun i => l.length - i)
  (fun i => [(0, .one (.sl 1 3 0 l.length c)), (1, vI (k + (totM (l.take i) : Nat))), (5, vI i)]) (fun i => [(1, .own 26 cap (.mats false (numM k (l.take i) ++ l.drop i))), (2, .tok 3 false ((markM k (l.take i)).map (fun m => m.2.2) ++ (l.drop i).map fun m => m.2.2))]) 3 [] 0 (Nat.zero_le _) ⟨w_1, w_2, rfl⟩ ?_
 intro i hi
 have ht := totM_le hl i
 have hnl : (numM k (l.take i)).length = i := by rw [numM_len, List.length_take]; omega
 by_cases hil : i < l.length
 ·have ed : l.drop i = l[i] :: l.drop (i + 1) := List.drop_eq_getElem_cons hil
  have hdl : (l.drop (i + 1)).length = l.length - (i + 1) := List.length_drop
  have b1 : l[i].2.2.xs.length ≤ 1000000 := hl.2 _ (List.getElem_mem hil)
  have e2 := totM_next hil
  have hlen : (numM k (l.take i) ++ l.drop i).length = l.length := by rw [List.length_append, hnl, List.length_drop]; omega
  have ej : (numM k (l.take i)).length = 0 + (i : Int).toNat := by omega
  have es := set2_at (B := l.drop (i + 1)) (m := l[i]) (k + (totM (l.take i) : Nat)) (k + (totM (l.take i) : Nat) + 1) ej
  have er := set2_row (B := l.drop (i + 1)) (m := l[i]) (k + (totM (l.take i) : Nat)) (k + (totM (l.take i) : Nat) + 1) ej
  rw [← ed] at es er
  have hd := d_markIntS (((set2 (numM k (l.take i) ++ l.drop i) (0 + (i : Int).toNat) (k + (totM (l.take i) : Nat)) (k + (totM (l.take i) : Nat) + 1)).getD (0 + (i : Int).toNat) (0, 0, rowD)).2.2).xs (((set2 (numM k (l.take i) ++ l.drop i) (0 + (i : Int).toNat) (k + (totM (l.take i) : Nat)) (k + (totM (l.take i) : Nat) + 1)).getD (0 + (i : Int).toNat) (0, 0, rowD)).2.2).cap (((set2 (numM k (l.take i) ++ l.drop i) (0 + (i : Int).toNat) (k + (totM (l.take i) : Nat)) (k + (totM (l.take i) : Nat) + 1)).getD (0 + (i : Int).toNat) (0, 0, rowD)).2.2).cap (k + (totM (l.take i) : Nat) + 1 + 1) (by rw [er]; omega) (by omega) (by omega)
  ((repeat' (first | refine stx ?_ | (refine stq ?_ ?_ <;> (intro hc; ((try simp at hc) <;> try contradiction))) | fail)) <;> try (exfalso; omega))
  refine awpL_row 2 ((markM k (l.take i)).map fun m => m.2.2) ((l.drop (i + 1)).map fun m => m.2.2) (((set2 (numM k (l.take i) ++ l.drop i) (0 + (i : Int).toNat) (k + (totM (l.take i) : Nat)) (k + (totM (l.take i) : Nat) + 1)).getD (0 + (i : Int).toNat) (0, 0, rowD)).2.2) hd Zz Zz Zz Zz Zz Zz Zz Zz (congrArg (fun x => some (Blk.tok 3 false x)) (by rw [er, ed]; rfl)) ?_
  ((repeat' (first | refine stx ?_ | (refine stq ?_ ?_ <;> (intro hc; ((try simp at hc) <;> try contradiction))) | fail)) <;> try (exfalso; omega))
  refine ⟨[], i + 1, hil, w_4, ⟨⟨rfl, congrArg some (congrArg vI (by rw [er, e2]; push_cast; omega)), congrArg some (congrArg vI (by omega)), trivial⟩, ⟨own_matsA (es.trans ?_), tok_eqA ?_, trivial⟩, rfl⟩⟩
  ·rw [numM_next hil]; simp
  ·rw [er, markM_next hil, show k + (totM (l.take i) : Nat) + 1 + 1 = k + (totM (l.take i) : Nat) + 2 by omega]; simp
 ·have hi2 : l.take i = l := List.take_of_length_le (by omega)
  have hi3 : l.drop i = [] := List.drop_of_length_le (by omega)
  rw [hi2, hi3, List.append_nil]
  ((repeat' (first | refine stx ?_ | (refine stq ?_ ?_ <;> (intro hc; ((try simp at hc) <;> try contradiction))) | fail)) <;> try (exfalso; omega))
  exact fin rfl w_3 [] (vI (k + (totM l : Nat))) [(1, .own 26 cap (.mats false (numM k l))), (2, .tok 3 false ((markM k l).map fun m => m.2.2))] 3 ⟨rfl, rfl, rfl⟩ rfl ⟨trivial, ⟨rfl, by simp; rfl, trivial⟩, rfl⟩ rfl
theorem markM_at {l : List (Int × Int × Row)} {k : Int} {i : Nat} (h : i < l.length) : (markM k l).getD (0 + (i : Int).toNat) (0, 0, rowD) = (k + (totM (l.take i) : Nat), k + (totM (l.take i) : Nat) + 1, l[i].2.2.put (marks (k + (totM (l.take i) : Nat) + 2) l[i].2.2.xs.length)) := by
  have e : markM k l = markM k (l.take (i + 1)) ++ markM (k + (totM (l.take (i + 1)) : Nat)) (l.drop (i + 1)) := by rw [← markM_app, List.take_append_drop]
  have h1 : (markM k (l.take i)).length = i := by rw [markM_len, List.length_take]; omega
  rw [show 0 + (i : Int).toNat = i by omega, e, markM_next h, List.getD_eq_getElem?_getD, List.getElem?_append_left (by simp [h1]), List.getElem?_append_right (by omega)]
  simp [h1]
set_option maxHeartbeats 4000000 in
theorem d_heldMS (l0 : List (Int × Int × Row)) (c n : Nat) (k : Int) (hn : n = (markM k l0).length) (hl : matsN l0) (hk : 0 ≤ k) (hk' : k ≤ 1000000000000) : Does Tryz.prog 34 [.one (.sl 1 3 0 n c), vI k] [(1, .ro (.mats true (markM k l0)))] 2 (Ret (vI (k + (totM l0 : Nat))) 2) := by
 subst hn
 refine Does.intro TT Tryz.func34 rfl (by kernel_rfl) Zz Zz fun E hE => ?_
 have hl1 := hl.1
 have hat : ∀ i (h : i < l0.length), (markM k l0).getD (0 + (i : Int).toNat) (0, 0, rowD) = (k + (totM (l0.take i) : Nat), k + (totM (l0.take i) : Nat) + 1, l0[i].2.2.put (marks (k + (totM (l0.take i) : Nat) + 2) l0[i].2.2.xs.length)) := fun i h => markM_at h
 have hml := markM_len (l := l0) (k := k)
 generalize hL : markM k l0 = L at *
 ((repeat' (first | refine stx ?_ | (refine stq ?_ ?_ <;> (intro hc; ((try simp at hc) <;> try contradiction))) | fail)) <;> try (exfalso; omega))
 refine w_G hE (fun i : Nat => i ≤ L.length) (fun i => L.length - i)
  (fun i => [(0, .one (.sl 1 3 0 L.length c)), (1, vI (k + (totM (l0.take i) : Nat))), (5, vI i)]) (fun _ => [(1, .ro (.mats true L))]) 2 [] 0 (Nat.zero_le _) ⟨w_1, w_2, rfl⟩ ?_
 intro i hi
 have ht := totM_le hl i
 by_cases hil : i < L.length
 ·have hi0 : i < l0.length := by omega
  have hx := hat i hi0
  have b1 : l0[i].2.2.xs.length ≤ 1000000 := hl.2 _ (List.getElem_mem hi0)
  have e0 : (L.getD (0 + (i : Int).toNat) (0, 0, rowD)).2.2.xs.length = l0[i].2.2.xs.length := by rw [hx]; simp [Row.put]
  have q1 : (L.getD (0 + (i : Int).toNat) (0, 0, rowD)).1 = k + (totM (l0.take i) : Nat) := by rw [hx]
  have q2 : (L.getD (0 + (i : Int).toNat) (0, 0, rowD)).2.1 = k + (totM (l0.take i) : Nat) + 1 := by rw [hx]
  have q1' : (L[i]?.getD (0, 0, rowD)).1 = k + (totM (l0.take i) : Nat) := by rw [← q1]; simp
  have q2' : (L[i]?.getD (0, 0, rowD)).2.1 = k + (totM (l0.take i) : Nat) + 1 := by rw [← q2]; simp
  have hd := fun c => d_heldX (L.getD (0 + (i : Int).toNat) (0, 0, rowD)).2.2.xs c (k + (totM (l0.take i) : Nat) + 1 + 1) (by rw [hx, show k + (totM (l0.take i) : Nat) + 1 + 1 = k + (totM (l0.take i) : Nat) + 2 by omega]; simp [Row.put]) (by omega) (by omega) (by omega)
  have e2 := totM_next hi0
  ((repeat' (first | refine stx ?_ | refine zqc (hd _) ?_ | (refine stq ?_ ?_ <;> (intro hc; ((try simp at hc) <;> try contradiction))) | fail)) <;> try (exfalso; omega))
  all_goals exact ⟨[], i + 1, hil, w_4, ⟨⟨rfl, congrArg some (congrArg vI (by rw [e2, e0]; push_cast; omega)), congrArg some (congrArg vI (by omega)), trivial⟩, ⟨rfl, trivial⟩, rfl⟩⟩
 ·have hi2 : l0.take i = l0 := List.take_of_length_le (by omega)
  rw [hi2] at *
  ((repeat' (first | refine stx ?_ | (refine stq ?_ ?_ <;> (intro hc; ((try simp at hc) <;> try contradiction))) | fail)) <;> try (exfalso; omega))
  refine fin_ret rfl w_3 (rfl) rfl
end Go.Proofs.YtekpamojojfplaaGreat
