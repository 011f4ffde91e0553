/-
  TEXTS OF THE PROOF, put together: bIsoLawZ.
-/
import Derived.Test.YtekpamojojfplaaGreatD31
set_option linter.unusedVariables false
set_option linter.unusedSimpArgs false
namespace Go.Proofs.YtekpamojojfplaaGreat
open Go.RowKit
set_option maxRecDepth 100000 in
set_option maxHeartbeats 16000000 in
theorem d_lawIsoZ (gr gc pr pc : Int) (gx hx : List Int) (ca cb : Nat) (hn : gx.length ≤ 9223372036854775807) (hn' : hx.length ≤ 9223372036854775807) (kn : Bool) (hZ : ∀ ti k, IsoR ti (isoO gr gc gx pr pc hx) k = ZR kn k) :
    Does Tryz.prog 5 [vM gr gc 1 gx.length ca, vM pr pc 2 hx.length cb] [(1, .ro (.ints gx)), (2, .ro (.ints hx))] 3 (Ret (vB true) 3) := by
  refine Does.intro TT Tryz.func5 rfl (by kernel_rfl) Zz Zz fun E hE => ?_
  have e1 := d_szMatrix gr gc gx ca 1048576 (by omega) hn
  by_cases q1 : 0 ≤ szL 1048576 gx.length
  · obtain ⟨a1, a2, a3⟩ := szL_inI (by omega) q1
    have e2 := d_szMatrix pr pc hx cb _ ⟨a1, a2⟩ hn'
    by_cases q2 : 0 ≤ szL (szL 1048576 gx.length) hx.length
    · obtain ⟨b1, b2, b3⟩ := szL_inI ⟨a1, a2⟩ q2
      have le1 : szL 1048576 gx.length ≤ 1048576 := by unfold szL; split <;> omega
      have le2 : szL (szL 1048576 gx.length) hx.length ≤ 1048576 := by
        generalize szL 1048576 gx.length = u at *
        unfold szL; split <;> omega
      have hl : gx.length ≤ 1099511627776 := by omega
      have hl' : hx.length ≤ 1099511627776 := by omega
      have h1 := fun ca cb => d_isoOS gr gc pr pc gx hx ca cb hl hl'
      have h2 := fun ca cb h h' => d_isoOI gr gc pr pc gx hx ca cb hl hl' h h'
      simp only [hZ] at h1 h2
      cases kn
      · ((repeat' (first | (refine awp_cutR 8 hE (fun _ : Unit => True) (fun _ => [(2, .one (.ptr 3 3 0 0)), (3, .one (.ptr 4 3 0 0)), (6, .one (.ptr 5 3 0 0)), (7, vB false), (8, vB false)]) (fun _ => [(1, .ro (.ints gx)), (2, .ro (.ints hx)), (3, .own 46 1 (.lit [.int gr, .int gc, .sl 1 1 0 gx.length ca])), (4, .own 46 1 (.lit [.int pr, .int pc, .sl 2 1 0 hx.length cb])), (5, .own 26 1 (.lit zeroM))]) 6 ?_ ?_) | refine stp ?_ | refine zqc (e1) ?_ | refine zqc (e2) ?_ | (refine stq ?_ ?_ <;> (intro hc; ((try simp at hc) <;> try contradiction))) | fail)) <;> try (exfalso; omega))
        · refine awp_held TM [(3, _), (4, _)] sb rfl (fun ρs => ?_)
          refine zt0 ?_
          refine zt2 ?_
          refine w_u [1, 9] kr rfl ⟨?_, ?_, trivial⟩
          first | (refine zho ?_) | (refine w_D _ (d_toMatrix gr gc gx _ hl) Zz Zz Zz Zz Zz Zz Zz Zz ft Zz Zz (MadeMx.out) sb Zz Zz ?_; rintro v b ⟨c1g, hc1g, rfl, he, -⟩; cases he) | (refine w_D _ (d_toMatrix pr pc hx _ hl') Zz Zz Zz Zz Zz Zz Zz Zz ft Zz Zz (MadeMx.out) sb Zz Zz ?_; rintro v b ⟨c1h, hc1h, rfl, he, -⟩; cases he) | (refine zqf (h1 _ _) ?_; rintro v Hout n1 ⟨rfl, rfl, rfl⟩; refine ⟨sb, ?_⟩)
          refine w_u [3, 9] kr rfl ⟨?_, ?_, trivial⟩
          first | (refine zho ?_) | (refine w_D _ (d_toMatrix gr gc gx _ hl) Zz Zz Zz Zz Zz Zz Zz Zz ft Zz Zz (MadeMx.out) sb Zz Zz ?_; rintro v b ⟨c1g, hc1g, rfl, he, -⟩; cases he) | (refine w_D _ (d_toMatrix pr pc hx _ hl') Zz Zz Zz Zz Zz Zz Zz Zz ft Zz Zz (MadeMx.out) sb Zz Zz ?_; rintro v b ⟨c1h, hc1h, rfl, he, -⟩; cases he) | (refine zqf (h1 _ _) ?_; rintro v Hout n1 ⟨rfl, rfl, rfl⟩; refine ⟨sb, ?_⟩)
          refine w_u [4, 9] kr rfl ⟨?_, ?_, trivial⟩
          first | (refine zho ?_) | (refine w_D _ (d_toMatrix gr gc gx _ hl) Zz Zz Zz Zz Zz Zz Zz Zz ft Zz Zz (MadeMx.out) sb Zz Zz ?_; rintro v b ⟨c1g, hc1g, rfl, he, -⟩; cases he) | (refine w_D _ (d_toMatrix pr pc hx _ hl') Zz Zz Zz Zz Zz Zz Zz Zz ft Zz Zz (MadeMx.out) sb Zz Zz ?_; rintro v b ⟨c1h, hc1h, rfl, he, -⟩; cases he) | (refine zqf (h1 _ _) ?_; rintro v Hout n1 ⟨rfl, rfl, rfl⟩; refine ⟨sb, ?_⟩)
          refine zt5 ?_
          refine zt6 ?_
          refine zt7 ?_
          refine zt8 ?_
          refine w_u [9] kr rfl ⟨?_, trivial⟩
          first | (refine zho ?_) | (refine w_D _ (d_toMatrix gr gc gx _ hl) Zz Zz Zz Zz Zz Zz Zz Zz ft Zz Zz (MadeMx.out) sb Zz Zz ?_; rintro v b ⟨c1g, hc1g, rfl, he, -⟩; cases he) | (refine w_D _ (d_toMatrix pr pc hx _ hl') Zz Zz Zz Zz Zz Zz Zz Zz ft Zz Zz (MadeMx.out) sb Zz Zz ?_; rintro v b ⟨c1h, hc1h, rfl, he, -⟩; cases he) | (refine zqf (h1 _ _) ?_; rintro v Hout n1 ⟨rfl, rfl, rfl⟩; refine ⟨sb, ?_⟩)
          refine w_u [10] kr rfl ⟨?_, trivial⟩
          first | (refine zho ?_) | (refine w_D _ (d_toMatrix gr gc gx _ hl) Zz Zz Zz Zz Zz Zz Zz Zz ft Zz Zz (MadeMx.out) sb Zz Zz ?_; rintro v b ⟨c1g, hc1g, rfl, he, -⟩; cases he) | (refine w_D _ (d_toMatrix pr pc hx _ hl') Zz Zz Zz Zz Zz Zz Zz Zz ft Zz Zz (MadeMx.out) sb Zz Zz ?_; rintro v b ⟨c1h, hc1h, rfl, he, -⟩; cases he) | (refine zqf (h1 _ _) ?_; rintro v Hout n1 ⟨rfl, rfl, rfl⟩; refine ⟨sb, ?_⟩)
          refine zt11 ?_
          refine zt12 ?_
          refine w_v kr ?_
          rotate_left
          first | (refine zho ?_) | (refine w_D _ (d_toMatrix gr gc gx _ hl) Zz Zz Zz Zz Zz Zz Zz Zz ft Zz Zz (MadeMx.out) sb Zz Zz ?_; rintro v b ⟨c1g, hc1g, rfl, he, -⟩; cases he) | (refine w_D _ (d_toMatrix pr pc hx _ hl') Zz Zz Zz Zz Zz Zz Zz Zz ft Zz Zz (MadeMx.out) sb Zz Zz ?_; rintro v b ⟨c1h, hc1h, rfl, he, -⟩; cases he) | (refine zqf (h1 _ _) ?_; rintro v Hout n1 ⟨rfl, rfl, rfl⟩; refine ⟨sb, ?_⟩)
          refine w_u [4] kr rfl ⟨?_, trivial⟩
          first | (refine zho ?_) | (refine w_D _ (d_toMatrix gr gc gx _ hl) Zz Zz Zz Zz Zz Zz Zz Zz ft Zz Zz (MadeMx.out) sb Zz Zz ?_; rintro v b ⟨c1g, hc1g, rfl, he, -⟩; cases he) | (refine w_D _ (d_toMatrix pr pc hx _ hl') Zz Zz Zz Zz Zz Zz Zz Zz ft Zz Zz (MadeMx.out) sb Zz Zz ?_; rintro v b ⟨c1h, hc1h, rfl, he, -⟩; cases he) | (refine zqf (h1 _ _) ?_; rintro v Hout n1 ⟨rfl, rfl, rfl⟩; refine ⟨sb, ?_⟩)
          refine zt5 ?_
          refine zt6 ?_
          refine zt7 ?_
          refine zt8 ?_
          refine w_u [10] kr rfl ⟨?_, trivial⟩
          first | (refine zho ?_) | (refine w_D _ (d_toMatrix gr gc gx _ hl) Zz Zz Zz Zz Zz Zz Zz Zz ft Zz Zz (MadeMx.out) sb Zz Zz ?_; rintro v b ⟨c1g, hc1g, rfl, he, -⟩; cases he) | (refine w_D _ (d_toMatrix pr pc hx _ hl') Zz Zz Zz Zz Zz Zz Zz Zz ft Zz Zz (MadeMx.out) sb Zz Zz ?_; rintro v b ⟨c1h, hc1h, rfl, he, -⟩; cases he) | (refine zqf (h1 _ _) ?_; rintro v Hout n1 ⟨rfl, rfl, rfl⟩; refine ⟨sb, ?_⟩)
          refine zt11 ?_
          refine zt12 ?_
          refine w_v kr ?_
          rotate_left
          first | (refine zho ?_) | (refine w_D _ (d_toMatrix gr gc gx _ hl) Zz Zz Zz Zz Zz Zz Zz Zz ft Zz Zz (MadeMx.out) sb Zz Zz ?_; rintro v b ⟨c1g, hc1g, rfl, he, -⟩; cases he) | (refine w_D _ (d_toMatrix pr pc hx _ hl') Zz Zz Zz Zz Zz Zz Zz Zz ft Zz Zz (MadeMx.out) sb Zz Zz ?_; rintro v b ⟨c1h, hc1h, rfl, he, -⟩; cases he) | (refine zqf (h1 _ _) ?_; rintro v Hout n1 ⟨rfl, rfl, rfl⟩; refine ⟨sb, ?_⟩)
          refine w_u [3] kr rfl ⟨?_, trivial⟩
          first | (refine zho ?_) | (refine w_D _ (d_toMatrix gr gc gx _ hl) Zz Zz Zz Zz Zz Zz Zz Zz ft Zz Zz (MadeMx.out) sb Zz Zz ?_; rintro v b ⟨c1g, hc1g, rfl, he, -⟩; cases he) | (refine w_D _ (d_toMatrix pr pc hx _ hl') Zz Zz Zz Zz Zz Zz Zz Zz ft Zz Zz (MadeMx.out) sb Zz Zz ?_; rintro v b ⟨c1h, hc1h, rfl, he, -⟩; cases he) | (refine zqf (h1 _ _) ?_; rintro v Hout n1 ⟨rfl, rfl, rfl⟩; refine ⟨sb, ?_⟩)
          refine w_u [4] kr rfl ⟨?_, trivial⟩
          first | (refine zho ?_) | (refine w_D _ (d_toMatrix gr gc gx _ hl) Zz Zz Zz Zz Zz Zz Zz Zz ft Zz Zz (MadeMx.out) sb Zz Zz ?_; rintro v b ⟨c1g, hc1g, rfl, he, -⟩; cases he) | (refine w_D _ (d_toMatrix pr pc hx _ hl') Zz Zz Zz Zz Zz Zz Zz Zz ft Zz Zz (MadeMx.out) sb Zz Zz ?_; rintro v b ⟨c1h, hc1h, rfl, he, -⟩; cases he) | (refine zqf (h1 _ _) ?_; rintro v Hout n1 ⟨rfl, rfl, rfl⟩; refine ⟨sb, ?_⟩)
          refine zt5 ?_
          refine zt6 ?_
          refine zt7 ?_
          refine zt8 ?_
          refine w_u [10] kr rfl ⟨?_, trivial⟩
          first | (refine zho ?_) | (refine w_D _ (d_toMatrix gr gc gx _ hl) Zz Zz Zz Zz Zz Zz Zz Zz ft Zz Zz (MadeMx.out) sb Zz Zz ?_; rintro v b ⟨c1g, hc1g, rfl, he, -⟩; cases he) | (refine w_D _ (d_toMatrix pr pc hx _ hl') Zz Zz Zz Zz Zz Zz Zz Zz ft Zz Zz (MadeMx.out) sb Zz Zz ?_; rintro v b ⟨c1h, hc1h, rfl, he, -⟩; cases he) | (refine zqf (h1 _ _) ?_; rintro v Hout n1 ⟨rfl, rfl, rfl⟩; refine ⟨sb, ?_⟩)
          refine zt11 ?_
          refine zt12 ?_
          refine w_v kr ?_
          rotate_left
          first | (refine zho ?_) | (refine w_D _ (d_toMatrix gr gc gx _ hl) Zz Zz Zz Zz Zz Zz Zz Zz ft Zz Zz (MadeMx.out) sb Zz Zz ?_; rintro v b ⟨c1g, hc1g, rfl, he, -⟩; cases he) | (refine w_D _ (d_toMatrix pr pc hx _ hl') Zz Zz Zz Zz Zz Zz Zz Zz ft Zz Zz (MadeMx.out) sb Zz Zz ?_; rintro v b ⟨c1h, hc1h, rfl, he, -⟩; cases he) | (refine zqf (h1 _ _) ?_; rintro v Hout n1 ⟨rfl, rfl, rfl⟩; refine ⟨sb, ?_⟩)
          refine w_u [1] kr rfl ⟨?_, trivial⟩
          first | (refine zho ?_) | (refine w_D _ (d_toMatrix gr gc gx _ hl) Zz Zz Zz Zz Zz Zz Zz Zz ft Zz Zz (MadeMx.out) sb Zz Zz ?_; rintro v b ⟨c1g, hc1g, rfl, he, -⟩; cases he) | (refine w_D _ (d_toMatrix pr pc hx _ hl') Zz Zz Zz Zz Zz Zz Zz Zz ft Zz Zz (MadeMx.out) sb Zz Zz ?_; rintro v b ⟨c1h, hc1h, rfl, he, -⟩; cases he) | (refine zqf (h1 _ _) ?_; rintro v Hout n1 ⟨rfl, rfl, rfl⟩; refine ⟨sb, ?_⟩)
          refine w_u [3] kr rfl ⟨?_, trivial⟩
          first | (refine zho ?_) | (refine w_D _ (d_toMatrix gr gc gx _ hl) Zz Zz Zz Zz Zz Zz Zz Zz ft Zz Zz (MadeMx.out) sb Zz Zz ?_; rintro v b ⟨c1g, hc1g, rfl, he, -⟩; cases he) | (refine w_D _ (d_toMatrix pr pc hx _ hl') Zz Zz Zz Zz Zz Zz Zz Zz ft Zz Zz (MadeMx.out) sb Zz Zz ?_; rintro v b ⟨c1h, hc1h, rfl, he, -⟩; cases he) | (refine zqf (h1 _ _) ?_; rintro v Hout n1 ⟨rfl, rfl, rfl⟩; refine ⟨sb, ?_⟩)
          refine w_u [4] kr rfl ⟨?_, trivial⟩
          first | (refine zho ?_) | (refine w_D _ (d_toMatrix gr gc gx _ hl) Zz Zz Zz Zz Zz Zz Zz Zz ft Zz Zz (MadeMx.out) sb Zz Zz ?_; rintro v b ⟨c1g, hc1g, rfl, he, -⟩; cases he) | (refine w_D _ (d_toMatrix pr pc hx _ hl') Zz Zz Zz Zz Zz Zz Zz Zz ft Zz Zz (MadeMx.out) sb Zz Zz ?_; rintro v b ⟨c1h, hc1h, rfl, he, -⟩; cases he) | (refine zqf (h1 _ _) ?_; rintro v Hout n1 ⟨rfl, rfl, rfl⟩; refine ⟨sb, ?_⟩)
          refine zt5 ?_
          refine zt6 ?_
          refine zt7 ?_
          refine zt8 ?_
          refine w_u [10] kr rfl ⟨?_, trivial⟩
          first | (refine zho ?_) | (refine w_D _ (d_toMatrix gr gc gx _ hl) Zz Zz Zz Zz Zz Zz Zz Zz ft Zz Zz (MadeMx.out) sb Zz Zz ?_; rintro v b ⟨c1g, hc1g, rfl, he, -⟩; cases he) | (refine w_D _ (d_toMatrix pr pc hx _ hl') Zz Zz Zz Zz Zz Zz Zz Zz ft Zz Zz (MadeMx.out) sb Zz Zz ?_; rintro v b ⟨c1h, hc1h, rfl, he, -⟩; cases he) | (refine zqf (h1 _ _) ?_; rintro v Hout n1 ⟨rfl, rfl, rfl⟩; refine ⟨sb, ?_⟩)
          refine zt11 ?_
          refine zt12 ?_
          refine w_v kr ?_
          rotate_left
          · exact ⟨[(5, 7)], (), trivial, ⟨w_1, w_2, rfl⟩⟩
          · exact ⟨[(5, 7)], (), trivial, ⟨w_1, w_2, rfl⟩⟩
          · exact ⟨[(5, 6)], (), trivial, ⟨w_1, w_2, rfl⟩⟩
          · exact ⟨[(5, 5)], (), trivial, ⟨w_1, w_2, rfl⟩⟩
        rintro ⟨⟩ -
        try dsimp only
        ((repeat' (first | refine stp ?_ | (refine w_C (d_toMatrix gr gc gx _ hl) Zz Zz Zz Zz Zz Zz Zz ft Zz Zz (MadeMx.out) ?_; rintro v b ⟨c2g, hc2g, rfl, he, -⟩; cases he) | (refine w_C (d_toMatrix pr pc hx _ hl') Zz Zz Zz Zz Zz Zz Zz ft Zz Zz (MadeMx.out) ?_; rintro v b ⟨c2h, hc2h, rfl, he, -⟩; cases he) | ((refine zqe (h2 _ _ hc2g hc2h) ?_); rintro v Hout n1 ⟨rfl, rfl, rfl⟩) | (first | refine w_z (d_eqMatrix 0 0 0 0 [] [] 0 0 (by decide) (by decide)) Zz Zz Zz Zz Zz Zz Zz Zz ft Zz Zz ?_ | refine w_A (d_eqMatrix 0 0 0 0 [] [] 0 0 (by decide) (by decide)) Zz Zz Zz Zz Zz Zz Zz Zz ft Zz Zz ?_) | (refine stq ?_ ?_ <;> (intro hc; ((try simp at hc) <;> try contradiction))) | fail)) <;> try (exfalso; omega))
        refine awp_held TM [(7, _), (3, _)] sb rfl (fun ρs => ?_)
        refine zt0 ?_
        refine zt1 ?_
        refine w_u [2] kr rfl ⟨?_, trivial⟩
        first | (refine zho ?_) | (refine w_D _ (d_toMatrix gr gc gx _ hl) Zz Zz Zz Zz Zz Zz Zz Zz ft Zz Zz (MadeMx.out) sb Zz Zz ?_; rintro v b ⟨c3g, hc3g, rfl, he, -⟩; cases he) | refine zqb (d_eqMatrix gr gc gr gc gx gx _ _ hl hl) ?_
        refine w_u [3] kr rfl ⟨?_, trivial⟩
        first | (refine zho ?_) | (refine w_D _ (d_toMatrix gr gc gx _ hl) Zz Zz Zz Zz Zz Zz Zz Zz ft Zz Zz (MadeMx.out) sb Zz Zz ?_; rintro v b ⟨c3g, hc3g, rfl, he, -⟩; cases he) | refine zqb (d_eqMatrix gr gc gr gc gx gx _ _ hl hl) ?_
        refine zt4 ?_
        refine w_v kr ?_
        rotate_left
        all_goals ((repeat' (first | refine stp ?_ | (refine stq ?_ ?_ <;> (intro hc; ((try simp at hc) <;> try contradiction))) | fail)) <;> try (exfalso; omega))
        all_goals
          refine awp_held TM [(9, _), (4, _)] sb rfl (fun ρs => ?_)
          refine zt0 ?_
          refine zt1 ?_
          refine w_u [2] kr rfl ⟨?_, trivial⟩
          first | (refine zho ?_) | (refine w_D _ (d_toMatrix pr pc hx _ hl') Zz Zz Zz Zz Zz Zz Zz Zz ft Zz Zz (MadeMx.out) sb Zz Zz ?_; rintro v b ⟨c4h, hc4h, rfl, he, -⟩; cases he) | refine zqb (d_eqMatrix pr pc pr pc hx hx _ _ hl' hl') ?_
          refine w_u [3] kr rfl ⟨?_, trivial⟩
          first | (refine zho ?_) | (refine w_D _ (d_toMatrix pr pc hx _ hl') Zz Zz Zz Zz Zz Zz Zz Zz ft Zz Zz (MadeMx.out) sb Zz Zz ?_; rintro v b ⟨c4h, hc4h, rfl, he, -⟩; cases he) | refine zqb (d_eqMatrix pr pc pr pc hx hx _ _ hl' hl') ?_
          refine zt4 ?_
          refine w_v kr ?_
          rotate_left
        all_goals ((repeat' (first | refine stp ?_ | ((refine w_E (d_markMatrix gr gc gx _ _ 1 hl (by omega) (by omega)) Zz Zz Zz Zz Zz Zz Zz ft rfl ?_); rintro v Hout n1 ⟨rfl, rfl, rfl⟩) | ((refine w_E (d_markMatrix pr pc hx _ _ (1 + gx.length) hl' (by omega) (by omega)) Zz Zz Zz Zz Zz Zz Zz ft rfl ?_); rintro v Hout n1 ⟨rfl, rfl, rfl⟩) | (first | refine w_z (d_eqMatrix 0 0 0 0 [] [] 0 0 (by decide) (by decide)) Zz Zz Zz Zz Zz Zz Zz Zz ft Zz Zz ?_ | refine w_A (d_eqMatrix 0 0 0 0 [] [] 0 0 (by decide) (by decide)) Zz Zz Zz Zz Zz Zz Zz Zz ft Zz Zz ?_) | ((refine w_E (d_markMatrix 0 0 [] 0 0 1 (by decide) (by omega) (by omega)) Zz Zz Zz Zz Zz Zz Zz ft rfl ?_); rintro v Hout n1 ⟨rfl, rfl, rfl⟩) | (first | refine w_z (d_heldMatrix 0 0 0 0 1 (by decide) (by omega) (by omega)) Zz Zz Zz Zz Zz Zz Zz Zz ft Zz Zz ?_ | refine w_A (d_heldMatrix 0 0 0 0 1 (by decide) (by omega) (by omega)) Zz Zz Zz Zz Zz Zz Zz Zz ft Zz Zz ?_) | (refine stq ?_ ?_ <;> (intro hc; ((try simp at hc) <;> try contradiction))) | fail)) <;> try (exfalso; omega))
        all_goals
          refine awp_held TM [(3, _), (4, _)] sb rfl (fun ρs => ?_)
          refine zt0 ?_
          refine zt2 ?_
          refine w_u [1, 9] kr rfl ⟨?_, ?_, trivial⟩
          first | (refine zho ?_) | (refine w_D _ (d_toMatrix gr gc gx _ hl) Zz Zz Zz Zz Zz Zz Zz Zz ft Zz Zz (MadeMx.out) sb Zz Zz ?_; rintro v b ⟨c5g, hc5g, rfl, he, -⟩; cases he) | (refine w_D _ (d_toMatrix pr pc hx _ hl') Zz Zz Zz Zz Zz Zz Zz Zz ft Zz Zz (MadeMx.out) sb Zz Zz ?_; rintro v b ⟨c5h, hc5h, rfl, he, -⟩; cases he) | (refine zqf (h2 _ _ hc5g hc5h) ?_; rintro v Hout n1 ⟨rfl, rfl, rfl⟩; refine ⟨sb, ?_⟩)
          refine w_u [3, 9] kr rfl ⟨?_, ?_, trivial⟩
          first | (refine zho ?_) | (refine w_D _ (d_toMatrix gr gc gx _ hl) Zz Zz Zz Zz Zz Zz Zz Zz ft Zz Zz (MadeMx.out) sb Zz Zz ?_; rintro v b ⟨c5g, hc5g, rfl, he, -⟩; cases he) | (refine w_D _ (d_toMatrix pr pc hx _ hl') Zz Zz Zz Zz Zz Zz Zz Zz ft Zz Zz (MadeMx.out) sb Zz Zz ?_; rintro v b ⟨c5h, hc5h, rfl, he, -⟩; cases he) | (refine zqf (h2 _ _ hc5g hc5h) ?_; rintro v Hout n1 ⟨rfl, rfl, rfl⟩; refine ⟨sb, ?_⟩)
          refine w_u [4, 9] kr rfl ⟨?_, ?_, trivial⟩
          first | (refine zho ?_) | (refine w_D _ (d_toMatrix gr gc gx _ hl) Zz Zz Zz Zz Zz Zz Zz Zz ft Zz Zz (MadeMx.out) sb Zz Zz ?_; rintro v b ⟨c5g, hc5g, rfl, he, -⟩; cases he) | (refine w_D _ (d_toMatrix pr pc hx _ hl') Zz Zz Zz Zz Zz Zz Zz Zz ft Zz Zz (MadeMx.out) sb Zz Zz ?_; rintro v b ⟨c5h, hc5h, rfl, he, -⟩; cases he) | (refine zqf (h2 _ _ hc5g hc5h) ?_; rintro v Hout n1 ⟨rfl, rfl, rfl⟩; refine ⟨sb, ?_⟩)
          refine zt5 ?_
          refine zt6 ?_
          refine zt7 ?_
          refine zt8 ?_
          refine w_u [9] kr rfl ⟨?_, trivial⟩
          first | (refine zho ?_) | (refine w_D _ (d_toMatrix gr gc gx _ hl) Zz Zz Zz Zz Zz Zz Zz Zz ft Zz Zz (MadeMx.out) sb Zz Zz ?_; rintro v b ⟨c5g, hc5g, rfl, he, -⟩; cases he) | (refine w_D _ (d_toMatrix pr pc hx _ hl') Zz Zz Zz Zz Zz Zz Zz Zz ft Zz Zz (MadeMx.out) sb Zz Zz ?_; rintro v b ⟨c5h, hc5h, rfl, he, -⟩; cases he) | (refine zqf (h2 _ _ hc5g hc5h) ?_; rintro v Hout n1 ⟨rfl, rfl, rfl⟩; refine ⟨sb, ?_⟩)
          refine w_u [10] kr rfl ⟨?_, trivial⟩
          first | (refine zho ?_) | (refine w_D _ (d_toMatrix gr gc gx _ hl) Zz Zz Zz Zz Zz Zz Zz Zz ft Zz Zz (MadeMx.out) sb Zz Zz ?_; rintro v b ⟨c5g, hc5g, rfl, he, -⟩; cases he) | (refine w_D _ (d_toMatrix pr pc hx _ hl') Zz Zz Zz Zz Zz Zz Zz Zz ft Zz Zz (MadeMx.out) sb Zz Zz ?_; rintro v b ⟨c5h, hc5h, rfl, he, -⟩; cases he) | (refine zqf (h2 _ _ hc5g hc5h) ?_; rintro v Hout n1 ⟨rfl, rfl, rfl⟩; refine ⟨sb, ?_⟩)
          refine zt11 ?_
          refine zt12 ?_
          refine w_v kr ?_
          rotate_left
          first | (refine zho ?_) | (refine w_D _ (d_toMatrix gr gc gx _ hl) Zz Zz Zz Zz Zz Zz Zz Zz ft Zz Zz (MadeMx.out) sb Zz Zz ?_; rintro v b ⟨c5g, hc5g, rfl, he, -⟩; cases he) | (refine w_D _ (d_toMatrix pr pc hx _ hl') Zz Zz Zz Zz Zz Zz Zz Zz ft Zz Zz (MadeMx.out) sb Zz Zz ?_; rintro v b ⟨c5h, hc5h, rfl, he, -⟩; cases he) | (refine zqf (h2 _ _ hc5g hc5h) ?_; rintro v Hout n1 ⟨rfl, rfl, rfl⟩; refine ⟨sb, ?_⟩)
          refine w_u [4] kr rfl ⟨?_, trivial⟩
          first | (refine zho ?_) | (refine w_D _ (d_toMatrix gr gc gx _ hl) Zz Zz Zz Zz Zz Zz Zz Zz ft Zz Zz (MadeMx.out) sb Zz Zz ?_; rintro v b ⟨c5g, hc5g, rfl, he, -⟩; cases he) | (refine w_D _ (d_toMatrix pr pc hx _ hl') Zz Zz Zz Zz Zz Zz Zz Zz ft Zz Zz (MadeMx.out) sb Zz Zz ?_; rintro v b ⟨c5h, hc5h, rfl, he, -⟩; cases he) | (refine zqf (h2 _ _ hc5g hc5h) ?_; rintro v Hout n1 ⟨rfl, rfl, rfl⟩; refine ⟨sb, ?_⟩)
          refine zt5 ?_
          refine zt6 ?_
          refine zt7 ?_
          refine zt8 ?_
          refine w_u [10] kr rfl ⟨?_, trivial⟩
          first | (refine zho ?_) | (refine w_D _ (d_toMatrix gr gc gx _ hl) Zz Zz Zz Zz Zz Zz Zz Zz ft Zz Zz (MadeMx.out) sb Zz Zz ?_; rintro v b ⟨c5g, hc5g, rfl, he, -⟩; cases he) | (refine w_D _ (d_toMatrix pr pc hx _ hl') Zz Zz Zz Zz Zz Zz Zz Zz ft Zz Zz (MadeMx.out) sb Zz Zz ?_; rintro v b ⟨c5h, hc5h, rfl, he, -⟩; cases he) | (refine zqf (h2 _ _ hc5g hc5h) ?_; rintro v Hout n1 ⟨rfl, rfl, rfl⟩; refine ⟨sb, ?_⟩)
          refine zt11 ?_
          refine zt12 ?_
          refine w_v kr ?_
          rotate_left
          first | (refine zho ?_) | (refine w_D _ (d_toMatrix gr gc gx _ hl) Zz Zz Zz Zz Zz Zz Zz Zz ft Zz Zz (MadeMx.out) sb Zz Zz ?_; rintro v b ⟨c5g, hc5g, rfl, he, -⟩; cases he) | (refine w_D _ (d_toMatrix pr pc hx _ hl') Zz Zz Zz Zz Zz Zz Zz Zz ft Zz Zz (MadeMx.out) sb Zz Zz ?_; rintro v b ⟨c5h, hc5h, rfl, he, -⟩; cases he) | (refine zqf (h2 _ _ hc5g hc5h) ?_; rintro v Hout n1 ⟨rfl, rfl, rfl⟩; refine ⟨sb, ?_⟩)
          refine w_u [3] kr rfl ⟨?_, trivial⟩
          first | (refine zho ?_) | (refine w_D _ (d_toMatrix gr gc gx _ hl) Zz Zz Zz Zz Zz Zz Zz Zz ft Zz Zz (MadeMx.out) sb Zz Zz ?_; rintro v b ⟨c5g, hc5g, rfl, he, -⟩; cases he) | (refine w_D _ (d_toMatrix pr pc hx _ hl') Zz Zz Zz Zz Zz Zz Zz Zz ft Zz Zz (MadeMx.out) sb Zz Zz ?_; rintro v b ⟨c5h, hc5h, rfl, he, -⟩; cases he) | (refine zqf (h2 _ _ hc5g hc5h) ?_; rintro v Hout n1 ⟨rfl, rfl, rfl⟩; refine ⟨sb, ?_⟩)
          refine w_u [4] kr rfl ⟨?_, trivial⟩
          first | (refine zho ?_) | (refine w_D _ (d_toMatrix gr gc gx _ hl) Zz Zz Zz Zz Zz Zz Zz Zz ft Zz Zz (MadeMx.out) sb Zz Zz ?_; rintro v b ⟨c5g, hc5g, rfl, he, -⟩; cases he) | (refine w_D _ (d_toMatrix pr pc hx _ hl') Zz Zz Zz Zz Zz Zz Zz Zz ft Zz Zz (MadeMx.out) sb Zz Zz ?_; rintro v b ⟨c5h, hc5h, rfl, he, -⟩; cases he) | (refine zqf (h2 _ _ hc5g hc5h) ?_; rintro v Hout n1 ⟨rfl, rfl, rfl⟩; refine ⟨sb, ?_⟩)
          refine zt5 ?_
          refine zt6 ?_
          refine zt7 ?_
          refine zt8 ?_
          refine w_u [10] kr rfl ⟨?_, trivial⟩
          first | (refine zho ?_) | (refine w_D _ (d_toMatrix gr gc gx _ hl) Zz Zz Zz Zz Zz Zz Zz Zz ft Zz Zz (MadeMx.out) sb Zz Zz ?_; rintro v b ⟨c5g, hc5g, rfl, he, -⟩; cases he) | (refine w_D _ (d_toMatrix pr pc hx _ hl') Zz Zz Zz Zz Zz Zz Zz Zz ft Zz Zz (MadeMx.out) sb Zz Zz ?_; rintro v b ⟨c5h, hc5h, rfl, he, -⟩; cases he) | (refine zqf (h2 _ _ hc5g hc5h) ?_; rintro v Hout n1 ⟨rfl, rfl, rfl⟩; refine ⟨sb, ?_⟩)
          refine zt11 ?_
          refine zt12 ?_
          refine w_v kr ?_
          rotate_left
          first | (refine zho ?_) | (refine w_D _ (d_toMatrix gr gc gx _ hl) Zz Zz Zz Zz Zz Zz Zz Zz ft Zz Zz (MadeMx.out) sb Zz Zz ?_; rintro v b ⟨c5g, hc5g, rfl, he, -⟩; cases he) | (refine w_D _ (d_toMatrix pr pc hx _ hl') Zz Zz Zz Zz Zz Zz Zz Zz ft Zz Zz (MadeMx.out) sb Zz Zz ?_; rintro v b ⟨c5h, hc5h, rfl, he, -⟩; cases he) | (refine zqf (h2 _ _ hc5g hc5h) ?_; rintro v Hout n1 ⟨rfl, rfl, rfl⟩; refine ⟨sb, ?_⟩)
          refine w_u [1] kr rfl ⟨?_, trivial⟩
          first | (refine zho ?_) | (refine w_D _ (d_toMatrix gr gc gx _ hl) Zz Zz Zz Zz Zz Zz Zz Zz ft Zz Zz (MadeMx.out) sb Zz Zz ?_; rintro v b ⟨c5g, hc5g, rfl, he, -⟩; cases he) | (refine w_D _ (d_toMatrix pr pc hx _ hl') Zz Zz Zz Zz Zz Zz Zz Zz ft Zz Zz (MadeMx.out) sb Zz Zz ?_; rintro v b ⟨c5h, hc5h, rfl, he, -⟩; cases he) | (refine zqf (h2 _ _ hc5g hc5h) ?_; rintro v Hout n1 ⟨rfl, rfl, rfl⟩; refine ⟨sb, ?_⟩)
          refine w_u [3] kr rfl ⟨?_, trivial⟩
          first | (refine zho ?_) | (refine w_D _ (d_toMatrix gr gc gx _ hl) Zz Zz Zz Zz Zz Zz Zz Zz ft Zz Zz (MadeMx.out) sb Zz Zz ?_; rintro v b ⟨c5g, hc5g, rfl, he, -⟩; cases he) | (refine w_D _ (d_toMatrix pr pc hx _ hl') Zz Zz Zz Zz Zz Zz Zz Zz ft Zz Zz (MadeMx.out) sb Zz Zz ?_; rintro v b ⟨c5h, hc5h, rfl, he, -⟩; cases he) | (refine zqf (h2 _ _ hc5g hc5h) ?_; rintro v Hout n1 ⟨rfl, rfl, rfl⟩; refine ⟨sb, ?_⟩)
          refine w_u [4] kr rfl ⟨?_, trivial⟩
          first | (refine zho ?_) | (refine w_D _ (d_toMatrix gr gc gx _ hl) Zz Zz Zz Zz Zz Zz Zz Zz ft Zz Zz (MadeMx.out) sb Zz Zz ?_; rintro v b ⟨c5g, hc5g, rfl, he, -⟩; cases he) | (refine w_D _ (d_toMatrix pr pc hx _ hl') Zz Zz Zz Zz Zz Zz Zz Zz ft Zz Zz (MadeMx.out) sb Zz Zz ?_; rintro v b ⟨c5h, hc5h, rfl, he, -⟩; cases he) | (refine zqf (h2 _ _ hc5g hc5h) ?_; rintro v Hout n1 ⟨rfl, rfl, rfl⟩; refine ⟨sb, ?_⟩)
          refine zt5 ?_
          refine zt6 ?_
          refine zt7 ?_
          refine zt8 ?_
          refine w_u [10] kr rfl ⟨?_, trivial⟩
          first | (refine zho ?_) | (refine w_D _ (d_toMatrix gr gc gx _ hl) Zz Zz Zz Zz Zz Zz Zz Zz ft Zz Zz (MadeMx.out) sb Zz Zz ?_; rintro v b ⟨c5g, hc5g, rfl, he, -⟩; cases he) | (refine w_D _ (d_toMatrix pr pc hx _ hl') Zz Zz Zz Zz Zz Zz Zz Zz ft Zz Zz (MadeMx.out) sb Zz Zz ?_; rintro v b ⟨c5h, hc5h, rfl, he, -⟩; cases he) | (refine zqf (h2 _ _ hc5g hc5h) ?_; rintro v Hout n1 ⟨rfl, rfl, rfl⟩; refine ⟨sb, ?_⟩)
          refine zt11 ?_
          refine zt12 ?_
          refine w_v kr ?_
          rotate_left
        all_goals ((repeat' (first | refine stp ?_ | (first | refine w_z (d_eqMatrix 0 0 0 0 [] [] 0 0 (by decide) (by decide)) Zz Zz Zz Zz Zz Zz Zz Zz ft Zz Zz ?_ | refine w_A (d_eqMatrix 0 0 0 0 [] [] 0 0 (by decide) (by decide)) Zz Zz Zz Zz Zz Zz Zz Zz ft Zz Zz ?_) | (first | refine w_z (d_heldMatrix 0 0 0 0 1 (by decide) (by omega) (by omega)) Zz Zz Zz Zz Zz Zz Zz Zz ft Zz Zz ?_ | refine w_A (d_heldMatrix 0 0 0 0 1 (by decide) (by omega) (by omega)) Zz Zz Zz Zz Zz Zz Zz Zz ft Zz Zz ?_) | (refine stq ?_ ?_ <;> (intro hc; ((try simp at hc) <;> try contradiction))) | fail)) <;> try (exfalso; omega))
        all_goals refine fin_ret rfl w_3 (rfl) rfl
      · ((repeat' (first | (refine awp_cutR 8 hE (fun _ : Unit => True) (fun _ => [(2, .one (.ptr 3 3 0 0)), (3, .one (.ptr 4 3 0 0)), (6, .one (.ptr 5 3 0 0)), (7, vB false), (8, vB true)]) (fun _ => [(1, .ro (.ints gx)), (2, .ro (.ints hx)), (3, .own 46 1 (.lit [.int gr, .int gc, .sl 1 1 0 gx.length ca])), (4, .own 46 1 (.lit [.int pr, .int pc, .sl 2 1 0 hx.length cb])), (5, .own 26 1 (.lit zeroM))]) 6 ?_ ?_) | refine stp ?_ | refine zqc (e1) ?_ | refine zqc (e2) ?_ | (refine stq ?_ ?_ <;> (intro hc; ((try simp at hc) <;> try contradiction))) | fail)) <;> try (exfalso; omega))
        · refine awp_held TM [(3, _), (4, _)] sb rfl (fun ρs => ?_)
          refine zt0 ?_
          refine zt2 ?_
          refine w_u [1, 9] kr rfl ⟨?_, ?_, trivial⟩
          first | (refine zho ?_) | (refine w_D _ (d_toMatrix gr gc gx _ hl) Zz Zz Zz Zz Zz Zz Zz Zz ft Zz Zz (MadeMx.out) sb Zz Zz ?_; rintro v b ⟨c1g, hc1g, rfl, he, -⟩; cases he) | (refine w_D _ (d_toMatrix pr pc hx _ hl') Zz Zz Zz Zz Zz Zz Zz Zz ft Zz Zz (MadeMx.out) sb Zz Zz ?_; rintro v b ⟨c1h, hc1h, rfl, he, -⟩; cases he) | (refine zqf (h1 _ _) ?_; rintro v Hout n1 ⟨rfl, rfl, rfl⟩; refine ⟨sb, ?_⟩)
          refine w_u [3, 9] kr rfl ⟨?_, ?_, trivial⟩
          first | (refine zho ?_) | (refine w_D _ (d_toMatrix gr gc gx _ hl) Zz Zz Zz Zz Zz Zz Zz Zz ft Zz Zz (MadeMx.out) sb Zz Zz ?_; rintro v b ⟨c1g, hc1g, rfl, he, -⟩; cases he) | (refine w_D _ (d_toMatrix pr pc hx _ hl') Zz Zz Zz Zz Zz Zz Zz Zz ft Zz Zz (MadeMx.out) sb Zz Zz ?_; rintro v b ⟨c1h, hc1h, rfl, he, -⟩; cases he) | (refine zqf (h1 _ _) ?_; rintro v Hout n1 ⟨rfl, rfl, rfl⟩; refine ⟨sb, ?_⟩)
          refine w_u [4, 9] kr rfl ⟨?_, ?_, trivial⟩
          first | (refine zho ?_) | (refine w_D _ (d_toMatrix gr gc gx _ hl) Zz Zz Zz Zz Zz Zz Zz Zz ft Zz Zz (MadeMx.out) sb Zz Zz ?_; rintro v b ⟨c1g, hc1g, rfl, he, -⟩; cases he) | (refine w_D _ (d_toMatrix pr pc hx _ hl') Zz Zz Zz Zz Zz Zz Zz Zz ft Zz Zz (MadeMx.out) sb Zz Zz ?_; rintro v b ⟨c1h, hc1h, rfl, he, -⟩; cases he) | (refine zqf (h1 _ _) ?_; rintro v Hout n1 ⟨rfl, rfl, rfl⟩; refine ⟨sb, ?_⟩)
          refine zt5 ?_
          refine zt6 ?_
          refine zt7 ?_
          refine zt8 ?_
          refine w_u [9] kr rfl ⟨?_, trivial⟩
          first | (refine zho ?_) | (refine w_D _ (d_toMatrix gr gc gx _ hl) Zz Zz Zz Zz Zz Zz Zz Zz ft Zz Zz (MadeMx.out) sb Zz Zz ?_; rintro v b ⟨c1g, hc1g, rfl, he, -⟩; cases he) | (refine w_D _ (d_toMatrix pr pc hx _ hl') Zz Zz Zz Zz Zz Zz Zz Zz ft Zz Zz (MadeMx.out) sb Zz Zz ?_; rintro v b ⟨c1h, hc1h, rfl, he, -⟩; cases he) | (refine zqf (h1 _ _) ?_; rintro v Hout n1 ⟨rfl, rfl, rfl⟩; refine ⟨sb, ?_⟩)
          refine w_u [10] kr rfl ⟨?_, trivial⟩
          first | (refine zho ?_) | (refine w_D _ (d_toMatrix gr gc gx _ hl) Zz Zz Zz Zz Zz Zz Zz Zz ft Zz Zz (MadeMx.out) sb Zz Zz ?_; rintro v b ⟨c1g, hc1g, rfl, he, -⟩; cases he) | (refine w_D _ (d_toMatrix pr pc hx _ hl') Zz Zz Zz Zz Zz Zz Zz Zz ft Zz Zz (MadeMx.out) sb Zz Zz ?_; rintro v b ⟨c1h, hc1h, rfl, he, -⟩; cases he) | (refine zqf (h1 _ _) ?_; rintro v Hout n1 ⟨rfl, rfl, rfl⟩; refine ⟨sb, ?_⟩)
          refine zt11 ?_
          refine zt12 ?_
          refine w_v kr ?_
          rotate_left
          first | (refine zho ?_) | (refine w_D _ (d_toMatrix gr gc gx _ hl) Zz Zz Zz Zz Zz Zz Zz Zz ft Zz Zz (MadeMx.out) sb Zz Zz ?_; rintro v b ⟨c1g, hc1g, rfl, he, -⟩; cases he) | (refine w_D _ (d_toMatrix pr pc hx _ hl') Zz Zz Zz Zz Zz Zz Zz Zz ft Zz Zz (MadeMx.out) sb Zz Zz ?_; rintro v b ⟨c1h, hc1h, rfl, he, -⟩; cases he) | (refine zqf (h1 _ _) ?_; rintro v Hout n1 ⟨rfl, rfl, rfl⟩; refine ⟨sb, ?_⟩)
          refine w_u [4] kr rfl ⟨?_, trivial⟩
          first | (refine zho ?_) | (refine w_D _ (d_toMatrix gr gc gx _ hl) Zz Zz Zz Zz Zz Zz Zz Zz ft Zz Zz (MadeMx.out) sb Zz Zz ?_; rintro v b ⟨c1g, hc1g, rfl, he, -⟩; cases he) | (refine w_D _ (d_toMatrix pr pc hx _ hl') Zz Zz Zz Zz Zz Zz Zz Zz ft Zz Zz (MadeMx.out) sb Zz Zz ?_; rintro v b ⟨c1h, hc1h, rfl, he, -⟩; cases he) | (refine zqf (h1 _ _) ?_; rintro v Hout n1 ⟨rfl, rfl, rfl⟩; refine ⟨sb, ?_⟩)
          refine zt5 ?_
          refine zt6 ?_
          refine zt7 ?_
          refine zt8 ?_
          refine w_u [10] kr rfl ⟨?_, trivial⟩
          first | (refine zho ?_) | (refine w_D _ (d_toMatrix gr gc gx _ hl) Zz Zz Zz Zz Zz Zz Zz Zz ft Zz Zz (MadeMx.out) sb Zz Zz ?_; rintro v b ⟨c1g, hc1g, rfl, he, -⟩; cases he) | (refine w_D _ (d_toMatrix pr pc hx _ hl') Zz Zz Zz Zz Zz Zz Zz Zz ft Zz Zz (MadeMx.out) sb Zz Zz ?_; rintro v b ⟨c1h, hc1h, rfl, he, -⟩; cases he) | (refine zqf (h1 _ _) ?_; rintro v Hout n1 ⟨rfl, rfl, rfl⟩; refine ⟨sb, ?_⟩)
          refine zt11 ?_
          refine zt12 ?_
          refine w_v kr ?_
          rotate_left
          first | (refine zho ?_) | (refine w_D _ (d_toMatrix gr gc gx _ hl) Zz Zz Zz Zz Zz Zz Zz Zz ft Zz Zz (MadeMx.out) sb Zz Zz ?_; rintro v b ⟨c1g, hc1g, rfl, he, -⟩; cases he) | (refine w_D _ (d_toMatrix pr pc hx _ hl') Zz Zz Zz Zz Zz Zz Zz Zz ft Zz Zz (MadeMx.out) sb Zz Zz ?_; rintro v b ⟨c1h, hc1h, rfl, he, -⟩; cases he) | (refine zqf (h1 _ _) ?_; rintro v Hout n1 ⟨rfl, rfl, rfl⟩; refine ⟨sb, ?_⟩)
          refine w_u [3] kr rfl ⟨?_, trivial⟩
          first | (refine zho ?_) | (refine w_D _ (d_toMatrix gr gc gx _ hl) Zz Zz Zz Zz Zz Zz Zz Zz ft Zz Zz (MadeMx.out) sb Zz Zz ?_; rintro v b ⟨c1g, hc1g, rfl, he, -⟩; cases he) | (refine w_D _ (d_toMatrix pr pc hx _ hl') Zz Zz Zz Zz Zz Zz Zz Zz ft Zz Zz (MadeMx.out) sb Zz Zz ?_; rintro v b ⟨c1h, hc1h, rfl, he, -⟩; cases he) | (refine zqf (h1 _ _) ?_; rintro v Hout n1 ⟨rfl, rfl, rfl⟩; refine ⟨sb, ?_⟩)
          refine w_u [4] kr rfl ⟨?_, trivial⟩
          first | (refine zho ?_) | (refine w_D _ (d_toMatrix gr gc gx _ hl) Zz Zz Zz Zz Zz Zz Zz Zz ft Zz Zz (MadeMx.out) sb Zz Zz ?_; rintro v b ⟨c1g, hc1g, rfl, he, -⟩; cases he) | (refine w_D _ (d_toMatrix pr pc hx _ hl') Zz Zz Zz Zz Zz Zz Zz Zz ft Zz Zz (MadeMx.out) sb Zz Zz ?_; rintro v b ⟨c1h, hc1h, rfl, he, -⟩; cases he) | (refine zqf (h1 _ _) ?_; rintro v Hout n1 ⟨rfl, rfl, rfl⟩; refine ⟨sb, ?_⟩)
          refine zt5 ?_
          refine zt6 ?_
          refine zt7 ?_
          refine zt8 ?_
          refine w_u [10] kr rfl ⟨?_, trivial⟩
          first | (refine zho ?_) | (refine w_D _ (d_toMatrix gr gc gx _ hl) Zz Zz Zz Zz Zz Zz Zz Zz ft Zz Zz (MadeMx.out) sb Zz Zz ?_; rintro v b ⟨c1g, hc1g, rfl, he, -⟩; cases he) | (refine w_D _ (d_toMatrix pr pc hx _ hl') Zz Zz Zz Zz Zz Zz Zz Zz ft Zz Zz (MadeMx.out) sb Zz Zz ?_; rintro v b ⟨c1h, hc1h, rfl, he, -⟩; cases he) | (refine zqf (h1 _ _) ?_; rintro v Hout n1 ⟨rfl, rfl, rfl⟩; refine ⟨sb, ?_⟩)
          refine zt11 ?_
          refine zt12 ?_
          refine w_v kr ?_
          rotate_left
          first | (refine zho ?_) | (refine w_D _ (d_toMatrix gr gc gx _ hl) Zz Zz Zz Zz Zz Zz Zz Zz ft Zz Zz (MadeMx.out) sb Zz Zz ?_; rintro v b ⟨c1g, hc1g, rfl, he, -⟩; cases he) | (refine w_D _ (d_toMatrix pr pc hx _ hl') Zz Zz Zz Zz Zz Zz Zz Zz ft Zz Zz (MadeMx.out) sb Zz Zz ?_; rintro v b ⟨c1h, hc1h, rfl, he, -⟩; cases he) | (refine zqf (h1 _ _) ?_; rintro v Hout n1 ⟨rfl, rfl, rfl⟩; refine ⟨sb, ?_⟩)
          refine w_u [1] kr rfl ⟨?_, trivial⟩
          first | (refine zho ?_) | (refine w_D _ (d_toMatrix gr gc gx _ hl) Zz Zz Zz Zz Zz Zz Zz Zz ft Zz Zz (MadeMx.out) sb Zz Zz ?_; rintro v b ⟨c1g, hc1g, rfl, he, -⟩; cases he) | (refine w_D _ (d_toMatrix pr pc hx _ hl') Zz Zz Zz Zz Zz Zz Zz Zz ft Zz Zz (MadeMx.out) sb Zz Zz ?_; rintro v b ⟨c1h, hc1h, rfl, he, -⟩; cases he) | (refine zqf (h1 _ _) ?_; rintro v Hout n1 ⟨rfl, rfl, rfl⟩; refine ⟨sb, ?_⟩)
          refine w_u [3] kr rfl ⟨?_, trivial⟩
          first | (refine zho ?_) | (refine w_D _ (d_toMatrix gr gc gx _ hl) Zz Zz Zz Zz Zz Zz Zz Zz ft Zz Zz (MadeMx.out) sb Zz Zz ?_; rintro v b ⟨c1g, hc1g, rfl, he, -⟩; cases he) | (refine w_D _ (d_toMatrix pr pc hx _ hl') Zz Zz Zz Zz Zz Zz Zz Zz ft Zz Zz (MadeMx.out) sb Zz Zz ?_; rintro v b ⟨c1h, hc1h, rfl, he, -⟩; cases he) | (refine zqf (h1 _ _) ?_; rintro v Hout n1 ⟨rfl, rfl, rfl⟩; refine ⟨sb, ?_⟩)
          refine w_u [4] kr rfl ⟨?_, trivial⟩
          first | (refine zho ?_) | (refine w_D _ (d_toMatrix gr gc gx _ hl) Zz Zz Zz Zz Zz Zz Zz Zz ft Zz Zz (MadeMx.out) sb Zz Zz ?_; rintro v b ⟨c1g, hc1g, rfl, he, -⟩; cases he) | (refine w_D _ (d_toMatrix pr pc hx _ hl') Zz Zz Zz Zz Zz Zz Zz Zz ft Zz Zz (MadeMx.out) sb Zz Zz ?_; rintro v b ⟨c1h, hc1h, rfl, he, -⟩; cases he) | (refine zqf (h1 _ _) ?_; rintro v Hout n1 ⟨rfl, rfl, rfl⟩; refine ⟨sb, ?_⟩)
          refine zt5 ?_
          refine zt6 ?_
          refine zt7 ?_
          refine zt8 ?_
          refine w_u [10] kr rfl ⟨?_, trivial⟩
          first | (refine zho ?_) | (refine w_D _ (d_toMatrix gr gc gx _ hl) Zz Zz Zz Zz Zz Zz Zz Zz ft Zz Zz (MadeMx.out) sb Zz Zz ?_; rintro v b ⟨c1g, hc1g, rfl, he, -⟩; cases he) | (refine w_D _ (d_toMatrix pr pc hx _ hl') Zz Zz Zz Zz Zz Zz Zz Zz ft Zz Zz (MadeMx.out) sb Zz Zz ?_; rintro v b ⟨c1h, hc1h, rfl, he, -⟩; cases he) | (refine zqf (h1 _ _) ?_; rintro v Hout n1 ⟨rfl, rfl, rfl⟩; refine ⟨sb, ?_⟩)
          refine zt11 ?_
          refine zt12 ?_
          refine w_v kr ?_
          rotate_left
          · exact ⟨[(5, 7)], (), trivial, ⟨w_1, w_2, rfl⟩⟩
          · exact ⟨[(5, 7)], (), trivial, ⟨w_1, w_2, rfl⟩⟩
          · exact ⟨[(5, 6)], (), trivial, ⟨w_1, w_2, rfl⟩⟩
          · exact ⟨[(5, 5)], (), trivial, ⟨w_1, w_2, rfl⟩⟩
        rintro ⟨⟩ -
        try dsimp only
        ((repeat' (first | refine stp ?_ | (refine w_C (d_toMatrix gr gc gx _ hl) Zz Zz Zz Zz Zz Zz Zz ft Zz Zz (MadeMx.out) ?_; rintro v b ⟨c2g, hc2g, rfl, he, -⟩; cases he) | (refine w_C (d_toMatrix pr pc hx _ hl') Zz Zz Zz Zz Zz Zz Zz ft Zz Zz (MadeMx.out) ?_; rintro v b ⟨c2h, hc2h, rfl, he, -⟩; cases he) | ((refine zqe (h2 _ _ hc2g hc2h) ?_); rintro v Hout n1 ⟨rfl, rfl, rfl⟩) | (first | refine w_z (d_eqMatrix 0 0 0 0 [] [] 0 0 (by decide) (by decide)) Zz Zz Zz Zz Zz Zz Zz Zz ft Zz Zz ?_ | refine w_A (d_eqMatrix 0 0 0 0 [] [] 0 0 (by decide) (by decide)) Zz Zz Zz Zz Zz Zz Zz Zz ft Zz Zz ?_) | (refine stq ?_ ?_ <;> (intro hc; ((try simp at hc) <;> try contradiction))) | fail)) <;> try (exfalso; omega))
        refine awp_held TM [(7, _), (3, _)] sb rfl (fun ρs => ?_)
        refine zt0 ?_
        refine zt1 ?_
        refine w_u [2] kr rfl ⟨?_, trivial⟩
        first | (refine zho ?_) | (refine w_D _ (d_toMatrix gr gc gx _ hl) Zz Zz Zz Zz Zz Zz Zz Zz ft Zz Zz (MadeMx.out) sb Zz Zz ?_; rintro v b ⟨c3g, hc3g, rfl, he, -⟩; cases he) | refine zqb (d_eqMatrix gr gc gr gc gx gx _ _ hl hl) ?_
        refine w_u [3] kr rfl ⟨?_, trivial⟩
        first | (refine zho ?_) | (refine w_D _ (d_toMatrix gr gc gx _ hl) Zz Zz Zz Zz Zz Zz Zz Zz ft Zz Zz (MadeMx.out) sb Zz Zz ?_; rintro v b ⟨c3g, hc3g, rfl, he, -⟩; cases he) | refine zqb (d_eqMatrix gr gc gr gc gx gx _ _ hl hl) ?_
        refine zt4 ?_
        refine w_v kr ?_
        rotate_left
        all_goals ((repeat' (first | refine stp ?_ | (refine stq ?_ ?_ <;> (intro hc; ((try simp at hc) <;> try contradiction))) | fail)) <;> try (exfalso; omega))
        all_goals
          refine awp_held TM [(9, _), (4, _)] sb rfl (fun ρs => ?_)
          refine zt0 ?_
          refine zt1 ?_
          refine w_u [2] kr rfl ⟨?_, trivial⟩
          first | (refine zho ?_) | (refine w_D _ (d_toMatrix pr pc hx _ hl') Zz Zz Zz Zz Zz Zz Zz Zz ft Zz Zz (MadeMx.out) sb Zz Zz ?_; rintro v b ⟨c4h, hc4h, rfl, he, -⟩; cases he) | refine zqb (d_eqMatrix pr pc pr pc hx hx _ _ hl' hl') ?_
          refine w_u [3] kr rfl ⟨?_, trivial⟩
          first | (refine zho ?_) | (refine w_D _ (d_toMatrix pr pc hx _ hl') Zz Zz Zz Zz Zz Zz Zz Zz ft Zz Zz (MadeMx.out) sb Zz Zz ?_; rintro v b ⟨c4h, hc4h, rfl, he, -⟩; cases he) | refine zqb (d_eqMatrix pr pc pr pc hx hx _ _ hl' hl') ?_
          refine zt4 ?_
          refine w_v kr ?_
          rotate_left
        all_goals ((repeat' (first | refine stp ?_ | ((refine w_E (d_markMatrix gr gc gx _ _ 1 hl (by omega) (by omega)) Zz Zz Zz Zz Zz Zz Zz ft rfl ?_); rintro v Hout n1 ⟨rfl, rfl, rfl⟩) | ((refine w_E (d_markMatrix pr pc hx _ _ (1 + gx.length) hl' (by omega) (by omega)) Zz Zz Zz Zz Zz Zz Zz ft rfl ?_); rintro v Hout n1 ⟨rfl, rfl, rfl⟩) | (first | refine w_z (d_eqMatrix 0 0 0 0 [] [] 0 0 (by decide) (by decide)) Zz Zz Zz Zz Zz Zz Zz Zz ft Zz Zz ?_ | refine w_A (d_eqMatrix 0 0 0 0 [] [] 0 0 (by decide) (by decide)) Zz Zz Zz Zz Zz Zz Zz Zz ft Zz Zz ?_) | ((refine w_E (d_markMatrix 0 0 [] 0 0 1 (by decide) (by omega) (by omega)) Zz Zz Zz Zz Zz Zz Zz ft rfl ?_); rintro v Hout n1 ⟨rfl, rfl, rfl⟩) | (first | refine w_z (d_heldMatrix 0 0 0 0 1 (by decide) (by omega) (by omega)) Zz Zz Zz Zz Zz Zz Zz Zz ft Zz Zz ?_ | refine w_A (d_heldMatrix 0 0 0 0 1 (by decide) (by omega) (by omega)) Zz Zz Zz Zz Zz Zz Zz Zz ft Zz Zz ?_) | (refine stq ?_ ?_ <;> (intro hc; ((try simp at hc) <;> try contradiction))) | fail)) <;> try (exfalso; omega))
        all_goals
          refine awp_held TM [(3, _), (4, _)] sb rfl (fun ρs => ?_)
          refine zt0 ?_
          refine zt2 ?_
          refine w_u [1, 9] kr rfl ⟨?_, ?_, trivial⟩
          first | (refine zho ?_) | (refine w_D _ (d_toMatrix gr gc gx _ hl) Zz Zz Zz Zz Zz Zz Zz Zz ft Zz Zz (MadeMx.out) sb Zz Zz ?_; rintro v b ⟨c5g, hc5g, rfl, he, -⟩; cases he) | (refine w_D _ (d_toMatrix pr pc hx _ hl') Zz Zz Zz Zz Zz Zz Zz Zz ft Zz Zz (MadeMx.out) sb Zz Zz ?_; rintro v b ⟨c5h, hc5h, rfl, he, -⟩; cases he) | (refine zqf (h2 _ _ hc5g hc5h) ?_; rintro v Hout n1 ⟨rfl, rfl, rfl⟩; refine ⟨sb, ?_⟩)
          refine w_u [3, 9] kr rfl ⟨?_, ?_, trivial⟩
          first | (refine zho ?_) | (refine w_D _ (d_toMatrix gr gc gx _ hl) Zz Zz Zz Zz Zz Zz Zz Zz ft Zz Zz (MadeMx.out) sb Zz Zz ?_; rintro v b ⟨c5g, hc5g, rfl, he, -⟩; cases he) | (refine w_D _ (d_toMatrix pr pc hx _ hl') Zz Zz Zz Zz Zz Zz Zz Zz ft Zz Zz (MadeMx.out) sb Zz Zz ?_; rintro v b ⟨c5h, hc5h, rfl, he, -⟩; cases he) | (refine zqf (h2 _ _ hc5g hc5h) ?_; rintro v Hout n1 ⟨rfl, rfl, rfl⟩; refine ⟨sb, ?_⟩)
          refine w_u [4, 9] kr rfl ⟨?_, ?_, trivial⟩
          first | (refine zho ?_) | (refine w_D _ (d_toMatrix gr gc gx _ hl) Zz Zz Zz Zz Zz Zz Zz Zz ft Zz Zz (MadeMx.out) sb Zz Zz ?_; rintro v b ⟨c5g, hc5g, rfl, he, -⟩; cases he) | (refine w_D _ (d_toMatrix pr pc hx _ hl') Zz Zz Zz Zz Zz Zz Zz Zz ft Zz Zz (MadeMx.out) sb Zz Zz ?_; rintro v b ⟨c5h, hc5h, rfl, he, -⟩; cases he) | (refine zqf (h2 _ _ hc5g hc5h) ?_; rintro v Hout n1 ⟨rfl, rfl, rfl⟩; refine ⟨sb, ?_⟩)
          refine zt5 ?_
          refine zt6 ?_
          refine zt7 ?_
          refine zt8 ?_
          refine w_u [9] kr rfl ⟨?_, trivial⟩
          first | (refine zho ?_) | (refine w_D _ (d_toMatrix gr gc gx _ hl) Zz Zz Zz Zz Zz Zz Zz Zz ft Zz Zz (MadeMx.out) sb Zz Zz ?_; rintro v b ⟨c5g, hc5g, rfl, he, -⟩; cases he) | (refine w_D _ (d_toMatrix pr pc hx _ hl') Zz Zz Zz Zz Zz Zz Zz Zz ft Zz Zz (MadeMx.out) sb Zz Zz ?_; rintro v b ⟨c5h, hc5h, rfl, he, -⟩; cases he) | (refine zqf (h2 _ _ hc5g hc5h) ?_; rintro v Hout n1 ⟨rfl, rfl, rfl⟩; refine ⟨sb, ?_⟩)
          refine w_u [10] kr rfl ⟨?_, trivial⟩
          first | (refine zho ?_) | (refine w_D _ (d_toMatrix gr gc gx _ hl) Zz Zz Zz Zz Zz Zz Zz Zz ft Zz Zz (MadeMx.out) sb Zz Zz ?_; rintro v b ⟨c5g, hc5g, rfl, he, -⟩; cases he) | (refine w_D _ (d_toMatrix pr pc hx _ hl') Zz Zz Zz Zz Zz Zz Zz Zz ft Zz Zz (MadeMx.out) sb Zz Zz ?_; rintro v b ⟨c5h, hc5h, rfl, he, -⟩; cases he) | (refine zqf (h2 _ _ hc5g hc5h) ?_; rintro v Hout n1 ⟨rfl, rfl, rfl⟩; refine ⟨sb, ?_⟩)
          refine zt11 ?_
          refine zt12 ?_
          refine w_v kr ?_
          rotate_left
          first | (refine zho ?_) | (refine w_D _ (d_toMatrix gr gc gx _ hl) Zz Zz Zz Zz Zz Zz Zz Zz ft Zz Zz (MadeMx.out) sb Zz Zz ?_; rintro v b ⟨c5g, hc5g, rfl, he, -⟩; cases he) | (refine w_D _ (d_toMatrix pr pc hx _ hl') Zz Zz Zz Zz Zz Zz Zz Zz ft Zz Zz (MadeMx.out) sb Zz Zz ?_; rintro v b ⟨c5h, hc5h, rfl, he, -⟩; cases he) | (refine zqf (h2 _ _ hc5g hc5h) ?_; rintro v Hout n1 ⟨rfl, rfl, rfl⟩; refine ⟨sb, ?_⟩)
          refine w_u [4] kr rfl ⟨?_, trivial⟩
          first | (refine zho ?_) | (refine w_D _ (d_toMatrix gr gc gx _ hl) Zz Zz Zz Zz Zz Zz Zz Zz ft Zz Zz (MadeMx.out) sb Zz Zz ?_; rintro v b ⟨c5g, hc5g, rfl, he, -⟩; cases he) | (refine w_D _ (d_toMatrix pr pc hx _ hl') Zz Zz Zz Zz Zz Zz Zz Zz ft Zz Zz (MadeMx.out) sb Zz Zz ?_; rintro v b ⟨c5h, hc5h, rfl, he, -⟩; cases he) | (refine zqf (h2 _ _ hc5g hc5h) ?_; rintro v Hout n1 ⟨rfl, rfl, rfl⟩; refine ⟨sb, ?_⟩)
          refine zt5 ?_
          refine zt6 ?_
          refine zt7 ?_
          refine zt8 ?_
          refine w_u [10] kr rfl ⟨?_, trivial⟩
          first | (refine zho ?_) | (refine w_D _ (d_toMatrix gr gc gx _ hl) Zz Zz Zz Zz Zz Zz Zz Zz ft Zz Zz (MadeMx.out) sb Zz Zz ?_; rintro v b ⟨c5g, hc5g, rfl, he, -⟩; cases he) | (refine w_D _ (d_toMatrix pr pc hx _ hl') Zz Zz Zz Zz Zz Zz Zz Zz ft Zz Zz (MadeMx.out) sb Zz Zz ?_; rintro v b ⟨c5h, hc5h, rfl, he, -⟩; cases he) | (refine zqf (h2 _ _ hc5g hc5h) ?_; rintro v Hout n1 ⟨rfl, rfl, rfl⟩; refine ⟨sb, ?_⟩)
          refine zt11 ?_
          refine zt12 ?_
          refine w_v kr ?_
          rotate_left
          first | (refine zho ?_) | (refine w_D _ (d_toMatrix gr gc gx _ hl) Zz Zz Zz Zz Zz Zz Zz Zz ft Zz Zz (MadeMx.out) sb Zz Zz ?_; rintro v b ⟨c5g, hc5g, rfl, he, -⟩; cases he) | (refine w_D _ (d_toMatrix pr pc hx _ hl') Zz Zz Zz Zz Zz Zz Zz Zz ft Zz Zz (MadeMx.out) sb Zz Zz ?_; rintro v b ⟨c5h, hc5h, rfl, he, -⟩; cases he) | (refine zqf (h2 _ _ hc5g hc5h) ?_; rintro v Hout n1 ⟨rfl, rfl, rfl⟩; refine ⟨sb, ?_⟩)
          refine w_u [3] kr rfl ⟨?_, trivial⟩
          first | (refine zho ?_) | (refine w_D _ (d_toMatrix gr gc gx _ hl) Zz Zz Zz Zz Zz Zz Zz Zz ft Zz Zz (MadeMx.out) sb Zz Zz ?_; rintro v b ⟨c5g, hc5g, rfl, he, -⟩; cases he) | (refine w_D _ (d_toMatrix pr pc hx _ hl') Zz Zz Zz Zz Zz Zz Zz Zz ft Zz Zz (MadeMx.out) sb Zz Zz ?_; rintro v b ⟨c5h, hc5h, rfl, he, -⟩; cases he) | (refine zqf (h2 _ _ hc5g hc5h) ?_; rintro v Hout n1 ⟨rfl, rfl, rfl⟩; refine ⟨sb, ?_⟩)
          refine w_u [4] kr rfl ⟨?_, trivial⟩
          first | (refine zho ?_) | (refine w_D _ (d_toMatrix gr gc gx _ hl) Zz Zz Zz Zz Zz Zz Zz Zz ft Zz Zz (MadeMx.out) sb Zz Zz ?_; rintro v b ⟨c5g, hc5g, rfl, he, -⟩; cases he) | (refine w_D _ (d_toMatrix pr pc hx _ hl') Zz Zz Zz Zz Zz Zz Zz Zz ft Zz Zz (MadeMx.out) sb Zz Zz ?_; rintro v b ⟨c5h, hc5h, rfl, he, -⟩; cases he) | (refine zqf (h2 _ _ hc5g hc5h) ?_; rintro v Hout n1 ⟨rfl, rfl, rfl⟩; refine ⟨sb, ?_⟩)
          refine zt5 ?_
          refine zt6 ?_
          refine zt7 ?_
          refine zt8 ?_
          refine w_u [10] kr rfl ⟨?_, trivial⟩
          first | (refine zho ?_) | (refine w_D _ (d_toMatrix gr gc gx _ hl) Zz Zz Zz Zz Zz Zz Zz Zz ft Zz Zz (MadeMx.out) sb Zz Zz ?_; rintro v b ⟨c5g, hc5g, rfl, he, -⟩; cases he) | (refine w_D _ (d_toMatrix pr pc hx _ hl') Zz Zz Zz Zz Zz Zz Zz Zz ft Zz Zz (MadeMx.out) sb Zz Zz ?_; rintro v b ⟨c5h, hc5h, rfl, he, -⟩; cases he) | (refine zqf (h2 _ _ hc5g hc5h) ?_; rintro v Hout n1 ⟨rfl, rfl, rfl⟩; refine ⟨sb, ?_⟩)
          refine zt11 ?_
          refine zt12 ?_
          refine w_v kr ?_
          rotate_left
          first | (refine zho ?_) | (refine w_D _ (d_toMatrix gr gc gx _ hl) Zz Zz Zz Zz Zz Zz Zz Zz ft Zz Zz (MadeMx.out) sb Zz Zz ?_; rintro v b ⟨c5g, hc5g, rfl, he, -⟩; cases he) | (refine w_D _ (d_toMatrix pr pc hx _ hl') Zz Zz Zz Zz Zz Zz Zz Zz ft Zz Zz (MadeMx.out) sb Zz Zz ?_; rintro v b ⟨c5h, hc5h, rfl, he, -⟩; cases he) | (refine zqf (h2 _ _ hc5g hc5h) ?_; rintro v Hout n1 ⟨rfl, rfl, rfl⟩; refine ⟨sb, ?_⟩)
          refine w_u [1] kr rfl ⟨?_, trivial⟩
          first | (refine zho ?_) | (refine w_D _ (d_toMatrix gr gc gx _ hl) Zz Zz Zz Zz Zz Zz Zz Zz ft Zz Zz (MadeMx.out) sb Zz Zz ?_; rintro v b ⟨c5g, hc5g, rfl, he, -⟩; cases he) | (refine w_D _ (d_toMatrix pr pc hx _ hl') Zz Zz Zz Zz Zz Zz Zz Zz ft Zz Zz (MadeMx.out) sb Zz Zz ?_; rintro v b ⟨c5h, hc5h, rfl, he, -⟩; cases he) | (refine zqf (h2 _ _ hc5g hc5h) ?_; rintro v Hout n1 ⟨rfl, rfl, rfl⟩; refine ⟨sb, ?_⟩)
          refine w_u [3] kr rfl ⟨?_, trivial⟩
          first | (refine zho ?_) | (refine w_D _ (d_toMatrix gr gc gx _ hl) Zz Zz Zz Zz Zz Zz Zz Zz ft Zz Zz (MadeMx.out) sb Zz Zz ?_; rintro v b ⟨c5g, hc5g, rfl, he, -⟩; cases he) | (refine w_D _ (d_toMatrix pr pc hx _ hl') Zz Zz Zz Zz Zz Zz Zz Zz ft Zz Zz (MadeMx.out) sb Zz Zz ?_; rintro v b ⟨c5h, hc5h, rfl, he, -⟩; cases he) | (refine zqf (h2 _ _ hc5g hc5h) ?_; rintro v Hout n1 ⟨rfl, rfl, rfl⟩; refine ⟨sb, ?_⟩)
          refine w_u [4] kr rfl ⟨?_, trivial⟩
          first | (refine zho ?_) | (refine w_D _ (d_toMatrix gr gc gx _ hl) Zz Zz Zz Zz Zz Zz Zz Zz ft Zz Zz (MadeMx.out) sb Zz Zz ?_; rintro v b ⟨c5g, hc5g, rfl, he, -⟩; cases he) | (refine w_D _ (d_toMatrix pr pc hx _ hl') Zz Zz Zz Zz Zz Zz Zz Zz ft Zz Zz (MadeMx.out) sb Zz Zz ?_; rintro v b ⟨c5h, hc5h, rfl, he, -⟩; cases he) | (refine zqf (h2 _ _ hc5g hc5h) ?_; rintro v Hout n1 ⟨rfl, rfl, rfl⟩; refine ⟨sb, ?_⟩)
          refine zt5 ?_
          refine zt6 ?_
          refine zt7 ?_
          refine zt8 ?_
          refine w_u [10] kr rfl ⟨?_, trivial⟩
          first | (refine zho ?_) | (refine w_D _ (d_toMatrix gr gc gx _ hl) Zz Zz Zz Zz Zz Zz Zz Zz ft Zz Zz (MadeMx.out) sb Zz Zz ?_; rintro v b ⟨c5g, hc5g, rfl, he, -⟩; cases he) | (refine w_D _ (d_toMatrix pr pc hx _ hl') Zz Zz Zz Zz Zz Zz Zz Zz ft Zz Zz (MadeMx.out) sb Zz Zz ?_; rintro v b ⟨c5h, hc5h, rfl, he, -⟩; cases he) | (refine zqf (h2 _ _ hc5g hc5h) ?_; rintro v Hout n1 ⟨rfl, rfl, rfl⟩; refine ⟨sb, ?_⟩)
          refine zt11 ?_
          refine zt12 ?_
          refine w_v kr ?_
          rotate_left
        all_goals ((repeat' (first | refine stp ?_ | (first | refine w_z (d_eqMatrix 0 0 0 0 [] [] 0 0 (by decide) (by decide)) Zz Zz Zz Zz Zz Zz Zz Zz ft Zz Zz ?_ | refine w_A (d_eqMatrix 0 0 0 0 [] [] 0 0 (by decide) (by decide)) Zz Zz Zz Zz Zz Zz Zz Zz ft Zz Zz ?_) | (first | refine w_z (d_heldMatrix 0 0 0 0 1 (by decide) (by omega) (by omega)) Zz Zz Zz Zz Zz Zz Zz Zz ft Zz Zz ?_ | refine w_A (d_heldMatrix 0 0 0 0 1 (by decide) (by omega) (by omega)) Zz Zz Zz Zz Zz Zz Zz Zz ft Zz Zz ?_) | (refine stq ?_ ?_ <;> (intro hc; ((try simp at hc) <;> try contradiction))) | fail)) <;> try (exfalso; omega))
        all_goals refine fin_ret rfl w_3 (rfl) rfl
    · ((repeat' (first | refine stp ?_ | refine zqc (e1) ?_ | refine zqc (e2) ?_ | (refine stq ?_ ?_ <;> (intro hc; ((try simp at hc) <;> try contradiction))) | fail)) <;> try (exfalso; omega))
      all_goals refine fin_ret rfl w_3 (rfl) rfl
  · ((repeat' (first | refine stp ?_ | refine zqc (e1) ?_ | (refine stq ?_ ?_ <;> (intro hc; ((try simp at hc) <;> try contradiction))) | fail)) <;> try (exfalso; omega))
    all_goals refine fin_ret rfl w_3 (rfl) rfl
end Go.Proofs.YtekpamojojfplaaGreat
