/-
  TEXTS OF THE PROOF, put together: bAutLaw.
-/
import Derived.Test.YtekpamojojfplaaGreatD31
import Derived.Test.YtekpamojojfplaaGreatD33
import Derived.Test.YtekpamojojfplaaGreatD20
set_option linter.unusedVariables false
set_option linter.unusedSimpArgs false
namespace Go.Proofs.YtekpamojojfplaaGreat
open Go.RowKit
theorem matsN_nil : matsN [] := ⟨by simp, by simp⟩
theorem mats_mem {l : List (Int × Int × Row)} : ∀ x ∈ (Elts.mats true l).rds, x.1 = false ∧ x.2 ∈ l.map fun m => m.2.2 := fun x hx => by obtain ⟨m, hm, rfl⟩ := List.mem_map.1 hx; exact ⟨rfl, List.mem_map.2 ⟨m, hm, rfl⟩⟩
theorem autO_N {r c : Int} {g : List Int} {n : Nat} {L : List (List Int)} {new : List (Int × Int × Row)} (h : autO r c g = some (n, L)) (hF : Fnd n new L) : matsN new := by
  obtain ⟨h1, h2, h3⟩ := aut_len h
  have hnn := Nat.mul_le_mul h1 h1
  have hlen := hF.len
  refine ⟨by omega, fun m hm => ?_⟩
  have hx : (m.1, m.2.1, m.2.2.xs) ∈ L.map fun c => ((n : Int), (n : Int), c) := by rw [← hF]; exact List.mem_map.2 ⟨m, hm, rfl⟩
  obtain ⟨x, hx1, hx2⟩ := List.mem_map.1 hx
  injection hx2 with q1 q2
  injection q2 with q2 q3
  have := h3 x hx1
  rw [← q3]; omega
set_option maxRecDepth 100000 in
set_option maxHeartbeats 16000000 in
theorem d_lawAut (r c : Int) (xs : List Int) (ca : Nat) (hn : xs.length ≤ 9223372036854775807) :
    Does Tryz.prog 6 [vM r c 1 xs.length ca] [(1, .ro (.ints xs))] 2 (Ret (vB true) 2) := by
  refine Does.intro TT Tryz.func6 rfl (by kernel_rfl) Zz Zz fun E hE => ?_
  have e1 := d_szMatrix r c xs ca 1048576 (by omega) hn
  by_cases q1 : 0 ≤ szL 1048576 xs.length
  · have hl : xs.length ≤ 1099511627776 := by unfold szL at q1; split at q1 <;> omega
    have h1 := fun ca => d_autS r c xs ca hl
    have h2 := fun ca h => d_autI r c xs ca hl h
    cases ho : autO r c xs with
    | none =>
      rw [ho] at h1 h2
      ((repeat' (first | refine stp ?_ | refine zqc (e1) ?_ | (refine w_C (d_toMatrix r c xs _ hl) Zz Zz Zz Zz Zz Zz Zz ft Zz Zz (MadeMx.out) ?_; rintro v b ⟨c1a, hc1a, rfl, he, -⟩; cases he) | ((refine zqe (h1 _) ?_); rintro v Hout n1 ⟨rfl, rfl, rfl⟩) | ((refine zqe (h2 _ hc1a) ?_); rintro v Hout n1 ⟨rfl, rfl, rfl⟩) | refine zqc (d_eqMS [] [] _ _ matsN_nil matsN_nil rfl) ?_ | (refine stq ?_ ?_ <;> (intro hc; ((try simp at hc) <;> try contradiction))) | fail)) <;> try (exfalso; omega))
      refine awp_held TM [(2, _), (6, _)] sb rfl (fun ρs => ?_)
      refine zt0 ?_
      refine zt1 ?_
      refine w_u [2] kr rfl ⟨?_, trivial⟩
      first | (refine zho ?_) | (refine w_D _ (d_toMatrix r c xs _ hl) Zz Zz Zz Zz Zz Zz Zz Zz ft Zz Zz (MadeMx.out) sb Zz Zz ?_; rintro v b ⟨c1b, hc1b, rfl, he, -⟩; cases he) | refine zqb (d_eqMatrix r c r c xs xs _ _ hl hl) ?_
      refine w_u [3] kr rfl ⟨?_, trivial⟩
      first | (refine zho ?_) | (refine w_D _ (d_toMatrix r c xs _ hl) Zz Zz Zz Zz Zz Zz Zz Zz ft Zz Zz (MadeMx.out) sb Zz Zz ?_; rintro v b ⟨c1b, hc1b, rfl, he, -⟩; cases he) | refine zqb (d_eqMatrix r c r c xs xs _ _ hl hl) ?_
      refine zt4 ?_
      refine w_v kr ?_
      rotate_left
      ((repeat' (first | refine stx ?_ | ((refine w_E (d_markMatrix r c xs _ _ 1 hl (by omega) (by omega)) Zz Zz Zz Zz Zz Zz Zz ft rfl ?_); rintro v Hout n1 ⟨rfl, rfl, rfl⟩) | refine zqc (d_eqMS [] [] _ _ matsN_nil matsN_nil rfl) ?_ | (refine stq ?_ ?_ <;> (intro hc; ((try simp at hc) <;> try contradiction))) | fail)) <;> try (exfalso; omega))
      ((first | refine awpL_ghost (Ghost.newTok 3 false) ?_ | refine awp_ghost (Ghost.newTok 3 false) ?_ | refine awpH_ghost (Ghost.newTok 3 false) ?_ | refine awpHop_ghost (Ghost.newTok 3 false) ?_); rintro _ _ ⟨rfl, rfl⟩)
      ((first | refine awpL_ghost (Ghost.forget 7 Zz Zz) ?_ | refine awp_ghost (Ghost.forget 7 Zz Zz) ?_ | refine awpH_ghost (Ghost.forget 7 Zz Zz) ?_ | refine awpHop_ghost (Ghost.forget 7 Zz Zz) ?_); rintro _ _ ⟨rfl, rfl⟩)
      refine awpL_callM [(1, 7), (2, 9)] (d_markMS [] _ _ 1 matsN_nil (by omega) (by omega)) Zz Zz Zz Zz Zz Zz Zz (by repeat' (first | exact trivial | refine ⟨.inl rfl, ?_⟩ | refine ⟨.inr ⟨rfl, rfl⟩, ?_⟩)) rfl ?_
      rintro v Hout n1 ⟨rfl, rfl, rfl⟩
      ((first | refine awpL_ghost (Ghost.retell 7 9 (.mats true []) Zz Zz Zz Zz Zz (fun x hx => nomatch hx)) ?_ | refine awp_ghost (Ghost.retell 7 9 (.mats true []) Zz Zz Zz Zz Zz (fun x hx => nomatch hx)) ?_ | refine awpH_ghost (Ghost.retell 7 9 (.mats true []) Zz Zz Zz Zz Zz (fun x hx => nomatch hx)) ?_ | refine awpHop_ghost (Ghost.retell 7 9 (.mats true []) Zz Zz Zz Zz Zz (fun x hx => nomatch hx)) ?_); rintro _ _ ⟨rfl, rfl⟩)
      ((first | refine awpL_ghost (Ghost.retell 4 9 (.mats true []) Zz Zz Zz Zz Zz (fun x hx => nomatch hx)) ?_ | refine awp_ghost (Ghost.retell 4 9 (.mats true []) Zz Zz Zz Zz Zz (fun x hx => nomatch hx)) ?_ | refine awpH_ghost (Ghost.retell 4 9 (.mats true []) Zz Zz Zz Zz Zz (fun x hx => nomatch hx)) ?_ | refine awpHop_ghost (Ghost.retell 4 9 (.mats true []) Zz Zz Zz Zz Zz (fun x hx => nomatch hx)) ?_); rintro _ _ ⟨rfl, rfl⟩)
      ((repeat' (first | refine stx ?_ | ((first | refine w_z (d_heldMS [] _ _ 1 rfl matsN_nil (by omega) (by omega)) Zz Zz Zz Zz Zz Zz Zz Zz ft Zz Zz ?_ | refine w_A (d_heldMS [] _ _ 1 rfl matsN_nil (by omega) (by omega)) Zz Zz Zz Zz Zz Zz Zz Zz ft Zz Zz ?_)) | (refine w_C (d_toMatrix r c xs _ hl) Zz Zz Zz Zz Zz Zz Zz ft Zz Zz (MadeMx.out) ?_; rintro v b ⟨c1a, hc1a, rfl, he, -⟩; cases he) | ((refine zqe (h2 _ hc1a) ?_); rintro v Hout n1 ⟨rfl, rfl, rfl⟩) | refine zqc (d_eqMS [] [] _ _ matsN_nil matsN_nil rfl) ?_ | (refine stq ?_ ?_ <;> (intro hc; ((try simp at hc) <;> try contradiction))) | fail)) <;> try (exfalso; omega))
      all_goals refine fin_ret rfl w_3 (rfl) rfl
    | some nL =>
      obtain ⟨n, L⟩ := nL
      rw [ho] at h1 h2
      ((repeat' (first | refine stp ?_ | refine zqc (e1) ?_ | (refine w_C (d_toMatrix r c xs _ hl) Zz Zz Zz Zz Zz Zz Zz ft Zz Zz (MadeMx.out) ?_; rintro v b ⟨c1a, hc1a, rfl, he, -⟩; cases he) | ((refine zqe (h1 _) ?_); rintro v Hout n1 ⟨lw, cw, hw, rfl, rfl, rfl⟩; ((first | refine awpL_ghost (Ghost.tell 4 5 (.mats true lw) Zz Zz Zz mats_mem) ?_ | refine awp_ghost (Ghost.tell 4 5 (.mats true lw) Zz Zz Zz mats_mem) ?_ | refine awpH_ghost (Ghost.tell 4 5 (.mats true lw) Zz Zz Zz mats_mem) ?_ | refine awpHop_ghost (Ghost.tell 4 5 (.mats true lw) Zz Zz Zz mats_mem) ?_); rintro _ _ ⟨rfl, rfl⟩)) | ((refine zqe (h2 _ hc1a) ?_); rintro v Hout n1 ⟨lg, cg, hg, rfl, rfl, rfl⟩; ((first | refine awpL_ghost (Ghost.tell 8 9 (.mats true lg) Zz Zz Zz mats_mem) ?_ | refine awp_ghost (Ghost.tell 8 9 (.mats true lg) Zz Zz Zz mats_mem) ?_ | refine awpH_ghost (Ghost.tell 8 9 (.mats true lg) Zz Zz Zz mats_mem) ?_ | refine awpHop_ghost (Ghost.tell 8 9 (.mats true lg) Zz Zz Zz mats_mem) ?_); rintro _ _ ⟨rfl, rfl⟩)) | refine zqc (d_eqMS _ _ _ _ (autO_N ho hg) (autO_N ho hw) (hg.trans hw.symm)) ?_ | (refine stq ?_ ?_ <;> (intro hc; ((try simp at hc) <;> try contradiction))) | fail)) <;> try (exfalso; omega))
      refine awp_held TM [(2, _), (7, _)] sb rfl (fun ρs => ?_)
      refine zt0 ?_
      refine zt1 ?_
      refine w_u [2] kr rfl ⟨?_, trivial⟩
      first | (refine zho ?_) | (refine w_D _ (d_toMatrix r c xs _ hl) Zz Zz Zz Zz Zz Zz Zz Zz ft Zz Zz (MadeMx.out) sb Zz Zz ?_; rintro v b ⟨c1b, hc1b, rfl, he, -⟩; cases he) | refine zqb (d_eqMatrix r c r c xs xs _ _ hl hl) ?_
      refine w_u [3] kr rfl ⟨?_, trivial⟩
      first | (refine zho ?_) | (refine w_D _ (d_toMatrix r c xs _ hl) Zz Zz Zz Zz Zz Zz Zz Zz ft Zz Zz (MadeMx.out) sb Zz Zz ?_; rintro v b ⟨c1b, hc1b, rfl, he, -⟩; cases he) | refine zqb (d_eqMatrix r c r c xs xs _ _ hl hl) ?_
      refine zt4 ?_
      refine w_v kr ?_
      rotate_left
      ((repeat' (first | refine stx ?_ | ((refine w_E (d_markMatrix r c xs _ _ 1 hl (by omega) (by omega)) Zz Zz Zz Zz Zz Zz Zz ft rfl ?_); rintro v Hout n1 ⟨rfl, rfl, rfl⟩) | refine zqc (d_eqMS _ _ _ _ (autO_N ho hg) (autO_N ho hw) (hg.trans hw.symm)) ?_ | (refine stq ?_ ?_ <;> (intro hc; ((try simp at hc) <;> try contradiction))) | fail)) <;> try (exfalso; omega))
      ((first | refine awpL_ghost (Ghost.forget 8 Zz Zz) ?_ | refine awp_ghost (Ghost.forget 8 Zz Zz) ?_ | refine awpH_ghost (Ghost.forget 8 Zz Zz) ?_ | refine awpHop_ghost (Ghost.forget 8 Zz Zz) ?_); rintro _ _ ⟨rfl, rfl⟩)
      refine awpL_callM [(1, 8), (2, 9)] (d_markMS lg _ _ 1 (autO_N ho hg) (by omega) (by omega)) Zz Zz Zz Zz Zz Zz Zz (by repeat' (first | exact trivial | refine ⟨.inl rfl, ?_⟩ | refine ⟨.inr ⟨rfl, rfl⟩, ?_⟩)) rfl ?_
      rintro v Hout n1 ⟨rfl, rfl, rfl⟩
      ((first | refine awpL_ghost (Ghost.retell 8 9 (.mats true (markM 1 lg)) Zz Zz markM_all (markM_len.trans numM_len.symm) rfl mats_mem) ?_ | refine awp_ghost (Ghost.retell 8 9 (.mats true (markM 1 lg)) Zz Zz markM_all (markM_len.trans numM_len.symm) rfl mats_mem) ?_ | refine awpH_ghost (Ghost.retell 8 9 (.mats true (markM 1 lg)) Zz Zz markM_all (markM_len.trans numM_len.symm) rfl mats_mem) ?_ | refine awpHop_ghost (Ghost.retell 8 9 (.mats true (markM 1 lg)) Zz Zz markM_all (markM_len.trans numM_len.symm) rfl mats_mem) ?_); rintro _ _ ⟨rfl, rfl⟩)
      ((first | refine awpL_ghost (Ghost.retell 4 5 (.mats true lw) Zz Zz Zz Zz Zz mats_mem) ?_ | refine awp_ghost (Ghost.retell 4 5 (.mats true lw) Zz Zz Zz Zz Zz mats_mem) ?_ | refine awpH_ghost (Ghost.retell 4 5 (.mats true lw) Zz Zz Zz Zz Zz mats_mem) ?_ | refine awpHop_ghost (Ghost.retell 4 5 (.mats true lw) Zz Zz Zz Zz Zz mats_mem) ?_); rintro _ _ ⟨rfl, rfl⟩)
      ((repeat' (first | refine stx ?_ | ((first | refine w_z (d_heldMS lg _ _ 1 markM_len.symm (autO_N ho hg) (by omega) (by omega)) Zz Zz Zz Zz Zz Zz Zz Zz ft Zz Zz ?_ | refine w_A (d_heldMS lg _ _ 1 markM_len.symm (autO_N ho hg) (by omega) (by omega)) Zz Zz Zz Zz Zz Zz Zz Zz ft Zz Zz ?_)) | (refine w_C (d_toMatrix r c xs _ hl) Zz Zz Zz Zz Zz Zz Zz ft Zz Zz (MadeMx.out) ?_; rintro v b ⟨c1a, hc1a, rfl, he, -⟩; cases he) | ((refine zqe (h2 _ hc1a) ?_); rintro v Hout n1 ⟨lh, ch, hh, rfl, rfl, rfl⟩; ((first | refine awpL_ghost (Ghost.tell 12 13 (.mats true lh) Zz Zz Zz mats_mem) ?_ | refine awp_ghost (Ghost.tell 12 13 (.mats true lh) Zz Zz Zz mats_mem) ?_ | refine awpH_ghost (Ghost.tell 12 13 (.mats true lh) Zz Zz Zz mats_mem) ?_ | refine awpHop_ghost (Ghost.tell 12 13 (.mats true lh) Zz Zz Zz mats_mem) ?_); rintro _ _ ⟨rfl, rfl⟩)) | refine zqc (d_eqMS _ _ _ _ (autO_N ho hh) (autO_N ho hw) (hh.trans hw.symm)) ?_ | (refine stq ?_ ?_ <;> (intro hc; ((try simp at hc) <;> try contradiction))) | fail)) <;> try (exfalso; omega))
      all_goals refine fin_ret rfl w_3 (rfl) rfl
  · ((repeat' (first | refine stp ?_ | refine zqc (e1) ?_ | (refine stq ?_ ?_ <;> (intro hc; ((try simp at hc) <;> try contradiction))) | fail)) <;> try (exfalso; omega))
    all_goals refine fin_ret rfl w_3 (rfl) rfl
end Go.Proofs.YtekpamojojfplaaGreat
