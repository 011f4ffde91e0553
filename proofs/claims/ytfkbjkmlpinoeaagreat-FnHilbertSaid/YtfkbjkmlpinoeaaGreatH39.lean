/-
  TEXTS OF THE PROOF, put together: bHilbFn, Law, bLaw, bLawB.
-/
import Derived.Test.YtfkbjkmlpinoeaaGreatH37
import Derived.Test.YtfkbjkmlpinoeaaGreatH38
import Derived.Test.YtfkbjkmlpinoeaaGreatRows
import Derived.Test.YtfkbjkmlpinoeaaGreatH07
import Derived.ProofKit
import Derived.Lib.SmallJoins
import Derived.OpenShut
import Derived.Test.YtfkbjkmlpinoeaaGreatH08
set_option linter.unusedVariables false
set_option linter.unusedSimpArgs false
namespace Go.Proofs.YtfkbjkmlpinoeaaGreat
open Go.RowKit
set_option maxRecDepth 100000 in
set_option maxHeartbeats 32000000 in
theorem d_fnHilb (bs : List Int) (c : Nat) : Does Tryz.prog 4 [vS 1 1 0 bs.length c] [(1, .ro (.bytes bs))] 2 (Ret (vB true) 2) := by
 refine Does.intro TT Tryz.func4 rfl (by kernel_rfl) Zz Zz fun E hE => ?_
 by_cases hbg : (1048576 : Int) < bs.length
 ·((repeat' (first | refine stx ?_ | ((first | refine w_z (d_big _ _) Zz Zz Zz Zz Zz Zz Zz Zz ft Zz Zz ?_ | refine w_A (d_big _ _) Zz Zz Zz Zz Zz Zz Zz Zz ft Zz Zz ?_) <;> simp only [hbg]) | (refine stq ?_ ?_ <;> (intro hc; ((try simp at hc) <;> try contradiction))) | fail)) <;> try (exfalso; omega))
  all_goals refine fin_ret rfl w_3 (rfl) rfl
 ·have hl : bs.length ≤ 1048576 := by omega
  ((repeat' (first | refine stp ?_ | ((first | refine w_z (d_big _ _) Zz Zz Zz Zz Zz Zz Zz Zz ft Zz Zz ?_ | refine w_A (d_big _ _) Zz Zz Zz Zz Zz Zz Zz Zz ft Zz Zz ?_) <;> simp only [hbg]) | ((refine w_E (d_drawMul bs c hl) Zz Zz Zz Zz Zz Zz Zz ft rfl ?_)) | (refine stq ?_ ?_ <;> (intro hc; ((try simp at hc) <;> try contradiction))) | fail)) <;> try (exfalso; omega))
  rintro v Hout n1 ⟨kc, r, xs, cs, ca, cc, hk, hxl, hcl, hxc, hcc, rfl, rfl, rfl⟩
  have hx1 : xs.length ≤ 1099511627776 := by omega
  have hc1 : cs.length ≤ 1099511627776 := by omega
  have h1 := d_hilI r kc xs ca hx1 hxc
  have h2 := d_hilS r kc xs ca hx1
  have h3 := d_mulI r kc xs cs ca cc hx1 hc1 hxc
  cases ho : hilO r kc xs with
  | none =>
   have hm : mulO r kc xs cs = none := by rw [mulO, ho]; rfl
   rw [ho] at h1 h2
   rw [hm] at h3
   ((repeat' (first | refine stx ?_ | ((refine w_E (h1) Zz Zz Zz Zz Zz Zz Zz ft rfl ?_); rintro v Hout n1 ⟨rfl, rfl, rfl⟩) | ((refine w_E (h2) Zz Zz Zz Zz Zz Zz Zz ft rfl ?_); rintro v Hout n1 ⟨rfl, rfl, rfl⟩) | ((refine w_E (h3) Zz Zz Zz Zz Zz Zz Zz ft rfl ?_); rintro v Hout n1 ⟨cm, hcm, rfl, rfl, rfl⟩) | (refine stq ?_ ?_ <;> (intro hc; ((try simp at hc) <;> try contradiction))) | fail)) <;> try (exfalso; omega))
   all_goals refine fin_ret rfl w_3 (rfl) rfl
  | some G =>
   rw [ho] at h1 h2
   obtain ⟨a, b, W, L, rfl, eb, ha, hb1, hb, hx, hxn, hC, hp, hW, hO, hG4, hw0, hG, -⟩ := hil_some ho
   have : b = kc := by omega
   subst this
   have hpr := hil_irr ho
   obtain ⟨zs, ok, hok, hZ⟩ : ∃ (zs : List Int) (ok : Bool), (ok = true → mulO a b xs cs = some zs) ∧ ∀ t k, SlO t (mulO a b xs cs) k = SlB t zs ok k := by
    cases mulO a b xs cs with
    | none => exact ⟨[], false, (fun h => by cases h), fun _ _ => rfl⟩
    | some zs => exact ⟨zs, true, fun _ => rfl, fun _ _ => rfl⟩
   rw [hZ] at h3
   have hGi : ∀ i, i < G.length → (G.getD i []).length = b ∧ (G.getD i []).all numB = true ∧ (∀ k, k < b → -2000 ≤ (G.getD i []).getD k 0 ∧ (G.getD i []).getD k 0 ≤ 2000) ∧ inAny xs a b (G.getD i []) = true := fun i hi => by
    obtain ⟨-, q2, q3, q4, q5, -⟩ := hG (G.getD i []) (by rw [getD_in hi]; exact List.getElem_mem hi)
    exact ⟨q2, q3, q4, q5⟩
   have hbd : ∀ i k, -2000 ≤ (G.getD i []).getD k 0 ∧ (G.getD i []).getD k 0 ≤ 2000 := fun i k => by
    by_cases hi : i < G.length
    ·by_cases hk : k < b
     ·exact (hGi i hi).2.2.1 k hk
     ·rw [List.getD_eq_getElem?_getD (l := G.getD i []), List.getElem?_eq_none (by have := (hGi i hi).1; omega)]; simp
    ·rw [List.getD_eq_getElem?_getD (l := G), List.getElem?_eq_none (by omega)]; simp
   ((repeat' (first | (refine awp_cut 11 hE (fun _ : Unit => True) (fun _ => [(3, .one (.ptr 4 3 0 0)), (5, vS 5 1 0 lG.length cG)]) (fun _ => [(2, .own 3 ca (.ints xs)), (4, .own 26 1 (.lit [.int a, .int b, .sl 2 1 0 xs.length ca])), (5, .own 24 cG (.rows false true lG)), (6, .tok 3 false lG)]) 7 ?_ ?_) | refine stp ?_ | ((refine w_E (h1) Zz Zz Zz Zz Zz Zz Zz ft rfl ?_); rintro v Hout n1 ⟨lG, cG, hlG, rfl, rfl, rfl⟩; have hlen : lG.length = G.length := rowsX_len hlG) | ((refine w_E (h2) Zz Zz Zz Zz Zz Zz Zz ft rfl ?_); rintro v Hout n1 ⟨lH, cH, hlH, rfl, rfl, rfl⟩) | ((refine w_E (h3) Zz Zz Zz Zz Zz Zz Zz ft rfl ?_); rintro v Hout n1 ⟨cm, hcm, rfl, rfl, rfl⟩) | (refine stq ?_ ?_ <;> (intro hc; ((try simp at hc) <;> try contradiction))) | fail)) <;> try (exfalso; omega))
   ·have eR : ∀ i : Nat, i < G.length → (lG.getD (0 + (i : Int).toNat) rowD).xs = G.getD i [] := fun i hi => by
     rw [show 0 + (i : Int).toNat = i by omega, ← hlG, getD_in (show i < lG.length by omega), getD_in (by simp [rowsX]; omega)]; simp [rowsX]
    have eN : ∀ i : Nat, lG.getD (0 + (i : Int).toNat) rowD = lG[i]?.getD rowD := fun i => by rw [show 0 + (i : Int).toNat = i by omega, List.getD_eq_getElem?_getD]
    obtain ⟨m1, m2, m3, m4⟩ := mulO_some ho (hok hc)
    obtain ⟨gF, hgF⟩ : ∃ gF : Nat → Nat → Int, gF = fun k i => sumM G zs k i := ⟨_, rfl⟩
    have gz : List.replicate (cs.length : Int).toNat (0 : Int) = genT gF b 0 0 := by
     rw [Int.toNat_natCast, hcl]
     exact genT_zero fun k => by rw [hgF]; rfl
    refine w_G hE (fun i : Nat => i ≤ lG.length) (fun i => lG.length - i)
     (fun i => [(3, .one (.ptr 4 3 0 0)), (4, vS 3 1 0 cs.length cc), (5, vS 5 1 0 lG.length cG), (9, vS 9 1 0 lG.length cm), (11, vS 10 1 0 cs.length cs.length), (12, vI i)])
     (fun i => [(2, .own 3 ca (.ints xs)), (3, .own 3 cc (.ints cs)), (4, .own 26 1 (.lit [.int a, .int b, .sl 2 1 0 xs.length ca])), (5, .own 24 cG (.rows false true lG)), (6, .tok 3 false lG), (9, .own 3 cm (.ints zs)), (10, .own 3 cs.length (.ints (genT gF b i 0)))]) 11 [] 0 (Nat.zero_le _) ⟨w_1, ⟨rfl, rfl, rfl, rfl, rfl, rfl, own_ints gz, trivial⟩, rfl⟩ ?_
    intro i hi
    by_cases hil : i < lG.length
    ·have hig : i < G.length := by omega
     have hil2 : ¬ lG.length ≤ i := by omega
     have g1 := hGi i hig
     rw [← eR i hig] at g1
     obtain ⟨g1, g2, g3, g4⟩ := g1
     have g1n : (lG[i]?.getD rowD).xs.length = b := by rw [← eN]; exact g1
     ((repeat' (first | refine stx ?_ | (refine stq ?_ ?_ <;> (intro hc; ((try simp at hc) <;> try contradiction))) | fail)) <;> try (exfalso; omega))
     refine w_G hE (fun j : Nat => j ≤ b) (fun j => b - j)
      (fun j => [(3, .one (.ptr 4 3 0 0)), (4, vS 3 1 0 cs.length cc), (5, vS 5 1 0 lG.length cG), (9, vS 9 1 0 lG.length cm), (11, vS 10 1 0 cs.length cs.length), (12, vI i), (13, vI j)])
      (fun j => [(2, .own 3 ca (.ints xs)), (3, .own 3 cc (.ints cs)), (4, .own 26 1 (.lit [.int a, .int b, .sl 2 1 0 xs.length ca])), (5, .own 24 cG (.rows false true lG)), (6, .tok 3 false lG), (9, .own 3 cm (.ints zs)), (10, .own 3 cs.length (.ints (genT gF b i j)))]) 11 [] 0 (Nat.zero_le _) ⟨w_1, w_2, rfl⟩ ?_
     intro j hj
     have ln : (genT gF b i j).length = b := genT_len
     by_cases hjb : j < b
     ·have e0 : (0 + (j : Int).toNat) = j := by omega
      have hjn : ¬ cs.length ≤ j := by omega
      have e1 : (genT gF b i j).getD (0 + (j : Int).toNat) 0 = sumM G zs j i := by rw [e0, genT_at hjb, hgF]
      have e2 : (lG.getD (0 + (i : Int).toNat) rowD).xs.getD (0 + (j : Int).toNat) 0 = (G.getD i []).getD j 0 := by rw [e0, eR i hig]
      have e3 : zs.getD (0 + (i : Int).toNat) 0 = zs.getD i 0 := by rw [show 0 + (i : Int).toNat = i by omega]
      have b1 := sumM_bd m3 (fun i => hbd i j) i
      have b2 := sumM_bd m3 (fun i => hbd i j) (i + 1)
      rw [sumM] at b2
      rw [← e1] at b1 b2
      rw [← e2, ← e3] at b2
      have es : (genT gF b i j).set (0 + (j : Int).toNat) ((genT gF b i j).getD (0 + (j : Int).toNat) 0 + zs.getD (0 + (i : Int).toNat) 0 * (lG.getD (0 + (i : Int).toNat) rowD).xs.getD (0 + (j : Int).toNat) 0) = genT gF b i (j + 1) := by
       rw [e1, e2, e3, e0, ← genT_set hjb]
       congr 1
       rw [hgF]; rfl
      ((repeat' (first | refine stp ?_ | (refine stq ?_ ?_ <;> (intro hc; ((try simp at hc) <;> try contradiction))) | fail)) <;> try (exfalso; omega))
      refine awp_held TM [(9, _)] sb rfl (fun ρs => ?_)
      refine zt0 ?_
      refine zt1 ?_
      refine zt2 ?_
      refine zt3 ?_
      refine zt4 ?_
      refine zt6 ?_
      refine zt7 ?_
      refine zt8 ?_
      refine zt9 ?_
      refine zt10 ?_
      refine zt11 ?_
      refine zt12 ?_
      refine zt14 ?_
      refine w_u [5, 13] kr rfl ⟨?_, ?_, trivial⟩
      first | (refine zho ?_) | (refine w_y TT _ Zz Zz Zz Zz Zz Zz sd sb Zz Zz ?_; intro cap hcap)
      refine w_u [13] kr rfl ⟨?_, trivial⟩
      first | (refine zho ?_) | (refine w_y TT _ Zz Zz Zz Zz Zz Zz sd sb Zz Zz ?_; intro cap hcap)
      refine w_u [15] kr rfl ⟨?_, trivial⟩
      first | (refine zho ?_) | (refine w_y TT _ Zz Zz Zz Zz Zz Zz sd sb Zz Zz ?_; intro cap hcap)
      refine w_u [16] kr rfl ⟨?_, trivial⟩
      first | (refine zho ?_) | (refine w_y TT _ Zz Zz Zz Zz Zz Zz sd sb Zz Zz ?_; intro cap hcap)
      refine zt17 ?_
      refine zt18 ?_
      refine zt19 ?_
      refine w_u [20] kr rfl ⟨?_, trivial⟩
      first | (refine zho ?_) | (refine w_y TT _ Zz Zz Zz Zz Zz Zz sd sb Zz Zz ?_; intro cap hcap)
      refine w_v kr ?_
      rotate_left
      first | (refine zho ?_) | (refine w_y TT _ Zz Zz Zz Zz Zz Zz sd sb Zz Zz ?_; intro cap hcap)
      refine w_u [5, 15] kr rfl ⟨?_, ?_, trivial⟩
      first | (refine zho ?_) | (refine w_y TT _ Zz Zz Zz Zz Zz Zz sd sb Zz Zz ?_; intro cap hcap)
      refine w_u [15] kr rfl ⟨?_, trivial⟩
      first | (refine zho ?_) | (refine w_y TT _ Zz Zz Zz Zz Zz Zz sd sb Zz Zz ?_; intro cap hcap)
      refine w_u [16] kr rfl ⟨?_, trivial⟩
      first | (refine zho ?_) | (refine w_y TT _ Zz Zz Zz Zz Zz Zz sd sb Zz Zz ?_; intro cap hcap)
      refine zt17 ?_
      refine zt18 ?_
      refine zt19 ?_
      refine w_u [20] kr rfl ⟨?_, trivial⟩
      first | (refine zho ?_) | (refine w_y TT _ Zz Zz Zz Zz Zz Zz sd sb Zz Zz ?_; intro cap hcap)
      refine w_v kr ?_
      rotate_left
      first | (refine zho ?_) | (refine w_y TT _ Zz Zz Zz Zz Zz Zz sd sb Zz Zz ?_; intro cap hcap)
      refine w_u [5, 16] kr rfl ⟨?_, ?_, trivial⟩
      first | (refine zho ?_) | (refine w_y TT _ Zz Zz Zz Zz Zz Zz sd sb Zz Zz ?_; intro cap hcap)
      refine w_u [16] kr rfl ⟨?_, trivial⟩
      first | (refine zho ?_) | (refine w_y TT _ Zz Zz Zz Zz Zz Zz sd sb Zz Zz ?_; intro cap hcap)
      refine zt17 ?_
      refine zt18 ?_
      refine zt19 ?_
      refine w_u [20] kr rfl ⟨?_, trivial⟩
      first | (refine zho ?_) | (refine w_y TT _ Zz Zz Zz Zz Zz Zz sd sb Zz Zz ?_; intro cap hcap)
      refine w_v kr ?_
      rotate_left
      first | (refine zho ?_) | (refine w_y TT _ Zz Zz Zz Zz Zz Zz sd sb Zz Zz ?_; intro cap hcap)
      refine zt17 ?_
      refine w_u [5] kr rfl ⟨?_, trivial⟩
      first | (refine zho ?_) | (refine w_y TT _ Zz Zz Zz Zz Zz Zz sd sb Zz Zz ?_; intro cap hcap)
      refine zt18 ?_
      refine zt19 ?_
      refine w_u [20] kr rfl ⟨?_, trivial⟩
      first | (refine zho ?_) | (refine w_y TT _ Zz Zz Zz Zz Zz Zz sd sb Zz Zz ?_; intro cap hcap)
      refine w_v kr ?_
      rotate_left
      all_goals ((repeat' (first | refine stx ?_ | (refine stq ?_ ?_ <;> (intro hc; ((try simp at hc) <;> try contradiction))) | fail)) <;> try (exfalso; omega))
      all_goals exact ⟨[], j + 1, hjb, w_4, ⟨w_1, ⟨rfl, rfl, rfl, rfl, rfl, rfl, own_ints es, trivial⟩, rfl⟩⟩
     ·obtain rfl : j = b := by omega
      have hjn : ¬ j < cs.length := by omega
      ((repeat' (first | refine stx ?_ | (refine stq ?_ ?_ <;> (intro hc; ((try simp at hc) <;> try contradiction))) | fail)) <;> try (exfalso; omega))
      exact ⟨[], i + 1, hil, w_4, ⟨w_1, ⟨rfl, rfl, rfl, rfl, rfl, rfl, own_ints genT_next, trivial⟩, rfl⟩⟩
    ·obtain rfl : i = lG.length := by omega
     have hzl : zs.length = lG.length := by omega
     have ec : genT gF b lG.length 0 = cs := by
      apply List.ext_getElem (by rw [genT_len, hcl])
      intro k h1 h2
      rw [genT_len] at h1
      have := m4 k h1
      rw [getD_in h2, ← hlen] at this
      rw [← this]
      simp [genT, hgF]
     rw [ec]
     have hse := fun c d => d_sameI cs cs c d hc1 hc1
     rw [decide_eq_true rfl] at hse
     ((repeat' (first | refine stx ?_ | (first | refine w_z (hse _ _) Zz Zz Zz Zz Zz Zz Zz Zz ft Zz Zz ?_ | refine w_A (hse _ _) Zz Zz Zz Zz Zz Zz Zz Zz ft Zz Zz ?_) | (refine stq ?_ ?_ <;> (intro hc; ((try simp at hc) <;> try contradiction))) | fail)) <;> try (exfalso; omega))
     exact ⟨[], (), trivial, ⟨w_1, w_2, rfl⟩⟩
   ·exact ⟨[], (), trivial, ⟨w_1, w_2, rfl⟩⟩
   ·rintro ⟨⟩ -
    try dsimp only
    have eR : ∀ i : Nat, i < G.length → (lG.getD (0 + (i : Int).toNat) rowD).xs = G.getD i [] := fun i hi => by
     rw [show 0 + (i : Int).toNat = i by omega, ← hlG, getD_in (show i < lG.length by omega), getD_in (by simp [rowsX]; omega)]; simp [rowsX]
    have eN : ∀ i : Nat, lG.getD (0 + (i : Int).toNat) rowD = lG[i]?.getD rowD := fun i => by rw [show 0 + (i : Int).toNat = i by omega, List.getD_eq_getElem?_getD]
    ((repeat' (first | refine stx ?_ | (refine stq ?_ ?_ <;> (intro hc; ((try simp at hc) <;> try contradiction))) | fail)) <;> try (exfalso; omega))
    refine w_G hE (fun i : Nat => i ≤ lG.length) (fun i => lG.length - i)
     (fun i => [(3, .one (.ptr 4 3 0 0)), (5, vS 5 1 0 lG.length cG), (14, vI i)]) (fun i => [(2, .own 3 ca (.ints xs)), (4, .own 26 1 (.lit [.int a, .int b, .sl 2 1 0 xs.length ca])), (5, .own 24 cG (.rows false true lG)), (6, .tok 3 false lG)]) 7 [] 0 (Nat.zero_le _) ⟨w_1, w_2, rfl⟩ ?_
    intro i hi
    by_cases hil : i < lG.length
    ·have hil2 : ¬ lG.length ≤ i := by omega
     have hig : i < G.length := by omega
     obtain ⟨g1, g2, g3, g4⟩ : (lG.getD (0 + (i : Int).toNat) rowD).xs.length = b ∧ (lG.getD (0 + (i : Int).toNat) rowD).xs.all numB = true ∧ (∀ k, k < b → -2000 ≤ (lG.getD (0 + (i : Int).toNat) rowD).xs.getD k 0 ∧ (lG.getD (0 + (i : Int).toNat) rowD).xs.getD k 0 ≤ 2000) ∧ inAny xs a b (lG.getD (0 + (i : Int).toNat) rowD).xs = true := by rw [eR i hig]; exact hGi i hig
     have g1n : (lG[i]?.getD rowD).xs.length = b := by rw [← eN]; exact g1
     have hc2 := fun c1 c2 h => d_inConeI a b xs (lG.getD (0 + (i : Int).toNat) rowD).xs c1 c2 hx1 (by omega) h
     rw [inConeB_any hC g1 g2, g4] at hc2
     ((repeat' (first | refine stx ?_ | (refine stq ?_ ?_ <;> (intro hc; ((try simp at hc) <;> try contradiction))) | fail)) <;> try (exfalso; omega))
     refine w_G hE (fun k : Nat => k ≤ lG.length) (fun k => lG.length - k)
      (fun k => [(3, .one (.ptr 4 3 0 0)), (5, vS 5 1 0 lG.length cG), (14, vI i), (15, vI k)]) (fun k => [(2, .own 3 ca (.ints xs)), (4, .own 26 1 (.lit [.int a, .int b, .sl 2 1 0 xs.length ca])), (5, .own 24 cG (.rows false true lG)), (6, .tok 3 false lG)]) 7 [] 0 (Nat.zero_le _) ⟨w_1, w_2, rfl⟩ ?_
     intro k hk
     by_cases hkl : k < lG.length
     ·have hkl2 : ¬ lG.length ≤ k := by omega
      have hkg : k < G.length := by omega
      obtain ⟨f1, f2, f3, f4⟩ : (lG.getD (0 + (k : Int).toNat) rowD).xs.length = b ∧ (lG.getD (0 + (k : Int).toNat) rowD).xs.all numB = true ∧ (∀ j, j < b → -2000 ≤ (lG.getD (0 + (k : Int).toNat) rowD).xs.getD j 0 ∧ (lG.getD (0 + (k : Int).toNat) rowD).xs.getD j 0 ≤ 2000) ∧ inAny xs a b (lG.getD (0 + (k : Int).toNat) rowD).xs = true := by rw [eR k hkg]; exact hGi k hkg
      have f1n : (lG[k]?.getD rowD).xs.length = b := by rw [← eN]; exact f1
      have ldf : (difL (lG.getD (0 + (i : Int).toNat) rowD).xs (lG.getD (0 + (k : Int).toNat) rowD).xs).length = b := by rw [difL_len]; exact g1
      have hc3 := fun c1 c2 h => d_inConeI a b xs (difL (lG.getD (0 + (i : Int).toNat) rowD).xs (lG.getD (0 + (k : Int).toNat) rowD).xs) c1 c2 hx1 (by omega) h
      rw [inConeB_any hC ldf (all_num fun j hj => by
       rw [difL_len] at hj
       have y1 := g3 j (by omega)
       have y2 := f3 j (by omega)
       rw [difL_at hj]; omega)] at hc3
      have hirr : i ≠ k → inAny xs a b (difL (lG.getD (0 + (i : Int).toNat) rowD).xs (lG.getD (0 + (k : Int).toNat) rowD).xs) = false := fun e => by
       rw [eR i hig, eR k hkg, getD_in hig, getD_in hkg]
       exact pair_at (R := fun x y => inAny xs a b (difL x y) = false) hpr hig hkg e
      simp only [ldf] at hc3
      ((repeat' (first | refine stx ?_ | (refine w_x TT Zz Zz Zz Zz Zz sd ?_; intro cap hcap) | (refine stq ?_ ?_ <;> (intro hc; ((try simp at hc) <;> try contradiction))) | fail)) <;> try (exfalso; omega))
      obtain ⟨X, hX⟩ : ∃ X, X = (lG.getD (0 + (i : Int).toNat) rowD).xs := ⟨_, rfl⟩
      obtain ⟨Y, hY⟩ : ∃ Y, Y = (lG.getD (0 + (k : Int).toNat) rowD).xs := ⟨_, rfl⟩
      refine w_G hE (fun j : Nat => j ≤ b) (fun j => b - j)
       (fun j => [(3, .one (.ptr 4 3 0 0)), (5, vS 5 1 0 lG.length cG), (14, vI i), (15, vI k), (16, vS 9 1 0 b cap), (17, vI j)]) (fun j => [(2, .own 3 ca (.ints xs)), (4, .own 26 1 (.lit [.int a, .int b, .sl 2 1 0 xs.length ca])), (5, .own 24 cG (.rows false true lG)), (6, .tok 3 false lG), (9, .own 3 cap (.ints (difT X Y j)))]) 10 [] 0 (Nat.zero_le _) ⟨w_1, ⟨rfl, rfl, rfl, rfl, own_ints (by rw [hX]; simp [difT]), trivial⟩, rfl⟩ ?_
      intro j hj
      have hXl : X.length = b := by rw [hX]; exact g1
      have ln : (difT X Y j).length = b := by rw [difT_len (by omega)]; exact hXl
      by_cases hjb : j < b
      ·have hjn : ¬ b ≤ j := by omega
       have e0 : (0 + (j : Int).toNat) = j := by omega
       have e1 : (difT X Y j).getD (0 + (j : Int).toNat) 0 = X.getD j 0 := by rw [e0]; exact difT_at (by omega)
       have e2 : (lG.getD (0 + (k : Int).toNat) rowD).xs.getD (0 + (j : Int).toNat) 0 = Y.getD j 0 := by rw [e0, hY]
       have b1 := g3 j hjb
       have b2 := f3 j hjb
       rw [← hX, ← e1] at b1
       rw [← hY, ← e2] at b2
       ((repeat' (first | refine stp ?_ | (refine stq ?_ ?_ <;> (intro hc; ((try simp at hc) <;> try contradiction))) | fail)) <;> try (exfalso; omega))
       refine awp_held TM [(5, _)] sb rfl (fun ρs => ?_)
       refine zt0 ?_
       refine zt1 ?_
       refine zt2 ?_
       refine zt3 ?_
       refine zt4 ?_
       refine zt6 ?_
       refine zt7 ?_
       refine zt8 ?_
       refine zt10 ?_
       refine w_u [5, 9] kr rfl ⟨?_, ?_, trivial⟩
       first | (refine zho ?_) | (refine w_y TT _ Zz Zz Zz Zz Zz Zz sd sb Zz Zz ?_; intro cap hcap)
       refine w_u [9] kr rfl ⟨?_, trivial⟩
       first | (refine zho ?_) | (refine w_y TT _ Zz Zz Zz Zz Zz Zz sd sb Zz Zz ?_; intro cap hcap)
       refine w_u [11] kr rfl ⟨?_, trivial⟩
       first | (refine zho ?_) | (refine w_y TT _ Zz Zz Zz Zz Zz Zz sd sb Zz Zz ?_; intro cap hcap)
       refine w_u [12] kr rfl ⟨?_, trivial⟩
       first | (refine zho ?_) | (refine w_y TT _ Zz Zz Zz Zz Zz Zz sd sb Zz Zz ?_; intro cap hcap)
       refine zt13 ?_
       refine zt14 ?_
       refine w_u [15] kr rfl ⟨?_, trivial⟩
       first | (refine zho ?_) | (refine w_y TT _ Zz Zz Zz Zz Zz Zz sd sb Zz Zz ?_; intro cap hcap)
       refine w_v kr ?_
       rotate_left
       first | (refine zho ?_) | (refine w_y TT _ Zz Zz Zz Zz Zz Zz sd sb Zz Zz ?_; intro cap hcap)
       refine w_u [5, 11] kr rfl ⟨?_, ?_, trivial⟩
       first | (refine zho ?_) | (refine w_y TT _ Zz Zz Zz Zz Zz Zz sd sb Zz Zz ?_; intro cap hcap)
       refine w_u [11] kr rfl ⟨?_, trivial⟩
       first | (refine zho ?_) | (refine w_y TT _ Zz Zz Zz Zz Zz Zz sd sb Zz Zz ?_; intro cap hcap)
       refine w_u [12] kr rfl ⟨?_, trivial⟩
       first | (refine zho ?_) | (refine w_y TT _ Zz Zz Zz Zz Zz Zz sd sb Zz Zz ?_; intro cap hcap)
       refine zt13 ?_
       refine zt14 ?_
       refine w_u [15] kr rfl ⟨?_, trivial⟩
       first | (refine zho ?_) | (refine w_y TT _ Zz Zz Zz Zz Zz Zz sd sb Zz Zz ?_; intro cap hcap)
       refine w_v kr ?_
       rotate_left
       first | (refine zho ?_) | (refine w_y TT _ Zz Zz Zz Zz Zz Zz sd sb Zz Zz ?_; intro cap hcap)
       refine w_u [5, 12] kr rfl ⟨?_, ?_, trivial⟩
       first | (refine zho ?_) | (refine w_y TT _ Zz Zz Zz Zz Zz Zz sd sb Zz Zz ?_; intro cap hcap)
       refine w_u [12] kr rfl ⟨?_, trivial⟩
       first | (refine zho ?_) | (refine w_y TT _ Zz Zz Zz Zz Zz Zz sd sb Zz Zz ?_; intro cap hcap)
       refine zt13 ?_
       refine zt14 ?_
       refine w_u [15] kr rfl ⟨?_, trivial⟩
       first | (refine zho ?_) | (refine w_y TT _ Zz Zz Zz Zz Zz Zz sd sb Zz Zz ?_; intro cap hcap)
       refine w_v kr ?_
       rotate_left
       first | (refine zho ?_) | (refine w_y TT _ Zz Zz Zz Zz Zz Zz sd sb Zz Zz ?_; intro cap hcap)
       refine w_u [5] kr rfl ⟨?_, trivial⟩
       first | (refine zho ?_) | (refine w_y TT _ Zz Zz Zz Zz Zz Zz sd sb Zz Zz ?_; intro cap hcap)
       refine zt13 ?_
       refine zt14 ?_
       refine w_u [15] kr rfl ⟨?_, trivial⟩
       first | (refine zho ?_) | (refine w_y TT _ Zz Zz Zz Zz Zz Zz sd sb Zz Zz ?_; intro cap hcap)
       refine w_v kr ?_
       rotate_left
       all_goals ((repeat' (first | refine stx ?_ | (refine stq ?_ ?_ <;> (intro hc; ((try simp at hc) <;> try contradiction))) | fail)) <;> try (exfalso; omega))
       all_goals exact ⟨[], j + 1, hjb, w_4, ⟨w_1, ⟨rfl, rfl, rfl, rfl, own_ints (by rw [e1, e2, e0]; exact difT_set (by omega)), trivial⟩, rfl⟩⟩
      ·obtain rfl : j = b := by omega
       have ed : difT X Y j = difL X Y := by rw [← hXl]; exact difT_full
       rw [ed]
       rw [← hX, ← hY] at hc3 hirr
       by_cases hik : k = i
       ·subst hik
        ((repeat' (first | refine stp ?_ | (refine stq ?_ ?_ <;> (intro hc; ((try simp at hc) <;> try contradiction))) | fail)) <;> try (exfalso; omega))
        refine awp_held TM [(4, _)] sb rfl (fun ρs => ?_)
        refine zt0 ?_
        refine zt1 ?_
        refine zt2 ?_
        refine zt3 ?_
        first | (refine zt4 ?_) | (refine zp4 ?_) | ((refine awpH_split 4 Zz Zz Zz Zz (fun hc => ?_) (fun hc => ?_) <;> try simp at hc) <;> (first | (refine zt4 ?_) | (refine zp4 ?_)))
        first | (refine zt5 ?_) | (refine zp5 ?_) | ((refine awpH_split 5 Zz Zz Zz Zz (fun hc => ?_) (fun hc => ?_) <;> try simp at hc) <;> (first | (refine zt5 ?_) | (refine zp5 ?_)))
        first | (refine awpH_pass 6 rfl kr kr kr nh Zz Zz ?_) | (refine w_u [6] kr rfl ⟨?_, trivial⟩; first | (refine zho ?_) | refine w_B _ (hc3 _ _ hxc) Zz Zz Zz Zz Zz Zz Zz Zz Zz ft Zz Zz sb rfl ?_ | refine w_B _ (hc2 _ _ hxc) Zz Zz Zz Zz Zz Zz Zz Zz Zz ft Zz Zz sb rfl ?_)
        refine zt7 ?_
        refine zt8 ?_
        first | (refine zt9 ?_) | (refine zp9 ?_) | ((refine awpH_split 9 Zz Zz Zz Zz (fun hc => ?_) (fun hc => ?_) <;> try simp at hc) <;> (first | (refine zt9 ?_) | (refine zp9 ?_)))
        first | (refine zt10 ?_) | (refine zp10 ?_) | ((refine awpH_split 10 Zz Zz Zz Zz (fun hc => ?_) (fun hc => ?_) <;> try simp at hc) <;> (first | (refine zt10 ?_) | (refine zp10 ?_)))
        first | (refine zt11 ?_) | (refine zp11 ?_) | ((refine awpH_split 11 Zz Zz Zz Zz (fun hc => ?_) (fun hc => ?_) <;> try simp at hc) <;> (first | (refine zt11 ?_) | (refine zp11 ?_)))
        first | (refine zt12 ?_) | (refine zp12 ?_) | ((refine awpH_split 12 Zz Zz Zz Zz (fun hc => ?_) (fun hc => ?_) <;> try simp at hc) <;> (first | (refine zt12 ?_) | (refine zp12 ?_)))
        first | (refine awpH_pass 13 rfl kr kr kr nh Zz Zz ?_) | (refine w_u [13] kr rfl ⟨?_, trivial⟩; first | (refine zho ?_) | refine w_B _ (hc3 _ _ hxc) Zz Zz Zz Zz Zz Zz Zz Zz Zz ft Zz Zz sb rfl ?_ | refine w_B _ (hc2 _ _ hxc) Zz Zz Zz Zz Zz Zz Zz Zz Zz ft Zz Zz sb rfl ?_)
        first | (refine awpH_pass 14 rfl kr kr kr nh Zz Zz ?_) | (refine w_u [14] kr rfl ⟨?_, trivial⟩; first | (refine zho ?_) | refine w_B _ (hc3 _ _ hxc) Zz Zz Zz Zz Zz Zz Zz Zz Zz ft Zz Zz sb rfl ?_ | refine w_B _ (hc2 _ _ hxc) Zz Zz Zz Zz Zz Zz Zz Zz Zz ft Zz Zz sb rfl ?_)
        first | (refine zt15 ?_) | (refine zp15 ?_) | ((refine awpH_split 15 Zz Zz Zz Zz (fun hc => ?_) (fun hc => ?_) <;> try simp at hc) <;> (first | (refine zt15 ?_) | (refine zp15 ?_)))
        refine zt16 ?_
        refine w_v kr ?_
        rotate_left
        all_goals ((repeat' (first | refine stx ?_ | (refine stq ?_ ?_ <;> (intro hc; ((try simp at hc) <;> try contradiction))) | fail)) <;> try (exfalso; omega))
        all_goals exact ⟨[], k + 1, hkl, w_4, ⟨w_1, w_2, rfl⟩⟩
       ·rw [hirr (Ne.symm hik)] at hc3
        ((repeat' (first | refine stp ?_ | (refine stq ?_ ?_ <;> (intro hc; ((try simp at hc) <;> try contradiction))) | fail)) <;> try (exfalso; omega))
        refine awp_held TM [(4, _)] sb rfl (fun ρs => ?_)
        refine zt0 ?_
        refine zt1 ?_
        refine zt2 ?_
        refine zt3 ?_
        first | (refine zt4 ?_) | (refine zp4 ?_) | ((refine awpH_split 4 Zz Zz Zz Zz (fun hc => ?_) (fun hc => ?_) <;> try simp at hc) <;> (first | (refine zt4 ?_) | (refine zp4 ?_)))
        first | (refine zt5 ?_) | (refine zp5 ?_) | ((refine awpH_split 5 Zz Zz Zz Zz (fun hc => ?_) (fun hc => ?_) <;> try simp at hc) <;> (first | (refine zt5 ?_) | (refine zp5 ?_)))
        first | (refine awpH_pass 6 rfl kr kr kr nh Zz Zz ?_) | (refine w_u [6] kr rfl ⟨?_, trivial⟩; first | (refine zho ?_) | refine w_B _ (hc3 _ _ hxc) Zz Zz Zz Zz Zz Zz Zz Zz Zz ft Zz Zz sb rfl ?_ | refine w_B _ (hc2 _ _ hxc) Zz Zz Zz Zz Zz Zz Zz Zz Zz ft Zz Zz sb rfl ?_)
        refine zt7 ?_
        refine zt8 ?_
        first | (refine zt9 ?_) | (refine zp9 ?_) | ((refine awpH_split 9 Zz Zz Zz Zz (fun hc => ?_) (fun hc => ?_) <;> try simp at hc) <;> (first | (refine zt9 ?_) | (refine zp9 ?_)))
        first | (refine zt10 ?_) | (refine zp10 ?_) | ((refine awpH_split 10 Zz Zz Zz Zz (fun hc => ?_) (fun hc => ?_) <;> try simp at hc) <;> (first | (refine zt10 ?_) | (refine zp10 ?_)))
        first | (refine zt11 ?_) | (refine zp11 ?_) | ((refine awpH_split 11 Zz Zz Zz Zz (fun hc => ?_) (fun hc => ?_) <;> try simp at hc) <;> (first | (refine zt11 ?_) | (refine zp11 ?_)))
        first | (refine zt12 ?_) | (refine zp12 ?_) | ((refine awpH_split 12 Zz Zz Zz Zz (fun hc => ?_) (fun hc => ?_) <;> try simp at hc) <;> (first | (refine zt12 ?_) | (refine zp12 ?_)))
        first | (refine awpH_pass 13 rfl kr kr kr nh Zz Zz ?_) | (refine w_u [13] kr rfl ⟨?_, trivial⟩; first | (refine zho ?_) | refine w_B _ (hc3 _ _ hxc) Zz Zz Zz Zz Zz Zz Zz Zz Zz ft Zz Zz sb rfl ?_ | refine w_B _ (hc2 _ _ hxc) Zz Zz Zz Zz Zz Zz Zz Zz Zz ft Zz Zz sb rfl ?_)
        first | (refine awpH_pass 14 rfl kr kr kr nh Zz Zz ?_) | (refine w_u [14] kr rfl ⟨?_, trivial⟩; first | (refine zho ?_) | refine w_B _ (hc3 _ _ hxc) Zz Zz Zz Zz Zz Zz Zz Zz Zz ft Zz Zz sb rfl ?_ | refine w_B _ (hc2 _ _ hxc) Zz Zz Zz Zz Zz Zz Zz Zz Zz ft Zz Zz sb rfl ?_)
        first | (refine zt15 ?_) | (refine zp15 ?_) | ((refine awpH_split 15 Zz Zz Zz Zz (fun hc => ?_) (fun hc => ?_) <;> try simp at hc) <;> (first | (refine zt15 ?_) | (refine zp15 ?_)))
        refine zt16 ?_
        refine w_v kr ?_
        rotate_left
        all_goals ((repeat' (first | refine stx ?_ | (refine stq ?_ ?_ <;> (intro hc; ((try simp at hc) <;> try contradiction))) | fail)) <;> try (exfalso; omega))
        all_goals exact ⟨[], k + 1, hkl, w_4, ⟨w_1, w_2, rfl⟩⟩
     ·obtain rfl : k = lG.length := by omega
      ((repeat' (first | refine stx ?_ | (refine stq ?_ ?_ <;> (intro hc; ((try simp at hc) <;> try contradiction))) | fail)) <;> try (exfalso; omega))
      exact ⟨[], i + 1, hil, w_4, ⟨w_1, w_2, rfl⟩⟩
    ·obtain rfl : i = lG.length := by omega
     ((repeat' (first | refine stx ?_ | (refine stq ?_ ?_ <;> (intro hc; ((try simp at hc) <;> try contradiction))) | fail)) <;> try (exfalso; omega))
     all_goals refine fin_ret rfl w_3 (rfl) rfl
end Go.Proofs.YtfkbjkmlpinoeaaGreat
namespace Go.Proofs.YtfkbjkmlpinoeaaGreat
open Go.ChangeShapes Go.WideShapes Go.ChangeAt Go.RowKit Go.Joins
theorem Tryz.own : ownKnob Tryz.prog.godebug = none := by kernel_rfl
theorem Tryz.laidOut : laidOutB Tryz.prog = true := by kernel_rfl
theorem trodAll_below {H : Type} {enc : TypeId × Value → H} {P : Program} (hl : laidOutB P = true) {W W' : World} (hb : Below W.heap.size W W') :
    ∀ {ts : List TypeId} {vs : List Value} {ds : List (DataW H)} {ps : List MemPlace}, (∀ t ∈ ts, P.readableRec t = true ∧ t < P.types.size) →
      DataW.TrodAll enc P W 0 (fun _ => true) true ts vs ds ps → (∀ x ∈ ps, x.block < W.heap.size) → DataW.TrodAll enc P W' 0 (fun b => decide (b < W.heap.size)) true ts vs ds ps
  | [], vs, ds, ps, _, h, _ => by
    obtain ⟨rfl, rfl, rfl⟩ := trodAll_nil h
    exact trodAll_mk0
  | t :: ts, vs, ds, ps, ht, h, hlt => by
    obtain ⟨v, vs', d, ds', p, q, rfl, rfl, rfl, hd, hr⟩ := trodAll_cons h
    exact trodAll_cons_mk (Below.trod hl (ht t (by simp)).1 (ht t (by simp)).2 hd hb (fun x hx => hlt x (by simp [hx])))
      (trodAll_below hl hb (fun u hu => ht u (by simp [hu])) hr (fun x hx => hlt x (by simp [hx])))
theorem law_post {H : Type} {enc : TypeId × Value → H} {P : Program} (hl : laidOutB P = true) {f : Func} {s : ChangeSpec} {tb : TypeId} (hres : f.resultTypes = #[tb]) (hT : P.underlying tb = some .bool)
    (hp : ∀ t ∈ f.params.toList, P.readableRec t = true ∧ t < P.types.size) {W W' : World} {args : Array Value} {ds gs : List (DataW H)} {before : List MemPlace}
    (hvars : s.vars = []) (hW : DataW.Whole enc P f.params.toList s.vars false W args.toList ds gs before) (hfn : s.fn H (ds ++ gs) = { results := [.lit (.bool true)], args := ds }) (hb : Below W.heap.size W W') :
    s.post enc P f false true false false W args (.bool true) W' := by
  have hW0 := hW
  obtain ⟨p, q, hA, hV, hpq, hz, hn⟩ := hW
  have hlt : ∀ x ∈ p, x.block < W.heap.size := fun x hx => hW0.lt x (by rw [hpq]; simp [hx])
  refine ⟨ds, gs, before, [], p, [], hW0, ?_, ?_, ?_, hb.frame _, fun h => by cases h⟩
  · rw [hfn, hres]
    exact trodAll_mk1 (shut_bool hT true)
  · rw [hfn]
    exact trodAll_below hl hb hp hA hlt
  · rw [hfn, hvars]
    rfl
end Go.Proofs.YtfkbjkmlpinoeaaGreat
namespace Go.Proofs.YtfkbjkmlpinoeaaGreat
open Go.ChangeShapes Go.WideShapes Go.ChangeAt Go.RowKit Go.Joins
def plainB : Blk → Bool
  | .ro e => !e.flag
  | .dead => true
  | _ => false
theorem Elts.flag_rds {e : Elts} (h : e.flag = false) : e.rds = [] := by
  cases e with
  | rows q f l => simp only [Elts.flag] at h; subst h; rfl
  | vals f l => simp only [Elts.flag] at h; subst h; rfl
  | mats f l => simp only [Elts.flag] at h; subst h; rfl
  | _ => rfl
theorem plainB_sound {b : Blk} (h : plainB b = true) : b.isOwn = false ∧ b.isAl = false ∧ b.rds = [] ∧ ∀ g, ¬ b.Far g := by
  cases b with
  | dead => exact ⟨rfl, rfl, rfl, fun g ⟨x, hx, _⟩ => by cases hx⟩
  | ro e =>
    simp only [plainB, Bool.not_eq_true'] at h
    have h0 := Elts.flag_rds h
    exact ⟨rfl, rfl, h0, fun g ⟨x, hx, _⟩ => by have : x ∈ e.rds := hx
                                                rw [h0] at this; cases this⟩
  | _ => cases h
def roIn (Hin : List (Nat × Blk)) (n0 : Nat) : Bool := Hin.all fun p => Nat.blt p.1 n0 && plainB p.2 && p.2.keys.all fun k => Nat.blt k n0
def BlksOK (ρ : Rho) (w : World) : List (Nat × Blk) → Prop
  | [] => True
  | p :: r => BlkOK ρ p.1 w p.2 ∧ BlksOK ρ w r
theorem BlksOK.at_ {ρ : Rho} {w : World} : ∀ {l : List (Nat × Blk)}, BlksOK ρ w l → ∀ p ∈ l, BlkOK ρ p.1 w p.2
  | p :: r, h, q, hq => by
    rcases List.mem_cons.1 hq with rfl | hq
    · exact h.1
    · exact BlksOK.at_ h.2 q hq
theorem Does.gives {f : FuncId} {args : List AV} {Hin : List (Nat × Blk)} {n0 n : Nat} {v : AV} (h : Does Tryz.prog f args Hin n0 (Ret v n)) (ρ : Rho) (w : World) (h0 : ρ 0 = none) (hpos : 0 < n0) (hin : roIn Hin n0 = true)
    (hb : BlksOK ρ w Hin) (ha : leB n0 (args.flatMap AV.keys) = true) (hv : v.keys = []) : Gives Tryz.prog f (args.map (AV.conc ρ)).toArray w (v.conc ρ) := by
  have hk : ∀ {k b}, lk Hin k = some b → k < n0 ∧ b.isOwn = false ∧ (∀ k' ∈ b.keys, k' < n0) ∧ b.rds = [] ∧ ∀ g, ¬ b.Far g := fun hl => by
    have := List.all_eq_true.1 hin _ (lk_mem hl)
    simp only [Bool.and_eq_true, Bool.not_eq_true', List.all_eq_true] at this
    obtain ⟨f1, _, f2, f3⟩ := plainB_sound this.1.2
    exact ⟨nblt this.1.1, f1, fun k' hk' => nblt (this.2 k' hk'), f2, f3⟩
  have ha' := leB_sound ha
  refine Gives.of_below (Calls.mono (h.calls ρ w ⟨h0, fun k b hl => hb.at_ _ (lk_mem hl), fun k b hl => ⟨(hk hl).1, (hk hl).2.2.1⟩, fun k k' b b' p p' hl _ ho => ?_, fun k b p hl _ _ hge => ?_, fun k b hl ho => ?_, ⟨rfl, rfl, rfl, Nat.le_refl _, fun _ _ _ _ => rfl⟩, fun _ _ => rfl, Nat.le_refl _, hpos, fun k b hl x hx => ?_, fun k k' b b' p g hl _ ho => ?_, fun k k' t t' q q' l l' hl => ?_, fun k t q l hl => ?_, fun k k' t q l e p hl => ?_⟩
    (fun u hu k hk' => ha' k (List.mem_flatMap.2 ⟨u, hu, hk'⟩))) ?_)
  · rw [(hk hl).2.1] at ho; cases ho
  · have := (hk hl).1
    exact absurd hge (by simpa [envOf] using this)
  · rw [(hk hl).2.1] at ho; cases ho
  · rw [(hk hl).2.2.2.1] at hx; cases hx
  · rw [(hk hl).2.1] at ho; cases ho
  · cases (hk hl).2.1
  · cases (hk hl).2.1
  · cases (hk hl).2.1
  · rintro e w' ⟨ρ', v', Hout, n1, ⟨rfl, rfl, rfl⟩, rfl, hH, _⟩
    refine ⟨congrArg _ (AV.conc_congr fun k hk' => by rw [hv] at hk'; cases hk'), hH.keeps.os, hH.keeps.tape, hH.keeps.output, hH.keeps.size, fun b hlt => hH.keeps.block b hlt (fun k p _ ho _ => ?_) fun ⟨k, t, q, l, hl, _⟩ => ?_⟩
    · obtain ⟨b', hl, ho⟩ := ho
      rw [(hk hl).2.1] at ho; cases ho
    · cases (hk hl).2.1
def rhoOf (l : List (Nat × Option Addr)) : Rho := fun k => match lk l k with
  | some (some a) => some (a.block, a.off)
  | _ => none
def SlOK (A : Option Addr) : Prop := ∀ a, A = some a → a.spot = none
theorem rhoOf_adr {l : List (Nat × Option Addr)} {k : Nat} {A : Option Addr} (hA : SlOK A) (h : lk l k = some A) : adr (rhoOf l) k 0 = A := by
  cases A with
  | none => simp [adr, rhoOf, h]
  | some a =>
    have := hA a rfl
    cases a
    simp at this
    subst this
    simp [adr, rhoOf, h]
theorem RI.blk {l : List (Nat × Option Addr)} {k : Nat} {A : Option Addr} {w : World} {xs : List Int} (hR : RI w A xs) (h : lk l k = some A) : BlkOK (rhoOf l) k w (.ro (.ints xs)) := by
  cases A with
  | none =>
    have : ¬0 < xs.length := fun h => by obtain ⟨b, off, e, _⟩ := hR h; cases e
    have hρ : rhoOf l k = none := by simp [rhoOf, h]
    simp only [BlkOK, hρ, Elts.len]
    omega
  | some a =>
    have hρ : rhoOf l k = some (a.block, a.off) := by simp [rhoOf, h]
    simp only [BlkOK, hρ]
    refine ⟨fun hl => ?_, fun j u hu => ?_⟩
    · obtain ⟨b, off, e, hb, _⟩ := hR hl
      cases e; exact hb
    · simp only [Elts.all, List.getElem?_map, Option.map_eq_some_iff] at hu
      obtain ⟨n, hn, rfl⟩ := hu
      obtain ⟨hj, rfl⟩ := List.getElem?_eq_some_iff.1 hn
      obtain ⟨b, off, e, _, hc⟩ := hR (by omega)
      cases e; exact hc j hj
theorem okWide_spot {P : Program} {w : World} {r : Reach} {b : Nat} {t e : TypeId} {A : Option Addr} {n c : Nat} (ht : P.underlying t = some (.slice e)) (h : Cell.okWide P w r b t (.slice A n c)) : SlOK A ∧ n ≤ c := by
  simp only [Cell.okWide, ht] at h
  cases A with
  | none =>
    refine ⟨fun a e => (by cases e), ?_⟩
    simp only [Cell.ok, ht] at h
    split at h <;> simp_all
  | some a =>
    simp only [Cell.ok, ht] at h
    refine ⟨fun a' e => ?_, h.1⟩
    cases e
    exact h.2.2.2.1
end Go.Proofs.YtfkbjkmlpinoeaaGreat
namespace Go.Proofs.YtfkbjkmlpinoeaaGreat
open Go.ChangeShapes Go.WideShapes Go.ChangeAt Go.RowKit Go.Joins
def RB (w : World) (A : Option Addr) (xs : List Int) : Prop :=
  0 < xs.length → ∃ b off, A = some ⟨b, off, none⟩ ∧ b < w.heap.size ∧ ∀ k (h : k < xs.length), w.cell? ⟨b, off + k, none⟩ = some (.int .u8 xs[k])
set_option maxRecDepth 100000 in
theorem open_RB {H : Type} {enc : TypeId × Value → H} {w : World} {fuel : Nat} {cs : List Value} {x : DataW H × List MemPlace}
    (h : DataW.trod enc Tryz.prog w 0 (fun _ => true) true fuel 22 cs = some x) :
    ∃ (A : Option Addr) (c : Nat) (xs : List Int), cs = [.slice A xs.length c] ∧ xs.length ≤ 9223372036854775807 ∧ RB w A xs := by
  rcases open_ints Tryz.underlying22 Tryz.underlying5 (by kernel_rfl) h with ⟨rfl, _⟩ | ⟨a, len, cap, zs, rfl, _, hl, hm, hz, _, hc, hw⟩
  · exact ⟨none, 0, [], rfl, by simp, fun h => absurd h (by simp)⟩
  · simp only [if_true] at hz
    have hm' : cap ≤ 9223372036854775807 := by simpa [maxLen] using hm
    refine ⟨some a, cap, zs.take len, by simp; omega, by simp; omega, fun h0 => ?_⟩
    have hlen : len ≤ zs.length := by omega
    obtain ⟨b, off, rfl, hc'⟩ := ints_at hc (by simp at h0; omega)
    refine ⟨b, off, rfl, World.block_lt_of_cell? w ⟨b, off + 0, none⟩ (hc' 0 (by simp at h0; omega)), fun k hk => ?_⟩
    have hk' : k < zs.length := by simp at hk; omega
    rw [hc' k hk']
    simp [hk']
set_option maxRecDepth 100000 in
theorem open_RB_arg {H : Type} {enc : TypeId × Value → H} {w : World} {v : Value} {d : DataW H} {p : List MemPlace} {b : Nat}
    (hv : Value.okWide Tryz.prog w .any b 22 v) (h : DataW.Trod enc Tryz.prog w 0 (fun _ => true) true 22 v d p) :
    ∃ (A : Option Addr) (c : Nat) (xs : List Int), v = .slice A xs.length c ∧ xs.length ≤ 9223372036854775807 ∧ RB w A xs ∧ SlOK A ∧ xs.length ≤ c := by
  obtain ⟨a0, len, cap, rfl⟩ := okWide_slice Tryz.underlying22 hv
  obtain ⟨fuel, hf⟩ := h
  obtain ⟨A, c, xs, hcs, h1, h2⟩ := open_RB hf
  have : Value.slice a0 len cap = .slice A xs.length c := by simpa [Value.cells] using hcs
  cases this
  simp only [Value.okWide, Tryz.underlying22] at hv
  obtain ⟨h4, h5⟩ := okWide_spot Tryz.underlying22 hv
  exact ⟨_, _, xs, rfl, h1, h2, h4, h5⟩
theorem RB.blk {l : List (Nat × Option Addr)} {k : Nat} {A : Option Addr} {w : World} {xs : List Int} (hR : RB w A xs) (h : lk l k = some A) : BlkOK (rhoOf l) k w (.ro (.bytes xs)) := by
  cases A with
  | none =>
    have : ¬0 < xs.length := fun h => by obtain ⟨b, off, e, _⟩ := hR h; cases e
    have hρ : rhoOf l k = none := by simp [rhoOf, h]
    simp only [BlkOK, hρ, Elts.len]
    omega
  | some a =>
    have hρ : rhoOf l k = some (a.block, a.off) := by simp [rhoOf, h]
    simp only [BlkOK, hρ]
    refine ⟨fun hl => ?_, fun j u hu => ?_⟩
    · obtain ⟨b, off, e, hb, _⟩ := hR hl
      cases e; exact hb
    · simp only [Elts.all, List.getElem?_map, Option.map_eq_some_iff] at hu
      obtain ⟨n, hn, rfl⟩ := hu
      obtain ⟨hj, rfl⟩ := List.getElem?_eq_some_iff.1 hn
      obtain ⟨b, off, e, _, hc⟩ := hR (by omega)
      cases e; exact hc j hj
theorem code_gives {f : FuncId} (h : ∀ (bs : List Int) (c : Nat), Does Tryz.prog f [vS 1 1 0 bs.length c] [(1, .ro (.bytes bs))] 2 (Ret (vB true) 2)) (A : Option Addr) (c : Nat) (bs : List Int) (w : World) (hR : RB w A bs) (hs : SlOK A) : Gives Tryz.prog f #[.slice A bs.length c] w (.bool true) := by
  have h1 : roIn [(1, .ro (.bytes bs))] 2 = true := by simp [roIn, plainB, Elts.flag, Blk.keys, Elts.keys, Elts.all, bytes_keys]
  have h2 : BlksOK (rhoOf [(1, A)]) w [(1, .ro (.bytes bs))] := ⟨hR.blk (l := [(1, A)]) (k := 1) rfl, trivial⟩
  have h := Does.gives (h bs c) (rhoOf [(1, A)]) w rfl (by decide) h1 h2 Zz Zz
  have e1 : adr (rhoOf [(1, A)]) 1 0 = A := rhoOf_adr hs rfl
  have e2 : ([vS 1 1 0 bs.length c].map (AV.conc (rhoOf [(1, A)]))).toArray = #[.slice A bs.length c] := by simp [AV.conc, SV.conc, vS, e1]
  rw [e2] at h
  exact h
end Go.Proofs.YtfkbjkmlpinoeaaGreat
