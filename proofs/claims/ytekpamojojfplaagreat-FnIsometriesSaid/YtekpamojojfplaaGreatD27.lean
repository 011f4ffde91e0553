/-
  TEXTS OF THE PROOF, put together: bShS, bGdiag, bFits.
-/
import Derived.Test.YtekpamojojfplaaGreatD26
import Derived.Test.YtekpamojojfplaaGreatD20
import Derived.Test.YtekpamojojfplaaGreatD19
import Derived.Test.YtekpamojojfplaaGreatD25
import Derived.Test.YtekpamojojfplaaGreatD23
import Derived.Test.YtekpamojojfplaaGreatD21
set_option linter.unusedVariables false
set_option linter.unusedSimpArgs false
namespace Go.Proofs.YtekpamojojfplaaGreat
open Go.RowKit
theorem baseS_next {r c : Int} {g : List Int} {b : Int} {L : List (List Int)} {i : Nat} (h : i < L.length) : baseS r c g b (L.take (i + 1)) = baseS r c g b (L.take i) ++ (if conS r c g b L[i] then [(L[i], (vatO r c g L[i]).getD 0)] else []) := by
  rw [List.take_succ_eq_append_getElem h, baseS, List.filter_append, List.map_append]
  congr 1
  cases hc : conS r c g b L[i] <;> simp [hc]
theorem put_perm {α : Type} {l l' : List α} {r : α} {k : Nat} (h : l' = l.take k ++ r :: l.drop k) : l'.Perm (r :: l) := by
  rw [h]
  refine List.perm_middle.trans (List.Perm.cons _ ?_)
  rw [List.take_append_drop]
theorem put_lens {α : Type} {l l' : List α} {hs hs' : List Int} {r : α} {z : Int} {k m1 m2 : Nat} (hm1 : m1 = l.length + 1) (hm2 : m2 = l.length + 1) (h : hs' = hs.take k ++ z :: hs.drop k) (hp : l'.Perm (r :: l)) (hk : k ≤ l.length) (hl : hs.length = l.length) : m1 = l'.length ∧ m2 = hs'.length := by
  constructor
  · rw [hm1, hp.length_eq]; rfl
  · rw [hm2, h, List.length_append, List.length_cons, List.length_take, List.length_drop]; omega
set_option maxRecDepth 100000 in
set_option maxHeartbeats 16000000 in
theorem d_shS (r c : Int) (g : List Int) (b : Int) (ca : Nat) (hl : g.length ≤ 1099511627776) : Does Tryz.prog 130 [vM r c 1 g.length ca, vI b] [(1, .ro (.ints g))] 2 (PtsR 24 3 (shO r c g b) 2) := by
 have hr := d_boxOS r c g b ca hl
 refine Does.intro TT Tryz.func130 rfl (by kernel_rfl) Zz Zz fun E hE => ?_
 cases hB : boxG r c g b with
 | none =>
  rw [hB] at hr
  rw [shO_no1 hB]
  ((repeat' (first | refine stx ?_ | ((refine zqe (hr) ?_); rintro v Hout n1 ⟨cw, hcw, rfl, rfl, rfl⟩) | (refine stq ?_ ?_ <;> (intro hc; ((try simp at hc) <;> try contradiction))) | fail)) <;> try (exfalso; omega))
  exact fin rfl w_3 [(2, 4)] (.tup [.one (.sl 2 1 0 0 0), .one (.bool false)]) [(2, .own 24 0 (.rows false true []))] 3 ⟨rfl, rfl, rfl⟩ rfl ⟨trivial, ⟨rfl, trivial⟩, rfl⟩ rfl
 | some w =>
  rw [hB] at hr
  obtain ⟨n, rfl, rfl, hn, hd, hb0, hb1, hwl, hw0, -⟩ := boxG_some hB
  have hwn : w.all numB = true := all_num fun k _ => by have := hw0 k; omega
  have hw0' : ∀ k, 0 ≤ w.getD k 0 := fun k => (hw0 k).1
  have hbx := fun ca cb m1 m2 (h1 : m1 = (w.map fun x => -x).length) (h2 : m2 = (w.map fun x => -x).length) => (by
   subst h1
   exact d_boxS (w.map fun x => -x) w ca cb m2 (by simp) h2 (by simp; omega) (neg_num hwn) (fun n hn => List.all_eq_true.1 hwn n hn) (fun k _ => neg_wid hw0' k) : Does Tryz.prog 168 [vS 1 1 0 m1 ca, vS 2 1 0 m2 cb] [(1, .ro (.ints (w.map fun x => -x))), (2, .ro (.ints w))] 3 _)
  ((repeat' (first | refine stx ?_ | ((refine zqe (hr) ?_); rintro v Hout n1 ⟨cw, hcw, rfl, rfl, rfl⟩) | (refine stq ?_ ?_ <;> (intro hc; ((try simp at hc) <;> try contradiction))) | fail)) <;> try (exfalso; omega))
  refine w_G hE (fun x : Nat × Nat => x.1 ≤ w.length ∧ x.1 ≤ x.2) (fun x => w.length - x.1)
   (fun x => [(1, vI b), (2, .one (.ptr 2 3 0 0)), (6, vS 3 1 0 w.length cw), (8, vS 4 1 0 x.1 x.2), (9, vI x.1)])
   (fun x => [(1, .ro (.ints g)), (2, .own 26 1 (.lit [.int n, .int n, .sl 1 1 0 g.length ca])), (3, .own 3 cw (.ints w)), (4, .own 3 x.2 (.ints ((w.map fun x => -x).take x.1)))]) 5 [] (0, 0) ⟨Nat.zero_le _, Nat.zero_le _⟩ ⟨w_1, w_2, rfl⟩ ?_
  rintro ⟨k, cap⟩ ⟨h1, h2⟩
  dsimp only at h1 h2
  by_cases hkw : k < w.length
  ·have e0 : w.getD (0 + (k : Int).toNat) 0 = w[k] := by rw [show 0 + (k : Int).toNat = k by omega, getD_in hkw]
   have hwk := hw0 k
   have hwk2 : -400000000 ≤ w[k]?.getD 0 ∧ w[k]?.getD 0 ≤ 400000000 := by rw [← List.getD_eq_getElem?_getD]; omega
   have en : (w.map fun x => -x).take (k + 1) = (w.map fun x => -x).take k ++ [-(w.getD (0 + (k : Int).toNat) 0)] := by
    rw [List.take_succ_eq_append_getElem (by simpa using hkw), List.getElem_map, e0]
   have ek : ((w.map fun x => -x).take k).length = k := by rw [List.length_take]; simp; omega
   ((repeat' (first | refine stx ?_ | (refine zqx ?_; intro cap hcap) | (refine stq ?_ ?_ <;> (intro hc; ((try simp at hc) <;> try contradiction))) | fail)) <;> try (exfalso; omega))
   exact ⟨[(4, 6)], (k + 1, cap), ⟨hkw, by dsimp only; omega⟩, w_4, ⟨w_1, ⟨rfl, rfl, rfl, own_ints en.symm, trivial⟩, rfl⟩⟩
  ·obtain rfl : k = w.length := by omega
   rw [List.take_of_length_le (by simp)]
   cases hO : boxO (w.map fun x => -x) w with
   | none =>
    rw [hO] at hbx
    rw [shO_no2 hB hO]
    ((repeat' (first | refine stx ?_ | ((refine w_E (hbx _ _ _ _ (by simp) (by simp)) Zz Zz Zz Zz Zz Zz Zz ft rfl ?_); rintro v Hout n1 ⟨rfl, rfl, rfl⟩) | (refine stq ?_ ?_ <;> (intro hc; ((try simp at hc) <;> try contradiction))) | fail)) <;> try (exfalso; omega))
    exact fin rfl w_3 [(2, 6)] (.tup [.one (.sl 2 1 0 0 0), .one (.bool false)]) [(2, .own 24 0 (.rows false true []))] 3 ⟨rfl, rfl, rfl⟩ rfl ⟨trivial, ⟨rfl, trivial⟩, rfl⟩ rfl
   | some L =>
    rw [hO] at hbx
    rw [shO_yes hB hO]
    have hsm := box_sm hw0' hO
    ((repeat' (first | refine stx ?_ | ((refine w_E (hbx _ _ _ _ (by simp) (by simp)) Zz Zz Zz Zz Zz Zz Zz ft rfl ?_); rintro v Hout n1 ⟨l, cap, hlL, rfl, rfl, rfl⟩) | (refine stq ?_ ?_ <;> (intro hc; ((try simp at hc) <;> try contradiction))) | fail)) <;> try (exfalso; omega))
    have hl4 : l.length ≤ 4000 := by
     have := box_4000 (fun k _ => neg_wid hw0' k) hO
     rw [← hlL, rowsX, List.length_map] at this; exact this
    ((first | refine awpL_ghost (Ghost.partN 6 (l.map stripR) rfl (fun r hr => by obtain ⟨r0, h0, rfl⟩ := List.mem_map.1 hr; exact ⟨r0, h0, rfl, rfl, rfl⟩) (fun h => List.pairwise_map.2 (h.imp fun h => h))) ?_ | refine awp_ghost (Ghost.partN 6 (l.map stripR) rfl (fun r hr => by obtain ⟨r0, h0, rfl⟩ := List.mem_map.1 hr; exact ⟨r0, h0, rfl, rfl, rfl⟩) (fun h => List.pairwise_map.2 (h.imp fun h => h))) ?_ | refine awpH_ghost (Ghost.partN 6 (l.map stripR) rfl (fun r hr => by obtain ⟨r0, h0, rfl⟩ := List.mem_map.1 hr; exact ⟨r0, h0, rfl, rfl, rfl⟩) (fun h => List.pairwise_map.2 (h.imp fun h => h))) ?_ | refine awpHop_ghost (Ghost.partN 6 (l.map stripR) rfl (fun r hr => by obtain ⟨r0, h0, rfl⟩ := List.mem_map.1 hr; exact ⟨r0, h0, rfl, rfl, rfl⟩) (fun h => List.pairwise_map.2 (h.imp fun h => h))) ?_); rintro _ _ ⟨rfl, rfl⟩)
    ((first | refine awpL_ghost (Ghost.retell 5 6 (.rows false true (l.map stripR)) Zz Zz (by show (l.map stripR).flatMap _ = l.flatMap _; rw [List.flatMap_map]; rfl) (by show (l.map stripR).length = l.length; exact List.length_map _) rfl (fun x hx => by obtain ⟨r, hr, rfl⟩ := List.mem_map.1 hx; exact ⟨rfl, hr⟩)) ?_ | refine awp_ghost (Ghost.retell 5 6 (.rows false true (l.map stripR)) Zz Zz (by show (l.map stripR).flatMap _ = l.flatMap _; rw [List.flatMap_map]; rfl) (by show (l.map stripR).length = l.length; exact List.length_map _) rfl (fun x hx => by obtain ⟨r, hr, rfl⟩ := List.mem_map.1 hx; exact ⟨rfl, hr⟩)) ?_ | refine awpH_ghost (Ghost.retell 5 6 (.rows false true (l.map stripR)) Zz Zz (by show (l.map stripR).flatMap _ = l.flatMap _; rw [List.flatMap_map]; rfl) (by show (l.map stripR).length = l.length; exact List.length_map _) rfl (fun x hx => by obtain ⟨r, hr, rfl⟩ := List.mem_map.1 hx; exact ⟨rfl, hr⟩)) ?_ | refine awpHop_ghost (Ghost.retell 5 6 (.rows false true (l.map stripR)) Zz Zz (by show (l.map stripR).flatMap _ = l.flatMap _; rw [List.flatMap_map]; rfl) (by show (l.map stripR).length = l.length; exact List.length_map _) rfl (fun x hx => by obtain ⟨r, hr, rfl⟩ := List.mem_map.1 hx; exact ⟨rfl, hr⟩)) ?_); rintro _ _ ⟨rfl, rfl⟩)
    have hlx : rowsX (l.map stripR) = L := by rw [← hlL, rowsX, rowsX, List.map_map]; rfl
    have hlps : ∀ r ∈ l.map stripR, r.ps = [] := fun r hr => by obtain ⟨r0, h0, rfl⟩ := List.mem_map.1 hr; rfl
    have hll : (l.map stripR).length = l.length := List.length_map _
    generalize l.map stripR = ls at *
    have hLl : L.length = ls.length := by rw [← hlx, rowsX, List.length_map]
    have hrow : ∀ r ∈ ls, r.xs.length = n := fun r hr => by
     obtain ⟨g1, g2⟩ := hsm r.xs (by rw [← hlx]; exact List.mem_map.2 ⟨r, hr, rfl⟩)
     rw [hwl] at g1
     exact g1
    refine w_G hE (fun x : Nat × List Row × List Int × Nat × Nat => x.1 ≤ l.length ∧ x.2.2.1.length = x.2.1.length ∧ (x.2.1.map Row.xs).zip x.2.2.1 = putsV (baseS n n g b (L.take x.1)) ∧ x.2.1.Perm ((ls.take x.1).filter fun r => conS n n g b r.xs) ∧ x.2.1.length ≤ x.2.2.2.1 ∧ x.2.1.length ≤ x.2.2.2.2) (fun x => l.length - x.1)
     (fun x => [(1, vI b), (2, .one (.ptr 2 3 0 0)), (10, vS 5 1 0 l.length cap), (12, vS 7 1 0 x.2.1.length x.2.2.2.1), (13, vS 8 1 0 x.2.2.1.length x.2.2.2.2), (14, vI x.1)])
     (fun x => [(1, .ro (.ints g)), (2, .own 26 1 (.lit [.int n, .int n, .sl 1 1 0 g.length ca])), (5, .own 24 cap (.rows false true ls)), (6, .tok 3 false ls), (7, .own 24 x.2.2.2.1 (.rows false true x.2.1)), (8, .own 3 x.2.2.2.2 (.ints x.2.2.1))]) 9 [] (0, [], [], 0, 0) ⟨Nat.zero_le _, rfl, rfl, List.Perm.refl _, Nat.le_refl _, Nat.le_refl _⟩ ⟨w_1, w_2, rfl⟩ ?_
    rintro ⟨i, pl, ph, d1, d2⟩ ⟨h1, h2, h3, h4, h5, h6⟩
    dsimp only at h1 h2 h3 h4 h5 h6
    have hpl : pl.length ≤ i := by
     rw [h4.length_eq]
     exact Nat.le_trans (List.length_filter_le _ _) (by rw [List.length_take]; omega)
    have hplm : ∀ r ∈ pl, r ∈ ls := fun r hr => List.mem_of_mem_take (List.mem_filter.1 (h4.mem_iff.1 hr)).1
    by_cases hi : i < l.length
    ·have hils : i < ls.length := by omega
     have hiL : i < L.length := by omega
     have e1 : (ls.getD (0 + (i : Int).toNat) rowD) = ls[i] := by rw [show 0 + (i : Int).toNat = i by omega, getD_in hils]
     have eL : L[i] = (ls.getD (0 + (i : Int).toNat) rowD).xs := by rw [e1]; subst hlx; simp [rowsX]
     have em : (ls.getD (0 + (i : Int).toNat) rowD) ∈ ls := by rw [e1]; exact List.getElem_mem hils
     have g1 := hrow (ls.getD (0 + (i : Int).toNat) rowD) em
     have g4 := row_eta (hlps (ls.getD (0 + (i : Int).toNat) rowD) em)
     have hnx := baseS_next (r := n) (c := n) (g := g) (b := b) hiL
     rw [eL] at hnx
     have hfx : (ls.take (i + 1)).filter (fun r => conS n n g b r.xs) = (ls.take i).filter (fun r => conS n n g b r.xs) ++ (if conS n n g b (ls.getD (0 + (i : Int).toNat) rowD).xs then [(ls.getD (0 + (i : Int).toNat) rowD)] else []) := by
      rw [e1, List.take_succ_eq_append_getElem hils, List.filter_append]
      congr 1
      cases hc : conS n n g b ls[i].xs <;> simp [hc]
     have hpo := fun n c (hn : n = (ls.getD (0 + (i : Int).toNat) rowD).xs.length) => d_posS (ls.getD (0 + (i : Int).toNat) rowD).xs n c hn (by omega)
     have hva := fun m cv (hm : m = (ls.getD (0 + (i : Int).toNat) rowD).xs.length) => (by subst hm; exact d_valS n n g (ls.getD (0 + (i : Int).toNat) rowD).xs ca cv hl (by omega) : Does Tryz.prog 166 [vM n n 1 g.length ca, vS 2 1 0 m cv] [(1, .ro (.ints g)), (2, .ro (.ints (ls.getD (0 + (i : Int).toNat) rowD).xs))] 3 (Ret (valT (vatO n n g (ls.getD (0 + (i : Int).toNat) rowD).xs)) 3))
     have hskip : ¬ conS n n g b (ls.getD (0 + (i : Int).toNat) rowD).xs = true → putsV (baseS n n g b (L.take i)) = putsV (baseS n n g b (L.take (i + 1))) ∧ (ls.take i).filter (fun r => conS n n g b r.xs) = (ls.take (i + 1)).filter (fun r => conS n n g b r.xs) := fun hcn => ⟨by rw [hnx, if_neg hcn, List.append_nil], by rw [hfx, if_neg hcn, List.append_nil]⟩
     cases cv : vatO n n g (ls.getD (0 + (i : Int).toNat) rowD).xs with
     | none =>
      have hcn : ¬ conS n n g b (ls.getD (0 + (i : Int).toNat) rowD).xs = true := by rw [conS, cv]; simp
      obtain ⟨k1, k2⟩ := hskip hcn
      rw [cv] at hva
      ((repeat' (first | refine stp ?_ | (refine stq ?_ ?_ <;> (intro hc; ((try simp at hc) <;> try contradiction))) | fail)) <;> try (exfalso; omega))
      refine awp_held TM [(2, _), (5, _)] sb rfl (fun ρs => ?_)
      refine zt0 ?_
      refine zt1 ?_
      refine zt2 ?_
      refine zt3 ?_
      refine w_u [4] kr rfl ⟨?_, trivial⟩
      first | (refine zho ?_) | (refine zqf (hva _ _ rfl) ?_; rintro v Hout n1 ⟨rfl, rfl, rfl⟩; refine ⟨sb, ?_⟩)
      refine w_u [5] kr rfl ⟨?_, trivial⟩
      first | (refine zho ?_) | (refine zqf (hva _ _ rfl) ?_; rintro v Hout n1 ⟨rfl, rfl, rfl⟩; refine ⟨sb, ?_⟩)
      refine zt6 ?_
      refine zt7 ?_
      refine zt8 ?_
      refine zt9 ?_
      refine zt10 ?_
      refine w_v kr ?_
      rotate_left
      all_goals ((repeat' (first | refine stx ?_ | (refine stq ?_ ?_ <;> (intro hc; ((try simp at hc) <;> try contradiction))) | fail)) <;> try (exfalso; omega))
      all_goals exact ⟨[], (i + 1, pl, ph, d1, d2), ⟨hi, h2, by dsimp only; rw [← k1]; exact h3, by dsimp only; rw [← k2]; exact h4, h5, h6⟩, w_4, ⟨w_1, w_2, rfl⟩⟩
     | some z =>
      rw [cv] at hva
      by_cases hzb : z ≤ b
      ·have hzb2 : ¬ b < z := by omega
       cases cp : posF (ls.getD (0 + (i : Int).toNat) rowD).xs with
       | false =>
        have hcn : ¬ conS n n g b (ls.getD (0 + (i : Int).toNat) rowD).xs = true := by rw [conS, cp]; simp
        obtain ⟨k1, k2⟩ := hskip hcn
        rw [cp] at hpo
        ((repeat' (first | refine stp ?_ | (refine stq ?_ ?_ <;> (intro hc; ((try simp at hc) <;> try contradiction))) | fail)) <;> try (exfalso; omega))
        refine awp_held TM [(2, _), (5, _)] sb rfl (fun ρs => ?_)
        refine zt0 ?_
        refine zt1 ?_
        refine zt2 ?_
        refine zt3 ?_
        refine w_u [4] kr rfl ⟨?_, trivial⟩
        first | (refine zho ?_) | (refine zqf (hva _ _ rfl) ?_; rintro v Hout n1 ⟨rfl, rfl, rfl⟩; refine ⟨sb, ?_⟩)
        refine w_u [5] kr rfl ⟨?_, trivial⟩
        first | (refine zho ?_) | (refine zqf (hva _ _ rfl) ?_; rintro v Hout n1 ⟨rfl, rfl, rfl⟩; refine ⟨sb, ?_⟩)
        refine zt6 ?_
        refine zt7 ?_
        refine zt8 ?_
        refine zt9 ?_
        refine zt10 ?_
        refine w_v kr ?_
        rotate_left
        all_goals ((repeat' (first | refine stx ?_ | refine zqc (hpo _ _ rfl) ?_ | (refine stq ?_ ?_ <;> (intro hc; ((try simp at hc) <;> try contradiction))) | fail)) <;> try (exfalso; omega))
        all_goals exact ⟨[], (i + 1, pl, ph, d1, d2), ⟨hi, h2, by dsimp only; rw [← k1]; exact h3, by dsimp only; rw [← k2]; exact h4, h5, h6⟩, w_4, ⟨w_1, w_2, rfl⟩⟩
       | true =>
        have hz1 := vat_pos hd cp cv
        have hcp : conS n n g b (ls.getD (0 + (i : Int).toNat) rowD).xs = true := by rw [conS, cp, cv]; simp [hz1, hzb]
        rw [cp] at hpo
        have hpu := fun a0 cv c1 c2 m (hm : m = (ls.getD (0 + (i : Int).toNat) rowD).xs.length) (q1 : pl.length ≤ c1) (q2 : pl.length ≤ c2) => d_putS pl ph a0 cv ph.length c1 c2 m (ls.getD (0 + (i : Int).toNat) rowD).xs z hm h2 h2 (by omega) (by omega) q1 q2 (fun r hr => by rw [hrow r (hplm r hr), g1])
        ((repeat' (first | refine stp ?_ | (refine stq ?_ ?_ <;> (intro hc; ((try simp at hc) <;> try contradiction))) | fail)) <;> try (exfalso; omega))
        refine awp_held TM [(2, _), (5, _)] sb rfl (fun ρs => ?_)
        refine zt0 ?_
        refine zt1 ?_
        refine zt2 ?_
        refine zt3 ?_
        refine w_u [4] kr rfl ⟨?_, trivial⟩
        first | (refine zho ?_) | (refine zqf (hva _ _ rfl) ?_; rintro v Hout n1 ⟨rfl, rfl, rfl⟩; refine ⟨sb, ?_⟩)
        refine w_u [5] kr rfl ⟨?_, trivial⟩
        first | (refine zho ?_) | (refine zqf (hva _ _ rfl) ?_; rintro v Hout n1 ⟨rfl, rfl, rfl⟩; refine ⟨sb, ?_⟩)
        refine zt6 ?_
        refine zt7 ?_
        refine zt8 ?_
        refine zt9 ?_
        refine zt10 ?_
        refine w_v kr ?_
        rotate_left
        all_goals ((repeat' (first | refine stx ?_ | refine zqc (hpo _ _ rfl) ?_ | ((refine zqe (hpu _ _ _ _ _ rfl h5 h6) ?_); rintro v Hout n1 ⟨kk, m1, m2, q1, q2, l', hs', hk1, hk2, hk3, hm1, hm2, hl', hhs', hq1, hq2, rfl, rfl, rfl⟩; rw [g4] at hl' hk2 hk3; have hpe := put_perm hl'; obtain ⟨hm1', hm2'⟩ := put_lens hm1 hm2 hhs' hpe hk1 h2; subst hm1' hm2'; ((first | refine awpL_ghost (Ghost.tell 12 6 (.rows false true l') Zz Zz Zz (fun x hx => by obtain ⟨r, hr, rfl⟩ := List.mem_map.1 hx; exact ⟨rfl, by rcases List.mem_cons.1 (hpe.mem_iff.1 hr) with e | e; (rw [e]; exact em); exact hplm r e⟩)) ?_ | refine awp_ghost (Ghost.tell 12 6 (.rows false true l') Zz Zz Zz (fun x hx => by obtain ⟨r, hr, rfl⟩ := List.mem_map.1 hx; exact ⟨rfl, by rcases List.mem_cons.1 (hpe.mem_iff.1 hr) with e | e; (rw [e]; exact em); exact hplm r e⟩)) ?_ | refine awpH_ghost (Ghost.tell 12 6 (.rows false true l') Zz Zz Zz (fun x hx => by obtain ⟨r, hr, rfl⟩ := List.mem_map.1 hx; exact ⟨rfl, by rcases List.mem_cons.1 (hpe.mem_iff.1 hr) with e | e; (rw [e]; exact em); exact hplm r e⟩)) ?_ | refine awpHop_ghost (Ghost.tell 12 6 (.rows false true l') Zz Zz Zz (fun x hx => by obtain ⟨r, hr, rfl⟩ := List.mem_map.1 hx; exact ⟨rfl, by rcases List.mem_cons.1 (hpe.mem_iff.1 hr) with e | e; (rw [e]; exact em); exact hplm r e⟩)) ?_); rintro _ _ ⟨rfl, rfl⟩)) | (refine stq ?_ ?_ <;> (intro hc; ((try simp at hc) <;> try contradiction))) | fail)) <;> try (exfalso; omega))
        all_goals
         refine ⟨[(7, 12), (8, 13)], (i + 1, l', hs', q1, q2), ⟨hi, by dsimp only; omega, ?_, ?_, hq1, by dsimp only; omega⟩, w_4, ⟨w_1, ⟨rfl, rfl, rfl, rfl, rfl, rfl, trivial⟩, rfl⟩⟩
         ·dsimp only
          rw [hnx, if_pos hcp, cv, putsV_snoc, ← h3, hl', hhs']
          exact put_zip h2 hk1 hk2 hk3
         ·dsimp only
          rw [hfx, if_pos hcp]
          exact hpe.trans ((List.Perm.cons _ h4).trans (List.perm_append_singleton _ _).symm)
      ·have hzb2 : b < z := by omega
       have hcn : ¬ conS n n g b (ls.getD (0 + (i : Int).toNat) rowD).xs = true := by rw [conS, cv]; simp [hzb]
       obtain ⟨k1, k2⟩ := hskip hcn
       ((repeat' (first | refine stp ?_ | (refine stq ?_ ?_ <;> (intro hc; ((try simp at hc) <;> try contradiction))) | fail)) <;> try (exfalso; omega))
       refine awp_held TM [(2, _), (5, _)] sb rfl (fun ρs => ?_)
       refine zt0 ?_
       refine zt1 ?_
       refine zt2 ?_
       refine zt3 ?_
       refine w_u [4] kr rfl ⟨?_, trivial⟩
       first | (refine zho ?_) | (refine zqf (hva _ _ rfl) ?_; rintro v Hout n1 ⟨rfl, rfl, rfl⟩; refine ⟨sb, ?_⟩)
       refine w_u [5] kr rfl ⟨?_, trivial⟩
       first | (refine zho ?_) | (refine zqf (hva _ _ rfl) ?_; rintro v Hout n1 ⟨rfl, rfl, rfl⟩; refine ⟨sb, ?_⟩)
       refine zt6 ?_
       refine zt7 ?_
       refine zt8 ?_
       refine zt9 ?_
       refine zt10 ?_
       refine w_v kr ?_
       rotate_left
       all_goals ((repeat' (first | refine stx ?_ | (refine stq ?_ ?_ <;> (intro hc; ((try simp at hc) <;> try contradiction))) | fail)) <;> try (exfalso; omega))
       all_goals exact ⟨[], (i + 1, pl, ph, d1, d2), ⟨hi, h2, by dsimp only; rw [← k1]; exact h3, by dsimp only; rw [← k2]; exact h4, h5, h6⟩, w_4, ⟨w_1, w_2, rfl⟩⟩
    ·obtain rfl : i = l.length := by omega
     rw [List.take_of_length_le (by omega)] at h3 h4
     have hfst : (putsV (baseS n n g b L)).map Prod.fst = rowsX pl := by rw [← h3, List.map_fst_zip (by simp [h2])]; rfl
     ((first | refine awpL_ghost (Ghost.part 6 (l' := pl) rfl (fun r hr => hplm r hr) (fun hp => (h4.pairwise_iff (fun h => h.symm)).2 (hp.sublist List.filter_sublist))) ?_ | refine awp_ghost (Ghost.part 6 (l' := pl) rfl (fun r hr => hplm r hr) (fun hp => (h4.pairwise_iff (fun h => h.symm)).2 (hp.sublist List.filter_sublist))) ?_ | refine awpH_ghost (Ghost.part 6 (l' := pl) rfl (fun r hr => hplm r hr) (fun hp => (h4.pairwise_iff (fun h => h.symm)).2 (hp.sublist List.filter_sublist))) ?_ | refine awpHop_ghost (Ghost.part 6 (l' := pl) rfl (fun r hr => hplm r hr) (fun hp => (h4.pairwise_iff (fun h => h.symm)).2 (hp.sublist List.filter_sublist))) ?_); rintro _ _ ⟨rfl, rfl⟩)
     ((repeat' (first | refine stx ?_ | (refine stq ?_ ?_ <;> (intro hc; ((try simp at hc) <;> try contradiction))) | fail)) <;> try (exfalso; omega))
     exact fin rfl w_3 [(2, 7), (3, 6)] (.tup [.one (.sl 2 1 0 pl.length d1), .one (.bool true)]) [(2, .own 24 d1 (.rows false true pl)), (3, .tok 3 false pl)] 4
      ⟨pl, d1, hfst.symm, rfl, rfl, rfl⟩ rfl ⟨trivial, ⟨rfl, rfl, trivial⟩, rfl⟩ rfl
end Go.Proofs.YtekpamojojfplaaGreat
namespace Go.Proofs.YtekpamojojfplaaGreat
open Go.RowKit
set_option maxRecDepth 100000 in
set_option maxHeartbeats 4000000 in
theorem d_gdI (n : Nat) (g : List Int) (ca : Nat) (hn : n ≤ 6) (hx : g.length = n * n) (hnum : g.all numB = true) : Does Tryz.prog 45 [vM n n 1 g.length ca] [(1, .ro (.ints g))] 2 (Ret (vI (gdTo g n n)) 2) := by
 refine Does.intro TT Tryz.func45 rfl (by kernel_rfl) Zz Zz fun E hE => ?_
 ((repeat' (first | refine stx ?_ | (refine stq ?_ ?_ <;> (intro hc; ((try simp at hc) <;> try contradiction))) | fail)) <;> try (exfalso; omega))
 refine w_G hE (fun i : Nat => i ≤ n) (fun i => n - i)
  (fun i => [(1, .one (.ptr 2 3 0 0)), (3, vI (gdTo g n i)), (4, vI i)])
  (fun _ => [(1, .ro (.ints g)), (2, .own 26 1 (.lit [.int n, .int n, .sl 1 1 0 g.length ca]))]) 3 [] 0 (Nat.zero_le _) ⟨w_1, w_2, rfl⟩ ?_
 intro i hi
 by_cases hin : i < n
 ·have hin2 : ¬ n ≤ i := by omega
  have hat := d_atN n n i i g.length ca g rfl hx (by omega) (by omega) hin hin
  have hmd := gdTo_bd hnum (n := n) i
  have hnx : gdTo g n (i + 1) = max (gdTo g n i) (g.getD (i * n + i) 0) := rfl
  ((repeat' (first | refine stx ?_ | refine zqc (hat) ?_ | (refine stq ?_ ?_ <;> (intro hc; ((try simp at hc) <;> try contradiction))) | fail)) <;> try (exfalso; omega))
  all_goals refine ⟨[], i + 1, hin, w_4, ⟨⟨rfl, congrArg some (congrArg vI ?_), rfl, trivial⟩, ⟨rfl, rfl, trivial⟩, rfl⟩⟩
  all_goals (rw [hnx]; (try simp only [Int.max_def]); (repeat' split) <;> omega)
 ·obtain rfl : i = n := by omega
  ((repeat' (first | refine stx ?_ | (refine stq ?_ ?_ <;> (intro hc; ((try simp at hc) <;> try contradiction))) | fail)) <;> try (exfalso; omega))
  exact fin rfl w_3 [] (vI (gdTo g i i)) [] 2 ⟨rfl, rfl, rfl⟩ rfl ⟨trivial, trivial, rfl⟩ rfl
end Go.Proofs.YtekpamojojfplaaGreat
namespace Go.Proofs.YtekpamojojfplaaGreat
open Go.RowKit
abbrev isoL (n gl cg hl ch cl cc : Nat) (most : Int) (fk fl fc : Nat) : List SV := [.int n, .int n, .sl 1 1 0 gl cg, .int n, .int n, .sl 2 1 0 hl ch, .sl 3 1 0 cl cc, .int most, .sl fk 3 0 fl fc]
def okAt (g h : List Int) (n : Nat) (rows : List (List Int)) (x : List Int) (k : Nat) : Prop := prodH h n x (if k < rows.length then rows.getD k [] else x) = g.getD (rows.length * n + k) 0
theorem fitB_all {g h : List Int} {n : Nat} {rows : List (List Int)} {x : List Int} (hk : ∀ k, k < rows.length + 1 → okAt g h n rows x k) : fitB g h n rows x = true := by
  unfold fitB
  rw [Bool.and_eq_true, decide_eq_true_eq, decide_eq_true_eq]
  refine ⟨fun k hkl => ?_, ?_⟩
  · have := hk k (by omega)
    unfold okAt at this
    rwa [if_pos hkl] at this
  · have := hk rows.length (by omega)
    unfold okAt at this
    rwa [if_neg (by omega)] at this
theorem fitB_no {g h : List Int} {n : Nat} {rows : List (List Int)} {x : List Int} {k : Nat} (hk : k < rows.length + 1) (h0 : ¬ okAt g h n rows x k) : fitB g h n rows x = false := by
  rw [Bool.eq_false_iff]
  intro hf
  unfold fitB at hf
  rw [Bool.and_eq_true, decide_eq_true_eq, decide_eq_true_eq] at hf
  refine h0 ?_
  unfold okAt
  by_cases c : k < rows.length
  · rw [if_pos c]; exact hf.1 k c
  · obtain rfl : k = rows.length := by omega
    rw [if_neg c]; exact hf.2
set_option maxRecDepth 100000 in
set_option maxHeartbeats 16000000 in
theorem d_fits (n cg ch cl cc fl fc c4 cx m : Nat) (most : Int) (g h x : List Int) (lr : List Row) (hn : n ≤ 6) (hg : g.length = n * n) (hh : h.length = n * n) (hgn : g.all numB = true) (hhn : h.all numB = true) (hlr : lr.length < n) (hr : ∀ r ∈ lr, Sm n r.xs) (hx : Sm n x) (hm : m = x.length) :
    Does Tryz.prog 98 [.one (.ptr 5 9 0 0), vS 4 1 0 lr.length c4, vS 7 1 0 m cx] [(1, .ro (.ints g)), (2, .ro (.ints h)), (4, .ro (.rows false true lr)), (5, .ro (.lit (isoL n g.length cg h.length ch cl cc most 6 fl fc))), (7, .ro (.ints x))] 8 (Ret (vB (fitB g h n (rowsX lr) x)) 8) := by
  subst hm
  refine Does.intro TT Tryz.func98 rfl (by kernel_rfl) Zz Zz fun E hE => ?_
  have hxl := hx.1
  have hrl : (rowsX lr).length = lr.length := by simp [rowsX]
  have hnn : n * n ≤ 36 := Nat.mul_le_mul hn hn
  ((repeat' (first | refine stx ?_ | (refine stq ?_ ?_ <;> (intro hc; ((try simp at hc) <;> try contradiction))) | fail)) <;> try (exfalso; omega))
  refine w_G hE (fun k : Nat => k ≤ lr.length + 1 ∧ ∀ j, j < k → okAt g h n (rowsX lr) x j) (fun k => lr.length + 1 - k)
    (fun k => [(0, .one (.ptr 5 9 0 0)), (1, vS 4 1 0 lr.length c4), (2, vS 7 1 0 x.length cx), (7, vI lr.length), (8, vI k)])
    (fun _ => [(1, .ro (.ints g)), (2, .ro (.ints h)), (4, .ro (.rows false true lr)), (5, .ro (.lit (isoL n g.length cg h.length ch cl cc most 6 fl fc))), (7, .ro (.ints x))]) 8 [] 0 ⟨Nat.zero_le _, fun j hj => by omega⟩ ⟨w_1, w_2, rfl⟩ ?_
  rintro k ⟨hk, hall⟩
  by_cases hkr : k < lr.length
  · have em : (lr.getD (0 + (k : Int).toNat) rowD) ∈ lr := by rw [show 0 + (k : Int).toNat = k by omega, getD_in hkr]; exact List.getElem_mem hkr
    have hy := hr _ em
    have hyl := hy.1
    have eok : okAt g h n (rowsX lr) x k ↔ prodH h n x (lr.getD (0 + (k : Int).toNat) rowD).xs = g.getD (lr.length * n + k) 0 := by
      unfold okAt
      rw [if_pos (by omega), hrl, show 0 + (k : Int).toNat = k by omega, getD_in hkr, getD_in (by omega)]
      simp [rowsX]
    have hkn : k < n := by omega
    have eN : lr.getD (0 + (k : Int).toNat) rowD = lr[k]?.getD rowD := by rw [show 0 + (k : Int).toNat = k by omega, List.getD_eq_getElem?_getD]
    ((repeat' (first | refine stx ?_ | (refine stq ?_ ?_ <;> (intro hc; ((try simp at hc) <;> try contradiction))) | fail)) <;> try (exfalso; omega))
    refine w_G hE (fun a : Nat => a ≤ n) (fun a => n - a)
      (fun a => [(0, .one (.ptr 5 9 0 0)), (1, vS 4 1 0 lr.length c4), (2, vS 7 1 0 x.length cx), (7, vI lr.length), (8, vI k), (9, vS 8 1 0 (lr.getD (0 + (k : Int).toNat) rowD).xs.length (lr.getD (0 + (k : Int).toNat) rowD).cap), (10, vI (prTo h n x (lr.getD (0 + (k : Int).toNat) rowD).xs a)), (29, vI x.length), (30, vI a)])
      (fun _ => [(1, .ro (.ints g)), (2, .ro (.ints h)), (4, .ro (.rows false true lr)), (5, .ro (.lit (isoL n g.length cg h.length ch cl cc most 6 fl fc))), (7, .ro (.ints x)), (8, .al (lr.getD (0 + (k : Int).toNat) rowD).a (.ints (lr.getD (0 + (k : Int).toNat) rowD).xs))]) 9 [] 0 (Nat.zero_le _) ⟨w_1, w_2, rfl⟩ ?_
    intro a ha
    have hpb := pr_bd hn hhn hx hy a
    by_cases han : a < n
    · have han2 : ¬ x.length ≤ a := by omega
      ((repeat' (first | refine stx ?_ | (refine stq ?_ ?_ <;> (intro hc; ((try simp at hc) <;> try contradiction))) | fail)) <;> try (exfalso; omega))
      refine w_G hE (fun b : Nat => b ≤ n) (fun b => n - b)
        (fun b => [(0, .one (.ptr 5 9 0 0)), (1, vS 4 1 0 lr.length c4), (2, vS 7 1 0 x.length cx), (7, vI lr.length), (8, vI k), (9, vS 8 1 0 (lr.getD (0 + (k : Int).toNat) rowD).xs.length (lr.getD (0 + (k : Int).toNat) rowD).cap), (10, vI (prTo h n x (lr.getD (0 + (k : Int).toNat) rowD).xs a + inTo h n x (lr.getD (0 + (k : Int).toNat) rowD).xs a b)), (11, vI a), (29, vI x.length), (30, vI a), (34, vI x.length), (35, vI b)])
        (fun _ => [(1, .ro (.ints g)), (2, .ro (.ints h)), (4, .ro (.rows false true lr)), (5, .ro (.lit (isoL n g.length cg h.length ch cl cc most 6 fl fc))), (7, .ro (.ints x)), (8, .al (lr.getD (0 + (k : Int).toNat) rowD).a (.ints (lr.getD (0 + (k : Int).toNat) rowD).xs))]) 9 [] 0 (Nat.zero_le _) ⟨⟨rfl, rfl, rfl, rfl, rfl, rfl, congrArg some (congrArg vI (Int.add_zero _).symm), rfl, rfl, rfl, rfl, rfl, trivial⟩, w_2, rfl⟩ ?_
      intro b hb
      have hib := in_bd (a := a) hhn hx hy b
      by_cases hbn : b < n
      · have hbn2 : ¬ x.length ≤ b := by omega
        have hat := d_atN n n a b h.length ch h rfl hh (by omega) (by omega) han hbn
        obtain ⟨t1, t2⟩ := tm_bd (a := a) (j := b) hhn hx hy
        have ea : 0 + (a : Int).toNat = a := by omega
        have eb : 0 + (b : Int).toNat = b := by omega
        have es : prTo h n x (lr.getD (0 + (k : Int).toNat) rowD).xs a + inTo h n x (lr.getD (0 + (k : Int).toNat) rowD).xs a (b + 1) = prTo h n x (lr.getD (0 + (k : Int).toNat) rowD).xs a + inTo h n x (lr.getD (0 + (k : Int).toNat) rowD).xs a b + x.getD (0 + (a : Int).toNat) 0 * h.getD (a * n + b) 0 * (lr.getD (0 + (k : Int).toNat) rowD).xs.getD (0 + (b : Int).toNat) 0 := by rw [ea, eb, Int.add_assoc]; rfl
        rw [← ea] at t1 t2
        rw [← eb] at t1 t2
        simp only [ea] at t1 t2
        have t3 := t1
        have t4 := t2
        rw [show x.getD a 0 = x.getD (0 + (a : Int).toNat) 0 by rw [ea], show h.getD (a * n + (0 + (b : Int).toNat)) 0 = h.getD (a * n + b) 0 by rw [eb]] at t3 t4
        ((repeat' (first | refine stx ?_ | refine zqc (hat) ?_ | (refine stq ?_ ?_ <;> (intro hc; ((try simp at hc) <;> try contradiction))) | fail)) <;> try (exfalso; omega))
        all_goals exact ⟨[], b + 1, hbn, w_4, ⟨⟨rfl, rfl, rfl, rfl, rfl, rfl, congrArg some (congrArg vI es.symm), rfl, rfl, rfl, rfl, rfl, trivial⟩, w_2, rfl⟩⟩
      · obtain rfl : b = n := by omega
        have es : prTo h b x (lr.getD (0 + (k : Int).toNat) rowD).xs (a + 1) = prTo h b x (lr.getD (0 + (k : Int).toNat) rowD).xs a + inTo h b x (lr.getD (0 + (k : Int).toNat) rowD).xs a b := rfl
        ((repeat' (first | refine stx ?_ | (refine stq ?_ ?_ <;> (intro hc; ((try simp at hc) <;> try contradiction))) | fail)) <;> try (exfalso; omega))
        all_goals exact ⟨[], a + 1, han, w_4, ⟨⟨rfl, rfl, rfl, rfl, rfl, rfl, congrArg some (congrArg vI es.symm), rfl, rfl, trivial⟩, w_2, rfl⟩⟩
    · obtain rfl : a = n := by omega
      have hat := d_atN a a lr.length k g.length cg g rfl hg (by omega) (by omega) hlr hkn
      by_cases he : prTo h a x (lr.getD (0 + (k : Int).toNat) rowD).xs a = g.getD (lr.length * a + k) 0
      · have hok := eok.2 he
        have he2 : prTo h a x (lr[k]?.getD rowD).xs a = g[lr.length * a + k]?.getD 0 := by
          rw [← eN, ← List.getD_eq_getElem?_getD]
          exact he
        ((repeat' (first | refine stx ?_ | refine zqc (hat) ?_ | (refine stq ?_ ?_ <;> (intro hc; ((try simp at hc) <;> try contradiction))) | fail)) <;> try (exfalso; omega))
        all_goals exact ⟨[], k + 1, ⟨by omega, fun j hj => by
          by_cases c : j < k
          · exact hall j c
          · obtain rfl : j = k := by omega
            exact hok⟩, w_4, ⟨w_1, w_2, rfl⟩⟩
      · rw [fitB_no (k := k) (by omega) (fun h => he (eok.1 h))]
        have he2 : ¬ prTo h a x (lr[k]?.getD rowD).xs a = g[lr.length * a + k]?.getD 0 := by
          rw [← eN, ← List.getD_eq_getElem?_getD]
          exact he
        ((repeat' (first | refine stx ?_ | refine zqc (hat) ?_ | (refine stq ?_ ?_ <;> (intro hc; ((try simp at hc) <;> try contradiction))) | fail)) <;> try (exfalso; omega))
        all_goals refine fin_ret rfl w_3 (rfl) rfl
  · by_cases hke : k = lr.length
    · subst hke
      have eok : okAt g h n (rowsX lr) x lr.length ↔ prodH h n x x = g.getD (lr.length * n + lr.length) 0 := by
        unfold okAt
        rw [if_neg (by omega), hrl]
      have hy := hx
      have hyl := hx.1
      have hkn : lr.length < n := by omega
      ((repeat' (first | refine stx ?_ | (refine stq ?_ ?_ <;> (intro hc; ((try simp at hc) <;> try contradiction))) | fail)) <;> try (exfalso; omega))
      refine w_G hE (fun a : Nat => a ≤ n) (fun a => n - a)
        (fun a => [(0, .one (.ptr 5 9 0 0)), (1, vS 4 1 0 lr.length c4), (2, vS 7 1 0 x.length cx), (7, vI lr.length), (8, vI lr.length), (9, vS 7 1 0 x.length cx), (10, vI (prTo h n x x a)), (29, vI x.length), (30, vI a)])
        (fun _ => [(1, .ro (.ints g)), (2, .ro (.ints h)), (4, .ro (.rows false true lr)), (5, .ro (.lit (isoL n g.length cg h.length ch cl cc most 6 fl fc))), (7, .ro (.ints x))]) 8 [] 0 (Nat.zero_le _) ⟨w_1, w_2, rfl⟩ ?_
      intro a ha
      have hpb := pr_bd hn hhn hx hy a
      by_cases han : a < n
      · have han2 : ¬ x.length ≤ a := by omega
        ((repeat' (first | refine stx ?_ | (refine stq ?_ ?_ <;> (intro hc; ((try simp at hc) <;> try contradiction))) | fail)) <;> try (exfalso; omega))
        refine w_G hE (fun b : Nat => b ≤ n) (fun b => n - b)
          (fun b => [(0, .one (.ptr 5 9 0 0)), (1, vS 4 1 0 lr.length c4), (2, vS 7 1 0 x.length cx), (7, vI lr.length), (8, vI lr.length), (9, vS 7 1 0 x.length cx), (10, vI (prTo h n x x a + inTo h n x x a b)), (11, vI a), (29, vI x.length), (30, vI a), (34, vI x.length), (35, vI b)])
          (fun _ => [(1, .ro (.ints g)), (2, .ro (.ints h)), (4, .ro (.rows false true lr)), (5, .ro (.lit (isoL n g.length cg h.length ch cl cc most 6 fl fc))), (7, .ro (.ints x))]) 8 [] 0 (Nat.zero_le _) ⟨⟨rfl, rfl, rfl, rfl, rfl, rfl, congrArg some (congrArg vI (Int.add_zero _).symm), rfl, rfl, rfl, rfl, rfl, trivial⟩, w_2, rfl⟩ ?_
        intro b hb
        have hib := in_bd (a := a) hhn hx hy b
        by_cases hbn : b < n
        · have hbn2 : ¬ x.length ≤ b := by omega
          have hat := d_atN n n a b h.length ch h rfl hh (by omega) (by omega) han hbn
          obtain ⟨t1, t2⟩ := tm_bd (a := a) (j := b) hhn hx hy
          have ea : 0 + (a : Int).toNat = a := by omega
          have eb : 0 + (b : Int).toNat = b := by omega
          have es : prTo h n x x a + inTo h n x x a (b + 1) = prTo h n x x a + inTo h n x x a b + x.getD (0 + (a : Int).toNat) 0 * h.getD (a * n + b) 0 * x.getD (0 + (b : Int).toNat) 0 := by rw [ea, eb, Int.add_assoc]; rfl
          rw [← ea] at t1 t2
          rw [← eb] at t1 t2
          simp only [ea] at t1 t2
          have t3 := t1
          have t4 := t2
          rw [show x.getD a 0 = x.getD (0 + (a : Int).toNat) 0 by rw [ea], show h.getD (a * n + (0 + (b : Int).toNat)) 0 = h.getD (a * n + b) 0 by rw [eb]] at t3 t4
          ((repeat' (first | refine stx ?_ | refine zqc (hat) ?_ | (refine stq ?_ ?_ <;> (intro hc; ((try simp at hc) <;> try contradiction))) | fail)) <;> try (exfalso; omega))
          all_goals exact ⟨[], b + 1, hbn, w_4, ⟨⟨rfl, rfl, rfl, rfl, rfl, rfl, congrArg some (congrArg vI es.symm), rfl, rfl, rfl, rfl, rfl, trivial⟩, w_2, rfl⟩⟩
        · obtain rfl : b = n := by omega
          have es : prTo h b x x (a + 1) = prTo h b x x a + inTo h b x x a b := rfl
          ((repeat' (first | refine stx ?_ | (refine stq ?_ ?_ <;> (intro hc; ((try simp at hc) <;> try contradiction))) | fail)) <;> try (exfalso; omega))
          all_goals exact ⟨[], a + 1, han, w_4, ⟨⟨rfl, rfl, rfl, rfl, rfl, rfl, congrArg some (congrArg vI es.symm), rfl, rfl, trivial⟩, w_2, rfl⟩⟩
      · obtain rfl : a = n := by omega
        have hat := d_atN a a lr.length lr.length g.length cg g rfl hg (by omega) (by omega) hlr hkn
        by_cases he : prTo h a x x a = g.getD (lr.length * a + lr.length) 0
        · have hok := eok.2 he
          have he2 : prTo h a x x a = g[lr.length * a + lr.length]?.getD 0 := by
            rw [← List.getD_eq_getElem?_getD]
            exact he
          ((repeat' (first | refine stx ?_ | refine zqc (hat) ?_ | (refine stq ?_ ?_ <;> (intro hc; ((try simp at hc) <;> try contradiction))) | fail)) <;> try (exfalso; omega))
          all_goals exact ⟨[], lr.length + 1, ⟨by omega, fun j hj => by
            by_cases c : j < lr.length
            · exact hall j c
            · rw [show j = lr.length by omega]
              exact hok⟩, w_4, ⟨w_1, w_2, rfl⟩⟩
        · rw [fitB_no (k := lr.length) (by omega) (fun h => he (eok.1 h))]
          have he2 : ¬ prTo h a x x a = g[lr.length * a + lr.length]?.getD 0 := by
            rw [← List.getD_eq_getElem?_getD]
            exact he
          ((repeat' (first | refine stx ?_ | refine zqc (hat) ?_ | (refine stq ?_ ?_ <;> (intro hc; ((try simp at hc) <;> try contradiction))) | fail)) <;> try (exfalso; omega))
          all_goals refine fin_ret rfl w_3 (rfl) rfl
    · obtain rfl : k = lr.length + 1 := by omega
      rw [fitB_all fun j hj => hall j (by rw [hrl] at hj; exact hj)]
      ((repeat' (first | refine stx ?_ | (refine stq ?_ ?_ <;> (intro hc; ((try simp at hc) <;> try contradiction))) | fail)) <;> try (exfalso; omega))
      all_goals refine fin_ret rfl w_3 (rfl) rfl
end Go.Proofs.YtekpamojojfplaaGreat
