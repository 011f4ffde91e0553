/-
  TEXTS OF THE PROOF, put together: bShS, Cont, Ratio, Ratio2, bRatio, bDiv.
-/
import Derived.Test.YtekpamojojfplaaGreatB29
import Derived.Test.YtekpamojojfplaaGreatB30
import Derived.Test.YtekpamojojfplaaGreatB09
import Derived.Test.YtekpamojojfplaaGreatB08
set_option linter.unusedVariables false
set_option linter.unusedSimpArgs false
namespace Go.Proofs.YtekpamojojfplaaGreat
open Go.RowKit
theorem baseS_next {r c : Int} {g : List Int} {b : Int} {L : List (List Int)} {i : Nat} (h : i < L.length) : baseS r c g b (L.take (i + 1)) = baseS r c g b (L.take i) ++ (if conS r c g b L[i] then [(L[i], (vatO r c g L[i]).getD 0)] else []) := by
  rw [List.take_succ_eq_append_getElem h, baseS, List.filter_append, List.map_append]
  congr 1
  cases hc : conS r c g b L[i] <;> simp [hc]
theorem put_perm {α : Type} {l l' : List α} {r : α} {k : Nat} (h : l' = l.take k ++ r :: l.drop k) : l'.Perm (r :: l) := by
  rw [h]
  refine List.perm_middle.trans (List.Perm.cons _ ?_)
  rw [List.take_append_drop]
theorem put_lens {α : Type} {l l' : List α} {hs hs' : List Int} {r : α} {z : Int} {k m1 m2 : Nat} (hm1 : m1 = l.length + 1) (hm2 : m2 = l.length + 1) (h : hs' = hs.take k ++ z :: hs.drop k) (hp : l'.Perm (r :: l)) (hk : k ≤ l.length) (hl : hs.length = l.length) : m1 = l'.length ∧ m2 = hs'.length := by
  constructor
  · rw [hm1, hp.length_eq]; rfl
  · rw [hm2, h, List.length_append, List.length_cons, List.length_take, List.length_drop]; omega
set_option maxRecDepth 100000 in
set_option maxHeartbeats 16000000 in
theorem d_shS (r c : Int) (g : List Int) (b : Int) (ca : Nat) (hl : g.length ≤ 1099511627776) : Does Tryz.prog 130 [vM r c 1 g.length ca, vI b] [(1, .ro (.ints g))] 2 (PtsR 24 3 (shO r c g b) 2) := by
 have hr := d_boxOS r c g b ca hl
 refine Does.intro TT Tryz.func130 rfl (by kernel_rfl) Zz Zz fun E hE => ?_
 cases hB : boxG r c g b with
 | none =>
  rw [hB] at hr
  rw [shO_no1 hB]
  ((repeat' (first | refine stx ?_ | ((refine zqe (hr) ?_); rintro v Hout n1 ⟨cw, hcw, rfl, rfl, rfl⟩) | (refine stq ?_ ?_ <;> (intro hc; ((try simp at hc) <;> try contradiction))) | fail)) <;> try (exfalso; omega))
  exact fin rfl w_3 [(2, 4)] (.tup [.one (.sl 2 1 0 0 0), .one (.bool false)]) [(2, .own 24 0 (.rows false true []))] 3 ⟨rfl, rfl, rfl⟩ rfl ⟨trivial, ⟨rfl, trivial⟩, rfl⟩ rfl
 | some w =>
  rw [hB] at hr
  obtain ⟨n, rfl, rfl, hn, hd, hb0, hb1, hwl, hw0, -⟩ := boxG_some hB
  have hwn : w.all numB = true := all_num fun k _ => by have := hw0 k; omega
  have hw0' : ∀ k, 0 ≤ w.getD k 0 := fun k => (hw0 k).1
  have hbx := fun ca cb m1 m2 (h1 : m1 = (w.map fun x => -x).length) (h2 : m2 = (w.map fun x => -x).length) => (by
   subst h1
   exact d_boxS (w.map fun x => -x) w ca cb m2 (by simp) h2 (by simp; omega) (neg_num hwn) (fun n hn => List.all_eq_true.1 hwn n hn) (fun k _ => neg_wid hw0' k) : Does Tryz.prog 168 [vS 1 1 0 m1 ca, vS 2 1 0 m2 cb] [(1, .ro (.ints (w.map fun x => -x))), (2, .ro (.ints w))] 3 _)
  ((repeat' (first | refine stx ?_ | ((refine zqe (hr) ?_); rintro v Hout n1 ⟨cw, hcw, rfl, rfl, rfl⟩) | (refine stq ?_ ?_ <;> (intro hc; ((try simp at hc) <;> try contradiction))) | fail)) <;> try (exfalso; omega))
  refine w_G hE (fun x : Nat × Nat => x.1 ≤ w.length ∧ x.1 ≤ x.2) (fun x => w.length - x.1)
   (fun x => [(1, vI b), (2, .one (.ptr 2 3 0 0)), (6, vS 3 1 0 w.length cw), (8, vS 4 1 0 x.1 x.2), (9, vI x.1)])
   (fun x => [(1, .ro (.ints g)), (2, .own 26 1 (.lit [.int n, .int n, .sl 1 1 0 g.length ca])), (3, .own 3 cw (.ints w)), (4, .own 3 x.2 (.ints ((w.map fun x => -x).take x.1)))]) 5 [] (0, 0) ⟨Nat.zero_le _, Nat.zero_le _⟩ ⟨w_1, w_2, rfl⟩ ?_
  rintro ⟨k, cap⟩ ⟨h1, h2⟩
  dsimp only at h1 h2
  by_cases hkw : k < w.length
  ·have e0 : w.getD (0 + (k : Int).toNat) 0 = w[k] := by rw [show 0 + (k : Int).toNat = k by omega, getD_in hkw]
   have hwk := hw0 k
   have hwk2 : -400000000 ≤ w[k]?.getD 0 ∧ w[k]?.getD 0 ≤ 400000000 := by rw [← List.getD_eq_getElem?_getD]; omega
   have en : (w.map fun x => -x).take (k + 1) = (w.map fun x => -x).take k ++ [-(w.getD (0 + (k : Int).toNat) 0)] := by
    rw [List.take_succ_eq_append_getElem (by simpa using hkw), List.getElem_map, e0]
   have ek : ((w.map fun x => -x).take k).length = k := by rw [List.length_take]; simp; omega
   ((repeat' (first | refine stx ?_ | (refine zqx ?_; intro cap hcap) | (refine stq ?_ ?_ <;> (intro hc; ((try simp at hc) <;> try contradiction))) | fail)) <;> try (exfalso; omega))
   exact ⟨[(4, 6)], (k + 1, cap), ⟨hkw, by dsimp only; omega⟩, w_4, ⟨w_1, ⟨rfl, rfl, rfl, own_ints en.symm, trivial⟩, rfl⟩⟩
  ·obtain rfl : k = w.length := by omega
   rw [List.take_of_length_le (by simp)]
   cases hO : boxO (w.map fun x => -x) w with
   | none =>
    rw [hO] at hbx
    rw [shO_no2 hB hO]
    ((repeat' (first | refine stx ?_ | ((refine w_E (hbx _ _ _ _ (by simp) (by simp)) Zz Zz Zz Zz Zz Zz Zz ft rfl ?_); rintro v Hout n1 ⟨rfl, rfl, rfl⟩) | (refine stq ?_ ?_ <;> (intro hc; ((try simp at hc) <;> try contradiction))) | fail)) <;> try (exfalso; omega))
    exact fin rfl w_3 [(2, 6)] (.tup [.one (.sl 2 1 0 0 0), .one (.bool false)]) [(2, .own 24 0 (.rows false true []))] 3 ⟨rfl, rfl, rfl⟩ rfl ⟨trivial, ⟨rfl, trivial⟩, rfl⟩ rfl
   | some L =>
    rw [hO] at hbx
    rw [shO_yes hB hO]
    have hsm := box_sm hw0' hO
    ((repeat' (first | refine stx ?_ | ((refine w_E (hbx _ _ _ _ (by simp) (by simp)) Zz Zz Zz Zz Zz Zz Zz ft rfl ?_); rintro v Hout n1 ⟨l, cap, hlL, rfl, rfl, rfl⟩) | (refine stq ?_ ?_ <;> (intro hc; ((try simp at hc) <;> try contradiction))) | fail)) <;> try (exfalso; omega))
    have hl4 : l.length ≤ 4000 := by
     have := box_4000 (fun k _ => neg_wid hw0' k) hO
     rw [← hlL, rowsX, List.length_map] at this; exact this
    ((first | refine awpL_ghost (Ghost.partN 6 (l.map stripR) rfl (fun r hr => by obtain ⟨r0, h0, rfl⟩ := List.mem_map.1 hr; exact ⟨r0, h0, rfl, rfl, rfl⟩) (fun h => List.pairwise_map.2 (h.imp fun h => h))) ?_ | refine awp_ghost (Ghost.partN 6 (l.map stripR) rfl (fun r hr => by obtain ⟨r0, h0, rfl⟩ := List.mem_map.1 hr; exact ⟨r0, h0, rfl, rfl, rfl⟩) (fun h => List.pairwise_map.2 (h.imp fun h => h))) ?_ | refine awpH_ghost (Ghost.partN 6 (l.map stripR) rfl (fun r hr => by obtain ⟨r0, h0, rfl⟩ := List.mem_map.1 hr; exact ⟨r0, h0, rfl, rfl, rfl⟩) (fun h => List.pairwise_map.2 (h.imp fun h => h))) ?_ | refine awpHop_ghost (Ghost.partN 6 (l.map stripR) rfl (fun r hr => by obtain ⟨r0, h0, rfl⟩ := List.mem_map.1 hr; exact ⟨r0, h0, rfl, rfl, rfl⟩) (fun h => List.pairwise_map.2 (h.imp fun h => h))) ?_); rintro _ _ ⟨rfl, rfl⟩)
    ((first | refine awpL_ghost (Ghost.retell 5 6 (.rows false true (l.map stripR)) Zz Zz (by show (l.map stripR).flatMap _ = l.flatMap _; rw [List.flatMap_map]; rfl) (by show (l.map stripR).length = l.length; exact List.length_map _) rfl (fun x hx => by obtain ⟨r, hr, rfl⟩ := List.mem_map.1 hx; exact ⟨rfl, hr⟩)) ?_ | refine awp_ghost (Ghost.retell 5 6 (.rows false true (l.map stripR)) Zz Zz (by show (l.map stripR).flatMap _ = l.flatMap _; rw [List.flatMap_map]; rfl) (by show (l.map stripR).length = l.length; exact List.length_map _) rfl (fun x hx => by obtain ⟨r, hr, rfl⟩ := List.mem_map.1 hx; exact ⟨rfl, hr⟩)) ?_ | refine awpH_ghost (Ghost.retell 5 6 (.rows false true (l.map stripR)) Zz Zz (by show (l.map stripR).flatMap _ = l.flatMap _; rw [List.flatMap_map]; rfl) (by show (l.map stripR).length = l.length; exact List.length_map _) rfl (fun x hx => by obtain ⟨r, hr, rfl⟩ := List.mem_map.1 hx; exact ⟨rfl, hr⟩)) ?_ | refine awpHop_ghost (Ghost.retell 5 6 (.rows false true (l.map stripR)) Zz Zz (by show (l.map stripR).flatMap _ = l.flatMap _; rw [List.flatMap_map]; rfl) (by show (l.map stripR).length = l.length; exact List.length_map _) rfl (fun x hx => by obtain ⟨r, hr, rfl⟩ := List.mem_map.1 hx; exact ⟨rfl, hr⟩)) ?_); rintro _ _ ⟨rfl, rfl⟩)
    have hlx : rowsX (l.map stripR) = L := by rw [← hlL, rowsX, rowsX, List.map_map]; rfl
    have hlps : ∀ r ∈ l.map stripR, r.ps = [] := fun r hr => by obtain ⟨r0, h0, rfl⟩ := List.mem_map.1 hr; rfl
    have hll : (l.map stripR).length = l.length := List.length_map _
    generalize l.map stripR = ls at *
    have hLl : L.length = ls.length := by rw [← hlx, rowsX, List.length_map]
    have hrow : ∀ r ∈ ls, r.xs.length = n := fun r hr => by
     obtain ⟨g1, g2⟩ := hsm r.xs (by rw [← hlx]; exact List.mem_map.2 ⟨r, hr, rfl⟩)
     rw [hwl] at g1
     exact g1
    refine w_G hE (fun x : Nat × List Row × List Int × Nat × Nat => x.1 ≤ l.length ∧ x.2.2.1.length = x.2.1.length ∧ (x.2.1.map Row.xs).zip x.2.2.1 = putsV (baseS n n g b (L.take x.1)) ∧ x.2.1.Perm ((ls.take x.1).filter fun r => conS n n g b r.xs) ∧ x.2.1.length ≤ x.2.2.2.1 ∧ x.2.1.length ≤ x.2.2.2.2) (fun x => l.length - x.1)
     (fun x => [(1, vI b), (2, .one (.ptr 2 3 0 0)), (10, vS 5 1 0 l.length cap), (12, vS 7 1 0 x.2.1.length x.2.2.2.1), (13, vS 8 1 0 x.2.2.1.length x.2.2.2.2), (14, vI x.1)])
     (fun x => [(1, .ro (.ints g)), (2, .own 26 1 (.lit [.int n, .int n, .sl 1 1 0 g.length ca])), (5, .own 24 cap (.rows false true ls)), (6, .tok 3 false ls), (7, .own 24 x.2.2.2.1 (.rows false true x.2.1)), (8, .own 3 x.2.2.2.2 (.ints x.2.2.1))]) 9 [] (0, [], [], 0, 0) ⟨Nat.zero_le _, rfl, rfl, List.Perm.refl _, Nat.le_refl _, Nat.le_refl _⟩ ⟨w_1, w_2, rfl⟩ ?_
    rintro ⟨i, pl, ph, d1, d2⟩ ⟨h1, h2, h3, h4, h5, h6⟩
    dsimp only at h1 h2 h3 h4 h5 h6
    have hpl : pl.length ≤ i := by
     rw [h4.length_eq]
     exact Nat.le_trans (List.length_filter_le _ _) (by rw [List.length_take]; omega)
    have hplm : ∀ r ∈ pl, r ∈ ls := fun r hr => List.mem_of_mem_take (List.mem_filter.1 (h4.mem_iff.1 hr)).1
    by_cases hi : i < l.length
    ·have hils : i < ls.length := by omega
     have hiL : i < L.length := by omega
     have e1 : (ls.getD (0 + (i : Int).toNat) rowD) = ls[i] := by rw [show 0 + (i : Int).toNat = i by omega, getD_in hils]
     have eL : L[i] = (ls.getD (0 + (i : Int).toNat) rowD).xs := by rw [e1]; subst hlx; simp [rowsX]
     have em : (ls.getD (0 + (i : Int).toNat) rowD) ∈ ls := by rw [e1]; exact List.getElem_mem hils
     have g1 := hrow (ls.getD (0 + (i : Int).toNat) rowD) em
     have g4 := row_eta (hlps (ls.getD (0 + (i : Int).toNat) rowD) em)
     have hnx := baseS_next (r := n) (c := n) (g := g) (b := b) hiL
     rw [eL] at hnx
     have hfx : (ls.take (i + 1)).filter (fun r => conS n n g b r.xs) = (ls.take i).filter (fun r => conS n n g b r.xs) ++ (if conS n n g b (ls.getD (0 + (i : Int).toNat) rowD).xs then [(ls.getD (0 + (i : Int).toNat) rowD)] else []) := by
      rw [e1, List.take_succ_eq_append_getElem hils, List.filter_append]
      congr 1
      cases hc : conS n n g b ls[i].xs <;> simp [hc]
     have hpo := fun n c (hn : n = (ls.getD (0 + (i : Int).toNat) rowD).xs.length) => d_posS (ls.getD (0 + (i : Int).toNat) rowD).xs n c hn (by omega)
     have hva := fun m cv (hm : m = (ls.getD (0 + (i : Int).toNat) rowD).xs.length) => (by subst hm; exact d_valS n n g (ls.getD (0 + (i : Int).toNat) rowD).xs ca cv hl (by omega) : Does Tryz.prog 166 [vM n n 1 g.length ca, vS 2 1 0 m cv] [(1, .ro (.ints g)), (2, .ro (.ints (ls.getD (0 + (i : Int).toNat) rowD).xs))] 3 (Ret (valT (vatO n n g (ls.getD (0 + (i : Int).toNat) rowD).xs)) 3))
     have hskip : ¬ conS n n g b (ls.getD (0 + (i : Int).toNat) rowD).xs = true → putsV (baseS n n g b (L.take i)) = putsV (baseS n n g b (L.take (i + 1))) ∧ (ls.take i).filter (fun r => conS n n g b r.xs) = (ls.take (i + 1)).filter (fun r => conS n n g b r.xs) := fun hcn => ⟨by rw [hnx, if_neg hcn, List.append_nil], by rw [hfx, if_neg hcn, List.append_nil]⟩
     cases cv : vatO n n g (ls.getD (0 + (i : Int).toNat) rowD).xs with
     | none =>
      have hcn : ¬ conS n n g b (ls.getD (0 + (i : Int).toNat) rowD).xs = true := by rw [conS, cv]; simp
      obtain ⟨k1, k2⟩ := hskip hcn
      rw [cv] at hva
      ((repeat' (first | refine stp ?_ | (refine stq ?_ ?_ <;> (intro hc; ((try simp at hc) <;> try contradiction))) | fail)) <;> try (exfalso; omega))
      refine awp_held TM [(2, _), (5, _)] sb rfl (fun ρs => ?_)
      refine zt0 ?_
      refine zt1 ?_
      refine zt2 ?_
      refine zt3 ?_
      refine w_u [4] kr rfl ⟨?_, trivial⟩
      first | (refine zho ?_) | (refine zqf (hva _ _ rfl) ?_; rintro v Hout n1 ⟨rfl, rfl, rfl⟩; refine ⟨sb, ?_⟩)
      refine w_u [5] kr rfl ⟨?_, trivial⟩
      first | (refine zho ?_) | (refine zqf (hva _ _ rfl) ?_; rintro v Hout n1 ⟨rfl, rfl, rfl⟩; refine ⟨sb, ?_⟩)
      refine zt6 ?_
      refine zt7 ?_
      refine zt8 ?_
      refine zt9 ?_
      refine zt10 ?_
      refine w_v kr ?_
      rotate_left
      all_goals ((repeat' (first | refine stx ?_ | (refine stq ?_ ?_ <;> (intro hc; ((try simp at hc) <;> try contradiction))) | fail)) <;> try (exfalso; omega))
      all_goals exact ⟨[], (i + 1, pl, ph, d1, d2), ⟨hi, h2, by dsimp only; rw [← k1]; exact h3, by dsimp only; rw [← k2]; exact h4, h5, h6⟩, w_4, ⟨w_1, w_2, rfl⟩⟩
     | some z =>
      rw [cv] at hva
      by_cases hzb : z ≤ b
      ·have hzb2 : ¬ b < z := by omega
       cases cp : posF (ls.getD (0 + (i : Int).toNat) rowD).xs with
       | false =>
        have hcn : ¬ conS n n g b (ls.getD (0 + (i : Int).toNat) rowD).xs = true := by rw [conS, cp]; simp
        obtain ⟨k1, k2⟩ := hskip hcn
        rw [cp] at hpo
        ((repeat' (first | refine stp ?_ | (refine stq ?_ ?_ <;> (intro hc; ((try simp at hc) <;> try contradiction))) | fail)) <;> try (exfalso; omega))
        refine awp_held TM [(2, _), (5, _)] sb rfl (fun ρs => ?_)
        refine zt0 ?_
        refine zt1 ?_
        refine zt2 ?_
        refine zt3 ?_
        refine w_u [4] kr rfl ⟨?_, trivial⟩
        first | (refine zho ?_) | (refine zqf (hva _ _ rfl) ?_; rintro v Hout n1 ⟨rfl, rfl, rfl⟩; refine ⟨sb, ?_⟩)
        refine w_u [5] kr rfl ⟨?_, trivial⟩
        first | (refine zho ?_) | (refine zqf (hva _ _ rfl) ?_; rintro v Hout n1 ⟨rfl, rfl, rfl⟩; refine ⟨sb, ?_⟩)
        refine zt6 ?_
        refine zt7 ?_
        refine zt8 ?_
        refine zt9 ?_
        refine zt10 ?_
        refine w_v kr ?_
        rotate_left
        all_goals ((repeat' (first | refine stx ?_ | refine zqc (hpo _ _ rfl) ?_ | (refine stq ?_ ?_ <;> (intro hc; ((try simp at hc) <;> try contradiction))) | fail)) <;> try (exfalso; omega))
        all_goals exact ⟨[], (i + 1, pl, ph, d1, d2), ⟨hi, h2, by dsimp only; rw [← k1]; exact h3, by dsimp only; rw [← k2]; exact h4, h5, h6⟩, w_4, ⟨w_1, w_2, rfl⟩⟩
       | true =>
        have hz1 := vat_pos hd cp cv
        have hcp : conS n n g b (ls.getD (0 + (i : Int).toNat) rowD).xs = true := by rw [conS, cp, cv]; simp [hz1, hzb]
        rw [cp] at hpo
        have hpu := fun a0 cv c1 c2 m (hm : m = (ls.getD (0 + (i : Int).toNat) rowD).xs.length) (q1 : pl.length ≤ c1) (q2 : pl.length ≤ c2) => d_putS pl ph a0 cv ph.length c1 c2 m (ls.getD (0 + (i : Int).toNat) rowD).xs z hm h2 h2 (by omega) (by omega) q1 q2 (fun r hr => by rw [hrow r (hplm r hr), g1])
        ((repeat' (first | refine stp ?_ | (refine stq ?_ ?_ <;> (intro hc; ((try simp at hc) <;> try contradiction))) | fail)) <;> try (exfalso; omega))
        refine awp_held TM [(2, _), (5, _)] sb rfl (fun ρs => ?_)
        refine zt0 ?_
        refine zt1 ?_
        refine zt2 ?_
        refine zt3 ?_
        refine w_u [4] kr rfl ⟨?_, trivial⟩
        first | (refine zho ?_) | (refine zqf (hva _ _ rfl) ?_; rintro v Hout n1 ⟨rfl, rfl, rfl⟩; refine ⟨sb, ?_⟩)
        refine w_u [5] kr rfl ⟨?_, trivial⟩
        first | (refine zho ?_) | (refine zqf (hva _ _ rfl) ?_; rintro v Hout n1 ⟨rfl, rfl, rfl⟩; refine ⟨sb, ?_⟩)
        refine zt6 ?_
        refine zt7 ?_
        refine zt8 ?_
        refine zt9 ?_
        refine zt10 ?_
        refine w_v kr ?_
        rotate_left
        all_goals ((repeat' (first | refine stx ?_ | refine zqc (hpo _ _ rfl) ?_ | ((refine zqe (hpu _ _ _ _ _ rfl h5 h6) ?_); rintro v Hout n1 ⟨kk, m1, m2, q1, q2, l', hs', hk1, hk2, hk3, hm1, hm2, hl', hhs', hq1, hq2, rfl, rfl, rfl⟩; rw [g4] at hl' hk2 hk3; have hpe := put_perm hl'; obtain ⟨hm1', hm2'⟩ := put_lens hm1 hm2 hhs' hpe hk1 h2; subst hm1' hm2'; ((first | refine awpL_ghost (Ghost.tell 12 6 (.rows false true l') Zz Zz Zz (fun x hx => by obtain ⟨r, hr, rfl⟩ := List.mem_map.1 hx; exact ⟨rfl, by rcases List.mem_cons.1 (hpe.mem_iff.1 hr) with e | e; (rw [e]; exact em); exact hplm r e⟩)) ?_ | refine awp_ghost (Ghost.tell 12 6 (.rows false true l') Zz Zz Zz (fun x hx => by obtain ⟨r, hr, rfl⟩ := List.mem_map.1 hx; exact ⟨rfl, by rcases List.mem_cons.1 (hpe.mem_iff.1 hr) with e | e; (rw [e]; exact em); exact hplm r e⟩)) ?_ | refine awpH_ghost (Ghost.tell 12 6 (.rows false true l') Zz Zz Zz (fun x hx => by obtain ⟨r, hr, rfl⟩ := List.mem_map.1 hx; exact ⟨rfl, by rcases List.mem_cons.1 (hpe.mem_iff.1 hr) with e | e; (rw [e]; exact em); exact hplm r e⟩)) ?_ | refine awpHop_ghost (Ghost.tell 12 6 (.rows false true l') Zz Zz Zz (fun x hx => by obtain ⟨r, hr, rfl⟩ := List.mem_map.1 hx; exact ⟨rfl, by rcases List.mem_cons.1 (hpe.mem_iff.1 hr) with e | e; (rw [e]; exact em); exact hplm r e⟩)) ?_); rintro _ _ ⟨rfl, rfl⟩)) | (refine stq ?_ ?_ <;> (intro hc; ((try simp at hc) <;> try contradiction))) | fail)) <;> try (exfalso; omega))
        all_goals
         refine ⟨[(7, 12), (8, 13)], (i + 1, l', hs', q1, q2), ⟨hi, by dsimp only; omega, ?_, ?_, hq1, by dsimp only; omega⟩, w_4, ⟨w_1, ⟨rfl, rfl, rfl, rfl, rfl, rfl, trivial⟩, rfl⟩⟩
         ·dsimp only
          rw [hnx, if_pos hcp, cv, putsV_snoc, ← h3, hl', hhs']
          exact put_zip h2 hk1 hk2 hk3
         ·dsimp only
          rw [hfx, if_pos hcp]
          exact hpe.trans ((List.Perm.cons _ h4).trans (List.perm_append_singleton _ _).symm)
      ·have hzb2 : b < z := by omega
       have hcn : ¬ conS n n g b (ls.getD (0 + (i : Int).toNat) rowD).xs = true := by rw [conS, cv]; simp [hzb]
       obtain ⟨k1, k2⟩ := hskip hcn
       ((repeat' (first | refine stp ?_ | (refine stq ?_ ?_ <;> (intro hc; ((try simp at hc) <;> try contradiction))) | fail)) <;> try (exfalso; omega))
       refine awp_held TM [(2, _), (5, _)] sb rfl (fun ρs => ?_)
       refine zt0 ?_
       refine zt1 ?_
       refine zt2 ?_
       refine zt3 ?_
       refine w_u [4] kr rfl ⟨?_, trivial⟩
       first | (refine zho ?_) | (refine zqf (hva _ _ rfl) ?_; rintro v Hout n1 ⟨rfl, rfl, rfl⟩; refine ⟨sb, ?_⟩)
       refine w_u [5] kr rfl ⟨?_, trivial⟩
       first | (refine zho ?_) | (refine zqf (hva _ _ rfl) ?_; rintro v Hout n1 ⟨rfl, rfl, rfl⟩; refine ⟨sb, ?_⟩)
       refine zt6 ?_
       refine zt7 ?_
       refine zt8 ?_
       refine zt9 ?_
       refine zt10 ?_
       refine w_v kr ?_
       rotate_left
       all_goals ((repeat' (first | refine stx ?_ | (refine stq ?_ ?_ <;> (intro hc; ((try simp at hc) <;> try contradiction))) | fail)) <;> try (exfalso; omega))
       all_goals exact ⟨[], (i + 1, pl, ph, d1, d2), ⟨hi, h2, by dsimp only; rw [← k1]; exact h3, by dsimp only; rw [← k2]; exact h4, h5, h6⟩, w_4, ⟨w_1, w_2, rfl⟩⟩
    ·obtain rfl : i = l.length := by omega
     rw [List.take_of_length_le (by omega)] at h3 h4
     have hfst : (putsV (baseS n n g b L)).map Prod.fst = rowsX pl := by rw [← h3, List.map_fst_zip (by simp [h2])]; rfl
     ((first | refine awpL_ghost (Ghost.part 6 (l' := pl) rfl (fun r hr => hplm r hr) (fun hp => (h4.pairwise_iff (fun h => h.symm)).2 (hp.sublist List.filter_sublist))) ?_ | refine awp_ghost (Ghost.part 6 (l' := pl) rfl (fun r hr => hplm r hr) (fun hp => (h4.pairwise_iff (fun h => h.symm)).2 (hp.sublist List.filter_sublist))) ?_ | refine awpH_ghost (Ghost.part 6 (l' := pl) rfl (fun r hr => hplm r hr) (fun hp => (h4.pairwise_iff (fun h => h.symm)).2 (hp.sublist List.filter_sublist))) ?_ | refine awpHop_ghost (Ghost.part 6 (l' := pl) rfl (fun r hr => hplm r hr) (fun hp => (h4.pairwise_iff (fun h => h.symm)).2 (hp.sublist List.filter_sublist))) ?_); rintro _ _ ⟨rfl, rfl⟩)
     ((repeat' (first | refine stx ?_ | (refine stq ?_ ?_ <;> (intro hc; ((try simp at hc) <;> try contradiction))) | fail)) <;> try (exfalso; omega))
     exact fin rfl w_3 [(2, 7), (3, 6)] (.tup [.one (.sl 2 1 0 pl.length d1), .one (.bool true)]) [(2, .own 24 d1 (.rows false true pl)), (3, .tok 3 false pl)] 4
      ⟨pl, d1, hfst.symm, rfl, rfl, rfl⟩ rfl ⟨trivial, ⟨rfl, rfl, trivial⟩, rfl⟩ rfl
end Go.Proofs.YtekpamojojfplaaGreat
namespace Go.Proofs.YtekpamojojfplaaGreat
open Go.RowKit
def ratioB (n d : Int) : Bool := decide (1 ≤ d ∧ d ≤ 400000000 ∧ -400000000 ≤ n ∧ n ≤ 400000000) && ((Int.gcd n d : Int) == 1)
theorem ratioB_true {n d : Int} (h : ratioB n d = true) : 1 ≤ d ∧ d ≤ 400000000 ∧ -400000000 ≤ n ∧ n ≤ 400000000 ∧ Int.gcd n d = 1 := by
  simp only [ratioB, Bool.and_eq_true, decide_eq_true_eq, beq_iff_eq] at h
  obtain ⟨⟨h1, h2, h3, h4⟩, h5⟩ := h
  exact ⟨h1, h2, h3, h4, by omega⟩
def cfTerms (n : Int) (d : Nat) : List Int := if _h : d = 0 then [] else (n / (d : Int)) :: cfTerms d (n % (d : Int)).toNat
termination_by d
decreasing_by
  have h1 := Int.emod_lt_of_pos n (show 0 < (d : Int) by omega)
  have h2 := Int.emod_nonneg n (show (d : Int) ≠ 0 by omega)
  omega
def cfOf (n d : Int) : List Int := if ratioB n d then cfTerms n d.toNat else []
def CRel (n : Int) (D : Nat) (w : World) (ov av bv : Value) (wr : World) : Prop :=
  ∃ (A : Option Addr) (k c : Nat) (ys : List Int) (a : Int) (b : Nat), ov = .slice A k c ∧ av = .int .i64 a ∧ bv = .int .i64 b ∧ OI wr w.heap.size A k c ys ∧ Hid (ys ++ cfTerms a b = cfTerms n D) ∧ k + b ≤ D ∧ -400000000 ≤ a ∧ a ≤ 400000000 ∧ Below w.heap.size w wr
def GotInts (base : Nat) (ok : Bool) (ys : List Int) (w0 : World) (e : Ending) (w' : World) : Prop :=
  ∃ A c, e = .returned (.tuple #[.slice A ys.length c, .bool ok]) ∧ OI w' base A ys.length c ys ∧ ∃ x : Ext w0, w' = x.val
end Go.Proofs.YtekpamojojfplaaGreat
namespace Go.Proofs.YtekpamojojfplaaGreat
open Go.RowKit
def redR (x y : Int) : Int × Int := if ratioB x y then (x, y) else (0, 0)
def lowR (n d : Int) : Int × Int :=
  if d < 0 then redR (-(n / (Int.gcd n d : Int))) (-(d / (Int.gcd n d : Int))) else redR (n / (Int.gcd n d : Int)) (d / (Int.gcd n d : Int))
theorem gcd_pos_of {n d : Int} (h : d ≠ 0) : 0 < (Int.gcd n d : Int) := by
  have := Int.gcd_pos_of_ne_zero_right n h; omega
theorem tdiv_left {n d : Int} (_h : d ≠ 0) : n.tdiv (Int.gcd n d) = n / (Int.gcd n d : Int) :=
  (Int.tdiv_eq_ediv_of_dvd (Int.gcd_dvd_left n d))
theorem tdiv_right {n d : Int} (_h : d ≠ 0) : d.tdiv (Int.gcd n d) = d / (Int.gcd n d : Int) :=
  (Int.tdiv_eq_ediv_of_dvd (Int.gcd_dvd_right n d))
theorem lowR_pos {n d : Int} (h : 0 < d) : lowR n d = redR (n.tdiv (Int.gcd n d)) (d.tdiv (Int.gcd n d)) := by
  rw [lowR, if_neg (by omega), tdiv_left (by omega), tdiv_right (by omega)]
theorem lowR_neg {n d : Int} (h : d < 0) : lowR n d = redR (-(n.tdiv (Int.gcd n d))) (-(d.tdiv (Int.gcd n d))) := by
  rw [lowR, if_pos h, tdiv_left (by omega), tdiv_right (by omega)]
@[go_sem low] theorem alloc_frozen {W : World} (c : Array Value) (t : TypeId) (b o : Nat) : (W.alloc (.cells c t)).frozen? ⟨b, o, none⟩ = if b < W.heap.size then W.frozen? ⟨b, o, none⟩ else false := by
  rw [frozen?_alloc_cells]
  split
  · rfl
  · have e : W.heap[b]? = none := by simp; omega
    simp [World.frozen?, e]
end Go.Proofs.YtekpamojojfplaaGreat
namespace Go.Proofs.YtekpamojojfplaaGreat
open Go.RowKit
attribute [-go_sem] alloc_frozen
theorem prod_bd {a b : Int} (h1 : -400000000 ≤ a) (h2 : a ≤ 400000000) (h3 : -400000000 ≤ b) (h4 : b ≤ 400000000) : -160000000000000000 ≤ a * b ∧ a * b ≤ 160000000000000000 := by
  have h : (a * b).natAbs ≤ 400000000 * 400000000 := by
    rw [Int.natAbs_mul]; exact Nat.mul_le_mul (by omega) (by omega)
  omega
def addR (a b c d : Int) : Int × Int := if ratioB a b && ratioB c d then lowR (a * d + c * b) (b * d) else (0, 0)
def divR (a b c d : Int) : Int × Int := if ratioB a b && ratioB c d && !(c == 0) then lowR (a * d) (b * c) else (0, 0)
end Go.Proofs.YtekpamojojfplaaGreat
namespace Go.Proofs.YtekpamojojfplaaGreat
open Go.RowKit
def vR (p : Int × Int) : AV := .agg [.int p.1, .int p.2]
theorem vR_eq {a b : Int} {p : Int × Int} (h : p = (a, b)) : AV.agg [.int a, .int b] = vR p := by rw [h]; rfl
theorem d_ratioI (n d : Int) : Does Tryz.prog 195 [.agg [.int n, .int d]] [] 1 (Ret (vB (ratioB n d)) 1) := by
 refine Does.intro TT Tryz.func195 rfl (by kernel_rfl) Zz Zz fun E hE => ?_
 (repeat' (first | refine stx ?_ | refine zqc (d_numI _) ?_ | (first | refine w_z (d_gcd _ _ (by have := numB_true.1 (by assumption); omega) (by omega)) Zz Zz Zz Zz Zz Zz Zz Zz ft Zz Zz ?_ | refine w_A (d_gcd _ _ (by have := numB_true.1 (by assumption); omega) (by omega)) Zz Zz Zz Zz Zz Zz Zz Zz ft Zz Zz ?_) | (refine stq ?_ ?_ <;> (intro hc; ((try simp at hc) <;> try contradiction))) | fail))
 all_goals refine fin_ret rfl trivial (congrArg vB ?_) rfl
 all_goals simp [ratioB, numB_true, numB_false] at *
 ·rw [Bool.eq_iff_iff]; simp; omega
 all_goals omega
theorem d_ratioS (n d : Int) : Does Tryz.prog 150 [.agg [.int n, .int d]] [] 1 (Ret (vB (ratioB n d)) 1) := by
 refine Does.intro TT Tryz.func150 rfl (by kernel_rfl) Zz Zz fun E hE => ?_
 (repeat' (first | refine stx ?_ | refine zqc (d_l1In _ _ _) ?_ | refine zqc (d_numS _) ?_ | refine zqc (d_gcdOf _ _) ?_ | (refine stq ?_ ?_ <;> (intro hc; ((try simp at hc) <;> try contradiction))) | fail))
 all_goals refine fin_ret rfl trivial (congrArg vB ?_) rfl
 ·have h1 := numB_true.1 (by assumption : numB n = true)
  have h2 := inB_true.1 (by assumption : inB d 1 400000000 = true)
  rw [gcdOf_eq (by assumption) (numB_true.2 (by omega))]
  simp [ratioB]
  rw [Bool.eq_iff_iff]; simp; omega
 ·have h1 := numB_false.1 (by assumption : numB n = false)
  simp [ratioB]; omega
 ·have h2 := inB_false.1 (by assumption : inB d 1 400000000 = false)
  simp [ratioB]; omega
theorem q_bd (n : Int) {g : Int} (h1 : -1000000000000000000 ≤ n) (h2 : n ≤ 1000000000000000000) : -1000000000000000000 ≤ n.tdiv g ∧ n.tdiv g ≤ 1000000000000000000 := by
  have hq1 := tdiv_bd n g
  omega
theorem lowR_of {n d : Int} {x y : Int} {b : Bool} (h : (n.tdiv (Int.gcd n d) = x ∧ d.tdiv (Int.gcd n d) = y ∧ 0 < d) ∨ (-(n.tdiv (Int.gcd n d)) = x ∧ -(d.tdiv (Int.gcd n d)) = y ∧ d < 0)) (hb : ratioB x y = b) : lowR n d = if b then (x, y) else (0, 0) := by
  rcases h with ⟨h1, h2, h⟩ | ⟨h1, h2, h⟩
  · rw [lowR_pos h, h1, h2, redR, hb]
  · rw [lowR_neg h, h1, h2, redR, hb]
theorem d_lowest (n d : Int) (hn : -1000000000000000000 ≤ n ∧ n ≤ 1000000000000000000) (hd : -1000000000000000000 ≤ d ∧ d ≤ 1000000000000000000) (h0 : d ≠ 0) : Does Tryz.prog 217 [vI n, vI d] [] 1 (Ret (vR (lowR n d)) 1) := by
 have hg0 := gcd_pos_of (n := n) h0
 have hg1 : (Int.gcd n d : Int) ≤ 1000000000000000000 := gcd_le_left hn.1 hn.2 hd.1 hd.2
 have hq1 := q_bd n (g := (Int.gcd n d : Int)) hn.1 hn.2
 have hq2 := q_bd d (g := (Int.gcd n d : Int)) hd.1 hd.2
 have hq3 := q_bd n (g := -(Int.gcd n d : Int)) hn.1 hn.2
 have hq4 := q_bd d (g := -(Int.gcd n d : Int)) hd.1 hd.2
 refine Does.intro TT Tryz.func217 rfl (by kernel_rfl) Zz Zz fun E hE => ?_
 (repeat' (first | refine stx ?_ | (first | refine w_z (d_gcd _ _ (by omega) (by omega)) Zz Zz Zz Zz Zz Zz Zz Zz ft Zz Zz ?_ | refine w_A (d_gcd _ _ (by omega) (by omega)) Zz Zz Zz Zz Zz Zz Zz Zz ft Zz Zz ?_) | (refine stq ?_ ?_ <;> (intro hc; ((try simp at hc) <;> try contradiction))) | fail))
 all_goals
  refine awp_held TM [] sb rfl (fun ρs => ?_)
  refine zt0 ?_
  refine zt1 ?_
  refine zt2 ?_
  refine zt3 ?_
  refine zt4 ?_
  refine zt5 ?_
  refine zt6 ?_
  refine w_u [7] kr rfl ⟨?_, trivial⟩
  first | (refine zho ?_)
  refine w_u [8] kr rfl ⟨?_, trivial⟩
  first | (refine zho ?_)
  refine w_v kr ?_
  rotate_left
  (repeat' (first | refine stx ?_ | refine zqc (d_ratioI _ _) ?_ | (refine stq ?_ ?_ <;> (intro hc; ((try simp at hc) <;> try contradiction))) | fail))
 all_goals refine fin_ret rfl w_3 (vR_eq ?_) rfl
 all_goals try simp only [Int.tdiv_neg] at *
 all_goals rw [lowR_of (by first | exact .inr ⟨rfl, rfl, by omega⟩ | exact .inl ⟨rfl, rfl, by omega⟩) hc]
 all_goals rfl
theorem gcd_nn {n d : Int} : Int.gcd (-n) (-d) = Int.gcd n d := by rw [Int.gcd_neg, Int.neg_gcd]
theorem d_l2Make (n d : Int) (hn : -1000000000000000000 ≤ n ∧ n ≤ 1000000000000000000) (hd : -1000000000000000000 ≤ d ∧ d ≤ 1000000000000000000) : Does Tryz.prog 214 [vI n, vI d] [] 1 (Ret (vR (if d = 0 then (0, 0) else lowR n d)) 1) := by
 refine Does.intro TT Tryz.func214 rfl (by kernel_rfl) Zz Zz fun E hE => ?_
 (repeat' (first | refine stx ?_ | (refine stq ?_ ?_ <;> (intro hc; ((try simp at hc) <;> try contradiction))) | fail))
 ·refine fin_ret rfl w_3 (vR_eq ?_) rfl
  rw [if_pos hc]
 ·rw [if_neg (show ¬ d = 0 by assumption)]
  have h0 : d ≠ 0 := by assumption
  have hg0 := gcd_pos_of (n := n) h0
  have hg1 : (Int.gcd n d : Int) ≤ 1000000000000000000 := gcd_le_left hn.1 hn.2 hd.1 hd.2
  have hq1 := q_bd (-n) (g := (Int.gcd n d : Int)) (by omega) (by omega)
  have hq2 := q_bd (-d) (g := (Int.gcd n d : Int)) (by omega) (by omega)
  refine w_G hE (fun p : Int × Int => (-1000000000000000000 ≤ p.1 ∧ p.1 ≤ 1000000000000000000) ∧ (-1000000000000000000 ≤ p.2 ∧ p.2 ≤ 1000000000000000000) ∧ Int.gcd p.1 p.2 = Int.gcd (-n) (-d)) (fun p => p.2.natAbs)
   (fun p => [(0, vI (-n)), (1, vI (-d)), (4, .one (.ptr 1 2 0 0)), (5, vI p.1), (6, vI p.2)]) (fun _ => [(1, .own 129 1 (.lit [.int 0, .int 0]))]) 2 [] (-n, -d) ⟨by omega, by omega, rfl⟩ ⟨⟨rfl, rfl, rfl, rfl, rfl, trivial⟩, ⟨rfl, trivial⟩, rfl⟩ ?_
  rintro ⟨x, y⟩ ⟨h1, h2, h5⟩
  dsimp only at *
  (repeat' (first | refine stx ?_ | (first | refine w_z (d_l1Abs _ (by omega) (by omega)) Zz Zz Zz Zz Zz Zz Zz Zz ft Zz Zz ?_ | refine w_A (d_l1Abs _ (by omega) (by omega)) Zz Zz Zz Zz Zz Zz Zz Zz ft Zz Zz ?_) | (refine stq ?_ ?_ <;> (intro hc; ((try simp at hc) <;> try contradiction))) | fail))
  ·obtain ⟨h6, h7⟩ := gcd_round h1 h2 hc h5
   exact ⟨[], (y, x.tmod y), h6, h7, ⟨rfl, rfl, rfl, rfl, rfl, trivial⟩, ⟨rfl, trivial⟩, rfl⟩
  ·subst hc
   have e : (x.natAbs : Int) = (Int.gcd n d : Int) := by rw [← gcd_nn, ← h5]; simp
   rw [e]
   refine awp_held TM [] sb rfl (fun ρs => ?_)
   refine zt0 ?_
   refine zt1 ?_
   refine zt2 ?_
   refine zt3 ?_
   refine zt4 ?_
   refine zt5 ?_
   refine zt6 ?_
   refine w_u [7] kr rfl ⟨?_, trivial⟩
   first | (refine zho ?_)
   refine w_u [8] kr rfl ⟨?_, trivial⟩
   first | (refine zho ?_)
   refine w_v kr ?_
   rotate_left
   (repeat' (first | refine stx ?_ | refine zqc (d_ratioS _ _) ?_ | (refine stq ?_ ?_ <;> (intro hc; ((try simp at hc) <;> try contradiction))) | fail))
   all_goals refine fin_ret rfl w_3 (vR_eq ?_) rfl
   all_goals simp only [Int.neg_tdiv] at *
   all_goals rw [lowR_of (.inr ⟨rfl, rfl, by omega⟩) hc]
   all_goals rfl
 ·rw [if_neg (show ¬ d = 0 by assumption)]
  have h0 : d ≠ 0 := by assumption
  have hg0 := gcd_pos_of (n := n) h0
  have hg1 : (Int.gcd n d : Int) ≤ 1000000000000000000 := gcd_le_left hn.1 hn.2 hd.1 hd.2
  have hq1 := q_bd n (g := (Int.gcd n d : Int)) (by omega) (by omega)
  have hq2 := q_bd d (g := (Int.gcd n d : Int)) (by omega) (by omega)
  refine w_G hE (fun p : Int × Int => (-1000000000000000000 ≤ p.1 ∧ p.1 ≤ 1000000000000000000) ∧ (-1000000000000000000 ≤ p.2 ∧ p.2 ≤ 1000000000000000000) ∧ Int.gcd p.1 p.2 = Int.gcd n d) (fun p => p.2.natAbs)
   (fun p => [(0, vI n), (1, vI d), (4, .one (.ptr 1 2 0 0)), (5, vI p.1), (6, vI p.2)]) (fun _ => [(1, .own 129 1 (.lit [.int 0, .int 0]))]) 2 [] (n, d) ⟨by omega, by omega, rfl⟩ ⟨⟨rfl, rfl, rfl, rfl, rfl, trivial⟩, ⟨rfl, trivial⟩, rfl⟩ ?_
  rintro ⟨x, y⟩ ⟨h1, h2, h5⟩
  dsimp only at *
  (repeat' (first | refine stx ?_ | (first | refine w_z (d_l1Abs _ (by omega) (by omega)) Zz Zz Zz Zz Zz Zz Zz Zz ft Zz Zz ?_ | refine w_A (d_l1Abs _ (by omega) (by omega)) Zz Zz Zz Zz Zz Zz Zz Zz ft Zz Zz ?_) | (refine stq ?_ ?_ <;> (intro hc; ((try simp at hc) <;> try contradiction))) | fail))
  ·obtain ⟨h6, h7⟩ := gcd_round h1 h2 hc h5
   exact ⟨[], (y, x.tmod y), h6, h7, ⟨rfl, rfl, rfl, rfl, rfl, trivial⟩, ⟨rfl, trivial⟩, rfl⟩
  ·subst hc
   have e : (x.natAbs : Int) = (Int.gcd n d : Int) := by rw [← h5]; simp
   rw [e]
   refine awp_held TM [] sb rfl (fun ρs => ?_)
   refine zt0 ?_
   refine zt1 ?_
   refine zt2 ?_
   refine zt3 ?_
   refine zt4 ?_
   refine zt5 ?_
   refine zt6 ?_
   refine w_u [7] kr rfl ⟨?_, trivial⟩
   first | (refine zho ?_)
   refine w_u [8] kr rfl ⟨?_, trivial⟩
   first | (refine zho ?_)
   refine w_v kr ?_
   rotate_left
   (repeat' (first | refine stx ?_ | refine zqc (d_ratioS _ _) ?_ | (refine stq ?_ ?_ <;> (intro hc; ((try simp at hc) <;> try contradiction))) | fail))
   all_goals refine fin_ret rfl w_3 (vR_eq ?_) rfl
   all_goals rw [lowR_of (.inl ⟨rfl, rfl, by omega⟩) hc]
   all_goals rfl
theorem prod_in {a b : Int} (h1 : -400000000 ≤ a ∧ a ≤ 400000000) (h2 : -400000000 ≤ b ∧ b ≤ 400000000) : -160000000000000000 ≤ a * b ∧ a * b ≤ 160000000000000000 := prod_bd h1.1 h1.2 h2.1 h2.2
theorem ratio_in {n d : Int} (h : ratioB n d = true) : (-400000000 ≤ n ∧ n ≤ 400000000) ∧ (-400000000 ≤ d ∧ d ≤ 400000000) ∧ 1 ≤ d := by
  obtain ⟨h1, h2, h3, h4, _⟩ := ratioB_true h
  omega
theorem ratio_prods {a b c d : Int} (h1 : ratioB a b = true) (h2 : ratioB c d = true) : (-160000000000000000 ≤ a * d ∧ a * d ≤ 160000000000000000) ∧ (-160000000000000000 ≤ c * b ∧ c * b ≤ 160000000000000000) ∧ (-160000000000000000 ≤ b * d ∧ b * d ≤ 160000000000000000) ∧ (-160000000000000000 ≤ b * c ∧ b * c ≤ 160000000000000000) ∧ b * d ≠ 0 ∧ (c ≠ 0 → b * c ≠ 0) := by
  have ⟨a1, a2, a3⟩ := ratio_in h1
  have ⟨b1, b2, b3⟩ := ratio_in h2
  exact ⟨prod_in a1 b2, prod_in b1 a2, prod_in a2 b2, prod_in a2 b1, Int.mul_ne_zero (by omega) (by omega), fun h => Int.mul_ne_zero (by omega) h⟩
theorem d_addRI (a b c d : Int) : Does Tryz.prog 215 [.agg [.int a, .int b], .agg [.int c, .int d]] [] 1 (Ret (vR (addR a b c d)) 1) := by
 have hp := @ratio_prods a b c d
 refine Does.intro TT Tryz.func215 rfl (by kernel_rfl) Zz Zz fun E hE => ?_
 cases h1 : ratioB a b <;> cases h2 : ratioB c d
 all_goals simp only [h1, h2, forall_const] at hp
 all_goals (repeat' (first | refine stx ?_ | (refine zqc (d_ratioI _ _) ?_ <;> simp only [h1, h2]) | (first | refine w_z (d_lowest _ _ (by omega) (by omega) (by omega)) Zz Zz Zz Zz Zz Zz Zz Zz ft Zz Zz ?_ | refine w_A (d_lowest _ _ (by omega) (by omega) (by omega)) Zz Zz Zz Zz Zz Zz Zz Zz ft Zz Zz ?_) | (refine stq ?_ ?_ <;> (intro hc; ((try simp at hc) <;> try contradiction))) | fail))
 all_goals refine fin_ret rfl w_3 (vR_eq ?_) rfl
 all_goals simp_all [addR]
 all_goals try rw [if_neg (by intro e; rcases Int.mul_eq_zero.1 e with e | e <;> omega)]
theorem d_addRS (a b c d : Int) : Does Tryz.prog 180 [.agg [.int a, .int b], .agg [.int c, .int d]] [] 1 (Ret (vR (addR a b c d)) 1) := by
 have hp := @ratio_prods a b c d
 refine Does.intro TT Tryz.func180 rfl (by kernel_rfl) Zz Zz fun E hE => ?_
 cases h1 : ratioB a b <;> cases h2 : ratioB c d
 all_goals simp only [h1, h2, forall_const] at hp
 all_goals (repeat' (first | refine stx ?_ | (refine zqc (d_ratioS _ _) ?_ <;> simp only [h1, h2]) | (first | refine w_z (d_l2Make _ _ (by omega) (by omega)) Zz Zz Zz Zz Zz Zz Zz Zz ft Zz Zz ?_ | refine w_A (d_l2Make _ _ (by omega) (by omega)) Zz Zz Zz Zz Zz Zz Zz Zz ft Zz Zz ?_) | (refine stq ?_ ?_ <;> (intro hc; ((try simp at hc) <;> try contradiction))) | fail))
 all_goals refine fin_ret rfl w_3 (vR_eq ?_) rfl
 all_goals simp_all [addR]
 all_goals try rw [if_neg (by intro e; rcases Int.mul_eq_zero.1 e with e | e <;> omega)]
theorem d_divRI (a b c d : Int) : Does Tryz.prog 196 [.agg [.int a, .int b], .agg [.int c, .int d]] [] 1 (Ret (vR (divR a b c d)) 1) := by
 have hp := @ratio_prods a b c d
 refine Does.intro TT Tryz.func196 rfl (by kernel_rfl) Zz Zz fun E hE => ?_
 cases h1 : ratioB a b <;> cases h2 : ratioB c d
 all_goals simp only [h1, h2, forall_const] at hp
 all_goals (repeat' (first | refine stx ?_ | (refine zqc (d_ratioI _ _) ?_ <;> simp only [h1, h2]) | (first | refine w_z (d_lowest _ _ (by omega) (by omega) (by omega)) Zz Zz Zz Zz Zz Zz Zz Zz ft Zz Zz ?_ | refine w_A (d_lowest _ _ (by omega) (by omega) (by omega)) Zz Zz Zz Zz Zz Zz Zz Zz ft Zz Zz ?_) | (refine stq ?_ ?_ <;> (intro hc; ((try simp at hc) <;> try contradiction))) | fail))
 all_goals refine fin_ret rfl w_3 (vR_eq ?_) rfl
 all_goals simp_all [divR]
 all_goals try rw [if_neg (by intro e; rcases Int.mul_eq_zero.1 e with e | e <;> omega)]
theorem d_divRS (a b c d : Int) : Does Tryz.prog 183 [.agg [.int a, .int b], .agg [.int c, .int d]] [] 1 (Ret (vR (divR a b c d)) 1) := by
 have hp := @ratio_prods a b c d
 refine Does.intro TT Tryz.func183 rfl (by kernel_rfl) Zz Zz fun E hE => ?_
 cases h1 : ratioB a b <;> cases h2 : ratioB c d
 all_goals simp only [h1, h2, forall_const] at hp
 all_goals (repeat' (first | refine stx ?_ | (refine zqc (d_ratioS _ _) ?_ <;> simp only [h1, h2]) | (first | refine w_z (d_l2Make _ _ (by omega) (by omega)) Zz Zz Zz Zz Zz Zz Zz Zz ft Zz Zz ?_ | refine w_A (d_l2Make _ _ (by omega) (by omega)) Zz Zz Zz Zz Zz Zz Zz Zz ft Zz Zz ?_) | (refine stq ?_ ?_ <;> (intro hc; ((try simp at hc) <;> try contradiction))) | fail))
 all_goals refine fin_ret rfl w_3 (vR_eq ?_) rfl
 all_goals simp_all [divR]
 all_goals try rw [if_neg (by intro e; rcases Int.mul_eq_zero.1 e with e | e <;> omega)]
theorem d_whole (n : Int) : Does Tryz.prog 192 [vI n] [] 1 (Ret (vR (n, 1)) 1) := by
 refine Does.intro TT Tryz.func192 rfl (by kernel_rfl) Zz Zz fun E hE => ?_
 (repeat' (first | refine stx ?_ | (refine stq ?_ ?_ <;> (intro hc; ((try simp at hc) <;> try contradiction))) | fail))
 all_goals refine fin_ret rfl w_3 (rfl) rfl
def mkR (n d : Int) : Int × Int := if numB n && numB d && !(d == 0) then lowR n d else (0, 0)
end Go.Proofs.YtekpamojojfplaaGreat
namespace Go.Proofs.YtekpamojojfplaaGreat
open Go.RowKit
theorem d_floorI (n d : Int) (h1 : -1000000000000000000 ≤ n) (h2 : n ≤ 1000000000000000000) (hd : 0 < d) : Does Tryz.prog 219 [vI n, vI d] [] 1 (Ret (vI (n / d)) 1) := by
 have hb := tdiv_bd n d
 refine Does.intro TT Tryz.func219 rfl (by kernel_rfl) Zz Zz fun E hE => ?_
 (repeat' (first | refine stx ?_ | (refine stq ?_ ?_ <;> (intro hc; ((try simp at hc) <;> try contradiction))) | fail))
 ·have hn : n < 0 := by omega
  have := tmod_sign_nonpos (n := n) (d := d) (by omega)
  refine fin_ret rfl w_3 (congrArg vI (tdiv_floor_neg hd (by omega))) rfl
 ·have := tmod_sign_nonneg (n := n) (d := d) (by omega)
  refine fin_ret rfl w_3 (congrArg vI (tdiv_floor_nonneg hd (by omega))) rfl
 ·refine fin_ret rfl w_3 (congrArg vI (tdiv_floor_nonneg hd (by omega))) rfl
theorem d_floorS (n d : Int) (h1 : -1000000000000000000 ≤ n) (h2 : n ≤ 1000000000000000000) (hd : 0 < d) : Does Tryz.prog 185 [vI n, vI d] [] 1 (Ret (vI (n / d)) 1) := by
 have hb := tdiv_bd n d
 refine Does.intro TT Tryz.func185 rfl (by kernel_rfl) Zz Zz fun E hE => ?_
 (repeat' (first | refine stx ?_ | (refine stq ?_ ?_ <;> (intro hc; ((try simp at hc) <;> try contradiction))) | fail))
 ·refine fin_ret rfl w_3 (congrArg vI (tdiv_floor_neg hd hc)) rfl
 ·refine fin_ret rfl w_3 (congrArg vI (tdiv_floor_nonneg hd hc)) rfl
end Go.Proofs.YtekpamojojfplaaGreat
