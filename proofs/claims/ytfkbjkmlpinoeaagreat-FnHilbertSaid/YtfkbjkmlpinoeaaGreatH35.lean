/-
  TEXTS OF THE PROOF, put together: bHilbT, bHilbU.
-/
import Derived.Test.YtfkbjkmlpinoeaaGreatH34
set_option linter.unusedVariables false
set_option linter.unusedSimpArgs false
namespace Go.Proofs.YtfkbjkmlpinoeaaGreat
open Go.RowKit
set_option maxRecDepth 100000 in
set_option maxHeartbeats 16000000 in
theorem d_hilbS (r c : Int) (xs : List Int) (ca : Nat) (hl : xs.length ≤ 1099511627776) : Does Tryz.prog 23 [vM r c 1 xs.length ca] [(1, .ro (.ints xs))] 2 (HilG 24 3 r c xs) := by
 have hr := d_hboxS r c xs ca hl
 unfold HilG
 refine Does.intro TT Tryz.func23 rfl (by kernel_rfl) Zz Zz fun E hE => ?_
 cases hB : hboxB r c xs with
 | none =>
  rw [hB] at hr
  dsimp only [Option.bind_none]
  ((repeat' (first | refine stx ?_ | ((refine w_E (hr) Zz Zz Zz Zz Zz Zz Zz ft rfl ?_); rintro v Hout n1 ⟨cw, hcw, rfl, rfl, rfl⟩) | (refine stq ?_ ?_ <;> (intro hc; ((try simp at hc) <;> try contradiction))) | fail)) <;> try (exfalso; omega))
  exact fin rfl w_3 [(2, 4)] (.tup [.one (.sl 2 1 0 0 0), .one (.bool false)]) [(2, .own 24 0 (.rows false true []))] 3 ⟨rfl, rfl, rfl⟩ rfl ⟨trivial, ⟨rfl, trivial⟩, rfl⟩ rfl
 | some w =>
  rw [hB] at hr
  obtain ⟨a, b, rfl, rfl, ha, hb1, hb, hx, hxn, hp, hwl, hwn, hw0⟩ := hbox_dims hB
  have hnl : (w.map fun x => -x).length = b := by simp [hwl]
  have hbx := fun ca cb m1 m2 (h1 : m1 = (w.map fun x => -x).length) (h2 : m2 = (w.map fun x => -x).length) => (by
   subst h1
   exact d_boxS (w.map fun x => -x) w ca cb m2 (by simp) h2 (by simp; omega) (neg_num hwn) (fun n hn => List.all_eq_true.1 hwn n hn) (fun k _ => neg_wid hw0 k) : Does Tryz.prog 78 [vS 1 1 0 m1 ca, vS 2 1 0 m2 cb] [(1, .ro (.ints (w.map fun x => -x))), (2, .ro (.ints w))] 3 _)
  dsimp only [Option.bind_some]
  ((repeat' (first | refine stx ?_ | ((refine w_E (hr) Zz Zz Zz Zz Zz Zz Zz ft rfl ?_); rintro v Hout n1 ⟨cw, hcw, rfl, rfl, rfl⟩) | (refine stq ?_ ?_ <;> (intro hc; ((try simp at hc) <;> try contradiction))) | fail)) <;> try (exfalso; omega))
  refine w_G hE (fun x : Nat × Nat => x.1 ≤ w.length ∧ x.1 ≤ x.2) (fun x => w.length - x.1)
   (fun x => [(1, .one (.ptr 2 3 0 0)), (4, vS 3 1 0 w.length cw), (6, vS 4 1 0 x.1 x.2), (7, vI x.1)])
   (fun x => [(1, .ro (.ints xs)), (2, .own 26 1 (.lit [.int a, .int b, .sl 1 1 0 xs.length ca])), (3, .own 3 cw (.ints w)), (4, .own 3 x.2 (.ints ((w.map fun x => -x).take x.1)))]) 5 [] (0, 0) ⟨Nat.zero_le _, Nat.zero_le _⟩ ⟨w_1, w_2, rfl⟩ ?_
  rintro ⟨k, cap0⟩ ⟨hk, hkc⟩
  dsimp only at hk hkc
  by_cases hkw : k < w.length
  ·have e0 : w.getD (0 + (k : Int).toNat) 0 = w[k] := by rw [show 0 + (k : Int).toNat = k by omega, getD_in hkw]
   have hb0 := numB_true.1 (List.all_eq_true.1 hwn (w.getD (0 + (k : Int).toNat) 0) (by rw [e0]; exact List.getElem_mem hkw))
   have en : (w.map fun x => -x).take (k + 1) = (w.map fun x => -x).take k ++ [-(w.getD (0 + (k : Int).toNat) 0)] := by
    rw [List.take_succ_eq_append_getElem (by simp; exact hkw), List.getElem_map, e0]
   have ek : ((w.map fun x => -x).take k).length = k := by rw [List.length_take]; simp; omega
   ((repeat' (first | refine stx ?_ | (refine w_x TT Zz Zz Zz Zz Zz sd ?_; intro cap hcap) | (refine stq ?_ ?_ <;> (intro hc; ((try simp at hc) <;> try contradiction))) | fail)) <;> try (exfalso; omega))
   exact ⟨[(4, 6)], (k + 1, cap), ⟨hkw, by dsimp only; omega⟩, w_4, ⟨w_1, ⟨rfl, rfl, rfl, own_ints en.symm, trivial⟩, rfl⟩⟩
  ·obtain rfl : k = w.length := by omega
   rw [List.take_of_length_le (by simp)]
   cases hO : boxO (w.map fun x => -x) w with
   | none =>
    rw [hO] at hbx
    ((repeat' (first | refine stx ?_ | ((refine w_E (hbx _ _ _ _ (by simp) (by simp)) Zz Zz Zz Zz Zz Zz Zz ft rfl ?_); rintro v Hout n1 ⟨rfl, rfl, rfl⟩) | (refine stq ?_ ?_ <;> (intro hc; ((try simp at hc) <;> try contradiction))) | fail)) <;> try (exfalso; omega))
    exact fin rfl w_3 [(2, 6)] (.tup [.one (.sl 2 1 0 0 0), .one (.bool false)]) [(2, .own 24 0 (.rows false true []))] 3 ⟨rfl, rfl, rfl⟩ rfl ⟨trivial, ⟨rfl, trivial⟩, rfl⟩ rfl
   | some L =>
    rw [hO] at hbx
    have hsm := box_sm hw0 hO
    have hC : coneM a b xs = true := by
     unfold pointB at hp
     split at hp
     ·simp only [Bool.and_eq_true] at hp; exact hp.1
     ·cases hp
    ((repeat' (first | refine stx ?_ | ((refine w_E (hbx _ _ _ _ (by simp) (by simp)) Zz Zz Zz Zz Zz Zz Zz ft rfl ?_); rintro v Hout n1 ⟨l, cap, hlL, rfl, rfl, rfl⟩) | (refine stq ?_ ?_ <;> (intro hc; ((try simp at hc) <;> try contradiction))) | fail)) <;> try (exfalso; omega))
    have hl4 : l.length ≤ 4000 := by
     have := box_4000 (fun k _ => neg_wid hw0 k) hO
     rw [← hlL, rowsX, List.length_map] at this; exact this
    ((first | refine awpL_ghost (Ghost.partN 6 (l.map stripR) rfl (fun r hr => by obtain ⟨r0, h0, rfl⟩ := List.mem_map.1 hr; exact ⟨r0, h0, rfl, rfl, rfl⟩) (fun h => List.pairwise_map.2 (h.imp fun h => h))) ?_ | refine awp_ghost (Ghost.partN 6 (l.map stripR) rfl (fun r hr => by obtain ⟨r0, h0, rfl⟩ := List.mem_map.1 hr; exact ⟨r0, h0, rfl, rfl, rfl⟩) (fun h => List.pairwise_map.2 (h.imp fun h => h))) ?_ | refine awpH_ghost (Ghost.partN 6 (l.map stripR) rfl (fun r hr => by obtain ⟨r0, h0, rfl⟩ := List.mem_map.1 hr; exact ⟨r0, h0, rfl, rfl, rfl⟩) (fun h => List.pairwise_map.2 (h.imp fun h => h))) ?_ | refine awpHop_ghost (Ghost.partN 6 (l.map stripR) rfl (fun r hr => by obtain ⟨r0, h0, rfl⟩ := List.mem_map.1 hr; exact ⟨r0, h0, rfl, rfl, rfl⟩) (fun h => List.pairwise_map.2 (h.imp fun h => h))) ?_); rintro _ _ ⟨rfl, rfl⟩)
    ((first | refine awpL_ghost (Ghost.retell 5 6 (.rows false true (l.map stripR)) Zz Zz (by show (l.map stripR).flatMap _ = l.flatMap _; rw [List.flatMap_map]; rfl) (by show (l.map stripR).length = l.length; exact List.length_map _) rfl (fun x hx => by obtain ⟨r, hr, rfl⟩ := List.mem_map.1 hx; exact ⟨rfl, hr⟩)) ?_ | refine awp_ghost (Ghost.retell 5 6 (.rows false true (l.map stripR)) Zz Zz (by show (l.map stripR).flatMap _ = l.flatMap _; rw [List.flatMap_map]; rfl) (by show (l.map stripR).length = l.length; exact List.length_map _) rfl (fun x hx => by obtain ⟨r, hr, rfl⟩ := List.mem_map.1 hx; exact ⟨rfl, hr⟩)) ?_ | refine awpH_ghost (Ghost.retell 5 6 (.rows false true (l.map stripR)) Zz Zz (by show (l.map stripR).flatMap _ = l.flatMap _; rw [List.flatMap_map]; rfl) (by show (l.map stripR).length = l.length; exact List.length_map _) rfl (fun x hx => by obtain ⟨r, hr, rfl⟩ := List.mem_map.1 hx; exact ⟨rfl, hr⟩)) ?_ | refine awpHop_ghost (Ghost.retell 5 6 (.rows false true (l.map stripR)) Zz Zz (by show (l.map stripR).flatMap _ = l.flatMap _; rw [List.flatMap_map]; rfl) (by show (l.map stripR).length = l.length; exact List.length_map _) rfl (fun x hx => by obtain ⟨r, hr, rfl⟩ := List.mem_map.1 hx; exact ⟨rfl, hr⟩)) ?_); rintro _ _ ⟨rfl, rfl⟩)
    have hlx : rowsX (l.map stripR) = L := by rw [← hlL, rowsX, rowsX, List.map_map]; rfl
    have hlps : ∀ r ∈ l.map stripR, r.ps = [] := fun r hr => by obtain ⟨r0, h0, rfl⟩ := List.mem_map.1 hr; rfl
    have hll : (l.map stripR).length = l.length := List.length_map _
    generalize l.map stripR = ls at *
    have hLl : L.length = ls.length := by rw [← hlx, rowsX, List.length_map]
    have hrow : ∀ r ∈ ls, r.xs.length = b ∧ r.xs.all numB = true ∧ ∀ k, k < b → -2000 ≤ r.xs.getD k 0 ∧ r.xs.getD k 0 ≤ 2000 := fun r hr => by
     obtain ⟨g1, g2⟩ := hsm r.xs (by rw [← hlx]; exact List.mem_map.2 ⟨r, hr, rfl⟩)
     rw [hwl] at g1 g2
     exact ⟨g1, all_num fun k hk => by have := g2 k (by omega); omega, g2⟩
    refine w_G hE (fun x : Nat × List Row × List Int × Nat × Nat => x.1 ≤ l.length ∧ x.2.2.1.length = x.2.1.length ∧ (x.2.1.map Row.xs).zip x.2.2.1 = putsV (baseL xs a b (L.take x.1)) ∧ x.2.1.Perm ((ls.take x.1).filter fun r => conP xs a b r.xs) ∧ x.2.1.length ≤ x.2.2.2.1 ∧ x.2.1.length ≤ x.2.2.2.2) (fun x => l.length - x.1)
     (fun x => [(1, .one (.ptr 2 3 0 0)), (8, vS 5 1 0 l.length cap), (10, vS 7 1 0 x.2.1.length x.2.2.2.1), (11, vS 8 1 0 x.2.2.1.length x.2.2.2.2), (12, vI x.1)])
     (fun x => [(1, .ro (.ints xs)), (2, .own 26 1 (.lit [.int a, .int b, .sl 1 1 0 xs.length ca])), (5, .own 24 cap (.rows false true ls)), (6, .tok 3 false ls), (7, .own 24 x.2.2.2.1 (.rows false true x.2.1)), (8, .own 3 x.2.2.2.2 (.ints x.2.2.1))]) 9 [] (0, [], [], 0, 0) ⟨Nat.zero_le _, rfl, rfl, List.Perm.refl _, Nat.le_refl _, Nat.le_refl _⟩ ⟨w_1, w_2, rfl⟩ ?_
    rintro ⟨i, pl, ph, d1, d2⟩ ⟨h1, h2, h3, h4, h5, h6⟩
    dsimp only at h1 h2 h3 h4 h5 h6
    have hpl : pl.length ≤ i := by
     rw [h4.length_eq]
     exact Nat.le_trans (List.length_filter_le _ _) (by rw [List.length_take]; omega)
    have hplm : ∀ r ∈ pl, r ∈ ls := fun r hr => List.mem_of_mem_take (List.mem_filter.1 (h4.mem_iff.1 hr)).1
    by_cases hi : i < l.length
    ·have hils : i < ls.length := by omega
     have hiL : i < L.length := by omega
     have e1 : (ls.getD (0 + (i : Int).toNat) rowD) = ls[i] := by rw [show 0 + (i : Int).toNat = i by omega, getD_in hils]
     have eL : L[i] = (ls.getD (0 + (i : Int).toNat) rowD).xs := by rw [e1]; subst hlx; simp [rowsX]
     have em : (ls.getD (0 + (i : Int).toNat) rowD) ∈ ls := by rw [e1]; exact List.getElem_mem hils
     obtain ⟨g1, g2, g3⟩ := hrow (ls.getD (0 + (i : Int).toNat) rowD) em
     have g4 := row_eta (hlps (ls.getD (0 + (i : Int).toNat) rowD) em)
     have hnx := base_next (xs := xs) (a := a) (b := b) hiL
     rw [eL] at hnx
     have hfx : (ls.take (i + 1)).filter (fun r => conP xs a b r.xs) = (ls.take i).filter (fun r => conP xs a b r.xs) ++ (if conP xs a b (ls.getD (0 + (i : Int).toNat) rowD).xs then [(ls.getD (0 + (i : Int).toNat) rowD)] else []) := by
      rw [e1, List.take_succ_eq_append_getElem hils, List.filter_append]
      congr 1
      cases hc : conP xs a b ls[i].xs <;> simp [hc]
     have hcp := conP_iff hx hxn hp g1
     have hci := fun c1 c2 => d_inConeS a b xs (ls.getD (0 + (i : Int).toNat) rowD).xs c1 c2 hl (by omega)
     rw [inConeB_any hC g1 g2] at hci
     have hht := fun n c (hn : n = (ls.getD (0 + (i : Int).toNat) rowD).xs.length) c2 => d_heightS a b xs.length c2 n c xs (ls.getD (0 + (i : Int).toNat) rowD).xs _ rfl hn hl (by omega) (prodO_any hC g1 g2) (by rw [prM_len]; omega) (fun t ht => by
      rw [prM_len] at ht
      rw [prM_take ht, prM_sum]
      have := htTo_bd hxn g2 hb t
      omega)
     simp only [prM_sum] at hht
     have hbd := htTo_bd hxn g2 hb a
     have eN : ls.getD (0 + (i : Int).toNat) rowD = ls[i]?.getD rowD := by rw [show 0 + (i : Int).toNat = i by omega, List.getD_eq_getElem?_getD]
     cases ci : inAny xs a b (ls.getD (0 + (i : Int).toNat) rowD).xs with
     | false =>
      rw [ci] at hci
      rw [ci, Bool.false_and] at hcp
      have hcn : ¬ conP xs a b (ls.getD (0 + (i : Int).toNat) rowD).xs = true := by rw [hcp]; simp
      ((repeat' (first | refine stp ?_ | (refine stq ?_ ?_ <;> (intro hc; ((try simp at hc) <;> try contradiction))) | fail)) <;> try (exfalso; omega))
      refine awp_held TM [(2, _), (5, _)] sb rfl (fun ρs => ?_)
      refine zt0 ?_
      refine zt1 ?_
      refine zt2 ?_
      refine zt3 ?_
      refine w_u [4] kr rfl ⟨?_, trivial⟩
      first | (refine zho ?_) | refine w_B _ (hci _ _) Zz Zz Zz Zz Zz Zz Zz Zz Zz ft Zz Zz sb rfl ?_ | refine w_B _ (hht _ _ rfl _) Zz Zz Zz Zz Zz Zz Zz Zz Zz ft Zz Zz sb rfl ?_
      refine w_u [5] kr rfl ⟨?_, trivial⟩
      first | (refine zho ?_) | refine w_B _ (hci _ _) Zz Zz Zz Zz Zz Zz Zz Zz Zz ft Zz Zz sb rfl ?_ | refine w_B _ (hht _ _ rfl _) Zz Zz Zz Zz Zz Zz Zz Zz Zz ft Zz Zz sb rfl ?_
      refine zt6 ?_
      first | (refine zt7 ?_) | (refine zp7 ?_) | ((refine awpH_split 7 Zz Zz Zz Zz (fun hc => ?_) (fun hc => ?_) <;> try simp at hc) <;> (first | (refine zt7 ?_) | (refine zp7 ?_)))
      first | (refine zt8 ?_) | (refine zp8 ?_) | ((refine awpH_split 8 Zz Zz Zz Zz (fun hc => ?_) (fun hc => ?_) <;> try simp at hc) <;> (first | (refine zt8 ?_) | (refine zp8 ?_)))
      first | (refine zt9 ?_) | (refine zp9 ?_) | ((refine awpH_split 9 Zz Zz Zz Zz (fun hc => ?_) (fun hc => ?_) <;> try simp at hc) <;> (first | (refine zt9 ?_) | (refine zp9 ?_)))
      first | (refine zt10 ?_) | (refine zp10 ?_) | ((refine awpH_split 10 Zz Zz Zz Zz (fun hc => ?_) (fun hc => ?_) <;> try simp at hc) <;> (first | (refine zt10 ?_) | (refine zp10 ?_)))
      first | (refine awpH_pass 11 rfl kr kr kr nh Zz Zz ?_) | (refine w_u [11] kr rfl ⟨?_, trivial⟩; first | (refine zho ?_) | refine w_B _ (hci _ _) Zz Zz Zz Zz Zz Zz Zz Zz Zz ft Zz Zz sb rfl ?_ | refine w_B _ (hht _ _ rfl _) Zz Zz Zz Zz Zz Zz Zz Zz Zz ft Zz Zz sb rfl ?_)
      first | (refine awpH_pass 12 rfl kr kr kr nh Zz Zz ?_) | (refine w_u [12] kr rfl ⟨?_, trivial⟩; first | (refine zho ?_) | refine w_B _ (hci _ _) Zz Zz Zz Zz Zz Zz Zz Zz Zz ft Zz Zz sb rfl ?_ | refine w_B _ (hht _ _ rfl _) Zz Zz Zz Zz Zz Zz Zz Zz Zz ft Zz Zz sb rfl ?_)
      first | (refine zt13 ?_) | (refine zp13 ?_) | ((refine awpH_split 13 Zz Zz Zz Zz (fun hc => ?_) (fun hc => ?_) <;> try simp at hc) <;> (first | (refine zt13 ?_) | (refine zp13 ?_)))
      refine zt14 ?_
      refine w_v kr ?_
      rotate_left
      all_goals ((repeat' (first | refine stx ?_ | (refine stq ?_ ?_ <;> (intro hc; ((try simp at hc) <;> try contradiction))) | fail)) <;> try (exfalso; omega))
      all_goals exact ⟨[], (i + 1, pl, ph, d1, d2), ⟨hi, h2, by dsimp only; rw [hnx, if_neg hcn, List.append_nil]; exact h3, by dsimp only; rw [hfx, if_neg hcn, List.append_nil]; exact h4, h5, h6⟩, w_4, ⟨w_1, w_2, rfl⟩⟩
     | true =>
      rw [ci] at hci
      rw [ci, Bool.true_and] at hcp
      by_cases hp0 : 0 < htTo xs b (ls.getD (0 + (i : Int).toNat) rowD).xs a
      ·rw [decide_eq_true hp0] at hcp
       have hpn := hp0
       rw [eN] at hpn
       have hpu := fun a0 cv c1 c2 m (hm : m = (ls.getD (0 + (i : Int).toNat) rowD).xs.length) (q1 : pl.length ≤ c1) (q2 : pl.length ≤ c2) => d_putS pl ph a0 cv ph.length c1 c2 m (ls.getD (0 + (i : Int).toNat) rowD).xs (htTo xs b (ls.getD (0 + (i : Int).toNat) rowD).xs a) hm h2 h2 (by omega) (by omega) q1 q2 (fun r hr => by rw [(hrow r (hplm r hr)).1, g1])
       ((repeat' (first | refine stp ?_ | (refine stq ?_ ?_ <;> (intro hc; ((try simp at hc) <;> try contradiction))) | fail)) <;> try (exfalso; omega))
       refine awp_held TM [(2, _), (5, _)] sb rfl (fun ρs => ?_)
       refine zt0 ?_
       refine zt1 ?_
       refine zt2 ?_
       refine zt3 ?_
       refine w_u [4] kr rfl ⟨?_, trivial⟩
       first | (refine zho ?_) | refine w_B _ (hci _ _) Zz Zz Zz Zz Zz Zz Zz Zz Zz ft Zz Zz sb rfl ?_ | refine w_B _ (hht _ _ rfl _) Zz Zz Zz Zz Zz Zz Zz Zz Zz ft Zz Zz sb rfl ?_
       refine w_u [5] kr rfl ⟨?_, trivial⟩
       first | (refine zho ?_) | refine w_B _ (hci _ _) Zz Zz Zz Zz Zz Zz Zz Zz Zz ft Zz Zz sb rfl ?_ | refine w_B _ (hht _ _ rfl _) Zz Zz Zz Zz Zz Zz Zz Zz Zz ft Zz Zz sb rfl ?_
       refine zt6 ?_
       first | (refine zt7 ?_) | (refine zp7 ?_) | ((refine awpH_split 7 Zz Zz Zz Zz (fun hc => ?_) (fun hc => ?_) <;> try simp at hc) <;> (first | (refine zt7 ?_) | (refine zp7 ?_)))
       first | (refine zt8 ?_) | (refine zp8 ?_) | ((refine awpH_split 8 Zz Zz Zz Zz (fun hc => ?_) (fun hc => ?_) <;> try simp at hc) <;> (first | (refine zt8 ?_) | (refine zp8 ?_)))
       first | (refine zt9 ?_) | (refine zp9 ?_) | ((refine awpH_split 9 Zz Zz Zz Zz (fun hc => ?_) (fun hc => ?_) <;> try simp at hc) <;> (first | (refine zt9 ?_) | (refine zp9 ?_)))
       first | (refine zt10 ?_) | (refine zp10 ?_) | ((refine awpH_split 10 Zz Zz Zz Zz (fun hc => ?_) (fun hc => ?_) <;> try simp at hc) <;> (first | (refine zt10 ?_) | (refine zp10 ?_)))
       first | (refine awpH_pass 11 rfl kr kr kr nh Zz Zz ?_) | (refine w_u [11] kr rfl ⟨?_, trivial⟩; first | (refine zho ?_) | refine w_B _ (hci _ _) Zz Zz Zz Zz Zz Zz Zz Zz Zz ft Zz Zz sb rfl ?_ | refine w_B _ (hht _ _ rfl _) Zz Zz Zz Zz Zz Zz Zz Zz Zz ft Zz Zz sb rfl ?_)
       first | (refine awpH_pass 12 rfl kr kr kr nh Zz Zz ?_) | (refine w_u [12] kr rfl ⟨?_, trivial⟩; first | (refine zho ?_) | refine w_B _ (hci _ _) Zz Zz Zz Zz Zz Zz Zz Zz Zz ft Zz Zz sb rfl ?_ | refine w_B _ (hht _ _ rfl _) Zz Zz Zz Zz Zz Zz Zz Zz Zz ft Zz Zz sb rfl ?_)
       first | (refine zt13 ?_) | (refine zp13 ?_) | ((refine awpH_split 13 Zz Zz Zz Zz (fun hc => ?_) (fun hc => ?_) <;> try simp at hc) <;> (first | (refine zt13 ?_) | (refine zp13 ?_)))
       refine zt14 ?_
       refine w_v kr ?_
       rotate_left
       all_goals ((repeat' (first | refine stp ?_ | (refine stq ?_ ?_ <;> (intro hc; ((try simp at hc) <;> try contradiction))) | fail)) <;> try (exfalso; omega))
       refine awp_held TM [(2, _), (5, _), (7, _), (8, _)] sb rfl (fun ρs => ?_)
       refine zt0 ?_
       refine zt1 ?_
       refine zt2 ?_
       refine zt3 ?_
       refine zt4 ?_
       refine zt6 ?_
       refine zt7 ?_
       refine zt8 ?_
       refine zt9 ?_
       refine w_u [5, 10] kr rfl ⟨?_, ?_, trivial⟩
       first | (refine zho ?_) | refine w_B _ (hht _ _ rfl _) Zz Zz Zz Zz Zz Zz Zz Zz Zz ft Zz Zz sb rfl ?_ | (refine w_F _ (hpu _ _ _ _ _ rfl h5 h6) Zz Zz Zz Zz Zz Zz Zz Zz ft Zz Zz ?_; rintro v Hout n1 ⟨kk, m1, m2, q1, q2, l', hs', hk1, hk2, hk3, hm1, hm2, hl', hhs', hq1, hq2, rfl, rfl, rfl⟩; refine ⟨sb, ?_⟩)
       refine w_u [10] kr rfl ⟨?_, trivial⟩
       first | (refine zho ?_) | refine w_B _ (hht _ _ rfl _) Zz Zz Zz Zz Zz Zz Zz Zz Zz ft Zz Zz sb rfl ?_ | (refine w_F _ (hpu _ _ _ _ _ rfl h5 h6) Zz Zz Zz Zz Zz Zz Zz Zz ft Zz Zz ?_; rintro v Hout n1 ⟨kk, m1, m2, q1, q2, l', hs', hk1, hk2, hk3, hm1, hm2, hl', hhs', hq1, hq2, rfl, rfl, rfl⟩; refine ⟨sb, ?_⟩)
       refine w_u [11] kr rfl ⟨?_, trivial⟩
       first | (refine zho ?_) | refine w_B _ (hht _ _ rfl _) Zz Zz Zz Zz Zz Zz Zz Zz Zz ft Zz Zz sb rfl ?_ | (refine w_F _ (hpu _ _ _ _ _ rfl h5 h6) Zz Zz Zz Zz Zz Zz Zz Zz ft Zz Zz ?_; rintro v Hout n1 ⟨kk, m1, m2, q1, q2, l', hs', hk1, hk2, hk3, hm1, hm2, hl', hhs', hq1, hq2, rfl, rfl, rfl⟩; refine ⟨sb, ?_⟩)
       refine w_u [12] kr rfl ⟨?_, trivial⟩
       first | (refine zho ?_) | refine w_B _ (hht _ _ rfl _) Zz Zz Zz Zz Zz Zz Zz Zz Zz ft Zz Zz sb rfl ?_ | (refine w_F _ (hpu _ _ _ _ _ rfl h5 h6) Zz Zz Zz Zz Zz Zz Zz Zz ft Zz Zz ?_; rintro v Hout n1 ⟨kk, m1, m2, q1, q2, l', hs', hk1, hk2, hk3, hm1, hm2, hl', hhs', hq1, hq2, rfl, rfl, rfl⟩; refine ⟨sb, ?_⟩)
       refine zt13 ?_
       refine zt14 ?_
       refine zt15 ?_
       refine zt16 ?_
       refine zt17 ?_
       refine w_v kr ?_
       rotate_left
       first | (refine zho ?_) | refine w_B _ (hht _ _ rfl _) Zz Zz Zz Zz Zz Zz Zz Zz Zz ft Zz Zz sb rfl ?_ | (refine w_F _ (hpu _ _ _ _ _ rfl h5 h6) Zz Zz Zz Zz Zz Zz Zz Zz ft Zz Zz ?_; rintro v Hout n1 ⟨kk, m1, m2, q1, q2, l', hs', hk1, hk2, hk3, hm1, hm2, hl', hhs', hq1, hq2, rfl, rfl, rfl⟩; refine ⟨sb, ?_⟩)
       refine w_u [5, 11] kr rfl ⟨?_, ?_, trivial⟩
       first | (refine zho ?_) | refine w_B _ (hht _ _ rfl _) Zz Zz Zz Zz Zz Zz Zz Zz Zz ft Zz Zz sb rfl ?_ | (refine w_F _ (hpu _ _ _ _ _ rfl h5 h6) Zz Zz Zz Zz Zz Zz Zz Zz ft Zz Zz ?_; rintro v Hout n1 ⟨kk, m1, m2, q1, q2, l', hs', hk1, hk2, hk3, hm1, hm2, hl', hhs', hq1, hq2, rfl, rfl, rfl⟩; refine ⟨sb, ?_⟩)
       refine w_u [11] kr rfl ⟨?_, trivial⟩
       first | (refine zho ?_) | refine w_B _ (hht _ _ rfl _) Zz Zz Zz Zz Zz Zz Zz Zz Zz ft Zz Zz sb rfl ?_ | (refine w_F _ (hpu _ _ _ _ _ rfl h5 h6) Zz Zz Zz Zz Zz Zz Zz Zz ft Zz Zz ?_; rintro v Hout n1 ⟨kk, m1, m2, q1, q2, l', hs', hk1, hk2, hk3, hm1, hm2, hl', hhs', hq1, hq2, rfl, rfl, rfl⟩; refine ⟨sb, ?_⟩)
       refine w_u [12] kr rfl ⟨?_, trivial⟩
       first | (refine zho ?_) | refine w_B _ (hht _ _ rfl _) Zz Zz Zz Zz Zz Zz Zz Zz Zz ft Zz Zz sb rfl ?_ | (refine w_F _ (hpu _ _ _ _ _ rfl h5 h6) Zz Zz Zz Zz Zz Zz Zz Zz ft Zz Zz ?_; rintro v Hout n1 ⟨kk, m1, m2, q1, q2, l', hs', hk1, hk2, hk3, hm1, hm2, hl', hhs', hq1, hq2, rfl, rfl, rfl⟩; refine ⟨sb, ?_⟩)
       refine zt13 ?_
       refine zt14 ?_
       refine zt15 ?_
       refine zt16 ?_
       refine zt17 ?_
       refine w_v kr ?_
       rotate_left
       first | (refine zho ?_) | refine w_B _ (hht _ _ rfl _) Zz Zz Zz Zz Zz Zz Zz Zz Zz ft Zz Zz sb rfl ?_ | (refine w_F _ (hpu _ _ _ _ _ rfl h5 h6) Zz Zz Zz Zz Zz Zz Zz Zz ft Zz Zz ?_; rintro v Hout n1 ⟨kk, m1, m2, q1, q2, l', hs', hk1, hk2, hk3, hm1, hm2, hl', hhs', hq1, hq2, rfl, rfl, rfl⟩; refine ⟨sb, ?_⟩)
       refine w_u [5] kr rfl ⟨?_, trivial⟩
       first | (refine zho ?_) | refine w_B _ (hht _ _ rfl _) Zz Zz Zz Zz Zz Zz Zz Zz Zz ft Zz Zz sb rfl ?_ | (refine w_F _ (hpu _ _ _ _ _ rfl h5 h6) Zz Zz Zz Zz Zz Zz Zz Zz ft Zz Zz ?_; rintro v Hout n1 ⟨kk, m1, m2, q1, q2, l', hs', hk1, hk2, hk3, hm1, hm2, hl', hhs', hq1, hq2, rfl, rfl, rfl⟩; refine ⟨sb, ?_⟩)
       refine w_u [12] kr rfl ⟨?_, trivial⟩
       first | (refine zho ?_) | refine w_B _ (hht _ _ rfl _) Zz Zz Zz Zz Zz Zz Zz Zz Zz ft Zz Zz sb rfl ?_ | (refine w_F _ (hpu _ _ _ _ _ rfl h5 h6) Zz Zz Zz Zz Zz Zz Zz Zz ft Zz Zz ?_; rintro v Hout n1 ⟨kk, m1, m2, q1, q2, l', hs', hk1, hk2, hk3, hm1, hm2, hl', hhs', hq1, hq2, rfl, rfl, rfl⟩; refine ⟨sb, ?_⟩)
       refine zt13 ?_
       refine zt14 ?_
       refine zt15 ?_
       refine zt16 ?_
       refine zt17 ?_
       refine w_v kr ?_
       rotate_left
       all_goals
        rw [g4] at hl' hk2 hk3
        have hpe : l'.Perm ((ls.getD (0 + (i : Int).toNat) rowD) :: pl) := by
         rw [hl']
         refine List.perm_middle.trans (List.Perm.cons _ ?_)
         rw [List.take_append_drop]
        have hm1' : m1 = l'.length := by rw [hm1, hpe.length_eq]; rfl
        have hm2' : m2 = hs'.length := by rw [hm2, hhs', List.length_append, List.length_cons, List.length_take, List.length_drop]; omega
        subst hm1' hm2'
        ((first | refine awpL_ghost (Ghost.tell 13 6 (.rows false true l') Zz Zz Zz (fun x hx => by obtain ⟨r, hr, rfl⟩ := List.mem_map.1 hx; exact ⟨rfl, by rcases List.mem_cons.1 (hpe.mem_iff.1 hr) with e | e; (rw [e]; exact em); exact hplm r e⟩)) ?_ | refine awp_ghost (Ghost.tell 13 6 (.rows false true l') Zz Zz Zz (fun x hx => by obtain ⟨r, hr, rfl⟩ := List.mem_map.1 hx; exact ⟨rfl, by rcases List.mem_cons.1 (hpe.mem_iff.1 hr) with e | e; (rw [e]; exact em); exact hplm r e⟩)) ?_ | refine awpH_ghost (Ghost.tell 13 6 (.rows false true l') Zz Zz Zz (fun x hx => by obtain ⟨r, hr, rfl⟩ := List.mem_map.1 hx; exact ⟨rfl, by rcases List.mem_cons.1 (hpe.mem_iff.1 hr) with e | e; (rw [e]; exact em); exact hplm r e⟩)) ?_ | refine awpHop_ghost (Ghost.tell 13 6 (.rows false true l') Zz Zz Zz (fun x hx => by obtain ⟨r, hr, rfl⟩ := List.mem_map.1 hx; exact ⟨rfl, by rcases List.mem_cons.1 (hpe.mem_iff.1 hr) with e | e; (rw [e]; exact em); exact hplm r e⟩)) ?_); rintro _ _ ⟨rfl, rfl⟩)
        ((repeat' (first | refine stx ?_ | (refine stq ?_ ?_ <;> (intro hc; ((try simp at hc) <;> try contradiction))) | fail)) <;> try (exfalso; omega))
        refine ⟨[(7, 13), (8, 14)], (i + 1, l', hs', q1, q2), ⟨hi, by dsimp only; omega, ?_, ?_, hq1, by dsimp only; omega⟩, w_4, ⟨w_1, ⟨rfl, rfl, rfl, rfl, rfl, rfl, trivial⟩, rfl⟩⟩
        ·dsimp only
         rw [hnx, if_pos hcp, putsV_snoc, ← h3, hl', hhs']
         exact put_zip h2 hk1 hk2 hk3
        ·dsimp only
         rw [hfx, if_pos hcp]
         exact hpe.trans ((List.Perm.cons _ h4).trans (List.perm_append_singleton _ _).symm)
      ·rw [decide_eq_false hp0] at hcp
       have hpn := hp0
       rw [eN] at hpn
       have hcn : ¬ conP xs a b (ls.getD (0 + (i : Int).toNat) rowD).xs = true := by rw [hcp]; simp
       ((repeat' (first | refine stp ?_ | (refine stq ?_ ?_ <;> (intro hc; ((try simp at hc) <;> try contradiction))) | fail)) <;> try (exfalso; omega))
       refine awp_held TM [(2, _), (5, _)] sb rfl (fun ρs => ?_)
       refine zt0 ?_
       refine zt1 ?_
       refine zt2 ?_
       refine zt3 ?_
       refine w_u [4] kr rfl ⟨?_, trivial⟩
       first | (refine zho ?_) | refine w_B _ (hci _ _) Zz Zz Zz Zz Zz Zz Zz Zz Zz ft Zz Zz sb rfl ?_ | refine w_B _ (hht _ _ rfl _) Zz Zz Zz Zz Zz Zz Zz Zz Zz ft Zz Zz sb rfl ?_
       refine w_u [5] kr rfl ⟨?_, trivial⟩
       first | (refine zho ?_) | refine w_B _ (hci _ _) Zz Zz Zz Zz Zz Zz Zz Zz Zz ft Zz Zz sb rfl ?_ | refine w_B _ (hht _ _ rfl _) Zz Zz Zz Zz Zz Zz Zz Zz Zz ft Zz Zz sb rfl ?_
       refine zt6 ?_
       first | (refine zt7 ?_) | (refine zp7 ?_) | ((refine awpH_split 7 Zz Zz Zz Zz (fun hc => ?_) (fun hc => ?_) <;> try simp at hc) <;> (first | (refine zt7 ?_) | (refine zp7 ?_)))
       first | (refine zt8 ?_) | (refine zp8 ?_) | ((refine awpH_split 8 Zz Zz Zz Zz (fun hc => ?_) (fun hc => ?_) <;> try simp at hc) <;> (first | (refine zt8 ?_) | (refine zp8 ?_)))
       first | (refine zt9 ?_) | (refine zp9 ?_) | ((refine awpH_split 9 Zz Zz Zz Zz (fun hc => ?_) (fun hc => ?_) <;> try simp at hc) <;> (first | (refine zt9 ?_) | (refine zp9 ?_)))
       first | (refine zt10 ?_) | (refine zp10 ?_) | ((refine awpH_split 10 Zz Zz Zz Zz (fun hc => ?_) (fun hc => ?_) <;> try simp at hc) <;> (first | (refine zt10 ?_) | (refine zp10 ?_)))
       first | (refine awpH_pass 11 rfl kr kr kr nh Zz Zz ?_) | (refine w_u [11] kr rfl ⟨?_, trivial⟩; first | (refine zho ?_) | refine w_B _ (hci _ _) Zz Zz Zz Zz Zz Zz Zz Zz Zz ft Zz Zz sb rfl ?_ | refine w_B _ (hht _ _ rfl _) Zz Zz Zz Zz Zz Zz Zz Zz Zz ft Zz Zz sb rfl ?_)
       first | (refine awpH_pass 12 rfl kr kr kr nh Zz Zz ?_) | (refine w_u [12] kr rfl ⟨?_, trivial⟩; first | (refine zho ?_) | refine w_B _ (hci _ _) Zz Zz Zz Zz Zz Zz Zz Zz Zz ft Zz Zz sb rfl ?_ | refine w_B _ (hht _ _ rfl _) Zz Zz Zz Zz Zz Zz Zz Zz Zz ft Zz Zz sb rfl ?_)
       first | (refine zt13 ?_) | (refine zp13 ?_) | ((refine awpH_split 13 Zz Zz Zz Zz (fun hc => ?_) (fun hc => ?_) <;> try simp at hc) <;> (first | (refine zt13 ?_) | (refine zp13 ?_)))
       refine zt14 ?_
       refine w_v kr ?_
       rotate_left
       all_goals ((repeat' (first | refine stx ?_ | (refine stq ?_ ?_ <;> (intro hc; ((try simp at hc) <;> try contradiction))) | fail)) <;> try (exfalso; omega))
       all_goals exact ⟨[], (i + 1, pl, ph, d1, d2), ⟨hi, h2, by dsimp only; rw [hnx, if_neg hcn, List.append_nil]; exact h3, by dsimp only; rw [hfx, if_neg hcn, List.append_nil]; exact h4, h5, h6⟩, w_4, ⟨w_1, w_2, rfl⟩⟩
    ·obtain rfl : i = l.length := by omega
     rw [List.take_of_length_le (by omega)] at h3 h4
     have hfst : (putsV (baseL xs a b L)).map Prod.fst = rowsX pl := by rw [← h3, List.map_fst_zip (by simp [h2])]; rfl
     have hcon : ∀ r ∈ pl, conP xs a b r.xs = true := fun r hr => (List.mem_filter.1 (h4.mem_iff.1 hr)).2
     ((repeat' (first | refine stx ?_ | (refine stq ?_ ?_ <;> (intro hc; ((try simp at hc) <;> try contradiction))) | fail)) <;> try (exfalso; omega))
     refine w_G hE (fun x : Nat × List Row × Nat => x.1 ≤ pl.length ∧ rowsX x.2.1 = greedL (inAny xs a b) ((rowsX pl).take x.1) ∧ x.2.1.Sublist (pl.take x.1)) (fun x => pl.length - x.1)
      (fun x => [(1, .one (.ptr 2 3 0 0)), (10, vS 7 1 0 pl.length d1), (13, vS 9 1 0 x.2.1.length x.2.2), (14, vI x.1)])
      (fun x => [(1, .ro (.ints xs)), (2, .own 26 1 (.lit [.int a, .int b, .sl 1 1 0 xs.length ca])), (6, .tok 3 false ls), (7, .own 24 d1 (.rows false true pl)), (9, .own 24 x.2.2 (.rows false true x.2.1))]) 10 [] (0, [], 0) ⟨Nat.zero_le _, rfl, List.Sublist.refl _⟩ ⟨w_1, w_2, rfl⟩ ?_
     rintro ⟨t, o, d3⟩ ⟨u1, u2, u3⟩
     dsimp only at u1 u2 u3
     have hol : o.length ≤ t := Nat.le_trans u3.length_le (by rw [List.length_take]; omega)
     have hom : ∀ r ∈ o, r ∈ pl := fun r hr => List.mem_of_mem_take (u3.mem hr)
     by_cases ht : t < pl.length
     ·have e1 : (pl.getD (0 + (t : Int).toNat) rowD) = pl[t] := by rw [show 0 + (t : Int).toNat = t by omega, getD_in ht]
      have em : (pl.getD (0 + (t : Int).toNat) rowD) ∈ pl := by rw [e1]; exact List.getElem_mem ht
      obtain ⟨g1, g2, g3⟩ := hrow (pl.getD (0 + (t : Int).toNat) rowD) (hplm _ em)
      have g4 := row_eta (hlps (pl.getD (0 + (t : Int).toNat) rowD) (hplm _ em))
      have hst := fun n c (hn : n = (pl.getD (0 + (t : Int).toNat) rowD).xs.length) c2 c3 => d_stepR a b xs.length c2 n c c3 xs (pl.getD (0 + (t : Int).toNat) rowD).xs o rfl hn hl (by omega) g2 (by omega) (fun r hr => ⟨by rw [(hrow r (hplm r (hom r hr))).1, g1], (hrow r (hplm r (hom r hr))).2.1⟩)
      have hany : (o.any fun r => inConeB a b xs (difL (pl.getD (0 + (t : Int).toNat) rowD).xs r.xs)) = (rowsX o).any fun y => inAny xs a b (difL (pl.getD (0 + (t : Int).toNat) rowD).xs y) := by
       rw [rowsX, List.any_map]
       have e : ∀ r ∈ o, inConeB a b xs (difL (pl.getD (0 + (t : Int).toNat) rowD).xs r.xs) = inAny xs a b (difL (pl.getD (0 + (t : Int).toNat) rowD).xs r.xs) := fun r hr => by
        obtain ⟨q1, q2, q3⟩ := hrow r (hplm r (hom r hr))
        refine inConeB_any hC (by rw [difL_len]; exact g1) (all_num fun j hj => ?_)
        rw [difL_len] at hj
        have y1 := g3 j (by omega)
        have y2 := q3 j (by omega)
        rw [difL_at hj]; omega
       rw [Bool.eq_iff_iff, List.any_eq_true, List.any_eq_true]
       exact ⟨fun ⟨r, h1, h2⟩ => ⟨r, h1, by rw [← h2]; exact (e r h1).symm⟩, fun ⟨r, h1, h2⟩ => ⟨r, h1, by rw [← h2]; exact e r h1⟩⟩
      have eN : pl.getD (0 + (t : Int).toNat) rowD = pl[t]?.getD rowD := by rw [show 0 + (t : Int).toNat = t by omega, List.getD_eq_getElem?_getD]
      have hgn : greedL (inAny xs a b) ((rowsX pl).take (t + 1)) = if (rowsX o).any (fun y => inAny xs a b (difL (pl.getD (0 + (t : Int).toNat) rowD).xs y)) then rowsX o else rowsX o ++ [(pl.getD (0 + (t : Int).toNat) rowD).xs] := by
       rw [List.take_succ_eq_append_getElem (by simp [rowsX]; exact ht), greedL_snoc, ← u2]
       have : (rowsX pl)[t]'(by simp [rowsX]; exact ht) = (pl.getD (0 + (t : Int).toNat) rowD).xs := by rw [e1]; simp [rowsX]
       rw [this]
      have hsn : pl.take (t + 1) = pl.take t ++ [pl.getD (0 + (t : Int).toNat) rowD] := by rw [List.take_succ_eq_append_getElem ht, e1]
      by_cases hng : stepJ a b xs o (pl.getD (0 + (t : Int).toNat) rowD).xs < 0
      ·have hf := stepJ_neg.1 hng
       have hnn := hng
       rw [eN] at hnn
       rw [hany] at hf
       ((repeat' (first | refine stp ?_ | (refine stq ?_ ?_ <;> (intro hc; ((try simp at hc) <;> try contradiction))) | fail)) <;> try (exfalso; omega))
       refine awp_held TM [(2, _), (7, _), (9, _)] sb rfl (fun ρs => ?_)
       refine zt0 ?_
       refine zt1 ?_
       refine zt2 ?_
       refine zt3 ?_
       refine zt4 ?_
       refine w_u [5] kr rfl ⟨?_, trivial⟩
       first | (refine zho ?_) | refine w_B _ (hst _ _ rfl _ _) Zz Zz Zz Zz Zz Zz Zz Zz Zz ft Zz Zz sb rfl ?_
       refine w_u [6] kr rfl ⟨?_, trivial⟩
       first | (refine zho ?_) | refine w_B _ (hst _ _ rfl _ _) Zz Zz Zz Zz Zz Zz Zz Zz Zz ft Zz Zz sb rfl ?_
       refine zt7 ?_
       refine w_v kr ?_
       rotate_left
       all_goals ((repeat' (first | refine stx ?_ | (refine w_x TT Zz Zz Zz Zz Zz sd ?_; intro cap hcap) | (refine stq ?_ ?_ <;> (intro hc; ((try simp at hc) <;> try contradiction))) | fail)) <;> try (exfalso; omega))
       all_goals
        refine ⟨[(9, 13)], (t + 1, _, _), ⟨ht, ?_⟩, w_4, ⟨w_1, ⟨rfl, rfl, rfl, rfl, rfl, trivial⟩, rfl⟩⟩
        show rowsX (o ++ [(⟨(pl.getD (0 + (t : Int).toNat) rowD).a, (pl.getD (0 + (t : Int).toNat) rowD).cap, (pl.getD (0 + (t : Int).toNat) rowD).xs, []⟩ : Row)]) = _ ∧ _
        rw [g4, hgn, hf, if_neg (by simp), hsn]
        exact ⟨by simp [rowsX], List.Sublist.append u3 (List.Sublist.refl _)⟩
      ·have hnn := hng
       rw [eN] at hnn
       have hf : ¬ _ := fun h => hng (stepJ_neg.2 h)
       rw [hany, Bool.not_eq_false] at hf
       ((repeat' (first | refine stp ?_ | (refine stq ?_ ?_ <;> (intro hc; ((try simp at hc) <;> try contradiction))) | fail)) <;> try (exfalso; omega))
       refine awp_held TM [(2, _), (7, _), (9, _)] sb rfl (fun ρs => ?_)
       refine zt0 ?_
       refine zt1 ?_
       refine zt2 ?_
       refine zt3 ?_
       refine zt4 ?_
       refine w_u [5] kr rfl ⟨?_, trivial⟩
       first | (refine zho ?_) | refine w_B _ (hst _ _ rfl _ _) Zz Zz Zz Zz Zz Zz Zz Zz Zz ft Zz Zz sb rfl ?_
       refine w_u [6] kr rfl ⟨?_, trivial⟩
       first | (refine zho ?_) | refine w_B _ (hst _ _ rfl _ _) Zz Zz Zz Zz Zz Zz Zz Zz Zz ft Zz Zz sb rfl ?_
       refine zt7 ?_
       refine w_v kr ?_
       rotate_left
       all_goals ((repeat' (first | refine stx ?_ | (refine w_x TT Zz Zz Zz Zz Zz sd ?_; intro cap hcap) | (refine stq ?_ ?_ <;> (intro hc; ((try simp at hc) <;> try contradiction))) | fail)) <;> try (exfalso; omega))
       all_goals exact ⟨[], (t + 1, o, d3), ⟨ht, by dsimp only; rw [hgn, hf, if_pos rfl], by dsimp only; rw [hsn]; exact u3.trans (List.sublist_append_left _ _)⟩, w_4, ⟨w_1, w_2, rfl⟩⟩
     ·obtain rfl : t = pl.length := by omega
      rw [List.take_of_length_le (by simp [rowsX])] at u2
      rw [List.take_of_length_le (Nat.le_refl _)] at u3
      ((first | refine awpL_ghost (Ghost.part 6 (l' := o) rfl (fun r hr => hplm r (hom r hr)) (fun hp => ((h4.pairwise_iff (fun h => h.symm)).2 (hp.sublist List.filter_sublist)).sublist u3)) ?_ | refine awp_ghost (Ghost.part 6 (l' := o) rfl (fun r hr => hplm r (hom r hr)) (fun hp => ((h4.pairwise_iff (fun h => h.symm)).2 (hp.sublist List.filter_sublist)).sublist u3)) ?_ | refine awpH_ghost (Ghost.part 6 (l' := o) rfl (fun r hr => hplm r (hom r hr)) (fun hp => ((h4.pairwise_iff (fun h => h.symm)).2 (hp.sublist List.filter_sublist)).sublist u3)) ?_ | refine awpHop_ghost (Ghost.part 6 (l' := o) rfl (fun r hr => hplm r (hom r hr)) (fun hp => ((h4.pairwise_iff (fun h => h.symm)).2 (hp.sublist List.filter_sublist)).sublist u3)) ?_); rintro _ _ ⟨rfl, rfl⟩)
      ((repeat' (first | refine stx ?_ | (refine stq ?_ ?_ <;> (intro hc; ((try simp at hc) <;> try contradiction))) | fail)) <;> try (exfalso; omega))
      exact fin rfl w_3 [(2, 9), (3, 6)] (.tup [.one (.sl 2 1 0 o.length d3), .one (.bool true)]) [(2, .own 24 d3 (.rows false true o)), (3, .tok 3 false o)] 4
       ⟨o, d3, by rw [Int.toNat_natCast, Int.toNat_natCast, hfst]; exact u2, rfl, rfl, rfl⟩ rfl ⟨trivial, ⟨rfl, rfl, trivial⟩, rfl⟩ rfl
end Go.Proofs.YtfkbjkmlpinoeaaGreat
namespace Go.Proofs.YtfkbjkmlpinoeaaGreat
open Go.RowKit
theorem base_nodup {xs : List Int} {a b : Nat} {L : List (List Int)} (h : L.Nodup) : (baseL xs a b L).Nodup := by
  refine List.pairwise_map.2 ((h.filter _).imp fun {x y} h e => h ?_)
  exact (Prod.ext_iff.1 e).1
theorem boxO_nodup {lo hi : List Int} {L : List (List Int)} (h : boxO lo hi = some L) : L.Nodup := by
  unfold boxO at h
  split at h
  · cases h; exact box_nodup _
  · cases h
def hilO (r c : Int) (xs : List Int) : Option (List (List Int)) := ((hboxB r c xs).bind fun w => boxO (w.map fun x => -x) w).map fun L => greedL (inAny xs r.toNat c.toNat) ((putsV (baseL xs r.toNat c.toNat L)).map Prod.fst)
theorem hilG_eq {th t : TypeId} {r c : Int} {xs : List Int} {v : AV} {Hout : List (Nat × Blk)} {n1 : Nat} (h : HilG th t r c xs v Hout n1) : PtsR th t (hilO r c xs) 2 v Hout n1 := by
  unfold HilG at h
  unfold hilO
  cases hB : (hboxB r c xs).bind fun w => boxO (w.map fun x => -x) w with
  | none => rw [hB] at h; exact h
  | some L => rw [hB] at h; exact h
theorem hilR_eq {th t : TypeId} {r c : Int} {xs : List Int} {v : AV} {Hout : List (Nat × Blk)} {n1 : Nat} (h : HilR th t r c xs v Hout n1) : PtsR th t (hilO r c xs) 2 v Hout n1 := by
  unfold HilR at h
  unfold hilO
  cases hB : (hboxB r c xs).bind fun w => boxO (w.map fun x => -x) w with
  | none => rw [hB] at h; exact h
  | some L =>
    rw [hB] at h
    obtain ⟨M, h1, h2, h3⟩ := h
    obtain ⟨w, hw, hO⟩ := Option.bind_eq_some_iff.1 hB
    obtain ⟨a, b, rfl, rfl, ha, hb1, hb, hx, hxn, hp, hwl, hwn, hw0⟩ := hbox_dims hw
    rw [Int.toNat_natCast, Int.toNat_natCast] at h1
    have e := greed_irr hx hxn hp (fun v hv => by rw [(box_sm hw0 hO v hv).1, hwl]) (boxO_nodup hO) h1 h2 (puts_strict (base_nodup (boxO_nodup hO))) (fun x => mem_puts)
    rw [e, greed_fst] at h3
    rw [Option.map_some, Int.toNat_natCast, Int.toNat_natCast]
    exact h3
theorem d_hilI (r c : Int) (xs : List Int) (ca : Nat) (hl : xs.length ≤ 1099511627776) (hca : xs.length ≤ ca) : Does Tryz.prog 22 [vM r c 1 xs.length ca] [(1, .ro (.ints xs))] 2 (PtsR 24 3 (hilO r c xs) 2) := (d_hilbI r c xs ca hl hca).mono fun _ _ _ h => hilR_eq h
theorem d_hilS (r c : Int) (xs : List Int) (ca : Nat) (hl : xs.length ≤ 1099511627776) : Does Tryz.prog 23 [vM r c 1 xs.length ca] [(1, .ro (.ints xs))] 2 (PtsR 24 3 (hilO r c xs) 2) := (d_hilbS r c xs ca hl).mono fun _ _ _ h => hilG_eq h
theorem greedL_sub {K : List Int → Bool} (l : List (List Int)) : (greedL K l).Sublist l := by
  suffices h : ∀ (l o : List (List Int)), (l.foldl (fun out x => if out.any fun y => K (difL x y) then out else out ++ [x]) o).Sublist (o ++ l) from h l []
  intro l
  induction l with
  | nil => intro o; simp
  | cons x l ih =>
    intro o
    rw [List.foldl_cons]
    refine (ih _).trans ?_
    split
    · exact List.Sublist.append (List.Sublist.refl _) (List.sublist_cons_self _ _)
    · rw [List.append_assoc]; exact List.Sublist.refl _
theorem puts_len (L : List (List Int × Int)) : (putsV L).length = L.length := by
  suffices h : ∀ (L M : List (List Int × Int)), (L.foldl putV M).length = M.length + L.length by have := h L []; rw [List.length_nil, Nat.zero_add] at this; exact this
  have hp : ∀ (L : List (List Int × Int)) x, (putV L x).length = L.length + 1 := fun L x => by
    induction L with
    | nil => rfl
    | cons y L ih => rw [putV]; split <;> simp [ih]
  intro L
  induction L with
  | nil => intro M; rfl
  | cons x L ih => intro M; rw [List.foldl_cons, ih, hp, List.length_cons]; omega
theorem hil_some {r c : Int} {xs : List Int} {G : List (List Int)} (h : hilO r c xs = some G) : ∃ (a b : Nat) (w : List Int) (L : List (List Int)), r = a ∧ c = b ∧ a ≤ 8 ∧ 1 ≤ b ∧ b ≤ 3 ∧ xs.length = a * b ∧ xs.all numB = true ∧ coneM a b xs = true ∧ pointB a b xs = true ∧
    hboxB a b xs = some w ∧ boxO (w.map fun x => -x) w = some L ∧ G.length ≤ 4000 ∧ (∀ k, 0 ≤ w.getD k 0 ∧ w.getD k 0 ≤ 2000) ∧ (∀ v ∈ G, v ∈ L ∧ v.length = b ∧ v.all numB = true ∧ (∀ k, k < b → -2000 ≤ v.getD k 0 ∧ v.getD k 0 ≤ 2000) ∧ inAny xs a b v = true ∧ 0 < htTo xs b v a) ∧
    G = greedL (inAny xs a b) ((putsV (baseL xs a b L)).map Prod.fst) := by
  unfold hilO at h
  obtain ⟨L, hB, rfl⟩ := Option.map_eq_some_iff.1 h
  obtain ⟨w, hw, hO⟩ := Option.bind_eq_some_iff.1 hB
  obtain ⟨a, b, rfl, rfl, ha, hb1, hb, hx, hxn, hp, hwl, hwn, hw0⟩ := hbox_dims hw
  rw [Int.toNat_natCast, Int.toNat_natCast]
  have hC : coneM a b xs = true := by
    unfold pointB at hp
    split at hp
    · simp only [Bool.and_eq_true] at hp; exact hp.1
    · cases hp
  have hsm := box_sm hw0 hO
  have hl4 := box_4000 (fun k _ => neg_wid hw0 k) hO
  refine ⟨a, b, w, L, rfl, rfl, ha, hb1, hb, hx, hxn, hC, hp, hw, hO, ?_, fun k => ⟨hw0 k, ?_⟩, fun v hv => ?_, rfl⟩
  · refine Nat.le_trans (greedL_sub _).length_le ?_
    rw [List.length_map, puts_len, baseL, List.length_map]
    exact Nat.le_trans (List.length_filter_le _ _) hl4
  · unfold boxO at hO
    split at hO
    · rename_i hok
      by_cases hk : k < (w.map fun x => -x).length
      · have := ok_wid (fun k _ => neg_wid hw0 k) (Nat.le_refl _) hok k hk
        have hn : (w.map fun x => -x).getD k 0 = -(w.getD k 0) := by
          simp only [List.getD_eq_getElem?_getD, List.getElem?_map]; cases w[k]? <;> simp
        rw [widW, hn] at this; omega
      · rw [List.getD_eq_getElem?_getD, List.getElem?_eq_none (by simpa using hk)]; simp
    · cases hO
  · have h1 := (greedL_sub _).mem hv
    obtain ⟨⟨u, n⟩, h2, rfl⟩ := List.mem_map.1 h1
    rw [mem_puts, baseL] at h2
    obtain ⟨u', h3, e⟩ := List.mem_map.1 h2
    cases e
    obtain ⟨h4, h5⟩ := List.mem_filter.1 h3
    obtain ⟨h6, h7⟩ := hsm u h4
    rw [hwl] at h6 h7
    rw [conP_iff hx hxn hp h6, Bool.and_eq_true, decide_eq_true_eq] at h5
    have h8 : u.all numB = true := all_num fun k hk => by
      have := h7 k (by omega)
      omega
    exact ⟨h4, h6, h8, h7, h5.1, h5.2⟩
end Go.Proofs.YtfkbjkmlpinoeaaGreat
