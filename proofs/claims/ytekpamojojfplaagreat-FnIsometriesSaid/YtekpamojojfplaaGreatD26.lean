/-
  TEXTS OF THE PROOF, put together: bShI, bAddL, bHilbP, pPut2.
-/
import Derived.Test.YtekpamojojfplaaGreatD23
import Derived.Test.YtekpamojojfplaaGreatD20
import Derived.Test.YtekpamojojfplaaGreatD24
import Derived.Test.YtekpamojojfplaaGreatD25
import Derived.Test.YtekpamojojfplaaGreatD19
import Derived.Test.YtekpamojojfplaaGreatD16
import Derived.Test.YtekpamojojfplaaGreatD17
import Derived.Test.YtekpamojojfplaaGreatD21
set_option linter.unusedVariables false
set_option linter.unusedSimpArgs false
namespace Go.Proofs.YtekpamojojfplaaGreat
open Go.RowKit
def allS (r c : Int) (g : List Int) (b : Int) (l : List Row) : List (Row × Int) := (l.filter fun x => conS r c g b x.xs).map fun x => (x, (vatO r c g x.xs).getD 0)
theorem allS_next {r c : Int} {g : List Int} {b : Int} {l : List Row} {i : Nat} (h : i < l.length) : allS r c g b (l.take (i + 1)) = allS r c g b (l.take i) ++ (if conS r c g b l[i].xs then [(l[i], (vatO r c g l[i].xs).getD 0)] else []) := by
  rw [List.take_succ_eq_append_getElem h, allS, List.filter_append, List.map_append]
  congr 1
  cases hc : conS r c g b l[i].xs <;> simp [hc]
theorem allS_base {r c : Int} {g : List Int} {b : Int} {l : List Row} {L : List (List Int)} (h : rowsX l = L) : (allS r c g b l).map Vx = baseS r c g b L := by
  rw [← h, allS, baseS, rowsX, List.filter_map, List.map_map, List.map_map]; rfl
theorem shO_no1 {r c : Int} {g : List Int} {b : Int} (h : boxG r c g b = none) : shO r c g b = none := by unfold shO shV; rw [h]; rfl
theorem shO_no2 {r c : Int} {g w : List Int} {b : Int} (h : boxG r c g b = some w) (h2 : boxO (w.map fun x => -x) w = none) : shO r c g b = none := by unfold shO shV; rw [h, Option.bind_some, h2]; rfl
theorem shO_yes {r c : Int} {g w : List Int} {b : Int} {L : List (List Int)} (h : boxG r c g b = some w) (h2 : boxO (w.map fun x => -x) w = some L) : shO r c g b = some ((putsV (baseS r c g b L)).map Prod.fst) := by unfold shO shV; rw [h, Option.bind_some, h2]; rfl
theorem sh_end {r c : Int} {g : List Int} {b : Int} {L : List (List Int)} {ls lr : List Row} {vl l' : List (Row × Int)} (hlx : rowsX ls = L) (hL : L.Nodup) (h2 : vl = allS r c g b ls) (hperm : l'.Perm vl) (hsort : l'.Pairwise fun x y => ¬ cmpV (Vx y) (Vx x) < 0) (hlr : lr = l'.map Prod.fst) : rowsX lr = (putsV (baseS r c g b L)).map Prod.fst := by
  have hp : (l'.map Vx).Perm (baseS r c g b L) := (hperm.map Vx).trans (by rw [h2, allS_base hlx])
  have hn := baseS_nodup (r := r) (c := c) (g := g) (b := b) hL
  have e : l'.map Vx = putsV (baseS r c g b L) := strictV_ext (strict_of (List.pairwise_map.2 hsort) (hp.nodup_iff.2 hn)) (puts_strict hn) fun x => by rw [hp.mem_iff, mem_puts]
  rw [← e, hlr, rowsX, List.map_map, List.map_map]; rfl
set_option maxRecDepth 100000 in
set_option maxHeartbeats 16000000 in
theorem d_shI (r c : Int) (g : List Int) (b : Int) (ca : Nat) (hl : g.length ≤ 1099511627776) (hca : g.length ≤ ca) : Does Tryz.prog 44 [vM r c 1 g.length ca, vI b] [(1, .ro (.ints g))] 2 (PtsR 24 3 (shO r c g b) 2) := by
 have hr := d_boxOI r c g b ca hl hca
 refine Does.intro TT Tryz.func44 rfl (by kernel_rfl) Zz Zz fun E hE => ?_
 cases hB : boxG r c g b with
 | none =>
  rw [hB] at hr
  rw [shO_no1 hB]
  ((repeat' (first | refine stx ?_ | ((refine zqe (hr) ?_); rintro v Hout n1 ⟨cw, hcw, rfl, rfl, rfl⟩) | (refine stq ?_ ?_ <;> (intro hc; ((try simp at hc) <;> try contradiction))) | fail)) <;> try (exfalso; omega))
  exact fin rfl w_3 [(2, 4)] (.tup [.one (.sl 2 1 0 0 0), .one (.bool false)]) [(2, .own 24 0 (.rows false true []))] 3 ⟨rfl, rfl, rfl⟩ rfl ⟨trivial, ⟨rfl, trivial⟩, rfl⟩ rfl
 | some w =>
  rw [hB] at hr
  obtain ⟨n, rfl, rfl, hn, hd, hb0, hb1, hwl, hw0, -⟩ := boxG_some hB
  have hwn : w.all numB = true := all_num fun k _ => by have := hw0 k; omega
  have hw0' : ∀ k, 0 ≤ w.getD k 0 := fun k => (hw0 k).1
  have hng := fun n c (hn : n = w.length) => d_negated w n c hn (by omega) hwn
  have hbx := fun ca cb m1 m2 (h1 : m1 = (w.map fun x => -x).length) (h2 : m2 = (w.map fun x => -x).length) => (by
   subst h1
   exact d_boxed (w.map fun x => -x) w ca cb m2 (by simp) h2 (by simp; omega) (neg_num hwn) (fun n hn => List.all_eq_true.1 hwn n hn) (fun k _ => neg_wid hw0' k) : Does Tryz.prog 92 [vS 1 1 0 m1 ca, vS 2 1 0 m2 cb] [(1, .ro (.ints (w.map fun x => -x))), (2, .ro (.ints w))] 3 _)
  cases hO : boxO (w.map fun x => -x) w with
  | none =>
   rw [hO] at hbx
   rw [shO_no2 hB hO]
   ((repeat' (first | refine stx ?_ | ((refine zqe (hr) ?_); rintro v Hout n1 ⟨cw, hcw, rfl, rfl, rfl⟩) | ((refine zqe (hng _ _ rfl) ?_); rintro v Hout n1 ⟨cn, hcn, rfl, rfl, rfl⟩) | ((refine w_E (hbx _ _ _ _ rfl (by simp)) Zz Zz Zz Zz Zz Zz Zz ft rfl ?_); rintro v Hout n1 ⟨rfl, rfl, rfl⟩) | (refine stq ?_ ?_ <;> (intro hc; ((try simp at hc) <;> try contradiction))) | fail)) <;> try (exfalso; omega))
   exact fin rfl w_3 [(2, 5)] (.tup [.one (.sl 2 1 0 0 0), .one (.bool false)]) [(2, .own 24 0 (.rows false true []))] 3 ⟨rfl, rfl, rfl⟩ rfl ⟨trivial, ⟨rfl, trivial⟩, rfl⟩ rfl
  | some L =>
   rw [hO] at hbx
   rw [shO_yes hB hO]
   have hsm := box_sm hw0' hO
   ((repeat' (first | refine stx ?_ | ((refine zqe (hr) ?_); rintro v Hout n1 ⟨cw, hcw, rfl, rfl, rfl⟩) | ((refine zqe (hng _ _ rfl) ?_); rintro v Hout n1 ⟨cn, hcn, rfl, rfl, rfl⟩) | ((refine w_E (hbx _ _ _ _ rfl (by simp)) Zz Zz Zz Zz Zz Zz Zz ft rfl ?_); rintro v Hout n1 ⟨l, cap, hlL, rfl, rfl, rfl⟩) | (refine stq ?_ ?_ <;> (intro hc; ((try simp at hc) <;> try contradiction))) | fail)) <;> try (exfalso; omega))
   have hl4 : l.length ≤ 4000 := by
    have := box_4000 (fun k _ => neg_wid hw0' k) hO
    rw [← hlL, rowsX, List.length_map] at this; exact this
   ((first | refine awpL_ghost (Ghost.partN 6 (l.map stripR) rfl (fun r hr => by obtain ⟨r0, h0, rfl⟩ := List.mem_map.1 hr; exact ⟨r0, h0, rfl, rfl, rfl⟩) (fun h => List.pairwise_map.2 (h.imp fun h => h))) ?_ | refine awp_ghost (Ghost.partN 6 (l.map stripR) rfl (fun r hr => by obtain ⟨r0, h0, rfl⟩ := List.mem_map.1 hr; exact ⟨r0, h0, rfl, rfl, rfl⟩) (fun h => List.pairwise_map.2 (h.imp fun h => h))) ?_ | refine awpH_ghost (Ghost.partN 6 (l.map stripR) rfl (fun r hr => by obtain ⟨r0, h0, rfl⟩ := List.mem_map.1 hr; exact ⟨r0, h0, rfl, rfl, rfl⟩) (fun h => List.pairwise_map.2 (h.imp fun h => h))) ?_ | refine awpHop_ghost (Ghost.partN 6 (l.map stripR) rfl (fun r hr => by obtain ⟨r0, h0, rfl⟩ := List.mem_map.1 hr; exact ⟨r0, h0, rfl, rfl, rfl⟩) (fun h => List.pairwise_map.2 (h.imp fun h => h))) ?_); rintro _ _ ⟨rfl, rfl⟩)
   ((first | refine awpL_ghost (Ghost.retell 5 6 (.rows false true (l.map stripR)) Zz Zz (by show (l.map stripR).flatMap _ = l.flatMap _; rw [List.flatMap_map]; rfl) (by show (l.map stripR).length = l.length; exact List.length_map _) rfl (fun x hx => by obtain ⟨r, hr, rfl⟩ := List.mem_map.1 hx; exact ⟨rfl, hr⟩)) ?_ | refine awp_ghost (Ghost.retell 5 6 (.rows false true (l.map stripR)) Zz Zz (by show (l.map stripR).flatMap _ = l.flatMap _; rw [List.flatMap_map]; rfl) (by show (l.map stripR).length = l.length; exact List.length_map _) rfl (fun x hx => by obtain ⟨r, hr, rfl⟩ := List.mem_map.1 hx; exact ⟨rfl, hr⟩)) ?_ | refine awpH_ghost (Ghost.retell 5 6 (.rows false true (l.map stripR)) Zz Zz (by show (l.map stripR).flatMap _ = l.flatMap _; rw [List.flatMap_map]; rfl) (by show (l.map stripR).length = l.length; exact List.length_map _) rfl (fun x hx => by obtain ⟨r, hr, rfl⟩ := List.mem_map.1 hx; exact ⟨rfl, hr⟩)) ?_ | refine awpHop_ghost (Ghost.retell 5 6 (.rows false true (l.map stripR)) Zz Zz (by show (l.map stripR).flatMap _ = l.flatMap _; rw [List.flatMap_map]; rfl) (by show (l.map stripR).length = l.length; exact List.length_map _) rfl (fun x hx => by obtain ⟨r, hr, rfl⟩ := List.mem_map.1 hx; exact ⟨rfl, hr⟩)) ?_); rintro _ _ ⟨rfl, rfl⟩)
   have hlx : rowsX (l.map stripR) = L := by rw [← hlL, rowsX, rowsX, List.map_map]; rfl
   have hlps : ∀ r ∈ l.map stripR, r.ps = [] := fun r hr => by obtain ⟨r0, h0, rfl⟩ := List.mem_map.1 hr; rfl
   have hll : (l.map stripR).length = l.length := List.length_map _
   generalize l.map stripR = ls at *
   have hrow : ∀ r ∈ ls, r.xs.length = n := fun r hr => by
    obtain ⟨g1, g2⟩ := hsm r.xs (by rw [← hlx]; exact List.mem_map.2 ⟨r, hr, rfl⟩)
    rw [hwl] at g1
    exact g1
   refine w_G hE (fun x : Nat × List (Row × Int) × Nat => x.1 ≤ l.length ∧ x.2.1 = allS n n g b (ls.take x.1)) (fun x => l.length - x.1)
    (fun x => [(1, vI b), (2, .one (.ptr 2 3 0 0)), (10, .one (.sl 7 2 0 x.2.1.length x.2.2)), (35, vS 5 1 0 l.length cap), (36, vI l.length), (37, vI x.1)])
    (fun x => [(1, .ro (.ints g)), (2, .own 26 1 (.lit [.int n, .int n, .sl 1 1 0 g.length ca])), (5, .own 24 cap (.rows false true ls)), (6, .tok 3 false ls), (7, .own 94 x.2.2 (.vals true x.2.1))]) 8 [] (0, [], 0) ⟨Nat.zero_le _, rfl⟩ ⟨w_1, w_2, rfl⟩ ?_
   rintro ⟨i, vl, cap1⟩ ⟨h1, h2⟩
   dsimp only at h1 h2
   have hvl0 : vl.length ≤ i := by
    rw [h2, allS, List.length_map]
    exact Nat.le_trans (List.length_filter_le _ _) (by rw [List.length_take]; omega)
   by_cases hi : i < l.length
   ·have hils : i < ls.length := by omega
    have e1 : (ls.getD (0 + (i : Int).toNat) rowD) = ls[i] := by rw [show 0 + (i : Int).toNat = i by omega, getD_in hils]
    have em : (ls.getD (0 + (i : Int).toNat) rowD) ∈ ls := by rw [e1]; exact List.getElem_mem hils
    have g1 := hrow (ls.getD (0 + (i : Int).toNat) rowD) em
    have g4 := row_eta (hlps (ls.getD (0 + (i : Int).toNat) rowD) em)
    have hnx := allS_next (r := n) (c := n) (g := g) (b := b) hils
    rw [← e1] at hnx
    have hpo := fun n c (hn : n = (ls.getD (0 + (i : Int).toNat) rowD).xs.length) => d_posI (ls.getD (0 + (i : Int).toNat) rowD).xs n c hn (by omega)
    have hva := fun m cv (hm : m = (ls.getD (0 + (i : Int).toNat) rowD).xs.length) => (by subst hm; exact d_valI n n g (ls.getD (0 + (i : Int).toNat) rowD).xs ca cv hl (by omega) : Does Tryz.prog 95 [vM n n 1 g.length ca, vS 2 1 0 m cv] [(1, .ro (.ints g)), (2, .ro (.ints (ls.getD (0 + (i : Int).toNat) rowD).xs))] 3 (Ret (valT (vatO n n g (ls.getD (0 + (i : Int).toNat) rowD).xs)) 3))
    cases cp : posF (ls.getD (0 + (i : Int).toNat) rowD).xs with
    | false =>
     have hcp : ¬ conS n n g b (ls.getD (0 + (i : Int).toNat) rowD).xs = true := by rw [conS, cp]; simp
     rw [cp] at hpo
     ((repeat' (first | refine stx ?_ | refine zqc (hpo _ _ rfl) ?_ | (refine stq ?_ ?_ <;> (intro hc; ((try simp at hc) <;> try contradiction))) | fail)) <;> try (exfalso; omega))
     exact ⟨[], (i + 1, vl, cap1), ⟨hi, by dsimp only; rw [hnx, if_neg hcp, List.append_nil]; exact h2⟩, w_4, ⟨w_1, w_2, rfl⟩⟩
    | true =>
     rw [cp] at hpo
     cases cv : vatO n n g (ls.getD (0 + (i : Int).toNat) rowD).xs with
     | none =>
      have hcp : ¬ conS n n g b (ls.getD (0 + (i : Int).toNat) rowD).xs = true := by rw [conS, cv]; simp
      rw [cv] at hva
      ((repeat' (first | refine stx ?_ | refine zqc (hpo _ _ rfl) ?_ | ((refine zqe (hva _ _ rfl) ?_); rintro v Hout n1 ⟨rfl, rfl, rfl⟩) | (refine stq ?_ ?_ <;> (intro hc; ((try simp at hc) <;> try contradiction))) | fail)) <;> try (exfalso; omega))
      exact ⟨[], (i + 1, vl, cap1), ⟨hi, by dsimp only; rw [hnx, if_neg hcp, List.append_nil]; exact h2⟩, w_4, ⟨w_1, w_2, rfl⟩⟩
     | some z =>
      rw [cv] at hva
      have hz1 := vat_pos hd cp cv
      have hz2 : ¬ z < 1 := by omega
      by_cases hzb : z ≤ b
      ·have hcp : conS n n g b (ls.getD (0 + (i : Int).toNat) rowD).xs = true := by rw [conS, cp, cv]; simp [hz1, hzb]
       have hzb2 : ¬ b < z := by omega
       ((repeat' (first | refine stx ?_ | refine zqc (hpo _ _ rfl) ?_ | ((refine zqe (hva _ _ rfl) ?_); rintro v Hout n1 ⟨rfl, rfl, rfl⟩) | (refine zqx ?_; intro cap hcap) | (refine stq ?_ ?_ <;> (intro hc; ((try simp at hc) <;> try contradiction))) | fail)) <;> try (exfalso; omega))
       refine ⟨[(7, 10)], (i + 1, _, _), ⟨hi, ?_⟩, w_4, ⟨w_1, ⟨rfl, rfl, rfl, rfl, rfl, trivial⟩, rfl⟩⟩
       show vl ++ [((⟨(ls.getD (0 + (i : Int).toNat) rowD).a, (ls.getD (0 + (i : Int).toNat) rowD).cap, (ls.getD (0 + (i : Int).toNat) rowD).xs, []⟩ : Row), z)] = _
       rw [g4, hnx, if_pos hcp, h2, cv]; rfl
      ·have hcp : ¬ conS n n g b (ls.getD (0 + (i : Int).toNat) rowD).xs = true := by rw [conS, cv]; simp [hzb]
       have hzb2 : b < z := by omega
       ((repeat' (first | refine stx ?_ | refine zqc (hpo _ _ rfl) ?_ | ((refine zqe (hva _ _ rfl) ?_); rintro v Hout n1 ⟨rfl, rfl, rfl⟩) | (refine stq ?_ ?_ <;> (intro hc; ((try simp at hc) <;> try contradiction))) | fail)) <;> try (exfalso; omega))
       exact ⟨[], (i + 1, vl, cap1), ⟨hi, by dsimp only; rw [hnx, if_neg hcp, List.append_nil]; exact h2⟩, w_4, ⟨w_1, w_2, rfl⟩⟩
   ·obtain rfl : i = l.length := by omega
    rw [List.take_of_length_le (by omega)] at h2
    have hvm : ∀ x ∈ vl, x.1 ∈ ls ∧ numB x.2 = true := fun x hx' => by
     rw [h2, allS] at hx'
     obtain ⟨r, hr, rfl⟩ := List.mem_map.1 hx'
     obtain ⟨q1, q2⟩ := List.mem_filter.1 hr
     refine ⟨q1, ?_⟩
     cases cv : vatO n n g r.xs with
     | none => rfl
     | some z => obtain ⟨-, -, -, -, -, -, h, -⟩ := vatO_some cv; exact h
    have hod := fun m hm => d_order vl ls m cap1 hm (by omega) (fun x hx' => by
     obtain ⟨m1, m2⟩ := hvm x hx'
     have g1 := hrow x.1 m1
     have m3 := numB_true.1 m2
     exact ⟨by omega, by omega, by omega⟩) (fun x hx' => (hvm x hx').1) (fun x hx' => hlps _ (hvm x hx').1)
    have hsub : (vl.map Prod.fst).Sublist ls := by
     rw [h2, allS, List.map_map]
     rw [show (Prod.fst ∘ fun x : Row => (x, (vatO n n g x.xs).getD 0)) = id from rfl, List.map_id]
     exact List.filter_sublist
    ((repeat' (first | refine stx ?_ | (((first | refine awpL_ghost (Ghost.forget 7 Zz Zz) ?_ | refine awp_ghost (Ghost.forget 7 Zz Zz) ?_ | refine awpH_ghost (Ghost.forget 7 Zz Zz) ?_ | refine awpHop_ghost (Ghost.forget 7 Zz Zz) ?_); rintro _ _ ⟨rfl, rfl⟩); refine awpL_callM [(1, 7), (2, 6)] (hod _ rfl) Zz Zz Zz Zz Zz Zz Zz ft rfl ?_; rintro v Hout n1 ⟨l', lr, co, hperm, hsort, hlr, rfl, rfl, rfl⟩; ((first | refine awpL_ghost (Ghost.part 6 (l' := lr) rfl (fun r hr => by rw [hlr] at hr; obtain ⟨x, hx', rfl⟩ := List.mem_map.1 hr; exact (hvm x (hperm.mem_iff.1 hx')).1) (fun hp => by rw [hlr]; exact ((hperm.map Prod.fst).pairwise_iff (fun h => h.symm)).2 (hp.sublist hsub))) ?_ | refine awp_ghost (Ghost.part 6 (l' := lr) rfl (fun r hr => by rw [hlr] at hr; obtain ⟨x, hx', rfl⟩ := List.mem_map.1 hr; exact (hvm x (hperm.mem_iff.1 hx')).1) (fun hp => by rw [hlr]; exact ((hperm.map Prod.fst).pairwise_iff (fun h => h.symm)).2 (hp.sublist hsub))) ?_ | refine awpH_ghost (Ghost.part 6 (l' := lr) rfl (fun r hr => by rw [hlr] at hr; obtain ⟨x, hx', rfl⟩ := List.mem_map.1 hr; exact (hvm x (hperm.mem_iff.1 hx')).1) (fun hp => by rw [hlr]; exact ((hperm.map Prod.fst).pairwise_iff (fun h => h.symm)).2 (hp.sublist hsub))) ?_ | refine awpHop_ghost (Ghost.part 6 (l' := lr) rfl (fun r hr => by rw [hlr] at hr; obtain ⟨x, hx', rfl⟩ := List.mem_map.1 hr; exact (hvm x (hperm.mem_iff.1 hx')).1) (fun hp => by rw [hlr]; exact ((hperm.map Prod.fst).pairwise_iff (fun h => h.symm)).2 (hp.sublist hsub))) ?_); rintro _ _ ⟨rfl, rfl⟩)) | (refine stq ?_ ?_ <;> (intro hc; ((try simp at hc) <;> try contradiction))) | fail)) <;> try (exfalso; omega))
    exact fin rfl w_3 [(2, 8), (3, 6)] (.tup [.one (.sl 2 1 0 lr.length co), .one (.bool true)]) [(2, .own 24 co (.rows false true lr)), (3, .tok 3 false lr)] 4
     ⟨lr, co, sh_end hlx (boxO_nodup hO) h2 hperm hsort hlr, rfl, rfl, rfl⟩ rfl ⟨trivial, ⟨rfl, rfl, trivial⟩, rfl⟩ rfl
end Go.Proofs.YtekpamojojfplaaGreat
namespace Go.Proofs.YtekpamojojfplaaGreat
open Go.RowKit
theorem cmpL_dropK : ∀ {k : Nat} {s t : List Int}, k ≤ s.length → k ≤ t.length → s.take k = t.take k → cmpL s t = cmpL (s.drop k) (t.drop k)
  | 0, _, _, _, _, _ => by simp
  | k + 1, [], _, h, _, _ => by simp at h
  | k + 1, _ :: _, [], _, h, _ => by simp at h
  | k + 1, a :: s, b :: t, h1, h2, h => by
    simp only [List.take_succ_cons, List.cons.injEq] at h
    obtain ⟨rfl, h⟩ := h
    rw [cmpL, if_neg (by omega), if_neg (by omega), List.drop_succ_cons, List.drop_succ_cons]
    exact cmpL_dropK (by simpa using h1) (by simpa using h2) h
theorem cmpL_atK {k : Nat} {s t : List Int} (h1 : k < s.length) (h2 : k < t.length) (h : s.take k = t.take k) (hne : s[k] ≠ t[k]) : cmpL s t = if s[k] < t[k] then -1 else 1 := by
  rw [cmpL_dropK (by omega) (by omega) h, List.drop_eq_getElem_cons h1, List.drop_eq_getElem_cons h2, cmpL]
  split
  · rfl
  · rw [if_pos (by omega)]
def subX (xs : List Int) (o n : Nat) : List Int := (xs.drop o).take n
theorem subX_len {xs : List Int} {o n : Nat} (h : o + n ≤ xs.length) : (subX xs o n).length = n := by rw [subX, List.length_take, List.length_drop]; omega
theorem subX_at {xs : List Int} {o n k : Nat} (h : o + n ≤ xs.length) (hk : k < n) : (subX xs o n)[k]'(by rw [subX_len h]; exact hk) = xs.getD (o + k) 0 := by
  simp only [subX, List.getElem_take, List.getElem_drop]
  rw [getD_in (by omega)]
def lessO (xs : List Int) (o1 : Nat) (ys : List Int) (o2 n : Nat) : Bool := decide (cmpL (subX xs o1 n) (subX ys o2 n) < 0)
theorem subX_eq {xs ys : List Int} {o1 o2 n k : Nat} (h1 : o1 + n ≤ xs.length) (h2 : o2 + n ≤ ys.length) (hk : k ≤ n) (h : ∀ i, i < k → xs.getD (o1 + i) 0 = ys.getD (o2 + i) 0) : (subX xs o1 n).take k = (subX ys o2 n).take k := by
  apply List.ext_getElem (by rw [List.length_take, List.length_take, subX_len h1, subX_len h2])
  intro i a b
  rw [List.length_take, subX_len h1] at a
  rw [List.getElem_take, List.getElem_take, subX_at h1 (by omega), subX_at h2 (by omega)]
  exact h i (by omega)
set_option maxHeartbeats 1000000 in
theorem d_less (xs ys : List Int) (o1 o2 n m c1 c2 : Nat) (hm : m = n) (h1 : o1 + n ≤ xs.length) (h2 : o2 + n ≤ ys.length) (hl : xs.length ≤ 1099511627776) (hl' : ys.length ≤ 1099511627776) :
    Does Tryz.prog 202 [vS 1 1 o1 n c1, vS 2 1 o2 m c2] [(1, .ro (.ints xs)), (2, .ro (.ints ys))] 3 (Ret (vB (lessO xs o1 ys o2 n)) 3) := by
  subst hm
  refine Does.intro TT Tryz.func202 rfl (by kernel_rfl) Zz Zz fun E hE => ?_
  ((repeat' (first | refine stx ?_ | (refine stq ?_ ?_ <;> (intro hc; ((try simp at hc) <;> try contradiction))) | fail)) <;> try (exfalso; omega))
  refine w_G hE (fun k : Nat => k ≤ m ∧ ∀ i, i < k → xs.getD (o1 + i) 0 = ys.getD (o2 + i) 0) (fun k => m - k)
    (fun k => [(0, vS 1 1 o1 m c1), (1, vS 2 1 o2 m c2), (5, vI k)]) (fun _ => [(1, .ro (.ints xs)), (2, .ro (.ints ys))]) 3 [] 0 ⟨Nat.zero_le _, fun i hi => by omega⟩ ⟨w_1, w_2, rfl⟩ ?_
  rintro k ⟨hk, he⟩
  by_cases hkm : k < m
  · have i1 : o1 + (k : Int).toNat = o1 + k := by omega
    have i2 : o2 + (k : Int).toNat = o2 + k := by omega
    by_cases hv : xs.getD (o1 + k) 0 = ys.getD (o2 + k) 0
    · ((repeat' (first | refine stx ?_ | (refine stq ?_ ?_ <;> (intro hc; ((try simp at hc) <;> try contradiction))) | fail)) <;> try (exfalso; omega))
      exact ⟨[], k + 1, ⟨hkm, fun i hi => by
        by_cases e : i = k
        · subst e; exact hv
        · exact he i (by omega)⟩, w_4, ⟨w_1, w_2, rfl⟩⟩
    · have hcm := cmpL_atK (s := subX xs o1 m) (t := subX ys o2 m) (k := k) (by rw [subX_len h1]; exact hkm) (by rw [subX_len h2]; exact hkm) (subX_eq h1 h2 (by omega) he) (by rw [subX_at h1 hkm, subX_at h2 hkm]; exact hv)
      rw [subX_at h1 hkm, subX_at h2 hkm] at hcm
      have hlo : lessO xs o1 ys o2 m = decide (xs.getD (o1 + k) 0 < ys.getD (o2 + k) 0) := by
        unfold lessO
        rw [hcm]
        by_cases e : xs.getD (o1 + k) 0 < ys.getD (o2 + k) 0
        · rw [if_pos e, decide_eq_true e]; rfl
        · rw [if_neg e, decide_eq_false e]; rfl
      ((repeat' (first | refine stx ?_ | (refine stq ?_ ?_ <;> (intro hc; ((try simp at hc) <;> try contradiction))) | fail)) <;> try (exfalso; omega))
      refine fin_ret rfl w_3 (congrArg vB (by rw [hlo, i1, i2])) rfl
  · obtain rfl : k = m := by omega
    ((repeat' (first | refine stx ?_ | (refine stq ?_ ?_ <;> (intro hc; ((try simp at hc) <;> try contradiction))) | fail)) <;> try (exfalso; omega))
    have hh := subX_eq h1 h2 (Nat.le_refl _) he
    rw [List.take_of_length_le (by rw [subX_len h1]; exact Nat.le_refl _), List.take_of_length_le (by rw [subX_len h2]; exact Nat.le_refl _)] at hh
    refine fin_ret rfl w_3 (congrArg vB (by unfold lessO; rw [hh, cmpL_self]; rfl)) rfl
def AddLR (t : TypeId) (L : List (List Int)) (c : Nat) (n ca : Nat) (w : List Int) (v : AV) (Hout : List (Nat × Blk)) (n1 : Nat) : Prop :=
  (addL L w = L ∧ v = vM L.length c 1 n ca ∧ Hout = [] ∧ n1 = 3) ∨ ∃ cap, (addL L w).flatten.length ≤ cap ∧ v = .agg [.int (addL L w).length, .int c, .sl 3 1 0 (addL L w).flatten.length cap] ∧ Hout = [(3, .own t cap (.ints (addL L w).flatten))] ∧ n1 = 4
end Go.Proofs.YtekpamojojfplaaGreat
namespace Go.Proofs.YtekpamojojfplaaGreat
open Go.RowKit
def grV (v : List Int) (val : Int) (l : List Row) (hs : List Int) (j : Nat) : Prop := val < hs.getD j 0 ∨ hs.getD j 0 = val ∧ cmpL v (l.getD j rowD).xs < 0
def PutR (th t : TypeId) (l : List Row) (hs : List Int) (r : Row) (val : Int) (v : AV) (Hout : List (Nat × Blk)) (n1 : Nat) : Prop :=
  ∃ (k m1 m2 c1 c2 : Nat) (l' : List Row) (hs' : List Int), k ≤ l.length ∧ (∀ j, k ≤ j → j < l.length → grV r.xs val l hs j) ∧ (k = 0 ∨ ¬ grV r.xs val l hs (k - 1)) ∧ m1 = l.length + 1 ∧ m2 = l.length + 1 ∧ l' = l.take k ++ r :: l.drop k ∧ hs' = hs.take k ++ val :: hs.drop k ∧ m1 ≤ c1 ∧ m2 ≤ c2 ∧
    v = .tup [.one (.sl 4 1 0 m1 c1), .one (.sl 5 1 0 m2 c2)] ∧ Hout = [(4, .own th c1 (.rows false false l')), (5, .own t c2 (.ints hs'))] ∧ n1 = 6
theorem put_mid {α : Type} {l : List α} {x : α} {k ca : Nat} (hk : k ≤ l.length) (hca : l.length ≤ ca) : ([] ++ (l.drop 0).take (k : Int).toNat) ++ ([x].drop 0).take 1 ++ (l.drop (slOff 0 (k : Int).toNat ca)).take (l.length - (k : Int).toNat) = l.take k ++ x :: l.drop k := by
  rw [Int.toNat_natCast, List.nil_append, List.drop_zero, List.drop_zero, List.append_assoc]
  congr 1
  rw [show [x].take 1 = [x] from rfl, List.singleton_append]
  congr 1
  unfold slOff
  split
  · rw [show l.length - k = 0 by omega, List.take_zero, List.drop_of_length_le (by omega)]
  · rw [Nat.zero_add, List.take_of_length_le (by rw [List.length_drop]; exact Nat.le_refl _)]
set_option maxRecDepth 100000 in
set_option maxHeartbeats 8000000 in
theorem d_putS (l : List Row) (hs : List Int) (a0 : Option (Nat × Nat)) (cv n c1 c2 m : Nat) (v : List Int) (val : Int) (hm : m = v.length) (hn : n = l.length) (hhs : hs.length = l.length) (hl : l.length ≤ 100000) (hv : v.length ≤ 100000) (hc1 : l.length ≤ c1) (hc2 : l.length ≤ c2) (hr : ∀ r ∈ l, r.xs.length = v.length) :
    Does Tryz.prog 170 [vS 1 1 0 l.length c1, vS 2 1 0 n c2, vS 3 1 0 m cv, vI val] [(1, .ro (.rows false true l)), (2, .ro (.ints hs)), (3, .al a0 (.ints v))] 4 (PutR 24 3 l hs ⟨a0, cv, v, []⟩ val) := by
  subst hm hn
  refine Does.intro TT Tryz.func170 rfl (by kernel_rfl) Zz Zz fun E hE => ?_
  ((repeat' (first | refine stx ?_ | (refine stq ?_ ?_ <;> (intro hc; ((try simp at hc) <;> try contradiction))) | fail)) <;> try (exfalso; omega))
  refine w_G hE (fun k : Nat => k ≤ l.length ∧ ∀ j, k ≤ j → j < l.length → grV v val l hs j) (fun k => k)
    (fun k => [(0, vS 1 1 0 l.length c1), (1, vS 2 1 0 l.length c2), (2, vS 3 1 0 v.length cv), (3, vI val), (10, vI k)]) (fun _ => [(1, .ro (.rows false true l)), (2, .ro (.ints hs)), (3, .al a0 (.ints v))]) 4 [] l.length ⟨Nat.le_refl _, fun j h1 h2 => by omega⟩ ⟨w_1, w_2, rfl⟩ ?_
  rintro k ⟨hk, he⟩
  have hof : slOff 0 (k : Int).toNat c1 + (l.length - (k : Int).toNat) ≤ l.length := by unfold slOff; split <;> omega
  have hof2 : slOff 0 (k : Int).toNat c2 + (l.length - (k : Int).toNat) ≤ hs.length := by unfold slOff; split <;> omega
  have f1 := put_mid (l := l) (x := (⟨a0, cv, v, []⟩ : Row)) (ca := c1) hk hc1
  have f2 := put_mid (l := hs) (x := val) (ca := c2) (k := k) (by omega) (by omega)
  rw [hhs] at f2
  by_cases hk0 : k = 0
  · have hcd : k = 0 ∨ ¬ grV v val l hs (k - 1) := .inl hk0
    have hkz : ¬ 0 < k := by omega
    ((repeat' (first | refine stp ?_ | (refine stq ?_ ?_ <;> (intro hc; ((try simp at hc) <;> try contradiction))) | fail)) <;> try (exfalso; omega))
    refine awp_held TM [] sb rfl (fun ρs => ?_)
    refine zt1 ?_
    refine zt2 ?_
    refine zt3 ?_
    refine zt5 ?_
    refine zt8 ?_
    refine zt9 ?_
    refine zt10 ?_
    refine w_u [0, 6] kr rfl ⟨?_, ?_, trivial⟩
    first | (refine zho ?_) | (refine zqy ?_; intro cap hcap)
    refine w_u [4, 6] kr rfl ⟨?_, ?_, trivial⟩
    first | (refine zho ?_) | (refine zqy ?_; intro cap hcap)
    refine w_u [6] kr rfl ⟨?_, trivial⟩
    first | (refine zho ?_) | (refine zqy ?_; intro cap hcap)
    refine w_u [7] kr rfl ⟨?_, trivial⟩
    first | (refine zho ?_) | (refine zqy ?_; intro cap hcap)
    refine w_u [11] kr rfl ⟨?_, trivial⟩
    first | (refine zho ?_) | (refine zqy ?_; intro cap hcap)
    refine zt12 ?_
    refine w_v kr ?_
    rotate_left
    first | (refine zho ?_) | (refine zqy ?_; intro cap hcap)
    refine w_u [4] kr rfl ⟨?_, trivial⟩
    first | (refine zho ?_) | (refine zqy ?_; intro cap hcap)
    refine w_u [7] kr rfl ⟨?_, trivial⟩
    first | (refine zho ?_) | (refine zqy ?_; intro cap hcap)
    refine w_u [11] kr rfl ⟨?_, trivial⟩
    first | (refine zho ?_) | (refine zqy ?_; intro cap hcap)
    refine zt12 ?_
    refine w_v kr ?_
    rotate_left
    first | (refine zho ?_) | (refine zqy ?_; intro cap hcap)
    refine w_u [0] kr rfl ⟨?_, trivial⟩
    first | (refine zho ?_) | (refine zqy ?_; intro cap hcap)
    refine w_u [4] kr rfl ⟨?_, trivial⟩
    first | (refine zho ?_) | (refine zqy ?_; intro cap hcap)
    refine w_u [7] kr rfl ⟨?_, trivial⟩
    first | (refine zho ?_) | (refine zqy ?_; intro cap hcap)
    refine w_u [11] kr rfl ⟨?_, trivial⟩
    first | (refine zho ?_) | (refine zqy ?_; intro cap hcap)
    refine zt12 ?_
    refine w_v kr ?_
    rotate_left
    all_goals ((repeat' (first | refine stp ?_ | (refine stq ?_ ?_ <;> (intro hc; ((try simp at hc) <;> try contradiction))) | fail)) <;> try (exfalso; omega))
    all_goals
      refine awp_held TM [] sb rfl (fun ρs => ?_)
      refine zt1 ?_
      refine zt2 ?_
      refine zt3 ?_
      refine zt5 ?_
      refine zt8 ?_
      refine zt9 ?_
      refine zt10 ?_
      refine w_u [0, 6] kr rfl ⟨?_, ?_, trivial⟩
      first | (refine zho ?_) | (refine zqy ?_; intro cap hcap)
      refine w_u [4, 6] kr rfl ⟨?_, ?_, trivial⟩
      first | (refine zho ?_) | (refine zqy ?_; intro cap hcap)
      refine w_u [6] kr rfl ⟨?_, trivial⟩
      first | (refine zho ?_) | (refine zqy ?_; intro cap hcap)
      refine w_u [7] kr rfl ⟨?_, trivial⟩
      first | (refine zho ?_) | (refine zqy ?_; intro cap hcap)
      refine w_u [11] kr rfl ⟨?_, trivial⟩
      first | (refine zho ?_) | (refine zqy ?_; intro cap hcap)
      refine zt12 ?_
      refine w_v kr ?_
      rotate_left
      first | (refine zho ?_) | (refine zqy ?_; intro cap hcap)
      refine w_u [4] kr rfl ⟨?_, trivial⟩
      first | (refine zho ?_) | (refine zqy ?_; intro cap hcap)
      refine w_u [7] kr rfl ⟨?_, trivial⟩
      first | (refine zho ?_) | (refine zqy ?_; intro cap hcap)
      refine w_u [11] kr rfl ⟨?_, trivial⟩
      first | (refine zho ?_) | (refine zqy ?_; intro cap hcap)
      refine zt12 ?_
      refine w_v kr ?_
      rotate_left
      first | (refine zho ?_) | (refine zqy ?_; intro cap hcap)
      refine w_u [0] kr rfl ⟨?_, trivial⟩
      first | (refine zho ?_) | (refine zqy ?_; intro cap hcap)
      refine w_u [4] kr rfl ⟨?_, trivial⟩
      first | (refine zho ?_) | (refine zqy ?_; intro cap hcap)
      refine w_u [7] kr rfl ⟨?_, trivial⟩
      first | (refine zho ?_) | (refine zqy ?_; intro cap hcap)
      refine w_u [11] kr rfl ⟨?_, trivial⟩
      first | (refine zho ?_) | (refine zqy ?_; intro cap hcap)
      refine zt12 ?_
      refine w_v kr ?_
      rotate_left
      all_goals ((first | refine awpL_ghost (Ghost.forget 8 Zz Zz) ?_ | refine awp_ghost (Ghost.forget 8 Zz Zz) ?_ | refine awpH_ghost (Ghost.forget 8 Zz Zz) ?_ | refine awpHop_ghost (Ghost.forget 8 Zz Zz) ?_); rintro _ _ ⟨rfl, rfl⟩)
      all_goals ((repeat' (first | refine stx ?_ | (refine stq ?_ ?_ <;> (intro hc; ((try simp at hc) <;> try contradiction))) | fail)) <;> try (exfalso; omega))
      all_goals refine fin rfl w_3 [(4, 8), (5, 13)] (.tup [.one (.sl 4 1 0 _ _), .one (.sl 5 1 0 _ _)]) [(4, .own 24 _ (.rows false false _)), (5, .own 3 _ (.ints _))] 6 ⟨k, _, _, _, _, _, _, hk, he, hcd, ?_, ?_, f1, f2, ?_, ?_, rfl, rfl, rfl⟩ rfl ⟨trivial, ⟨rfl, rfl, trivial⟩, rfl⟩ rfl <;> omega
  · have ek : (0 + ((k : Int) - 1).toNat) = k - 1 := by omega
    have hkl : k - 1 < l.length := by omega
    have hrw : (l.getD (0 + ((k : Int) - 1).toNat) rowD).xs.length = v.length := hr _ (by rw [ek, getD_in hkl]; exact List.getElem_mem hkl)
    have hls : ∀ c1 c2, Does Tryz.prog 202 [vS 1 1 0 v.length c1, vS 2 1 0 (l.getD (0 + ((k : Int) - 1).toNat) rowD).xs.length c2] [(1, .ro (.ints v)), (2, .ro (.ints (l.getD (0 + ((k : Int) - 1).toNat) rowD).xs))] 3 (Ret (vB (decide (cmpL v (l.getD (0 + ((k : Int) - 1).toNat) rowD).xs < 0))) 3) := fun c1 c2 => by
      have := d_less v (l.getD (0 + ((k : Int) - 1).toNat) rowD).xs 0 0 v.length (l.getD (0 + ((k : Int) - 1).toNat) rowD).xs.length c1 c2 hrw (by omega) (by omega) (by omega) (by omega)
      rw [lessO, subX, subX, List.drop_zero, List.drop_zero, List.take_of_length_le (Nat.le_refl _), List.take_of_length_le (by omega)] at this
      exact this
    have nxt : grV v val l hs (k - 1) → ∀ j, k - 1 ≤ j → j < l.length → grV v val l hs j := fun hg j h1 h2 => by
      by_cases c : j = k - 1
      · rw [c]; exact hg
      · exact he j (by omega) h2
    have hgr : grV v val l hs (k - 1) ↔ (val < hs[k - 1]?.getD 0 ∨ hs[k - 1]?.getD 0 = val ∧ cmpL v (l[k - 1]?.getD rowD).xs < 0) := by simp only [grV, List.getD_eq_getElem?_getD]
    have hlx : l.getD (0 + ((k : Int) - 1).toNat) rowD = l[k - 1]?.getD rowD := by rw [ek, List.getD_eq_getElem?_getD]
    by_cases hA : val < hs[k - 1]?.getD 0
    · ((repeat' (first | refine stx ?_ | refine zqc (hls _ _) ?_ | (refine stq ?_ ?_ <;> (intro hc; ((try simp at hc) <;> try contradiction))) | fail)) <;> try (exfalso; omega))
      exact ⟨[], k - 1, ⟨by omega, nxt (hgr.2 (.inl hA))⟩, by show k - 1 < k; omega, ⟨⟨rfl, rfl, rfl, rfl, congrArg some (congrArg vI (by omega)), trivial⟩, ⟨rfl, rfl, rfl, trivial⟩, rfl⟩⟩
    · by_cases hB : hs[k - 1]?.getD 0 = val
      · by_cases hC : cmpL v (l[k - 1]?.getD rowD).xs < 0
        · rw [hlx, decide_eq_true hC, ← hlx] at hls
          ((repeat' (first | refine stx ?_ | refine zqc (hls _ _) ?_ | (refine stq ?_ ?_ <;> (intro hc; ((try simp at hc) <;> try contradiction))) | fail)) <;> try (exfalso; omega))
          exact ⟨[], k - 1, ⟨by omega, nxt (hgr.2 (.inr ⟨hB, hC⟩))⟩, by show k - 1 < k; omega, ⟨⟨rfl, rfl, rfl, rfl, congrArg some (congrArg vI (by omega)), trivial⟩, ⟨rfl, rfl, rfl, trivial⟩, rfl⟩⟩
        · have hcd : k = 0 ∨ ¬ grV v val l hs (k - 1) := .inr fun h => by
            rcases hgr.1 h with e | ⟨e, e2⟩
            · exact hA e
            · exact hC e2
          rw [hlx, decide_eq_false hC, ← hlx] at hls
          ((repeat' (first | refine stp ?_ | refine zqc (hls _ _) ?_ | (refine stq ?_ ?_ <;> (intro hc; ((try simp at hc) <;> try contradiction))) | fail)) <;> try (exfalso; omega))
          refine awp_held TM [] sb rfl (fun ρs => ?_)
          refine zt1 ?_
          refine zt2 ?_
          refine zt3 ?_
          refine zt5 ?_
          refine zt8 ?_
          refine zt9 ?_
          refine zt10 ?_
          refine w_u [0, 6] kr rfl ⟨?_, ?_, trivial⟩
          first | (refine zho ?_) | (refine zqy ?_; intro cap hcap)
          refine w_u [4, 6] kr rfl ⟨?_, ?_, trivial⟩
          first | (refine zho ?_) | (refine zqy ?_; intro cap hcap)
          refine w_u [6] kr rfl ⟨?_, trivial⟩
          first | (refine zho ?_) | (refine zqy ?_; intro cap hcap)
          refine w_u [7] kr rfl ⟨?_, trivial⟩
          first | (refine zho ?_) | (refine zqy ?_; intro cap hcap)
          refine w_u [11] kr rfl ⟨?_, trivial⟩
          first | (refine zho ?_) | (refine zqy ?_; intro cap hcap)
          refine zt12 ?_
          refine w_v kr ?_
          rotate_left
          first | (refine zho ?_) | (refine zqy ?_; intro cap hcap)
          refine w_u [4] kr rfl ⟨?_, trivial⟩
          first | (refine zho ?_) | (refine zqy ?_; intro cap hcap)
          refine w_u [7] kr rfl ⟨?_, trivial⟩
          first | (refine zho ?_) | (refine zqy ?_; intro cap hcap)
          refine w_u [11] kr rfl ⟨?_, trivial⟩
          first | (refine zho ?_) | (refine zqy ?_; intro cap hcap)
          refine zt12 ?_
          refine w_v kr ?_
          rotate_left
          first | (refine zho ?_) | (refine zqy ?_; intro cap hcap)
          refine w_u [0] kr rfl ⟨?_, trivial⟩
          first | (refine zho ?_) | (refine zqy ?_; intro cap hcap)
          refine w_u [4] kr rfl ⟨?_, trivial⟩
          first | (refine zho ?_) | (refine zqy ?_; intro cap hcap)
          refine w_u [7] kr rfl ⟨?_, trivial⟩
          first | (refine zho ?_) | (refine zqy ?_; intro cap hcap)
          refine w_u [11] kr rfl ⟨?_, trivial⟩
          first | (refine zho ?_) | (refine zqy ?_; intro cap hcap)
          refine zt12 ?_
          refine w_v kr ?_
          rotate_left
          all_goals ((repeat' (first | refine stp ?_ | (refine stq ?_ ?_ <;> (intro hc; ((try simp at hc) <;> try contradiction))) | fail)) <;> try (exfalso; omega))
          all_goals
            refine awp_held TM [] sb rfl (fun ρs => ?_)
            refine zt1 ?_
            refine zt2 ?_
            refine zt3 ?_
            refine zt5 ?_
            refine zt8 ?_
            refine zt9 ?_
            refine zt10 ?_
            refine w_u [0, 6] kr rfl ⟨?_, ?_, trivial⟩
            first | (refine zho ?_) | (refine zqy ?_; intro cap hcap)
            refine w_u [4, 6] kr rfl ⟨?_, ?_, trivial⟩
            first | (refine zho ?_) | (refine zqy ?_; intro cap hcap)
            refine w_u [6] kr rfl ⟨?_, trivial⟩
            first | (refine zho ?_) | (refine zqy ?_; intro cap hcap)
            refine w_u [7] kr rfl ⟨?_, trivial⟩
            first | (refine zho ?_) | (refine zqy ?_; intro cap hcap)
            refine w_u [11] kr rfl ⟨?_, trivial⟩
            first | (refine zho ?_) | (refine zqy ?_; intro cap hcap)
            refine zt12 ?_
            refine w_v kr ?_
            rotate_left
            first | (refine zho ?_) | (refine zqy ?_; intro cap hcap)
            refine w_u [4] kr rfl ⟨?_, trivial⟩
            first | (refine zho ?_) | (refine zqy ?_; intro cap hcap)
            refine w_u [7] kr rfl ⟨?_, trivial⟩
            first | (refine zho ?_) | (refine zqy ?_; intro cap hcap)
            refine w_u [11] kr rfl ⟨?_, trivial⟩
            first | (refine zho ?_) | (refine zqy ?_; intro cap hcap)
            refine zt12 ?_
            refine w_v kr ?_
            rotate_left
            first | (refine zho ?_) | (refine zqy ?_; intro cap hcap)
            refine w_u [0] kr rfl ⟨?_, trivial⟩
            first | (refine zho ?_) | (refine zqy ?_; intro cap hcap)
            refine w_u [4] kr rfl ⟨?_, trivial⟩
            first | (refine zho ?_) | (refine zqy ?_; intro cap hcap)
            refine w_u [7] kr rfl ⟨?_, trivial⟩
            first | (refine zho ?_) | (refine zqy ?_; intro cap hcap)
            refine w_u [11] kr rfl ⟨?_, trivial⟩
            first | (refine zho ?_) | (refine zqy ?_; intro cap hcap)
            refine zt12 ?_
            refine w_v kr ?_
            rotate_left
            all_goals ((first | refine awpL_ghost (Ghost.forget 9 Zz Zz) ?_ | refine awp_ghost (Ghost.forget 9 Zz Zz) ?_ | refine awpH_ghost (Ghost.forget 9 Zz Zz) ?_ | refine awpHop_ghost (Ghost.forget 9 Zz Zz) ?_); rintro _ _ ⟨rfl, rfl⟩)
            all_goals ((repeat' (first | refine stx ?_ | (refine stq ?_ ?_ <;> (intro hc; ((try simp at hc) <;> try contradiction))) | fail)) <;> try (exfalso; omega))
            all_goals refine fin rfl w_3 [(4, 9), (5, 14)] (.tup [.one (.sl 4 1 0 _ _), .one (.sl 5 1 0 _ _)]) [(4, .own 24 _ (.rows false false _)), (5, .own 3 _ (.ints _))] 6 ⟨k, _, _, _, _, _, _, hk, he, hcd, ?_, ?_, f1, f2, ?_, ?_, rfl, rfl, rfl⟩ rfl ⟨trivial, ⟨rfl, rfl, trivial⟩, rfl⟩ rfl <;> omega
      · have hcd : k = 0 ∨ ¬ grV v val l hs (k - 1) := .inr fun h => by
          rcases hgr.1 h with e | ⟨e, e2⟩
          · exact hA e
          · exact hB e
        ((repeat' (first | refine stp ?_ | refine zqc (hls _ _) ?_ | (refine stq ?_ ?_ <;> (intro hc; ((try simp at hc) <;> try contradiction))) | fail)) <;> try (exfalso; omega))
        refine awp_held TM [] sb rfl (fun ρs => ?_)
        refine zt1 ?_
        refine zt2 ?_
        refine zt3 ?_
        refine zt5 ?_
        refine zt8 ?_
        refine zt9 ?_
        refine zt10 ?_
        refine w_u [0, 6] kr rfl ⟨?_, ?_, trivial⟩
        first | (refine zho ?_) | (refine zqy ?_; intro cap hcap)
        refine w_u [4, 6] kr rfl ⟨?_, ?_, trivial⟩
        first | (refine zho ?_) | (refine zqy ?_; intro cap hcap)
        refine w_u [6] kr rfl ⟨?_, trivial⟩
        first | (refine zho ?_) | (refine zqy ?_; intro cap hcap)
        refine w_u [7] kr rfl ⟨?_, trivial⟩
        first | (refine zho ?_) | (refine zqy ?_; intro cap hcap)
        refine w_u [11] kr rfl ⟨?_, trivial⟩
        first | (refine zho ?_) | (refine zqy ?_; intro cap hcap)
        refine zt12 ?_
        refine w_v kr ?_
        rotate_left
        first | (refine zho ?_) | (refine zqy ?_; intro cap hcap)
        refine w_u [4] kr rfl ⟨?_, trivial⟩
        first | (refine zho ?_) | (refine zqy ?_; intro cap hcap)
        refine w_u [7] kr rfl ⟨?_, trivial⟩
        first | (refine zho ?_) | (refine zqy ?_; intro cap hcap)
        refine w_u [11] kr rfl ⟨?_, trivial⟩
        first | (refine zho ?_) | (refine zqy ?_; intro cap hcap)
        refine zt12 ?_
        refine w_v kr ?_
        rotate_left
        first | (refine zho ?_) | (refine zqy ?_; intro cap hcap)
        refine w_u [0] kr rfl ⟨?_, trivial⟩
        first | (refine zho ?_) | (refine zqy ?_; intro cap hcap)
        refine w_u [4] kr rfl ⟨?_, trivial⟩
        first | (refine zho ?_) | (refine zqy ?_; intro cap hcap)
        refine w_u [7] kr rfl ⟨?_, trivial⟩
        first | (refine zho ?_) | (refine zqy ?_; intro cap hcap)
        refine w_u [11] kr rfl ⟨?_, trivial⟩
        first | (refine zho ?_) | (refine zqy ?_; intro cap hcap)
        refine zt12 ?_
        refine w_v kr ?_
        rotate_left
        all_goals ((repeat' (first | refine stp ?_ | (refine stq ?_ ?_ <;> (intro hc; ((try simp at hc) <;> try contradiction))) | fail)) <;> try (exfalso; omega))
        all_goals
          refine awp_held TM [] sb rfl (fun ρs => ?_)
          refine zt1 ?_
          refine zt2 ?_
          refine zt3 ?_
          refine zt5 ?_
          refine zt8 ?_
          refine zt9 ?_
          refine zt10 ?_
          refine w_u [0, 6] kr rfl ⟨?_, ?_, trivial⟩
          first | (refine zho ?_) | (refine zqy ?_; intro cap hcap)
          refine w_u [4, 6] kr rfl ⟨?_, ?_, trivial⟩
          first | (refine zho ?_) | (refine zqy ?_; intro cap hcap)
          refine w_u [6] kr rfl ⟨?_, trivial⟩
          first | (refine zho ?_) | (refine zqy ?_; intro cap hcap)
          refine w_u [7] kr rfl ⟨?_, trivial⟩
          first | (refine zho ?_) | (refine zqy ?_; intro cap hcap)
          refine w_u [11] kr rfl ⟨?_, trivial⟩
          first | (refine zho ?_) | (refine zqy ?_; intro cap hcap)
          refine zt12 ?_
          refine w_v kr ?_
          rotate_left
          first | (refine zho ?_) | (refine zqy ?_; intro cap hcap)
          refine w_u [4] kr rfl ⟨?_, trivial⟩
          first | (refine zho ?_) | (refine zqy ?_; intro cap hcap)
          refine w_u [7] kr rfl ⟨?_, trivial⟩
          first | (refine zho ?_) | (refine zqy ?_; intro cap hcap)
          refine w_u [11] kr rfl ⟨?_, trivial⟩
          first | (refine zho ?_) | (refine zqy ?_; intro cap hcap)
          refine zt12 ?_
          refine w_v kr ?_
          rotate_left
          first | (refine zho ?_) | (refine zqy ?_; intro cap hcap)
          refine w_u [0] kr rfl ⟨?_, trivial⟩
          first | (refine zho ?_) | (refine zqy ?_; intro cap hcap)
          refine w_u [4] kr rfl ⟨?_, trivial⟩
          first | (refine zho ?_) | (refine zqy ?_; intro cap hcap)
          refine w_u [7] kr rfl ⟨?_, trivial⟩
          first | (refine zho ?_) | (refine zqy ?_; intro cap hcap)
          refine w_u [11] kr rfl ⟨?_, trivial⟩
          first | (refine zho ?_) | (refine zqy ?_; intro cap hcap)
          refine zt12 ?_
          refine w_v kr ?_
          rotate_left
          all_goals ((first | refine awpL_ghost (Ghost.forget 8 Zz Zz) ?_ | refine awp_ghost (Ghost.forget 8 Zz Zz) ?_ | refine awpH_ghost (Ghost.forget 8 Zz Zz) ?_ | refine awpHop_ghost (Ghost.forget 8 Zz Zz) ?_); rintro _ _ ⟨rfl, rfl⟩)
          all_goals ((repeat' (first | refine stx ?_ | (refine stq ?_ ?_ <;> (intro hc; ((try simp at hc) <;> try contradiction))) | fail)) <;> try (exfalso; omega))
          all_goals refine fin rfl w_3 [(4, 8), (5, 13)] (.tup [.one (.sl 4 1 0 _ _), .one (.sl 5 1 0 _ _)]) [(4, .own 24 _ (.rows false false _)), (5, .own 3 _ (.ints _))] 6 ⟨k, _, _, _, _, _, _, hk, he, hcd, ?_, ?_, f1, f2, ?_, ?_, rfl, rfl, rfl⟩ rfl ⟨trivial, ⟨rfl, rfl, trivial⟩, rfl⟩ rfl <;> omega
end Go.Proofs.YtekpamojojfplaaGreat
namespace Go.Proofs.YtekpamojojfplaaGreat
open Go.RowKit
theorem grV_iff {v y : List Int} {val h : Int} : (val < h ∨ h = val ∧ cmpL v y < 0) ↔ 0 < cmpV (y, h) (v, val) := by
  rw [← cmpV_neg]
  unfold cmpV
  dsimp only
  by_cases e : val = h
  · rw [if_neg (by omega)]; omega
  · rw [if_pos e]; omega
theorem zip_at {l : List Row} {hs : List Int} (hh : hs.length = l.length) {j : Nat} (hj : j < l.length) : ((l.map Row.xs).zip hs).getD j ([], 0) = ((l.getD j rowD).xs, hs.getD j 0) := by
  rw [getD_in (by simp [hh]; exact hj), getD_in hj, getD_in (by omega)]; simp
theorem zip_take : ∀ (k : Nat) (l : List (List Int)) (hs : List Int), (l.take k).zip (hs.take k) = (l.zip hs).take k
  | 0, _, _ => by simp
  | k + 1, [], _ => by simp
  | k + 1, _ :: _, [] => by simp
  | k + 1, x :: l, h :: hs => by simp [zip_take k l hs]
theorem zip_drop : ∀ (k : Nat) (l : List (List Int)) (hs : List Int), (l.drop k).zip (hs.drop k) = (l.zip hs).drop k
  | 0, _, _ => by simp
  | k + 1, [], _ => by simp
  | k + 1, _ :: _, [] => by simp
  | k + 1, x :: l, h :: hs => by simp [zip_drop k l hs]
theorem put_zip {l : List Row} {hs : List Int} {r : Row} {val : Int} {k : Nat} (hh : hs.length = l.length) (hk : k ≤ l.length) (h1 : ∀ j, k ≤ j → j < l.length → grV r.xs val l hs j) (h2 : k = 0 ∨ ¬ grV r.xs val l hs (k - 1)) :
    ((l.take k ++ r :: l.drop k).map Row.xs).zip (hs.take k ++ val :: hs.drop k) = putV ((l.map Row.xs).zip hs) (r.xs, val) := by
  have hlen : ((l.map Row.xs).zip hs).length = l.length := by simp [hh]
  rw [putV_at (k := k) (by omega) (fun j a b => by rw [zip_at hh (by omega)]; exact grV_iff.1 (h1 j a (by omega))) (by
    rcases h2 with h2 | h2
    · exact .inl h2
    · by_cases e : k = 0
      · exact .inl e
      · right
        rw [zip_at hh (by omega)]
        exact fun h => h2 (grV_iff.2 h))]
  rw [List.map_append, List.map_cons, List.zip_append (by simp; omega), List.zip_cons_cons, List.map_take, List.map_drop, zip_take, zip_drop]
end Go.Proofs.YtekpamojojfplaaGreat
