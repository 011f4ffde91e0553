/-
  TEXTS OF THE PROOF, put together: bRoot, bShI, bAddL, bHilbP, pPut2, bShS, bMinO.
-/
import Derived.Test.YtekpamojojfplaaGreatC23
import Derived.Test.YtekpamojojfplaaGreatC29
import Derived.Test.YtekpamojojfplaaGreatC15
import Derived.Test.YtekpamojojfplaaGreatC27
import Derived.Test.YtekpamojojfplaaGreatC33
import Derived.Test.YtekpamojojfplaaGreatC24
import Derived.Test.YtekpamojojfplaaGreatC22
import Derived.Test.YtekpamojojfplaaGreatC25
set_option linter.unusedVariables false
set_option linter.unusedSimpArgs false
namespace Go.Proofs.YtekpamojojfplaaGreat
open Go.RowKit
def LsB (t : TypeId) (zs : List Int) (ok : Bool) (k : Nat) (v : AV) (Hout : List (Nat × Blk)) (n1 : Nat) : Prop := ∃ cap, zs.length ≤ cap ∧ v = .tup [.one (.sl k 1 0 zs.length cap), .one (.bool ok)] ∧ Hout = [(k, .own t cap (.ints zs))] ∧ n1 = k + 1
def LsO (t : TypeId) (o : Option (List Int)) (k : Nat) (v : AV) (Hout : List (Nat × Blk)) (n1 : Nat) : Prop := match o with
  | none => LsB t [] false k v Hout n1
  | some zs => LsB t zs true k v Hout n1
theorem rt_bd {r : Nat} {n : Int} (h : (r : Int) ≤ 400000000) : 0 ≤ ((r : Int) + 1) * ((r : Int) + 1) ∧ ((r : Int) + 1) * ((r : Int) + 1) ≤ 160000001000000000 := by
  have h1 := Int.mul_le_mul_of_nonneg_left (show (r : Int) + 1 ≤ 400000001 by omega) (show (0 : Int) ≤ (r : Int) + 1 by omega)
  have h2 := Int.mul_nonneg (show (0 : Int) ≤ (r : Int) + 1 by omega) (show (0 : Int) ≤ (r : Int) + 1 by omega)
  omega
theorem d_rootI (n : Int) (hn : n ≤ 400000000) : Does Tryz.prog 137 [vI n] [] 1 (Ret (vI ((rootN n : Nat) : Int)) 1) := by
 refine Does.intro TT Tryz.func137 rfl (by kernel_rfl) Zz Zz fun E hE => ?_
 ((repeat' (first | refine stx ?_ | (refine stq ?_ ?_ <;> (intro hc; ((try simp at hc) <;> try contradiction))) | fail)) <;> try (exfalso; omega))
 refine w_G hE (fun r : Nat => r ≤ n.toNat ∧ rtTo n (n.toNat - r) r = rootN n) (fun r => n.toNat - r)
  (fun r => [(0, vI n), (3, vI r)]) (fun _ => []) 1 [] 0 ⟨Nat.zero_le _, rfl⟩ ⟨w_1, w_2, rfl⟩ ?_
 rintro r ⟨hr, hrt⟩
 have hb := rt_bd (r := r) (n := n) (by omega)
 by_cases h : ((r : Int) + 1) * ((r : Int) + 1) ≤ n
 ·have h1 := rt_in h
  have h2 := rt_next h
  have h3 : ¬ n < ((r : Int) + 1) * ((r : Int) + 1) := by omega
  ((repeat' (first | refine stx ?_ | (refine stq ?_ ?_ <;> (intro hc; ((try simp at hc) <;> try contradiction))) | fail)) <;> try (exfalso; omega))
  all_goals exact ⟨[], r + 1, ⟨by omega, by rw [← h2]; exact hrt⟩, by dsimp only; omega, ⟨w_1, w_2, rfl⟩⟩
 ·have h3 : n < ((r : Int) + 1) * ((r : Int) + 1) := by omega
  rw [← hrt, rt_stop h]
  ((repeat' (first | refine stx ?_ | (refine stq ?_ ?_ <;> (intro hc; ((try simp at hc) <;> try contradiction))) | fail)) <;> try (exfalso; omega))
  all_goals refine fin_ret rfl w_3 (rfl) rfl
theorem boxG_no {r c : Int} {g : List Int} {b : Int} (h : adjZ r c g = none ∨ defB r c g = false ∨ inB b 0 10000 = false) : boxG r c g b = none := by
  unfold boxG
  rcases h with h | h | h
  · rw [h]; rfl
  · cases adjZ r c g <;> simp [h]
  · cases adjZ r c g <;> simp [h]
theorem adjZ_some {n : Nat} {g a : List Int} (h : adjZ n n g = some a) : a.length = n * n ∧ a.all numB = true := by
  unfold adjZ at h
  split at h
  · rename_i hc
    rw [Bool.and_eq_true, Int.toNat_natCast] at hc
    rw [Int.toNat_natCast] at h
    cases h
    exact ⟨turnM_len, trX_num hc.2⟩
  · cases h
theorem tdiv_bdR {x d : Int} (hx : -400000000 ≤ x ∧ x ≤ 400000000) : -400000000 ≤ x.tdiv d ∧ x.tdiv d ≤ 400000000 := by
  have := Int.natAbs_tdiv_le_natAbs x d
  omega
set_option maxRecDepth 100000 in
set_option maxHeartbeats 4000000 in
theorem d_boxOI (r c : Int) (g : List Int) (b : Int) (ca : Nat) (hl : g.length ≤ 1099511627776) (hca : g.length ≤ ca) : Does Tryz.prog 91 [vM r c 1 g.length ca, vI b] [(1, .ro (.ints g))] 2 (LsO 3 (boxG r c g b) 2) := by
 refine Does.intro TT Tryz.func91 rfl (by kernel_rfl) Zz Zz fun E hE => ?_
 have hadj := d_adjI r c g ca hl
 have hdet := d_detOfI r c g ca hl
 have hdef := d_defI r c g ca hl hca
 cases ha : adjZ r c g with
 | none =>
  rw [ha] at hadj
  rw [boxG_no (.inl ha)]
  cases hd : detB r c g
  all_goals rw [hd] at hdet
  all_goals ((repeat' (first | refine stx ?_ | ((refine zqe (hadj) ?_); rintro v Hout n1 ⟨rfl, rfl, rfl⟩) | refine zqc (hdet) ?_ | (refine stq ?_ ?_ <;> (intro hc; ((try simp at hc) <;> try contradiction))) | fail)) <;> try (exfalso; omega))
  all_goals exact fin rfl w_3 [(2, 4)] (.tup [.one (.sl 2 1 0 0 0), .one (.bool false)]) [(2, .own 3 0 (.ints []))] 3 ⟨0, Nat.zero_le _, rfl, rfl, rfl⟩ rfl ⟨trivial, ⟨rfl, trivial⟩, rfl⟩ rfl
 | some a =>
  rw [ha] at hadj
  cases hD : defB r c g with
  | false =>
   rw [hD] at hdef
   rw [boxG_no (.inr (.inl hD))]
   cases hd : detB r c g
   all_goals rw [hd] at hdet
   all_goals ((repeat' (first | refine stx ?_ | ((refine zqe (hadj) ?_); rintro v Hout n1 ⟨c1, hc1, rfl, rfl, rfl⟩) | refine zqc (hdet) ?_ | refine zqc (hdef) ?_ | (refine stq ?_ ?_ <;> (intro hc; ((try simp at hc) <;> try contradiction))) | fail)) <;> try (exfalso; omega))
   all_goals exact fin rfl w_3 [(2, 5)] (.tup [.one (.sl 2 1 0 0 0), .one (.bool false)]) [(2, .own 3 0 (.ints []))] 3 ⟨0, Nat.zero_le _, rfl, rfl, rfl⟩ rfl ⟨trivial, ⟨rfl, trivial⟩, rfl⟩ rfl
  | true =>
   rw [hD] at hdef
   obtain ⟨d, hd, hd0⟩ := defB_det hD
   rw [hd] at hdet
   cases hb : inB b 0 10000 with
   | false =>
    rw [boxG_no (.inr (.inr hb))]
    have hbb : b < 0 ∨ 10000 < b := by
     rcases Int.lt_or_le b 0 with h | h
     ·exact .inl h
     ·rcases Int.lt_or_le 10000 b with h' | h'
      ·exact .inr h'
      ·rw [inB_true.2 ⟨h, h'⟩] at hb; cases hb
    ((repeat' (first | refine stx ?_ | ((refine zqe (hadj) ?_); rintro v Hout n1 ⟨c1, hc1, rfl, rfl, rfl⟩) | refine zqc (hdet) ?_ | refine zqc (hdef) ?_ | (refine stq ?_ ?_ <;> (intro hc; ((try simp at hc) <;> try contradiction))) | fail)) <;> try (exfalso; omega))
    all_goals exact fin rfl w_3 [(2, 5)] (.tup [.one (.sl 2 1 0 0 0), .one (.bool false)]) [(2, .own 3 0 (.ints []))] 3 ⟨0, Nat.zero_le _, rfl, rfl, rfl⟩ rfl ⟨trivial, ⟨rfl, trivial⟩, rfl⟩ rfl
   | true =>
    have hbb := inB_true.1 hb
    obtain ⟨n, rfl, rfl, hn, hx, hnum, -, -, -⟩ := defB_all hD
    obtain ⟨ax, an⟩ := adjZ_some ha
    have hG : boxG n n g b = bxTo a n b d n := by rw [boxG, ha, Option.bind_some, hD, hb, hd]; simp
    rw [hG]
    have hb1 : ¬ b < 0 := by omega
    have hb2 : ¬ 10000 < b := by omega
    have hnn : n * n ≤ 36 := Nat.mul_le_mul hn hn
    ((repeat' (first | refine stx ?_ | ((refine zqe (hadj) ?_); rintro v Hout n1 ⟨c1, hc1, rfl, rfl, rfl⟩) | refine zqc (hdet) ?_ | refine zqc (hdef) ?_ | (refine stq ?_ ?_ <;> (intro hc; ((try simp at hc) <;> try contradiction))) | fail)) <;> try (exfalso; omega))
    refine w_G hE (fun x : Nat × List Int × Nat => x.1 ≤ n ∧ bxTo a n b d x.1 = some x.2.1 ∧ x.2.1.length ≤ x.2.2) (fun x => n - x.1)
     (fun x => [(1, vI b), (2, .one (.ptr 2 3 0 0)), (6, .one (.ptr 4 3 0 0)), (8, vI d), (10, .one (.sl 5 1 0 x.2.1.length x.2.2)), (11, vI x.1)])
     (fun x => [(1, .ro (.ints g)), (2, .own 26 1 (.lit [.int n, .int n, .sl 1 1 0 g.length ca])), (3, .own 3 c1 (.ints a)), (4, .own 26 1 (.lit [.int n, .int n, .sl 3 1 0 a.length c1])), (5, .own 3 x.2.2 (.ints x.2.1))]) 6 [] (0, [], 0) ⟨Nat.zero_le _, rfl, Nat.le_refl _⟩ ⟨w_1, w_2, rfl⟩ ?_
    rintro ⟨i, l, cl⟩ ⟨hi, hT, hcl⟩
    dsimp only at hi hT hcl ⊢
    have hll := bxTo_len hT
    by_cases hin : i < n
    ·have hin2 : ¬ n ≤ i := by omega
     have hat := d_atN n n i i a.length c1 a rfl ax (by omega) (by omega) hin hin
     have hav := num_getD an (i * n + i)
     have hpr := prod_num (a := b) (by omega) hav
     have hnu := d_numI (b * a.getD (i * n + i) 0)
     have hnx : bxTo a n b d (i + 1) = if numB (b * a.getD (i * n + i) 0) = true then some (l ++ [((rootN ((b * a.getD (i * n + i) 0).tdiv d) : Nat) : Int)]) else none := by rw [bxTo, hT]; rfl
     cases hN : numB (b * a.getD (i * n + i) 0) with
     | false =>
      rw [hN] at hnu hnx
      have hno : bxTo a n b d n = none := by
       have := bxTo_none (hnx.trans (if_neg (by simp))) (n - (i + 1))
       rwa [show i + 1 + (n - (i + 1)) = n by omega] at this
      rw [hno]
      ((repeat' (first | refine stx ?_ | refine zqc (hat) ?_ | refine zqc (hnu) ?_ | (refine stq ?_ ?_ <;> (intro hc; ((try simp at hc) <;> try contradiction))) | fail)) <;> try (exfalso; omega))
      all_goals exact fin rfl w_3 [(2, 6)] (.tup [.one (.sl 2 1 0 0 0), .one (.bool false)]) [(2, .own 3 0 (.ints []))] 3 ⟨0, Nat.zero_le _, rfl, rfl, rfl⟩ rfl ⟨trivial, ⟨rfl, trivial⟩, rfl⟩ rfl
     | true =>
      rw [hN] at hnu hnx
      rw [if_pos rfl] at hnx
      have hNb := numB_true.1 hN
      have htb := tdiv_bdR (d := d) hNb
      have hro := d_rootI ((b * a.getD (i * n + i) 0).tdiv d) (by omega)
      have hdne : d ≠ 0 := by omega
      ((repeat' (first | refine stx ?_ | refine zqc (hat) ?_ | refine zqc (hnu) ?_ | refine zqc (hro) ?_ | (refine zqx ?_; intro cap hcap) | (refine stq ?_ ?_ <;> (intro hc; ((try simp at hc) <;> try contradiction))) | fail)) <;> try (exfalso; omega))
      all_goals exact ⟨[(5, 7)], (i + 1, l ++ [((rootN ((b * a.getD (i * n + i) 0).tdiv d) : Nat) : Int)], cap), ⟨by dsimp only; omega, hnx, by simpa using hcap⟩, w_4, ⟨w_1, w_2, rfl⟩⟩
    ·obtain rfl : i = n := by omega
     rw [hT]
     ((repeat' (first | refine stx ?_ | (refine stq ?_ ?_ <;> (intro hc; ((try simp at hc) <;> try contradiction))) | fail)) <;> try (exfalso; omega))
     all_goals exact fin rfl w_3 [(2, 5)] (.tup [.one (.sl 2 1 0 l.length cl), .one (.bool true)]) [(2, .own 3 cl (.ints l))] 3 ⟨cl, hcl, rfl, rfl, rfl⟩ rfl ⟨trivial, ⟨rfl, trivial⟩, rfl⟩ rfl
end Go.Proofs.YtekpamojojfplaaGreat
namespace Go.Proofs.YtekpamojojfplaaGreat
open Go.RowKit
def allS (r c : Int) (g : List Int) (b : Int) (l : List Row) : List (Row × Int) := (l.filter fun x => conS r c g b x.xs).map fun x => (x, (vatO r c g x.xs).getD 0)
theorem allS_next {r c : Int} {g : List Int} {b : Int} {l : List Row} {i : Nat} (h : i < l.length) : allS r c g b (l.take (i + 1)) = allS r c g b (l.take i) ++ (if conS r c g b l[i].xs then [(l[i], (vatO r c g l[i].xs).getD 0)] else []) := by
  rw [List.take_succ_eq_append_getElem h, allS, List.filter_append, List.map_append]
  congr 1
  cases hc : conS r c g b l[i].xs <;> simp [hc]
theorem allS_base {r c : Int} {g : List Int} {b : Int} {l : List Row} {L : List (List Int)} (h : rowsX l = L) : (allS r c g b l).map Vx = baseS r c g b L := by
  rw [← h, allS, baseS, rowsX, List.filter_map, List.map_map, List.map_map]; rfl
theorem shO_no1 {r c : Int} {g : List Int} {b : Int} (h : boxG r c g b = none) : shO r c g b = none := by unfold shO shV; rw [h]; rfl
theorem shO_no2 {r c : Int} {g w : List Int} {b : Int} (h : boxG r c g b = some w) (h2 : boxO (w.map fun x => -x) w = none) : shO r c g b = none := by unfold shO shV; rw [h, Option.bind_some, h2]; rfl
theorem shO_yes {r c : Int} {g w : List Int} {b : Int} {L : List (List Int)} (h : boxG r c g b = some w) (h2 : boxO (w.map fun x => -x) w = some L) : shO r c g b = some ((putsV (baseS r c g b L)).map Prod.fst) := by unfold shO shV; rw [h, Option.bind_some, h2]; rfl
theorem sh_end {r c : Int} {g : List Int} {b : Int} {L : List (List Int)} {ls lr : List Row} {vl l' : List (Row × Int)} (hlx : rowsX ls = L) (hL : L.Nodup) (h2 : vl = allS r c g b ls) (hperm : l'.Perm vl) (hsort : l'.Pairwise fun x y => ¬ cmpV (Vx y) (Vx x) < 0) (hlr : lr = l'.map Prod.fst) : rowsX lr = (putsV (baseS r c g b L)).map Prod.fst := by
  have hp : (l'.map Vx).Perm (baseS r c g b L) := (hperm.map Vx).trans (by rw [h2, allS_base hlx])
  have hn := baseS_nodup (r := r) (c := c) (g := g) (b := b) hL
  have e : l'.map Vx = putsV (baseS r c g b L) := strictV_ext (strict_of (List.pairwise_map.2 hsort) (hp.nodup_iff.2 hn)) (puts_strict hn) fun x => by rw [hp.mem_iff, mem_puts]
  rw [← e, hlr, rowsX, List.map_map, List.map_map]; rfl
set_option maxRecDepth 100000 in
set_option maxHeartbeats 16000000 in
theorem d_shI (r c : Int) (g : List Int) (b : Int) (ca : Nat) (hl : g.length ≤ 1099511627776) (hca : g.length ≤ ca) : Does Tryz.prog 44 [vM r c 1 g.length ca, vI b] [(1, .ro (.ints g))] 2 (PtsR 24 3 (shO r c g b) 2) := by
 have hr := d_boxOI r c g b ca hl hca
 refine Does.intro TT Tryz.func44 rfl (by kernel_rfl) Zz Zz fun E hE => ?_
 cases hB : boxG r c g b with
 | none =>
  rw [hB] at hr
  rw [shO_no1 hB]
  ((repeat' (first | refine stx ?_ | ((refine zqe (hr) ?_); rintro v Hout n1 ⟨cw, hcw, rfl, rfl, rfl⟩) | (refine stq ?_ ?_ <;> (intro hc; ((try simp at hc) <;> try contradiction))) | fail)) <;> try (exfalso; omega))
  exact fin rfl w_3 [(2, 4)] (.tup [.one (.sl 2 1 0 0 0), .one (.bool false)]) [(2, .own 24 0 (.rows false true []))] 3 ⟨rfl, rfl, rfl⟩ rfl ⟨trivial, ⟨rfl, trivial⟩, rfl⟩ rfl
 | some w =>
  rw [hB] at hr
  obtain ⟨n, rfl, rfl, hn, hd, hb0, hb1, hwl, hw0, -⟩ := boxG_some hB
  have hwn : w.all numB = true := all_num fun k _ => by have := hw0 k; omega
  have hw0' : ∀ k, 0 ≤ w.getD k 0 := fun k => (hw0 k).1
  have hng := fun n c (hn : n = w.length) => d_negated w n c hn (by omega) hwn
  have hbx := fun ca cb m1 m2 (h1 : m1 = (w.map fun x => -x).length) (h2 : m2 = (w.map fun x => -x).length) => (by
   subst h1
   exact d_boxed (w.map fun x => -x) w ca cb m2 (by simp) h2 (by simp; omega) (neg_num hwn) (fun n hn => List.all_eq_true.1 hwn n hn) (fun k _ => neg_wid hw0' k) : Does Tryz.prog 92 [vS 1 1 0 m1 ca, vS 2 1 0 m2 cb] [(1, .ro (.ints (w.map fun x => -x))), (2, .ro (.ints w))] 3 _)
  cases hO : boxO (w.map fun x => -x) w with
  | none =>
   rw [hO] at hbx
   rw [shO_no2 hB hO]
   ((repeat' (first | refine stx ?_ | ((refine zqe (hr) ?_); rintro v Hout n1 ⟨cw, hcw, rfl, rfl, rfl⟩) | ((refine zqe (hng _ _ rfl) ?_); rintro v Hout n1 ⟨cn, hcn, rfl, rfl, rfl⟩) | ((refine w_E (hbx _ _ _ _ rfl (by simp)) Zz Zz Zz Zz Zz Zz Zz ft rfl ?_); rintro v Hout n1 ⟨rfl, rfl, rfl⟩) | (refine stq ?_ ?_ <;> (intro hc; ((try simp at hc) <;> try contradiction))) | fail)) <;> try (exfalso; omega))
   exact fin rfl w_3 [(2, 5)] (.tup [.one (.sl 2 1 0 0 0), .one (.bool false)]) [(2, .own 24 0 (.rows false true []))] 3 ⟨rfl, rfl, rfl⟩ rfl ⟨trivial, ⟨rfl, trivial⟩, rfl⟩ rfl
  | some L =>
   rw [hO] at hbx
   rw [shO_yes hB hO]
   have hsm := box_sm hw0' hO
   ((repeat' (first | refine stx ?_ | ((refine zqe (hr) ?_); rintro v Hout n1 ⟨cw, hcw, rfl, rfl, rfl⟩) | ((refine zqe (hng _ _ rfl) ?_); rintro v Hout n1 ⟨cn, hcn, rfl, rfl, rfl⟩) | ((refine w_E (hbx _ _ _ _ rfl (by simp)) Zz Zz Zz Zz Zz Zz Zz ft rfl ?_); rintro v Hout n1 ⟨l, cap, hlL, rfl, rfl, rfl⟩) | (refine stq ?_ ?_ <;> (intro hc; ((try simp at hc) <;> try contradiction))) | fail)) <;> try (exfalso; omega))
   have hl4 : l.length ≤ 4000 := by
    have := box_4000 (fun k _ => neg_wid hw0' k) hO
    rw [← hlL, rowsX, List.length_map] at this; exact this
   ((first | refine awpL_ghost (Ghost.partN 6 (l.map stripR) rfl (fun r hr => by obtain ⟨r0, h0, rfl⟩ := List.mem_map.1 hr; exact ⟨r0, h0, rfl, rfl, rfl⟩) (fun h => List.pairwise_map.2 (h.imp fun h => h))) ?_ | refine awp_ghost (Ghost.partN 6 (l.map stripR) rfl (fun r hr => by obtain ⟨r0, h0, rfl⟩ := List.mem_map.1 hr; exact ⟨r0, h0, rfl, rfl, rfl⟩) (fun h => List.pairwise_map.2 (h.imp fun h => h))) ?_ | refine awpH_ghost (Ghost.partN 6 (l.map stripR) rfl (fun r hr => by obtain ⟨r0, h0, rfl⟩ := List.mem_map.1 hr; exact ⟨r0, h0, rfl, rfl, rfl⟩) (fun h => List.pairwise_map.2 (h.imp fun h => h))) ?_ | refine awpHop_ghost (Ghost.partN 6 (l.map stripR) rfl (fun r hr => by obtain ⟨r0, h0, rfl⟩ := List.mem_map.1 hr; exact ⟨r0, h0, rfl, rfl, rfl⟩) (fun h => List.pairwise_map.2 (h.imp fun h => h))) ?_); rintro _ _ ⟨rfl, rfl⟩)
   ((first | refine awpL_ghost (Ghost.retell 5 6 (.rows false true (l.map stripR)) Zz Zz (by show (l.map stripR).flatMap _ = l.flatMap _; rw [List.flatMap_map]; rfl) (by show (l.map stripR).length = l.length; exact List.length_map _) rfl (fun x hx => by obtain ⟨r, hr, rfl⟩ := List.mem_map.1 hx; exact ⟨rfl, hr⟩)) ?_ | refine awp_ghost (Ghost.retell 5 6 (.rows false true (l.map stripR)) Zz Zz (by show (l.map stripR).flatMap _ = l.flatMap _; rw [List.flatMap_map]; rfl) (by show (l.map stripR).length = l.length; exact List.length_map _) rfl (fun x hx => by obtain ⟨r, hr, rfl⟩ := List.mem_map.1 hx; exact ⟨rfl, hr⟩)) ?_ | refine awpH_ghost (Ghost.retell 5 6 (.rows false true (l.map stripR)) Zz Zz (by show (l.map stripR).flatMap _ = l.flatMap _; rw [List.flatMap_map]; rfl) (by show (l.map stripR).length = l.length; exact List.length_map _) rfl (fun x hx => by obtain ⟨r, hr, rfl⟩ := List.mem_map.1 hx; exact ⟨rfl, hr⟩)) ?_ | refine awpHop_ghost (Ghost.retell 5 6 (.rows false true (l.map stripR)) Zz Zz (by show (l.map stripR).flatMap _ = l.flatMap _; rw [List.flatMap_map]; rfl) (by show (l.map stripR).length = l.length; exact List.length_map _) rfl (fun x hx => by obtain ⟨r, hr, rfl⟩ := List.mem_map.1 hx; exact ⟨rfl, hr⟩)) ?_); rintro _ _ ⟨rfl, rfl⟩)
   have hlx : rowsX (l.map stripR) = L := by rw [← hlL, rowsX, rowsX, List.map_map]; rfl
   have hlps : ∀ r ∈ l.map stripR, r.ps = [] := fun r hr => by obtain ⟨r0, h0, rfl⟩ := List.mem_map.1 hr; rfl
   have hll : (l.map stripR).length = l.length := List.length_map _
   generalize l.map stripR = ls at *
   have hrow : ∀ r ∈ ls, r.xs.length = n := fun r hr => by
    obtain ⟨g1, g2⟩ := hsm r.xs (by rw [← hlx]; exact List.mem_map.2 ⟨r, hr, rfl⟩)
    rw [hwl] at g1
    exact g1
   refine w_G hE (fun x : Nat × List (Row × Int) × Nat => x.1 ≤ l.length ∧ x.2.1 = allS n n g b (ls.take x.1)) (fun x => l.length - x.1)
    (fun x => [(1, vI b), (2, .one (.ptr 2 3 0 0)), (10, .one (.sl 7 2 0 x.2.1.length x.2.2)), (35, vS 5 1 0 l.length cap), (36, vI l.length), (37, vI x.1)])
    (fun x => [(1, .ro (.ints g)), (2, .own 26 1 (.lit [.int n, .int n, .sl 1 1 0 g.length ca])), (5, .own 24 cap (.rows false true ls)), (6, .tok 3 false ls), (7, .own 94 x.2.2 (.vals true x.2.1))]) 8 [] (0, [], 0) ⟨Nat.zero_le _, rfl⟩ ⟨w_1, w_2, rfl⟩ ?_
   rintro ⟨i, vl, cap1⟩ ⟨h1, h2⟩
   dsimp only at h1 h2
   have hvl0 : vl.length ≤ i := by
    rw [h2, allS, List.length_map]
    exact Nat.le_trans (List.length_filter_le _ _) (by rw [List.length_take]; omega)
   by_cases hi : i < l.length
   ·have hils : i < ls.length := by omega
    have e1 : (ls.getD (0 + (i : Int).toNat) rowD) = ls[i] := by rw [show 0 + (i : Int).toNat = i by omega, getD_in hils]
    have em : (ls.getD (0 + (i : Int).toNat) rowD) ∈ ls := by rw [e1]; exact List.getElem_mem hils
    have g1 := hrow (ls.getD (0 + (i : Int).toNat) rowD) em
    have g4 := row_eta (hlps (ls.getD (0 + (i : Int).toNat) rowD) em)
    have hnx := allS_next (r := n) (c := n) (g := g) (b := b) hils
    rw [← e1] at hnx
    have hpo := fun n c (hn : n = (ls.getD (0 + (i : Int).toNat) rowD).xs.length) => d_posI (ls.getD (0 + (i : Int).toNat) rowD).xs n c hn (by omega)
    have hva := fun m cv (hm : m = (ls.getD (0 + (i : Int).toNat) rowD).xs.length) => (by subst hm; exact d_valI n n g (ls.getD (0 + (i : Int).toNat) rowD).xs ca cv hl (by omega) : Does Tryz.prog 95 [vM n n 1 g.length ca, vS 2 1 0 m cv] [(1, .ro (.ints g)), (2, .ro (.ints (ls.getD (0 + (i : Int).toNat) rowD).xs))] 3 (Ret (valT (vatO n n g (ls.getD (0 + (i : Int).toNat) rowD).xs)) 3))
    cases cp : posF (ls.getD (0 + (i : Int).toNat) rowD).xs with
    | false =>
     have hcp : ¬ conS n n g b (ls.getD (0 + (i : Int).toNat) rowD).xs = true := by rw [conS, cp]; simp
     rw [cp] at hpo
     ((repeat' (first | refine stx ?_ | refine zqc (hpo _ _ rfl) ?_ | (refine stq ?_ ?_ <;> (intro hc; ((try simp at hc) <;> try contradiction))) | fail)) <;> try (exfalso; omega))
     exact ⟨[], (i + 1, vl, cap1), ⟨hi, by dsimp only; rw [hnx, if_neg hcp, List.append_nil]; exact h2⟩, w_4, ⟨w_1, w_2, rfl⟩⟩
    | true =>
     rw [cp] at hpo
     cases cv : vatO n n g (ls.getD (0 + (i : Int).toNat) rowD).xs with
     | none =>
      have hcp : ¬ conS n n g b (ls.getD (0 + (i : Int).toNat) rowD).xs = true := by rw [conS, cv]; simp
      rw [cv] at hva
      ((repeat' (first | refine stx ?_ | refine zqc (hpo _ _ rfl) ?_ | ((refine zqe (hva _ _ rfl) ?_); rintro v Hout n1 ⟨rfl, rfl, rfl⟩) | (refine stq ?_ ?_ <;> (intro hc; ((try simp at hc) <;> try contradiction))) | fail)) <;> try (exfalso; omega))
      exact ⟨[], (i + 1, vl, cap1), ⟨hi, by dsimp only; rw [hnx, if_neg hcp, List.append_nil]; exact h2⟩, w_4, ⟨w_1, w_2, rfl⟩⟩
     | some z =>
      rw [cv] at hva
      have hz1 := vat_pos hd cp cv
      have hz2 : ¬ z < 1 := by omega
      by_cases hzb : z ≤ b
      ·have hcp : conS n n g b (ls.getD (0 + (i : Int).toNat) rowD).xs = true := by rw [conS, cp, cv]; simp [hz1, hzb]
       have hzb2 : ¬ b < z := by omega
       ((repeat' (first | refine stx ?_ | refine zqc (hpo _ _ rfl) ?_ | ((refine zqe (hva _ _ rfl) ?_); rintro v Hout n1 ⟨rfl, rfl, rfl⟩) | (refine zqx ?_; intro cap hcap) | (refine stq ?_ ?_ <;> (intro hc; ((try simp at hc) <;> try contradiction))) | fail)) <;> try (exfalso; omega))
       refine ⟨[(7, 10)], (i + 1, _, _), ⟨hi, ?_⟩, w_4, ⟨w_1, ⟨rfl, rfl, rfl, rfl, rfl, trivial⟩, rfl⟩⟩
       show vl ++ [((⟨(ls.getD (0 + (i : Int).toNat) rowD).a, (ls.getD (0 + (i : Int).toNat) rowD).cap, (ls.getD (0 + (i : Int).toNat) rowD).xs, []⟩ : Row), z)] = _
       rw [g4, hnx, if_pos hcp, h2, cv]; rfl
      ·have hcp : ¬ conS n n g b (ls.getD (0 + (i : Int).toNat) rowD).xs = true := by rw [conS, cv]; simp [hzb]
       have hzb2 : b < z := by omega
       ((repeat' (first | refine stx ?_ | refine zqc (hpo _ _ rfl) ?_ | ((refine zqe (hva _ _ rfl) ?_); rintro v Hout n1 ⟨rfl, rfl, rfl⟩) | (refine stq ?_ ?_ <;> (intro hc; ((try simp at hc) <;> try contradiction))) | fail)) <;> try (exfalso; omega))
       exact ⟨[], (i + 1, vl, cap1), ⟨hi, by dsimp only; rw [hnx, if_neg hcp, List.append_nil]; exact h2⟩, w_4, ⟨w_1, w_2, rfl⟩⟩
   ·obtain rfl : i = l.length := by omega
    rw [List.take_of_length_le (by omega)] at h2
    have hvm : ∀ x ∈ vl, x.1 ∈ ls ∧ numB x.2 = true := fun x hx' => by
     rw [h2, allS] at hx'
     obtain ⟨r, hr, rfl⟩ := List.mem_map.1 hx'
     obtain ⟨q1, q2⟩ := List.mem_filter.1 hr
     refine ⟨q1, ?_⟩
     cases cv : vatO n n g r.xs with
     | none => rfl
     | some z => obtain ⟨-, -, -, -, -, -, h, -⟩ := vatO_some cv; exact h
    have hod := fun m hm => d_order vl ls m cap1 hm (by omega) (fun x hx' => by
     obtain ⟨m1, m2⟩ := hvm x hx'
     have g1 := hrow x.1 m1
     have m3 := numB_true.1 m2
     exact ⟨by omega, by omega, by omega⟩) (fun x hx' => (hvm x hx').1) (fun x hx' => hlps _ (hvm x hx').1)
    have hsub : (vl.map Prod.fst).Sublist ls := by
     rw [h2, allS, List.map_map]
     rw [show (Prod.fst ∘ fun x : Row => (x, (vatO n n g x.xs).getD 0)) = id from rfl, List.map_id]
     exact List.filter_sublist
    ((repeat' (first | refine stx ?_ | (((first | refine awpL_ghost (Ghost.forget 7 Zz Zz) ?_ | refine awp_ghost (Ghost.forget 7 Zz Zz) ?_ | refine awpH_ghost (Ghost.forget 7 Zz Zz) ?_ | refine awpHop_ghost (Ghost.forget 7 Zz Zz) ?_); rintro _ _ ⟨rfl, rfl⟩); refine awpL_callM [(1, 7), (2, 6)] (hod _ rfl) Zz Zz Zz Zz Zz Zz Zz ft rfl ?_; rintro v Hout n1 ⟨l', lr, co, hperm, hsort, hlr, rfl, rfl, rfl⟩; ((first | refine awpL_ghost (Ghost.part 6 (l' := lr) rfl (fun r hr => by rw [hlr] at hr; obtain ⟨x, hx', rfl⟩ := List.mem_map.1 hr; exact (hvm x (hperm.mem_iff.1 hx')).1) (fun hp => by rw [hlr]; exact ((hperm.map Prod.fst).pairwise_iff (fun h => h.symm)).2 (hp.sublist hsub))) ?_ | refine awp_ghost (Ghost.part 6 (l' := lr) rfl (fun r hr => by rw [hlr] at hr; obtain ⟨x, hx', rfl⟩ := List.mem_map.1 hr; exact (hvm x (hperm.mem_iff.1 hx')).1) (fun hp => by rw [hlr]; exact ((hperm.map Prod.fst).pairwise_iff (fun h => h.symm)).2 (hp.sublist hsub))) ?_ | refine awpH_ghost (Ghost.part 6 (l' := lr) rfl (fun r hr => by rw [hlr] at hr; obtain ⟨x, hx', rfl⟩ := List.mem_map.1 hr; exact (hvm x (hperm.mem_iff.1 hx')).1) (fun hp => by rw [hlr]; exact ((hperm.map Prod.fst).pairwise_iff (fun h => h.symm)).2 (hp.sublist hsub))) ?_ | refine awpHop_ghost (Ghost.part 6 (l' := lr) rfl (fun r hr => by rw [hlr] at hr; obtain ⟨x, hx', rfl⟩ := List.mem_map.1 hr; exact (hvm x (hperm.mem_iff.1 hx')).1) (fun hp => by rw [hlr]; exact ((hperm.map Prod.fst).pairwise_iff (fun h => h.symm)).2 (hp.sublist hsub))) ?_); rintro _ _ ⟨rfl, rfl⟩)) | (refine stq ?_ ?_ <;> (intro hc; ((try simp at hc) <;> try contradiction))) | fail)) <;> try (exfalso; omega))
    exact fin rfl w_3 [(2, 8), (3, 6)] (.tup [.one (.sl 2 1 0 lr.length co), .one (.bool true)]) [(2, .own 24 co (.rows false true lr)), (3, .tok 3 false lr)] 4
     ⟨lr, co, sh_end hlx (boxO_nodup hO) h2 hperm hsort hlr, rfl, rfl, rfl⟩ rfl ⟨trivial, ⟨rfl, rfl, trivial⟩, rfl⟩ rfl
end Go.Proofs.YtekpamojojfplaaGreat
namespace Go.Proofs.YtekpamojojfplaaGreat
open Go.RowKit
def subX (xs : List Int) (o n : Nat) : List Int := (xs.drop o).take n
def lessO (xs : List Int) (o1 : Nat) (ys : List Int) (o2 n : Nat) : Bool := decide (cmpL (subX xs o1 n) (subX ys o2 n) < 0)
def AddLR (t : TypeId) (L : List (List Int)) (c : Nat) (n ca : Nat) (w : List Int) (v : AV) (Hout : List (Nat × Blk)) (n1 : Nat) : Prop :=
  (addL L w = L ∧ v = vM L.length c 1 n ca ∧ Hout = [] ∧ n1 = 3) ∨ ∃ cap, (addL L w).flatten.length ≤ cap ∧ v = .agg [.int (addL L w).length, .int c, .sl 3 1 0 (addL L w).flatten.length cap] ∧ Hout = [(3, .own t cap (.ints (addL L w).flatten))] ∧ n1 = 4
end Go.Proofs.YtekpamojojfplaaGreat
namespace Go.Proofs.YtekpamojojfplaaGreat
open Go.RowKit
def grV (v : List Int) (val : Int) (l : List Row) (hs : List Int) (j : Nat) : Prop := val < hs.getD j 0 ∨ hs.getD j 0 = val ∧ cmpL v (l.getD j rowD).xs < 0
def PutR (th t : TypeId) (l : List Row) (hs : List Int) (r : Row) (val : Int) (v : AV) (Hout : List (Nat × Blk)) (n1 : Nat) : Prop :=
  ∃ (k m1 m2 c1 c2 : Nat) (l' : List Row) (hs' : List Int), k ≤ l.length ∧ (∀ j, k ≤ j → j < l.length → grV r.xs val l hs j) ∧ (k = 0 ∨ ¬ grV r.xs val l hs (k - 1)) ∧ m1 = l.length + 1 ∧ m2 = l.length + 1 ∧ l' = l.take k ++ r :: l.drop k ∧ hs' = hs.take k ++ val :: hs.drop k ∧ m1 ≤ c1 ∧ m2 ≤ c2 ∧
    v = .tup [.one (.sl 4 1 0 m1 c1), .one (.sl 5 1 0 m2 c2)] ∧ Hout = [(4, .own th c1 (.rows false false l')), (5, .own t c2 (.ints hs'))] ∧ n1 = 6
end Go.Proofs.YtekpamojojfplaaGreat
namespace Go.Proofs.YtekpamojojfplaaGreat
open Go.RowKit
end Go.Proofs.YtekpamojojfplaaGreat
namespace Go.Proofs.YtekpamojojfplaaGreat
open Go.RowKit
end Go.Proofs.YtekpamojojfplaaGreat
namespace Go.Proofs.YtekpamojojfplaaGreat
open Go.RowKit
theorem minO_no {r c : Int} {g : List Int} (h : defB r c g = false ∨ r = 0) : minO r c g = none := by
  unfold minO
  rw [if_neg]
  rintro ⟨h1, h2⟩
  rcases h with h | h
  · rw [h] at h1; cases h1
  · exact h2 h
theorem row0 {l : List Row} {v : List Int} {t : List (List Int)} (h : rowsX l = v :: t) : 0 < l.length ∧ (l.getD (0 + (0 : Int).toNat) rowD).xs = v ∧ (l[0]?.getD rowD).xs = v := by
  cases l with
  | nil => cases h
  | cons r l =>
    injection h with h1 h2
    exact ⟨by simp, h1, h1⟩
theorem shst_no {r c : Int} {g : List Int} (h : minO r c g = none) : shstO r c g = none := by unfold shstO; rw [h]
theorem shst_yes {r c : Int} {g : List Int} {z : Int} (h : minO r c g = some z) : shstO r c g = shO r c g z := by unfold shstO; rw [h]
set_option maxRecDepth 100000 in
set_option maxHeartbeats 4000000 in
theorem d_minOI (r c : Int) (g : List Int) (ca : Nat) (hl : g.length ≤ 1099511627776) (hca : g.length ≤ ca) : Does Tryz.prog 126 [vM r c 1 g.length ca] [(1, .ro (.ints g))] 2 (Ret (valT (minO r c g)) 2) := by
 have hdf := d_defI r c g ca hl hca
 refine Does.intro TT Tryz.func126 rfl (by kernel_rfl) Zz Zz fun E hE => ?_
 cases hD : defB r c g with
 | false =>
  rw [hD] at hdf
  rw [minO_no (.inl hD)]
  ((repeat' (first | refine stx ?_ | refine zqc (hdf) ?_ | (refine stq ?_ ?_ <;> (intro hc; ((try simp at hc) <;> try contradiction))) | fail)) <;> try (exfalso; omega))
  all_goals exact fin rfl w_3 [] (.tup [.one (.int 0), .one (.bool false)]) [] 2 ⟨rfl, rfl, rfl⟩ rfl ⟨trivial, trivial, rfl⟩ rfl
 | true =>
  rw [hD] at hdf
  obtain ⟨n, rfl, rfl, hn, hx, hnum, -, -, -⟩ := defB_all hD
  by_cases h0 : n = 0
  ·subst h0
   rw [minO_no (r := ((0 : Nat) : Int)) (.inr rfl)]
   ((repeat' (first | refine stx ?_ | refine zqc (hdf) ?_ | (refine stq ?_ ?_ <;> (intro hc; ((try simp at hc) <;> try contradiction))) | fail)) <;> try (exfalso; omega))
   all_goals exact fin rfl w_3 [] (.tup [.one (.int 0), .one (.bool false)]) [] 2 ⟨rfl, rfl, rfl⟩ rfl ⟨trivial, trivial, rfl⟩ rfl
  ·have hO : minO n n g = headO n n g (shO n n g (mdTo g n n)) := by unfold minO; rw [if_pos ⟨hD, by omega⟩, Int.toNat_natCast]
   rw [hO]
   have hnn : n * n ≤ 36 := Nat.mul_le_mul hn hn
   have hat0 := d_atN n n 0 0 g.length ca g rfl hx (by omega) (by omega) (by omega) (by omega)
   have e0 : g.getD (0 * n + 0) 0 = mdTo g n 0 := by rw [Nat.zero_mul]; rfl
   rw [e0] at hat0
   ((repeat' (first | refine stx ?_ | refine zqc (hdf) ?_ | refine zqc (hat0) ?_ | (refine stq ?_ ?_ <;> (intro hc; ((try simp at hc) <;> try contradiction))) | fail)) <;> try (exfalso; omega))
   refine w_G hE (fun i : Nat => i ≤ n) (fun i => n - i)
    (fun i => [(1, .one (.ptr 2 3 0 0)), (4, vI (mdTo g n i)), (5, vI i)])
    (fun _ => [(1, .ro (.ints g)), (2, .own 26 1 (.lit [.int n, .int n, .sl 1 1 0 g.length ca]))]) 3 [] 0 (Nat.zero_le _) ⟨w_1, w_2, rfl⟩ ?_
   intro i hi
   by_cases hin : i < n
   ·have hin2 : ¬ n ≤ i := by omega
    have hat := d_atN n n i i g.length ca g rfl hx (by omega) (by omega) hin hin
    have hmd := mdTo_bd hnum (n := n) i
    have hnx : mdTo g n (i + 1) = min (mdTo g n i) (g.getD (i * n + i) 0) := rfl
    ((repeat' (first | refine stx ?_ | refine zqc (hat) ?_ | (refine stq ?_ ?_ <;> (intro hc; ((try simp at hc) <;> try contradiction))) | fail)) <;> try (exfalso; omega))
    all_goals refine ⟨[], i + 1, hin, w_4, ⟨⟨rfl, congrArg some (congrArg vI ?_), rfl, trivial⟩, ⟨rfl, rfl, trivial⟩, rfl⟩⟩
    all_goals (rw [hnx]; (try simp only [Int.min_def]); (repeat' split) <;> omega)
   ·obtain rfl : i = n := by omega
    have hsh := d_shI i i g (mdTo g i i) ca hl hca
    cases hS : shO i i g (mdTo g i i) with
    | none =>
     rw [hS] at hsh
     ((repeat' (first | refine stx ?_ | ((refine zqe (hsh) ?_); rintro v Hout n1 ⟨rfl, rfl, rfl⟩) | (refine stq ?_ ?_ <;> (intro hc; ((try simp at hc) <;> try contradiction))) | fail)) <;> try (exfalso; omega))
     all_goals exact fin rfl w_3 [] (.tup [.one (.int 0), .one (.bool false)]) [] 2 ⟨rfl, rfl, rfl⟩ rfl ⟨trivial, trivial, rfl⟩ rfl
    | some S =>
     rw [hS] at hsh
     cases S with
     | nil =>
      ((repeat' (first | refine stx ?_ | ((refine zqe (hsh) ?_); rintro v Hout n1 ⟨l, cap, hlx, rfl, rfl, rfl⟩; obtain rfl : l = [] := by simpa [rowsX] using hlx) | (refine stq ?_ ?_ <;> (intro hc; ((try simp at hc) <;> try contradiction))) | fail)) <;> try (exfalso; omega))
      all_goals exact fin rfl w_3 [] (.tup [.one (.int 0), .one (.bool false)]) [] 2 ⟨rfl, rfl, rfl⟩ rfl ⟨trivial, trivial, rfl⟩ rfl
     | cons u S' =>
      have hul := (sh_len hS (v := u) (by simp)).1
      have hva := fun cv => d_valI i i g u ca cv hl (by omega)
      ((repeat' (first | refine stp ?_ | ((refine zqe (hsh) ?_); rintro v Hout n1 ⟨l, cap, hlx, rfl, rfl, rfl⟩; obtain ⟨hl0, hl1, hl2⟩ := row0 hlx; have hl3 : l ≠ [] := fun h => by rw [h] at hl0; simp at hl0) | (refine stq ?_ ?_ <;> (intro hc; ((try simp at hc) <;> try contradiction))) | fail)) <;> try (exfalso; omega))
      have hva2 := fun m cv (hm : m = (l.getD (0 + (0 : Int).toNat) rowD).xs.length) => (by subst hm; rw [hl1]; exact hva cv : Does Tryz.prog 95 [vM i i 1 g.length ca, vS 2 1 0 m cv] [(1, .ro (.ints g)), (2, .ro (.ints (l.getD (0 + (0 : Int).toNat) rowD).xs))] 3 (Ret (valT (vatO i i g u)) 3))
      refine awp_held TM [(2, _), (4, _)] sb rfl (fun ρs => ?_)
      refine zt0 ?_
      refine zt1 ?_
      refine zt2 ?_
      refine w_u [3] kr rfl ⟨?_, trivial⟩
      first | (refine zho ?_) | (refine zqf (hva2 _ _ rfl) ?_; rintro v Hout n1 ⟨rfl, rfl, rfl⟩; refine ⟨sb, ?_⟩)
      refine w_u [4] kr rfl ⟨?_, trivial⟩
      first | (refine zho ?_) | (refine zqf (hva2 _ _ rfl) ?_; rintro v Hout n1 ⟨rfl, rfl, rfl⟩; refine ⟨sb, ?_⟩)
      refine zt5 ?_
      refine zt6 ?_
      refine zt7 ?_
      refine zt8 ?_
      refine zt9 ?_
      refine w_v kr ?_
      rotate_left
      all_goals ((repeat' (first | refine stx ?_ | (refine stq ?_ ?_ <;> (intro hc; ((try simp at hc) <;> try contradiction))) | fail)) <;> try (exfalso; omega))
      all_goals exact fin rfl w_3 [] (.tup [.one (.int ((vatO i i g u).getD 0)), .one (.bool (vatO i i g u).isSome)]) [] 2 ⟨rfl, rfl, rfl⟩ rfl ⟨trivial, trivial, rfl⟩ rfl
set_option maxHeartbeats 4000000 in
theorem d_shstI (r c : Int) (g : List Int) (ca : Nat) (hl : g.length ≤ 1099511627776) (hca : g.length ≤ ca) : Does Tryz.prog 76 [vM r c 1 g.length ca] [(1, .ro (.ints g))] 2 (PtsR 24 3 (shstO r c g) 2) := by
 have hm := d_minOI r c g ca hl hca
 have hsh := fun z => d_shI r c g z ca hl hca
 refine Does.intro TT Tryz.func76 rfl (by kernel_rfl) Zz Zz fun E hE => ?_
 cases hM : minO r c g with
 | none =>
  rw [shst_no hM]
  rw [hM] at hm 
  ((repeat' (first | refine stx ?_ | ((refine zqe (hm) ?_); rintro v Hout n1 ⟨rfl, rfl, rfl⟩) | (refine stq ?_ ?_ <;> (intro hc; ((try simp at hc) <;> try contradiction))) | fail)) <;> try (exfalso; omega))
  all_goals exact fin rfl w_3 [(2, 3)] (.tup [.one (.sl 2 1 0 0 0), .one (.bool false)]) [(2, .own 24 0 (.rows false true []))] 3 ⟨rfl, rfl, rfl⟩ rfl ⟨trivial, ⟨rfl, trivial⟩, rfl⟩ rfl
 | some z =>
  rw [hM] at hm
  have hsh := hsh z
  rw [shst_yes hM] 
  cases hS : shO r c g z with
  | none =>
   rw [hS] at hsh
   ((repeat' (first | refine stx ?_ | ((refine zqe (hm) ?_); rintro v Hout n1 ⟨rfl, rfl, rfl⟩) | ((refine zqe (hsh) ?_); rintro v Hout n1 ⟨rfl, rfl, rfl⟩) | (refine stq ?_ ?_ <;> (intro hc; ((try simp at hc) <;> try contradiction))) | fail)) <;> try (exfalso; omega))
   all_goals exact fin rfl w_3 [(2, 3)] (.tup [.one (.sl 2 1 0 0 0), .one (.bool false)]) [(2, .own 24 0 (.rows false true []))] 3 ⟨rfl, rfl, rfl⟩ rfl ⟨trivial, ⟨rfl, trivial⟩, rfl⟩ rfl
  | some S =>
   rw [hS] at hsh
   ((repeat' (first | refine stx ?_ | ((refine zqe (hm) ?_); rintro v Hout n1 ⟨rfl, rfl, rfl⟩) | ((refine zqe (hsh) ?_); rintro v Hout n1 ⟨l, cap, hlx, rfl, rfl, rfl⟩) | (refine stq ?_ ?_ <;> (intro hc; ((try simp at hc) <;> try contradiction))) | fail)) <;> try (exfalso; omega))
   all_goals exact fin rfl w_3 [(2, 3), (3, 4)] (.tup [.one (.sl 2 1 0 l.length cap), .one (.bool true)]) [(2, .own 24 cap (.rows false true l)), (3, .tok 3 false l)] 4 ⟨l, cap, hlx, rfl, rfl, rfl⟩ rfl ⟨trivial, ⟨rfl, rfl, trivial⟩, rfl⟩ rfl
end Go.Proofs.YtekpamojojfplaaGreat
