/-
  TEXTS OF THE PROOF, put together: bMulI, bMulS, bMulLaw.
-/
import Derived.Test.YtfkbjkmlpinoeaaGreatK35
import Derived.Test.YtfkbjkmlpinoeaaGreatK37
import Derived.Test.YtfkbjkmlpinoeaaGreatK21
set_option linter.unusedVariables false
set_option linter.unusedSimpArgs false
namespace Go.Proofs.YtfkbjkmlpinoeaaGreat
open Go.RowKit
def fiJ : Option Nat → Int
  | some k => k
  | none => -1
def mulO (r c : Int) (xs v : List Int) : Option (List Int) := (hilO r c xs).bind fun G => if inConeB r c xs v && decide (htTo xs c.toNat v r.toNat ≤ 4000) then mulTo (inAny xs r.toNat c.toNat) (fun u => htTo xs c.toNat u r.toNat) G ((htTo xs c.toNat v r.toNat).toNat + 1) (List.replicate G.length 0) v else none
theorem small_of {xs w W : List Int} {a b : Nat} (hW : hboxB a b xs = some W) (hw0 : ∀ k, 0 ≤ W.getD k 0 ∧ W.getD k 0 ≤ 2000) (hl : w.length = b) (hK : inAny xs a b w = true) (ht : htTo xs b w a ≤ 4000) : ∀ k, k < b → -8000000 ≤ w.getD k 0 ∧ w.getD k 0 ≤ 8000000 := fun k hk => by
  have h1 := cone_bd Zz Zz hW hl hK k hk
  have h0 := htTo_nonneg hK a (Nat.le_refl _)
  have h2 := hw0 k
  have h3 : W.getD k 0 * htTo xs b w a ≤ 2000 * 4000 := Int.mul_le_mul h2.2 ht h0 (by omega)
  omega
theorem small_num {w : List Int} {b : Nat} (hl : w.length = b) (h : ∀ k, k < b → -8000000 ≤ w.getD k 0 ∧ w.getD k 0 ≤ 8000000) : w.all numB = true := all_num fun k hk => by have := h k (by omega); omega
theorem dif_num {w u : List Int} {b : Nat} (hl : w.length = b) (h : ∀ k, k < b → -8000000 ≤ w.getD k 0 ∧ w.getD k 0 ≤ 8000000) (hu : ∀ k, k < b → -2000 ≤ u.getD k 0 ∧ u.getD k 0 ≤ 2000) : (difL w u).all numB = true := all_num fun k hk => by
  rw [difL_len] at hk
  have h1 := h k (by omega)
  have h2 := hu k (by omega)
  rw [difL_at hk]; omega
set_option maxHeartbeats 1000000 in
theorem d_mc (a b n ca n1 c1 n2 c2 : Nat) (xs w u : List Int) (hn : n = xs.length) (h1 : n1 = u.length) (h2 : n2 = w.length) (hx : xs.length = a * b) (ha : a ≤ 8) (hb1 : 1 ≤ b) (hb : b ≤ 3) (hxn : xs.all numB = true) (hca : xs.length ≤ ca)
    (hwl : w.length = b) (hwa : w.all numB = true) (hul : u.length = b) (hua : u.all numB = true) (hd : (difL w u).all numB = true) :
    Does Tryz.prog 83 [vS 1 1 0 n1 c1, .one (.ptr 2 3 0 0), .one (.ptr 3 1 0 0)]
      [(1, .ro (.ints u)), (2, .ro (.lit [.int a, .int b, .sl 4 1 0 n ca])), (3, .ro (.lit [.sl 5 1 0 n2 c2])), (4, .ro (.ints xs)), (5, .ro (.ints w))] 6 (Ret (vB (inAny xs a b (difL w u))) 6) := by
  subst hn h1 h2
  have hdf := fun c1 c2 => d_diff w u w.length u.length c1 c2 Zz Zz (by omega) hwa hua (by omega)
  have hi := fun m cv (hm : m = (difL w u).length) => d_inAny a b xs.length ca m cv xs (difL w u) rfl hm hx (by rw [difL_len]; exact hwl) ha hb1 hb hxn hd hca
  refine Does.intro TT Tryz.func83 rfl (by kernel_rfl) Zz Zz fun E hE => ?_
  ((repeat' (first | refine stp ?_ | (refine stq ?_ ?_ <;> (intro hc; ((try simp at hc) <;> try contradiction))) | fail)) <;> try (exfalso; omega))
  refine awp_held TM [(2, _), (3, _)] sb rfl (fun ρs => ?_)
  refine zt0 ?_
  refine zt1 ?_
  refine zt2 ?_
  refine w_u [3] kr rfl ⟨?_, trivial⟩
  first | (refine zho ?_) | (refine w_D _ (hdf _ _) Zz Zz Zz Zz Zz Zz Zz Zz ft Zz Zz (MadeI.out) sb Zz Zz ?_; rintro v b ⟨cp, hcp, rfl, he, -⟩; cases he) | refine w_B _ (hi _ _ rfl) Zz Zz Zz Zz Zz Zz Zz Zz Zz ft Zz Zz sb rfl ?_
  refine w_u [4] kr rfl ⟨?_, trivial⟩
  first | (refine zho ?_) | (refine w_D _ (hdf _ _) Zz Zz Zz Zz Zz Zz Zz Zz ft Zz Zz (MadeI.out) sb Zz Zz ?_; rintro v b ⟨cp, hcp, rfl, he, -⟩; cases he) | refine w_B _ (hi _ _ rfl) Zz Zz Zz Zz Zz Zz Zz Zz Zz ft Zz Zz sb rfl ?_
  refine zt5 ?_
  refine w_v kr ?_
  rotate_left
  all_goals ((repeat' (first | refine stx ?_ | (refine stq ?_ ?_ <;> (intro hc; ((try simp at hc) <;> try contradiction))) | fail)) <;> try (exfalso; omega))
  all_goals refine fin_ret rfl w_3 (rfl) rfl
set_option maxHeartbeats 1000000 in
theorem d_indexR (a b n ca n2 c2 c : Nat) (xs w : List Int) (l : List Row) (hn : n = xs.length) (h2 : n2 = w.length) (hx : xs.length = a * b) (ha : a ≤ 8) (hb1 : 1 ≤ b) (hb : b ≤ 3) (hxn : xs.all numB = true) (hca : xs.length ≤ ca)
    (hwl : w.length = b) (hwa : w.all numB = true) (hl : l.length ≤ 1000000) (hg : ∀ r ∈ l, r.xs.length = b ∧ r.xs.all numB = true ∧ (difL w r.xs).all numB = true) :
    Does Tryz.prog 82 [vS 1 1 0 l.length c, .one (.fn 83 [(2, 3), (3, 1)])]
      [(1, .ro (.rows false true l)), (2, .ro (.lit [.int a, .int b, .sl 4 1 0 n ca])), (3, .ro (.lit [.sl 5 1 0 n2 c2])), (4, .ro (.ints xs)), (5, .ro (.ints w))] 6
      (Ret (vI (fiJ (l.findIdx? fun r => inAny xs a b (difL w r.xs)))) 6) := by
  subst hn h2
  refine Does.intro TT Tryz.func82 rfl (by kernel_rfl) Zz Zz fun E hE => ?_
  ((repeat' (first | refine stx ?_ | (refine stq ?_ ?_ <;> (intro hc; ((try simp at hc) <;> try contradiction))) | fail)) <;> try (exfalso; omega))
  refine w_G hE (fun k : Nat => k ≤ l.length ∧ ∀ i (hi : i < k) (hl : i < l.length), inAny xs a b (difL w l[i].xs) = false) (fun k => l.length - k)
    (fun k => [(0, vS 1 1 0 l.length c), (1, .one (.fn 83 [(2, 3), (3, 1)])), (7, vI l.length), (8, vI k)])
    (fun _ => [(1, .ro (.rows false true l)), (2, .ro (.lit [.int a, .int b, .sl 4 1 0 xs.length ca])), (3, .ro (.lit [.sl 5 1 0 w.length c2])), (4, .ro (.ints xs)), (5, .ro (.ints w))]) 6 [] 0 ⟨Nat.zero_le _, fun i hi => by omega⟩ ⟨w_1, w_2, rfl⟩ ?_
  rintro k ⟨hk1, hk2⟩
  by_cases hk : k < l.length
  · have e1 : l.getD (0 + (k : Int).toNat) rowD = l[k] := by rw [show 0 + (k : Int).toNat = k by omega, getD_in hk]
    obtain ⟨g1, g2, g3⟩ := hg (l.getD (0 + (k : Int).toNat) rowD) (by rw [e1]; exact List.getElem_mem hk)
    have hcl := fun c1 => d_mc a b xs.length ca (l.getD (0 + (k : Int).toNat) rowD).xs.length c1 w.length c2 xs w (l.getD (0 + (k : Int).toNat) rowD).xs Zz Zz Zz hx ha hb1 hb hxn hca hwl hwa g1 g2 g3
    cases cs : inAny xs a b (difL w (l.getD (0 + (k : Int).toNat) rowD).xs) with
    | true =>
      rw [cs] at hcl
      ((repeat' (first | refine stx ?_ | (refine awpL_callM [(1, 6)] (hcl _) Zz Zz Zz Zz Zz Zz Zz ft rfl ?_; rintro v Hout n1 ⟨rfl, rfl, rfl⟩) | (refine stq ?_ ?_ <;> (intro hc; ((try simp at hc) <;> try contradiction))) | fail)) <;> try (exfalso; omega))
      refine fin_ret rfl w_3 (congrArg vI (by rw [List.findIdx?_eq_some_iff_getElem.2 ⟨hk, by rw [← e1]; exact cs, fun i hi => by rw [hk2 i hi (by omega)]; simp⟩]; rfl)) rfl
    | false =>
      rw [cs] at hcl
      ((repeat' (first | refine stx ?_ | (refine awpL_callM [(1, 6)] (hcl _) Zz Zz Zz Zz Zz Zz Zz ft rfl ?_; rintro v Hout n1 ⟨rfl, rfl, rfl⟩) | (refine stq ?_ ?_ <;> (intro hc; ((try simp at hc) <;> try contradiction))) | fail)) <;> try (exfalso; omega))
      refine ⟨[], k + 1, ⟨by omega, fun i hi hl => ?_⟩, w_4, ⟨w_1, w_2, rfl⟩⟩
      by_cases c : i < k
      · exact hk2 i c hl
      · obtain rfl : i = k := by omega
        rw [← e1]; exact cs
  · obtain rfl : k = l.length := by omega
    ((repeat' (first | refine stx ?_ | (refine stq ?_ ?_ <;> (intro hc; ((try simp at hc) <;> try contradiction))) | fail)) <;> try (exfalso; omega))
    refine fin_ret rfl w_3 (congrArg vI (by rw [List.findIdx?_eq_none_iff.2 fun r hr => by obtain ⟨i, hi, rfl⟩ := List.mem_iff_getElem.1 hr; exact hk2 i hi hi]; rfl)) rfl
set_option maxRecDepth 100000 in
set_option maxHeartbeats 16000000 in
theorem d_mulI (r c : Int) (xs v : List Int) (ca cv : Nat) (hl : xs.length ≤ 1099511627776) (hl' : v.length ≤ 1099511627776) (hca : xs.length ≤ ca) : Does Tryz.prog 24 [vM r c 1 xs.length ca, vS 2 1 0 v.length cv] [(1, .ro (.ints xs)), (2, .ro (.ints v))] 3 (SlO 3 (mulO r c xs v) 3) := by
 have hh := d_hilI r c xs ca hl hca
 have hci := fun c1 c2 hca => d_inConeI r c xs v c1 c2 hl hl' hca
 refine Does.intro TT Tryz.func24 rfl (by kernel_rfl) Zz Zz fun E hE => ?_
 cases ho : hilO r c xs with
 | none =>
  have hm : mulO r c xs v = none := by rw [mulO, ho]; rfl
  rw [hm]
  rw [ho] at hh
  ((repeat' (first | refine stx ?_ | ((refine w_E (hh) Zz Zz Zz Zz Zz Zz Zz ft rfl ?_); rintro v Hout n1 ⟨rfl, rfl, rfl⟩) | (refine stq ?_ ?_ <;> (intro hc; ((try simp at hc) <;> try contradiction))) | fail)) <;> try (exfalso; omega))
  exact fin rfl w_3 [(3, 5)] (.tup [.one (.sl 3 1 0 0 0), .one (.bool false)]) [(3, .own 3 0 (.ints []))] 4 ⟨0, Nat.le_refl _, rfl, rfl, rfl⟩ rfl ⟨trivial, ⟨rfl, trivial⟩, rfl⟩ rfl
 | some G =>
  rw [ho] at hh
  obtain ⟨a, b, W, L, rfl, rfl, ha, hb1, hb, hx, hxn, hC, hp, hW, hO, hG4, hw0, hG, -⟩ := hil_some ho
  cases hc : inConeB a b xs v with
  | false =>
   have hm : mulO a b xs v = none := by rw [mulO, ho, Option.bind_some, hc]; rfl
   rw [hm]
   rw [hc] at hci
   ((repeat' (first | refine stx ?_ | ((refine w_E (hh) Zz Zz Zz Zz Zz Zz Zz ft rfl ?_); rintro v Hout n1 ⟨lG, cG, hlG, rfl, rfl, rfl⟩) | (first | refine w_z (hci _ _ hca) Zz Zz Zz Zz Zz Zz Zz Zz ft Zz Zz ?_ | refine w_A (hci _ _ hca) Zz Zz Zz Zz Zz Zz Zz Zz ft Zz Zz ?_) | (refine stq ?_ ?_ <;> (intro hc; ((try simp at hc) <;> try contradiction))) | fail)) <;> try (exfalso; omega))
   exact fin rfl w_3 [(3, 6)] (.tup [.one (.sl 3 1 0 0 0), .one (.bool false)]) [(3, .own 3 0 (.ints []))] 4 ⟨0, Nat.le_refl _, rfl, rfl, rfl⟩ rfl ⟨trivial, ⟨rfl, trivial⟩, rfl⟩ rfl
  | true =>
   rw [hc] at hci
   obtain ⟨v1, v2, v3⟩ := (inCone_iff hC).1 hc
   have hK : inAny xs a b v = true := by rw [← inConeB_any hC v1 v2]; exact hc
   have hht := fun m cv (hm : m = v.length) => d_height a b xs.length ca m cv xs v rfl hm hx v1 ha hb1 hb hxn v2 hca
   by_cases h4 : htTo xs b v a ≤ 4000
   ·have hm : mulO a b xs v = mulTo (inAny xs a b) (fun u => htTo xs b u a) G ((htTo xs b v a).toNat + 1) (List.replicate G.length 0) v := by
     rw [mulO, ho, Option.bind_some, hc, Int.toNat_natCast, Int.toNat_natCast, decide_eq_true h4]; rfl
    have hM := MulI.zero (B := G) v1 hK h4
    rw [← hm] at hM
    generalize mulO a b xs v = R at *
    ((repeat' (first | refine stx ?_ | ((refine w_E (hh) Zz Zz Zz Zz Zz Zz Zz ft rfl ?_); rintro v Hout n1 ⟨lG, cG, hlG, rfl, rfl, rfl⟩; have hlen : lG.length = G.length := rowsX_len hlG) | (first | refine w_z (hci _ _ hca) Zz Zz Zz Zz Zz Zz Zz Zz ft Zz Zz ?_ | refine w_A (hci _ _ hca) Zz Zz Zz Zz Zz Zz Zz Zz ft Zz Zz ?_) | (first | refine w_z (hht _ _ rfl) Zz Zz Zz Zz Zz Zz Zz Zz ft Zz Zz ?_ | refine w_A (hht _ _ rfl) Zz Zz Zz Zz Zz Zz Zz Zz ft Zz Zz ?_) | (refine w_x TT Zz Zz Zz Zz Zz sd ?_; intro cap hcap) | (refine stq ?_ ?_ <;> (intro hc; ((try simp at hc) <;> try contradiction))) | fail)) <;> try (exfalso; omega))
    have hmem : ∀ r ∈ lG, r.xs ∈ G := fun r hr => by rw [← hlG]; exact List.mem_map.2 ⟨r, hr, rfl⟩
    refine w_G hE (fun x : Nat × List Int × List Int × Nat => MulI xs a b G R x.1 x.2.1 x.2.2.1) (fun x => x.1)
     (fun x => [(2, .one (.ptr 3 3 0 0)), (6, vS 4 1 0 lG.length cG), (8, vS 6 1 0 lG.length lG.length), (9, .one (.ptr 9 1 0 0))])
     (fun x => [(1, .ro (.ints xs)), (3, .own 26 1 (.lit [.int a, .int b, .sl 1 1 0 xs.length ca])), (4, .own 24 cG (.rows false true lG)), (5, .tok 3 false lG), (6, .own 3 lG.length (.ints x.2.1)), (8, .own 3 x.2.2.2 (.ints x.2.2.1)), (9, .own 24 1 (.lit [.sl 8 1 0 x.2.2.1.length x.2.2.2]))]) 10 [] ((htTo xs b v a).toNat + 1, List.replicate lG.length 0, v, cap) (by rw [hlen]; exact hM) ⟨w_1, ⟨rfl, rfl, rfl, rfl, rfl, own_ints (by simp), congrArg (fun n => some (Blk.own 24 1 (.lit [.sl 8 1 0 n cap]))) (Nat.zero_add v.length), trivial⟩, rfl⟩ ?_
    rintro ⟨n, out, w, cw⟩ hI
    dsimp only at hI
    have hwl := hI.len
    have hsm := small_of hW hw0 hI.len hI.con hI.top
    have hwa := small_num hwl hsm
    have hol := hI.olen
    have hht2 := fun m cv (hm : m = w.length) => d_height a b xs.length ca m cv xs w rfl hm hx hwl ha hb1 hb hxn hwa hca
    by_cases h0 : 0 < htTo xs b w a
    ·have hix := fun c n2 c2 (h2 : n2 = w.length) => d_indexR a b xs.length ca n2 c2 c xs w lG rfl h2 hx ha hb1 hb hxn hca hwl hwa (by omega) (fun r hr => by
      obtain ⟨-, q2, q3, q4, -, -⟩ := hG r.xs (hmem r hr)
      exact ⟨q2, q3, dif_num hwl hsm q4⟩)
     have hfi : (lG.findIdx? fun r => inAny xs a b (difL w r.xs)) = G.findIdx? fun u => inAny xs a b (difL w u) := by
      rw [← hlG, rowsX, List.findIdx?_map]; rfl
     rw [hfi] at hix
     cases hk : G.findIdx? fun u => inAny xs a b (difL w u) with
     | none =>
      have := hI.none h0 hk
      subst this
      rw [hk, fiJ] at hix
      ((repeat' (first | refine stx ?_ | (first | refine w_z (hht2 _ _ rfl) Zz Zz Zz Zz Zz Zz Zz Zz ft Zz Zz ?_ | refine w_A (hht2 _ _ rfl) Zz Zz Zz Zz Zz Zz Zz Zz ft Zz Zz ?_) | (refine awpL_callM [(1, 4), (2, 3), (3, 9), (4, 1), (5, 8)] (hix _ _ _ rfl) Zz Zz Zz Zz Zz Zz Zz ft rfl ?_; rintro v Hout n1 ⟨rfl, rfl, rfl⟩) | (refine stq ?_ ?_ <;> (intro hc; ((try simp at hc) <;> try contradiction))) | fail)) <;> try (exfalso; omega))
      exact fin rfl w_3 [(3, 10)] (.tup [.one (.sl 3 1 0 0 0), .one (.bool false)]) [(3, .own 3 0 (.ints []))] 4 ⟨0, Nat.le_refl _, rfl, rfl, rfl⟩ rfl ⟨trivial, ⟨rfl, trivial⟩, rfl⟩ rfl
     | some k =>
      obtain ⟨hkl, hn1, hnx⟩ := hI.next (fun v hv => (hG v hv).2.2.2.2.2) h0 hk
      rw [hk, fiJ] at hix
      have ek : (0 + (k : Int).toNat) = k := by omega
      have hkr : k < lG.length := by omega
      have eG : G.getD k [] = (lG.getD (0 + (k : Int).toNat) rowD).xs := by rw [ek, ← hlG, getD_in hkr, getD_in (by simpa [rowsX] using hkr)]; simp [rowsX]
      obtain ⟨-, q2, q3, q4, -, -⟩ := hG (G.getD k []) (by rw [getD_in hkl]; exact List.getElem_mem hkl)
      have hcn := hI.cnt k
      have hdf := fun c1 c2 => d_diff w (lG.getD (0 + (k : Int).toNat) rowD).xs w.length (lG.getD (0 + (k : Int).toNat) rowD).xs.length c1 c2 Zz Zz (by rw [← eG]; omega) hwa (by rw [← eG]; exact q3) (by omega)
      rw [eG] at hnx
      have hcn2 : 0 ≤ out.getD (0 + (k : Int).toNat) 0 ∧ out.getD (0 + (k : Int).toNat) 0 ≤ 4000 := by rw [ek]; omega
      ((repeat' (first | refine stp ?_ | (first | refine w_z (hht2 _ _ rfl) Zz Zz Zz Zz Zz Zz Zz Zz ft Zz Zz ?_ | refine w_A (hht2 _ _ rfl) Zz Zz Zz Zz Zz Zz Zz Zz ft Zz Zz ?_) | (refine awpL_callM [(1, 4), (2, 3), (3, 9), (4, 1), (5, 8)] (hix _ _ _ rfl) Zz Zz Zz Zz Zz Zz Zz ft rfl ?_; rintro v Hout n1 ⟨rfl, rfl, rfl⟩) | (refine stq ?_ ?_ <;> (intro hc; ((try simp at hc) <;> try contradiction))) | fail)) <;> try (exfalso; omega))
      refine awp_held TM [(4, _)] sb rfl (fun ρs => ?_)
      refine zt1 ?_
      refine zt2 ?_
      refine zt3 ?_
      refine w_u [0, 4] kr rfl ⟨?_, ?_, trivial⟩
      first | (refine zho ?_) | (refine w_D _ (hdf _ _) Zz Zz Zz Zz Zz Zz Zz Zz ft Zz Zz (MadeI.out) sb Zz Zz ?_; rintro v b ⟨cp, hcp, rfl, he, -⟩; cases he)
      refine w_u [4] kr rfl ⟨?_, trivial⟩
      first | (refine zho ?_) | (refine w_D _ (hdf _ _) Zz Zz Zz Zz Zz Zz Zz Zz ft Zz Zz (MadeI.out) sb Zz Zz ?_; rintro v b ⟨cp, hcp, rfl, he, -⟩; cases he)
      refine w_u [5] kr rfl ⟨?_, trivial⟩
      first | (refine zho ?_) | (refine w_D _ (hdf _ _) Zz Zz Zz Zz Zz Zz Zz Zz ft Zz Zz (MadeI.out) sb Zz Zz ?_; rintro v b ⟨cp, hcp, rfl, he, -⟩; cases he)
      refine w_u [6] kr rfl ⟨?_, trivial⟩
      first | (refine zho ?_) | (refine w_D _ (hdf _ _) Zz Zz Zz Zz Zz Zz Zz Zz ft Zz Zz (MadeI.out) sb Zz Zz ?_; rintro v b ⟨cp, hcp, rfl, he, -⟩; cases he)
      refine w_v kr ?_
      rotate_left
      first | (refine zho ?_) | (refine w_D _ (hdf _ _) Zz Zz Zz Zz Zz Zz Zz Zz ft Zz Zz (MadeI.out) sb Zz Zz ?_; rintro v b ⟨cp, hcp, rfl, he, -⟩; cases he)
      refine w_u [0] kr rfl ⟨?_, trivial⟩
      first | (refine zho ?_) | (refine w_D _ (hdf _ _) Zz Zz Zz Zz Zz Zz Zz Zz ft Zz Zz (MadeI.out) sb Zz Zz ?_; rintro v b ⟨cp, hcp, rfl, he, -⟩; cases he)
      refine w_u [5] kr rfl ⟨?_, trivial⟩
      first | (refine zho ?_) | (refine w_D _ (hdf _ _) Zz Zz Zz Zz Zz Zz Zz Zz ft Zz Zz (MadeI.out) sb Zz Zz ?_; rintro v b ⟨cp, hcp, rfl, he, -⟩; cases he)
      refine w_u [6] kr rfl ⟨?_, trivial⟩
      first | (refine zho ?_) | (refine w_D _ (hdf _ _) Zz Zz Zz Zz Zz Zz Zz Zz ft Zz Zz (MadeI.out) sb Zz Zz ?_; rintro v b ⟨cp, hcp, rfl, he, -⟩; cases he)
      refine w_v kr ?_
      rotate_left
      all_goals ((repeat' (first | refine stx ?_ | (refine stq ?_ ?_ <;> (intro hc; ((try simp at hc) <;> try contradiction))) | fail)) <;> try (exfalso; omega))
      all_goals exact ⟨[(8, 11)], (n - 1, out.set k (out.getD k 0 + 1), difL w (lG.getD (0 + (k : Int).toNat) rowD).xs, cp), hnx, by show n - 1 < n; omega, ⟨w_1, ⟨rfl, rfl, rfl, rfl, own_ints (by rw [ek]), rfl, rfl, trivial⟩, rfl⟩⟩
    ·have := hI.done h0
     subst this
     ((repeat' (first | refine stx ?_ | (first | refine w_z (hht2 _ _ rfl) Zz Zz Zz Zz Zz Zz Zz Zz ft Zz Zz ?_ | refine w_A (hht2 _ _ rfl) Zz Zz Zz Zz Zz Zz Zz Zz ft Zz Zz ?_) | (refine stq ?_ ?_ <;> (intro hc; ((try simp at hc) <;> try contradiction))) | fail)) <;> try (exfalso; omega))
     exact fin rfl w_3 [(3, 6)] (.tup [.one (.sl 3 1 0 lG.length lG.length), .one (.bool true)]) [(3, .own 3 lG.length (.ints out))] 4 ⟨lG.length, by omega, by rw [show out.length = lG.length by omega], rfl, rfl⟩ rfl ⟨trivial, ⟨rfl, trivial⟩, rfl⟩ rfl
   ·have hm : mulO a b xs v = none := by rw [mulO, ho, Option.bind_some, hc, Int.toNat_natCast, Int.toNat_natCast, decide_eq_false h4]; rfl
    rw [hm]
    ((repeat' (first | refine stx ?_ | ((refine w_E (hh) Zz Zz Zz Zz Zz Zz Zz ft rfl ?_); rintro v Hout n1 ⟨lG, cG, hlG, rfl, rfl, rfl⟩) | (first | refine w_z (hci _ _ hca) Zz Zz Zz Zz Zz Zz Zz Zz ft Zz Zz ?_ | refine w_A (hci _ _ hca) Zz Zz Zz Zz Zz Zz Zz Zz ft Zz Zz ?_) | (first | refine w_z (hht _ _ rfl) Zz Zz Zz Zz Zz Zz Zz Zz ft Zz Zz ?_ | refine w_A (hht _ _ rfl) Zz Zz Zz Zz Zz Zz Zz Zz ft Zz Zz ?_) | (refine stq ?_ ?_ <;> (intro hc; ((try simp at hc) <;> try contradiction))) | fail)) <;> try (exfalso; omega))
    exact fin rfl w_3 [(3, 6)] (.tup [.one (.sl 3 1 0 0 0), .one (.bool false)]) [(3, .own 3 0 (.ints []))] 4 ⟨0, Nat.le_refl _, rfl, rfl, rfl⟩ rfl ⟨trivial, ⟨rfl, trivial⟩, rfl⟩ rfl
end Go.Proofs.YtfkbjkmlpinoeaaGreat
namespace Go.Proofs.YtfkbjkmlpinoeaaGreat
open Go.RowKit
theorem findIdx_eq {α : Type} {p q : α → Bool} : ∀ {l : List α}, (∀ x ∈ l, p x = q x) → l.findIdx? p = l.findIdx? q
  | [], _ => rfl
  | x :: l, h => by rw [List.findIdx?_cons, List.findIdx?_cons, h x (by simp), findIdx_eq fun y hy => h y (by simp [hy])]
def difT (w u : List Int) (j : Nat) : List Int := (difL w u).take j ++ w.drop j
theorem difT_len {w u : List Int} {j : Nat} (h : j ≤ w.length) : (difT w u j).length = w.length := by rw [difT, List.length_append, List.length_take, List.length_drop, difL_len]; omega
theorem difT_at {w u : List Int} {j : Nat} (h : j < w.length) : (difT w u j).getD j 0 = w.getD j 0 := by
  rw [difT, getD_appR (by rw [List.length_take, difL_len]; omega), List.length_take, difL_len, Nat.min_eq_left (by omega), Nat.sub_self, List.drop_eq_getElem_cons h, getD_in h]; rfl
theorem difT_set {w u : List Int} {j : Nat} (h : j < w.length) : (difT w u j).set j (w.getD j 0 - u.getD j 0) = difT w u (j + 1) := by
  have hl : ((difL w u).take j).length = j := by rw [List.length_take, difL_len]; omega
  rw [difT, difT, List.set_append_right _ _ (by omega), hl, Nat.sub_self, List.drop_eq_getElem_cons h, List.set_cons_zero, List.take_succ_eq_append_getElem (by rw [difL_len]; exact h), ← getD_in (d := 0) (by rw [difL_len]; exact h), difL_at h, List.append_assoc]; rfl
theorem difT_full {w u : List Int} : difT w u w.length = difL w u := by rw [difT, List.take_of_length_le (by rw [difL_len]; exact Nat.le_refl _), List.drop_length, List.append_nil]
theorem d_heightN (a b n ca m cv : Nat) (xs v : List Int) (hn : n = xs.length) (hm : m = v.length) (hl : xs.length ≤ 1099511627776) (hv : v.length = b) (hvn : v.all numB = true) (hC : coneM a b xs = true) (ha : a ≤ 8) (hb : b ≤ 3) (hxn : xs.all numB = true) :
    Does Tryz.prog 79 [vM a b 1 n ca, vS 2 1 0 m cv] [(1, .ro (.ints xs)), (2, .ro (.ints v))] 3 (Ret (vI (htTo xs b v a)) 3) := by
  have := d_heightS a b n ca m cv xs v _ hn hm hl (by omega) (prodO_any hC hv hvn) (by rw [prM_len]; omega) (fun t ht => by
    rw [prM_len] at ht
    rw [prM_take ht, prM_sum]
    have := htTo_bd hxn hvn hb t
    omega)
  rw [prM_sum] at this
  exact this
set_option maxRecDepth 100000 in
set_option maxHeartbeats 16000000 in
theorem d_mulS (r c : Int) (xs v : List Int) (ca cv : Nat) (hl : xs.length ≤ 1099511627776) (hl' : v.length ≤ 1099511627776) : Does Tryz.prog 40 [vM r c 1 xs.length ca, vS 2 1 0 v.length cv] [(1, .ro (.ints xs)), (2, .ro (.ints v))] 3 (SlO 3 (mulO r c xs v) 3) := by
 have hh := d_hilS r c xs ca hl
 have hci := fun c1 c2 => d_inConeS r c xs v c1 c2 hl hl'
 refine Does.intro TT Tryz.func40 rfl (by kernel_rfl) Zz Zz fun E hE => ?_
 cases ho : hilO r c xs with
 | none =>
  have hm : mulO r c xs v = none := by rw [mulO, ho]; rfl
  rw [hm]
  rw [ho] at hh
  ((repeat' (first | refine stx ?_ | ((refine w_E (hh) Zz Zz Zz Zz Zz Zz Zz ft rfl ?_); rintro v Hout n1 ⟨rfl, rfl, rfl⟩) | (refine stq ?_ ?_ <;> (intro hc; ((try simp at hc) <;> try contradiction))) | fail)) <;> try (exfalso; omega))
  exact fin rfl w_3 [(3, 5)] (.tup [.one (.sl 3 1 0 0 0), .one (.bool false)]) [(3, .own 3 0 (.ints []))] 4 ⟨0, Nat.le_refl _, rfl, rfl, rfl⟩ rfl ⟨trivial, ⟨rfl, trivial⟩, rfl⟩ rfl
 | some G =>
  rw [ho] at hh
  obtain ⟨a, b, W, L, rfl, rfl, ha, hb1, hb, hx, hxn, hC, hp, hW, hO, hG4, hw0, hG, -⟩ := hil_some ho
  cases hc : inConeB a b xs v with
  | false =>
   have hm : mulO a b xs v = none := by rw [mulO, ho, Option.bind_some, hc]; rfl
   rw [hm]
   rw [hc] at hci
   ((repeat' (first | refine stx ?_ | ((refine w_E (hh) Zz Zz Zz Zz Zz Zz Zz ft rfl ?_); rintro v Hout n1 ⟨lG, cG, hlG, rfl, rfl, rfl⟩) | (first | refine w_z (hci _ _) Zz Zz Zz Zz Zz Zz Zz Zz ft Zz Zz ?_ | refine w_A (hci _ _) Zz Zz Zz Zz Zz Zz Zz Zz ft Zz Zz ?_) | (refine stq ?_ ?_ <;> (intro hc; ((try simp at hc) <;> try contradiction))) | fail)) <;> try (exfalso; omega))
   exact fin rfl w_3 [(3, 6)] (.tup [.one (.sl 3 1 0 0 0), .one (.bool false)]) [(3, .own 3 0 (.ints []))] 4 ⟨0, Nat.le_refl _, rfl, rfl, rfl⟩ rfl ⟨trivial, ⟨rfl, trivial⟩, rfl⟩ rfl
  | true =>
   rw [hc] at hci
   obtain ⟨v1, v2, v3⟩ := (inCone_iff hC).1 hc
   have hK : inAny xs a b v = true := by rw [← inConeB_any hC v1 v2]; exact hc
   have hht := fun ca m cv (hm : m = v.length) => d_heightN a b xs.length ca m cv xs v rfl hm hl v1 v2 hC ha hb hxn
   by_cases h4 : htTo xs b v a ≤ 4000
   ·have hm : mulO a b xs v = mulTo (inAny xs a b) (fun u => htTo xs b u a) G ((htTo xs b v a).toNat + 1) (List.replicate G.length 0) v := by
     rw [mulO, ho, Option.bind_some, hc, Int.toNat_natCast, Int.toNat_natCast, decide_eq_true h4]; rfl
    have hM := MulI.zero (B := G) v1 hK h4
    rw [← hm] at hM
    generalize mulO a b xs v = R at *
    ((repeat' (first | refine stx ?_ | ((refine w_E (hh) Zz Zz Zz Zz Zz Zz Zz ft rfl ?_); rintro v Hout n1 ⟨lG, cG, hlG, rfl, rfl, rfl⟩; have hlen : lG.length = G.length := rowsX_len hlG) | (first | refine w_z (hci _ _) Zz Zz Zz Zz Zz Zz Zz Zz ft Zz Zz ?_ | refine w_A (hci _ _) Zz Zz Zz Zz Zz Zz Zz Zz ft Zz Zz ?_) | (first | refine w_z (hht _ _ _ rfl) Zz Zz Zz Zz Zz Zz Zz Zz ft Zz Zz ?_ | refine w_A (hht _ _ _ rfl) Zz Zz Zz Zz Zz Zz Zz Zz ft Zz Zz ?_) | (refine w_x TT Zz Zz Zz Zz Zz sd ?_; intro cap hcap) | (refine stq ?_ ?_ <;> (intro hc; ((try simp at hc) <;> try contradiction))) | fail)) <;> try (exfalso; omega))
    have hmem : ∀ r ∈ lG, r.xs ∈ G := fun r hr => by rw [← hlG]; exact List.mem_map.2 ⟨r, hr, rfl⟩
    refine w_G hE (fun x : Nat × List Int × List Int × Nat => MulI xs a b G R x.1 x.2.1 x.2.2.1) (fun x => x.1)
     (fun x => [(2, .one (.ptr 3 3 0 0)), (6, vS 4 1 0 lG.length cG), (8, vS 6 1 0 lG.length lG.length), (9, vS 8 1 0 b x.2.2.2)])
     (fun x => [(1, .ro (.ints xs)), (3, .own 26 1 (.lit [.int a, .int b, .sl 1 1 0 xs.length ca])), (4, .own 24 cG (.rows false true lG)), (5, .tok 3 false lG), (6, .own 3 lG.length (.ints x.2.1)), (8, .own 3 x.2.2.2 (.ints x.2.2.1))]) 9 [] ((htTo xs b v a).toNat + 1, List.replicate lG.length 0, v, cap) (by rw [hlen]; exact hM) ⟨w_1, ⟨rfl, rfl, rfl, rfl, rfl, own_ints (by simp), trivial⟩, rfl⟩ ?_
    rintro ⟨n, out, w, cw⟩ hI
    dsimp only at hI
    have hwl := hI.len
    have hsm := small_of hW hw0 hI.len hI.con hI.top
    have hwa := small_num hwl hsm
    have hol := hI.olen
    have hht2 := fun ca m cv (hm : m = w.length) => d_heightN a b xs.length ca m cv xs w rfl hm hl hwl hwa hC ha hb hxn
    by_cases h0 : 0 < htTo xs b w a
    ·have hst := fun ca m cv c (hm : m = w.length) => d_stepR a b xs.length ca m cv c xs w lG rfl hm hl (by omega) hwa (by omega) (fun r hr => by
      obtain ⟨-, q2, q3, -, -, -⟩ := hG r.xs (hmem r hr)
      exact ⟨by omega, q3⟩)
     have hfi : stepJ a b xs lG w = fiJ (G.findIdx? fun u => inAny xs a b (difL w u)) := by
      have e : (lG.findIdx? fun r => inConeB a b xs (difL w r.xs)) = G.findIdx? fun u => inAny xs a b (difL w u) := by
       rw [← hlG, rowsX, List.findIdx?_map]
       refine findIdx_eq fun r hr => ?_
       obtain ⟨-, q2, q3, q4, -, -⟩ := hG r.xs (hmem r hr)
       exact inConeB_any hC (by rw [difL_len]; exact hwl) (dif_num hwl hsm q4)
      rw [stepJ, e]
      cases G.findIdx? fun u => inAny xs a b (difL w u) <;> rfl
     rw [hfi] at hst
     cases hk : G.findIdx? fun u => inAny xs a b (difL w u) with
     | none =>
      have := hI.none h0 hk
      subst this
      rw [hk, fiJ] at hst
      ((repeat' (first | refine stx ?_ | (first | refine w_z (hht2 _ _ _ hwl.symm) Zz Zz Zz Zz Zz Zz Zz Zz ft Zz Zz ?_ | refine w_A (hht2 _ _ _ hwl.symm) Zz Zz Zz Zz Zz Zz Zz Zz ft Zz Zz ?_) | (first | refine w_z (hst _ _ _ _ hwl.symm) Zz Zz Zz Zz Zz Zz Zz Zz ft Zz Zz ?_ | refine w_A (hst _ _ _ _ hwl.symm) Zz Zz Zz Zz Zz Zz Zz Zz ft Zz Zz ?_) | (refine stq ?_ ?_ <;> (intro hc; ((try simp at hc) <;> try contradiction))) | fail)) <;> try (exfalso; omega))
      exact fin rfl w_3 [(3, 9)] (.tup [.one (.sl 3 1 0 0 0), .one (.bool false)]) [(3, .own 3 0 (.ints []))] 4 ⟨0, Nat.le_refl _, rfl, rfl, rfl⟩ rfl ⟨trivial, ⟨rfl, trivial⟩, rfl⟩ rfl
     | some k =>
      obtain ⟨hkl, hn1, hnx⟩ := hI.next (fun v hv => (hG v hv).2.2.2.2.2) h0 hk
      rw [hk, fiJ] at hst
      have ek : (0 + (k : Int).toNat) = k := by omega
      have hkr : k < lG.length := by omega
      have eG : G.getD k [] = (lG.getD (0 + (k : Int).toNat) rowD).xs := by rw [ek, ← hlG, getD_in hkr, getD_in (by simpa [rowsX] using hkr)]; simp [rowsX]
      obtain ⟨-, q2, q3, q4, -, -⟩ := hG (G.getD k []) (by rw [getD_in hkl]; exact List.getElem_mem hkl)
      rw [eG] at hnx q2 q3 q4
      have hcn := hI.cnt k
      have hcn2 : 0 ≤ out.getD (0 + (k : Int).toNat) 0 ∧ out.getD (0 + (k : Int).toNat) 0 ≤ 4000 := by rw [ek]; omega
      have hq2 : (lG[k]?.getD rowD).xs.length = b := by rw [ek, List.getD_eq_getElem?_getD] at q2; exact q2
      ((repeat' (first | refine stx ?_ | (first | refine w_z (hht2 _ _ _ hwl.symm) Zz Zz Zz Zz Zz Zz Zz Zz ft Zz Zz ?_ | refine w_A (hht2 _ _ _ hwl.symm) Zz Zz Zz Zz Zz Zz Zz Zz ft Zz Zz ?_) | (first | refine w_z (hst _ _ _ _ hwl.symm) Zz Zz Zz Zz Zz Zz Zz Zz ft Zz Zz ?_ | refine w_A (hst _ _ _ _ hwl.symm) Zz Zz Zz Zz Zz Zz Zz Zz ft Zz Zz ?_) | (refine stq ?_ ?_ <;> (intro hc; ((try simp at hc) <;> try contradiction))) | fail)) <;> try (exfalso; omega))
      refine w_G hE (fun j : Nat => j ≤ b) (fun j => b - j)
       (fun j => [(2, .one (.ptr 3 3 0 0)), (6, vS 4 1 0 lG.length cG), (8, vS 6 1 0 lG.length lG.length), (9, vS 8 1 0 b cw), (10, vI k), (11, vI j)])
       (fun j => [(1, .ro (.ints xs)), (3, .own 26 1 (.lit [.int a, .int b, .sl 1 1 0 xs.length ca])), (4, .own 24 cG (.rows false true lG)), (5, .tok 3 false lG), (6, .own 3 lG.length (.ints (out.set k (out.getD k 0 + 1)))), (8, .own 3 cw (.ints (difT w (lG.getD (0 + (k : Int).toNat) rowD).xs j)))]) 9 [] 0 (Nat.zero_le _) ⟨w_1, ⟨rfl, rfl, rfl, rfl, own_ints (by rw [ek]), own_ints (by simp [difT]), trivial⟩, rfl⟩ ?_
      intro j hj
      have ln : (difT w (lG.getD (0 + (k : Int).toNat) rowD).xs j).length = b := by rw [difT_len (by omega)]; exact hwl
      by_cases hjb : j < b
      ·have e1 : (difT w (lG.getD (0 + (k : Int).toNat) rowD).xs j).getD (0 + (j : Int).toNat) 0 = w.getD j 0 := by rw [show 0 + (j : Int).toNat = j by omega]; exact difT_at (by omega)
       have e2 : (lG.getD (0 + (k : Int).toNat) rowD).xs.getD (0 + (j : Int).toNat) 0 = (lG.getD (0 + (k : Int).toNat) rowD).xs.getD j 0 := by rw [show 0 + (j : Int).toNat = j by omega]
       have f1 := hsm j hjb
       have f2 := q4 j hjb
       have f3 := f1
       have f4 := f2
       rw [← e1] at f3
       rw [← e2] at f4
       ((repeat' (first | refine stp ?_ | (refine stq ?_ ?_ <;> (intro hc; ((try simp at hc) <;> try contradiction))) | fail)) <;> try (exfalso; omega))
       refine awp_held TM [(4, _)] sb rfl (fun ρs => ?_)
       refine zt0 ?_
       refine zt1 ?_
       refine zt2 ?_
       refine zt3 ?_
       refine zt4 ?_
       refine zt6 ?_
       refine zt7 ?_
       refine zt8 ?_
       refine zt10 ?_
       refine w_u [5, 9] kr rfl ⟨?_, ?_, trivial⟩
       first | (refine zho ?_) | (refine w_y TT _ Zz Zz Zz Zz Zz Zz sd sb Zz Zz ?_; intro cap hcap)
       refine w_u [9] kr rfl ⟨?_, trivial⟩
       first | (refine zho ?_) | (refine w_y TT _ Zz Zz Zz Zz Zz Zz sd sb Zz Zz ?_; intro cap hcap)
       refine w_u [11] kr rfl ⟨?_, trivial⟩
       first | (refine zho ?_) | (refine w_y TT _ Zz Zz Zz Zz Zz Zz sd sb Zz Zz ?_; intro cap hcap)
       refine w_u [12] kr rfl ⟨?_, trivial⟩
       first | (refine zho ?_) | (refine w_y TT _ Zz Zz Zz Zz Zz Zz sd sb Zz Zz ?_; intro cap hcap)
       refine zt13 ?_
       refine zt14 ?_
       refine w_u [15] kr rfl ⟨?_, trivial⟩
       first | (refine zho ?_) | (refine w_y TT _ Zz Zz Zz Zz Zz Zz sd sb Zz Zz ?_; intro cap hcap)
       refine w_v kr ?_
       rotate_left
       first | (refine zho ?_) | (refine w_y TT _ Zz Zz Zz Zz Zz Zz sd sb Zz Zz ?_; intro cap hcap)
       refine w_u [5, 11] kr rfl ⟨?_, ?_, trivial⟩
       first | (refine zho ?_) | (refine w_y TT _ Zz Zz Zz Zz Zz Zz sd sb Zz Zz ?_; intro cap hcap)
       refine w_u [11] kr rfl ⟨?_, trivial⟩
       first | (refine zho ?_) | (refine w_y TT _ Zz Zz Zz Zz Zz Zz sd sb Zz Zz ?_; intro cap hcap)
       refine w_u [12] kr rfl ⟨?_, trivial⟩
       first | (refine zho ?_) | (refine w_y TT _ Zz Zz Zz Zz Zz Zz sd sb Zz Zz ?_; intro cap hcap)
       refine zt13 ?_
       refine zt14 ?_
       refine w_u [15] kr rfl ⟨?_, trivial⟩
       first | (refine zho ?_) | (refine w_y TT _ Zz Zz Zz Zz Zz Zz sd sb Zz Zz ?_; intro cap hcap)
       refine w_v kr ?_
       rotate_left
       first | (refine zho ?_) | (refine w_y TT _ Zz Zz Zz Zz Zz Zz sd sb Zz Zz ?_; intro cap hcap)
       refine w_u [5, 12] kr rfl ⟨?_, ?_, trivial⟩
       first | (refine zho ?_) | (refine w_y TT _ Zz Zz Zz Zz Zz Zz sd sb Zz Zz ?_; intro cap hcap)
       refine w_u [12] kr rfl ⟨?_, trivial⟩
       first | (refine zho ?_) | (refine w_y TT _ Zz Zz Zz Zz Zz Zz sd sb Zz Zz ?_; intro cap hcap)
       refine zt13 ?_
       refine zt14 ?_
       refine w_u [15] kr rfl ⟨?_, trivial⟩
       first | (refine zho ?_) | (refine w_y TT _ Zz Zz Zz Zz Zz Zz sd sb Zz Zz ?_; intro cap hcap)
       refine w_v kr ?_
       rotate_left
       first | (refine zho ?_) | (refine w_y TT _ Zz Zz Zz Zz Zz Zz sd sb Zz Zz ?_; intro cap hcap)
       refine w_u [5] kr rfl ⟨?_, trivial⟩
       first | (refine zho ?_) | (refine w_y TT _ Zz Zz Zz Zz Zz Zz sd sb Zz Zz ?_; intro cap hcap)
       refine zt13 ?_
       refine zt14 ?_
       refine w_u [15] kr rfl ⟨?_, trivial⟩
       first | (refine zho ?_) | (refine w_y TT _ Zz Zz Zz Zz Zz Zz sd sb Zz Zz ?_; intro cap hcap)
       refine w_v kr ?_
       rotate_left
       all_goals ((repeat' (first | refine stx ?_ | (refine stq ?_ ?_ <;> (intro hc; ((try simp at hc) <;> try contradiction))) | fail)) <;> try (exfalso; omega))
       all_goals exact ⟨[], j + 1, hjb, w_4, ⟨w_1, ⟨rfl, rfl, rfl, rfl, rfl, own_ints (by rw [e1, e2, show 0 + (j : Int).toNat = j by omega]; exact difT_set (by omega)), trivial⟩, rfl⟩⟩
      ·have ed : difT w (lG.getD (0 + (k : Int).toNat) rowD).xs j = difL w (lG.getD (0 + (k : Int).toNat) rowD).xs := by rw [show j = w.length by omega]; exact difT_full
       ((repeat' (first | refine stx ?_ | (refine stq ?_ ?_ <;> (intro hc; ((try simp at hc) <;> try contradiction))) | fail)) <;> try (exfalso; omega))
       exact ⟨[], (n - 1, out.set k (out.getD k 0 + 1), difL w (lG.getD (0 + (k : Int).toNat) rowD).xs, cw), hnx, by show n - 1 < n; omega, ⟨w_1, ⟨rfl, rfl, rfl, rfl, rfl, own_ints ed, trivial⟩, rfl⟩⟩
    ·have := hI.done h0
     subst this
     ((repeat' (first | refine stx ?_ | (first | refine w_z (hht2 _ _ _ hwl.symm) Zz Zz Zz Zz Zz Zz Zz Zz ft Zz Zz ?_ | refine w_A (hht2 _ _ _ hwl.symm) Zz Zz Zz Zz Zz Zz Zz Zz ft Zz Zz ?_) | (refine stq ?_ ?_ <;> (intro hc; ((try simp at hc) <;> try contradiction))) | fail)) <;> try (exfalso; omega))
     exact fin rfl w_3 [(3, 6)] (.tup [.one (.sl 3 1 0 lG.length lG.length), .one (.bool true)]) [(3, .own 3 lG.length (.ints out))] 4 ⟨lG.length, by omega, by rw [show out.length = lG.length by omega], rfl, rfl⟩ rfl ⟨trivial, ⟨rfl, trivial⟩, rfl⟩ rfl
   ·have hm : mulO a b xs v = none := by rw [mulO, ho, Option.bind_some, hc, Int.toNat_natCast, Int.toNat_natCast, decide_eq_false h4]; rfl
    rw [hm]
    ((repeat' (first | refine stx ?_ | ((refine w_E (hh) Zz Zz Zz Zz Zz Zz Zz ft rfl ?_); rintro v Hout n1 ⟨lG, cG, hlG, rfl, rfl, rfl⟩) | (first | refine w_z (hci _ _) Zz Zz Zz Zz Zz Zz Zz Zz ft Zz Zz ?_ | refine w_A (hci _ _) Zz Zz Zz Zz Zz Zz Zz Zz ft Zz Zz ?_) | (first | refine w_z (hht _ _ _ rfl) Zz Zz Zz Zz Zz Zz Zz Zz ft Zz Zz ?_ | refine w_A (hht _ _ _ rfl) Zz Zz Zz Zz Zz Zz Zz Zz ft Zz Zz ?_) | (refine stq ?_ ?_ <;> (intro hc; ((try simp at hc) <;> try contradiction))) | fail)) <;> try (exfalso; omega))
    exact fin rfl w_3 [(3, 6)] (.tup [.one (.sl 3 1 0 0 0), .one (.bool false)]) [(3, .own 3 0 (.ints []))] 4 ⟨0, Nat.le_refl _, rfl, rfl, rfl⟩ rfl ⟨trivial, ⟨rfl, trivial⟩, rfl⟩ rfl
end Go.Proofs.YtfkbjkmlpinoeaaGreat
namespace Go.Proofs.YtfkbjkmlpinoeaaGreat
open Go.RowKit
theorem mul_form {r c : Int} {xs v : List Int} : ∃ (zs : List Int) (ok : Bool), zs.length ≤ 4000 ∧ (ok = (mulO r c xs v).isSome ∧ zs = (mulO r c xs v).getD []) ∧ ∀ t k, SlO t (mulO r c xs v) k = SlB t zs ok k := by
  cases h : mulO r c xs v with
  | none => exact ⟨[], false, by simp, ⟨rfl, rfl⟩, fun _ _ => rfl⟩
  | some zs =>
    refine ⟨zs, true, ?_, ⟨rfl, rfl⟩, fun _ _ => rfl⟩
    unfold mulO at h
    obtain ⟨G, hG, h⟩ := Option.bind_eq_some_iff.1 h
    obtain ⟨a, b, W, L, rfl, rfl, -, -, -, -, -, hC, -, -, -, h4, -, -, -⟩ := hil_some hG
    split at h
    · rename_i hc
      rw [Bool.and_eq_true] at hc
      obtain ⟨v1, v2, v3⟩ := (inCone_iff hC).1 hc.1
      have hK : inAny xs a b v = true := by rw [← inConeB_any hC v1 v2]; exact hc.1
      obtain ⟨z, -, -, -, hl, -⟩ := mulTo_sum (b := b) (by simp) v1 hK h
      omega
    · cases h
set_option maxRecDepth 100000 in
set_option maxHeartbeats 16000000 in
theorem d_lawMul (r c : Int) (xs : List Int) (ca : Nat) (bs : List Int) (cb : Nat) (hn : xs.length ≤ 9223372036854775807) (hn' : bs.length ≤ 9223372036854775807) :
    Does Tryz.prog 9 [vM r c 1 xs.length ca, vS 2 1 0 bs.length cb] [(1, .ro (.ints xs)), (2, .ro (.ints bs))] 3 (Ret (vB true) 3) := by
  refine Does.intro TT Tryz.func9 rfl (by kernel_rfl) Zz Zz fun E hE => ?_
  by_cases hy : bs.length ≤ 1048576
  · have e1 := d_szMatrix r c xs ca 1048576 (by omega) hn
    by_cases q1 : 0 ≤ szL 1048576 xs.length
    · have hl : xs.length ≤ 1099511627776 := by unfold szL at q1; split at q1 <;> omega
      have hl' : bs.length ≤ 1099511627776 := by omega
      obtain ⟨ys, ok, hyl, -, hZ⟩ := mul_form (r := r) (c := c) (xs := xs) (v := bs)
      have h1 := fun ca cb => d_mulS r c xs bs ca cb hl hl'
      have h2 := fun ca cb h => d_mulI r c xs bs ca cb hl hl' h
      rw [hZ] at h1 h2
      have hyy : ys.length ≤ 1099511627776 := by omega
      cases ok
      all_goals
        ((repeat' (first | refine stp ?_ | (first | refine w_z (e1) Zz Zz Zz Zz Zz Zz Zz Zz ft Zz Zz ?_ | refine w_A (e1) Zz Zz Zz Zz Zz Zz Zz Zz ft Zz Zz ?_) | (refine w_C (d_toMatrix r c xs _ hl) Zz Zz Zz Zz Zz Zz Zz ft Zz Zz (MadeMx.out) ?_; rintro v b ⟨c1a, hc1a, rfl, he, -⟩; cases he) | (refine w_C (d_toIntS bs _ hl') Zz Zz Zz Zz Zz Zz Zz ft Zz Zz (MadeI.out) ?_; rintro v b ⟨c2a, hc2a, rfl, he, -⟩; cases he) | (refine w_C (h1 _ _) Zz Zz Zz Zz Zz Zz Zz ft Zz Zz (SlB.out) ?_; rintro v b ⟨cw, hcw, rfl, he, -⟩; cases he) | (refine w_C (h2 _ _ hc1a) Zz Zz Zz Zz Zz Zz Zz ft Zz Zz (SlB.out) ?_; rintro v b ⟨cg, hcg, rfl, he, -⟩; cases he) | (first | refine w_z (d_eqIntS ys ys _ _ hyy hyy) Zz Zz Zz Zz Zz Zz Zz Zz ft Zz Zz ?_ | refine w_A (d_eqIntS ys ys _ _ hyy hyy) Zz Zz Zz Zz Zz Zz Zz Zz ft Zz Zz ?_) | (refine stq ?_ ?_ <;> (intro hc; ((try simp at hc) <;> try contradiction))) | fail)) <;> try (exfalso; omega))
        refine awp_held TM [(3, _), (8, _)] sb rfl (fun ρs => ?_)
        refine zt0 ?_
        refine zt1 ?_
        refine w_u [2] kr rfl ⟨?_, trivial⟩
        first | (refine zho ?_) | (refine w_D _ (d_toMatrix r c xs _ hl) Zz Zz Zz Zz Zz Zz Zz Zz ft Zz Zz (MadeMx.out) sb Zz Zz ?_; rintro v b ⟨c1b, hc1b, rfl, he, -⟩; cases he) | refine w_B _ (d_eqMatrix r c r c xs xs _ _ hl hl) Zz Zz Zz Zz Zz Zz Zz Zz Zz ft Zz Zz sb rfl ?_
        refine w_u [3] kr rfl ⟨?_, trivial⟩
        first | (refine zho ?_) | (refine w_D _ (d_toMatrix r c xs _ hl) Zz Zz Zz Zz Zz Zz Zz Zz ft Zz Zz (MadeMx.out) sb Zz Zz ?_; rintro v b ⟨c1b, hc1b, rfl, he, -⟩; cases he) | refine w_B _ (d_eqMatrix r c r c xs xs _ _ hl hl) Zz Zz Zz Zz Zz Zz Zz Zz Zz ft Zz Zz sb rfl ?_
        refine zt4 ?_
        refine w_v kr ?_
        rotate_left
        ((repeat' (first | refine stx ?_ | (refine w_C (d_toMatrix r c xs _ hl) Zz Zz Zz Zz Zz Zz Zz ft Zz Zz (MadeMx.out) ?_; rintro v b ⟨c1a, hc1a, rfl, he, -⟩; cases he) | (refine w_C (d_toIntS bs _ hl') Zz Zz Zz Zz Zz Zz Zz ft Zz Zz (MadeI.out) ?_; rintro v b ⟨c2b, hc2b, rfl, he, -⟩; cases he) | (first | refine w_z (d_eqIntS bs bs _ _ hl' hl') Zz Zz Zz Zz Zz Zz Zz Zz ft Zz Zz ?_ | refine w_A (d_eqIntS bs bs _ _ hl' hl') Zz Zz Zz Zz Zz Zz Zz Zz ft Zz Zz ?_) | ((refine w_E (d_markMatrix r c xs _ _ 1 hl (by omega) (by omega)) Zz Zz Zz Zz Zz Zz Zz ft rfl ?_); rintro v Hout n1 ⟨rfl, rfl, rfl⟩) | ((refine w_E (d_markIntS bs _ _ (1 + xs.length) hl' (by omega) (by omega)) Zz Zz Zz Zz Zz Zz Zz ft rfl ?_); rintro v Hout n1 ⟨rfl, rfl, rfl⟩) | (first | refine w_z (d_eqIntS ys ys _ _ hyy hyy) Zz Zz Zz Zz Zz Zz Zz Zz ft Zz Zz ?_ | refine w_A (d_eqIntS ys ys _ _ hyy hyy) Zz Zz Zz Zz Zz Zz Zz Zz ft Zz Zz ?_) | ((refine w_E (d_markIntS ys _ _ 1 hyy (by omega) (by omega)) Zz Zz Zz Zz Zz Zz Zz ft rfl ?_); rintro v Hout n1 ⟨rfl, rfl, rfl⟩) | (first | refine w_z (d_heldIntS ys.length _ 1 hyy (by omega) (by omega)) Zz Zz Zz Zz Zz Zz Zz Zz ft Zz Zz ?_ | refine w_A (d_heldIntS ys.length _ 1 hyy (by omega) (by omega)) Zz Zz Zz Zz Zz Zz Zz Zz ft Zz Zz ?_) | (refine w_C (h2 _ _ hc1a) Zz Zz Zz Zz Zz Zz Zz ft Zz Zz (SlB.out) ?_; rintro v b ⟨ch, hch, rfl, he, -⟩; cases he) | (refine stq ?_ ?_ <;> (intro hc; ((try simp at hc) <;> try contradiction))) | fail)) <;> try (exfalso; omega))
      all_goals refine fin_ret rfl w_3 (rfl) rfl
    · ((repeat' (first | refine stp ?_ | (first | refine w_z (e1) Zz Zz Zz Zz Zz Zz Zz Zz ft Zz Zz ?_ | refine w_A (e1) Zz Zz Zz Zz Zz Zz Zz Zz ft Zz Zz ?_) | (refine stq ?_ ?_ <;> (intro hc; ((try simp at hc) <;> try contradiction))) | fail)) <;> try (exfalso; omega))
      all_goals refine fin_ret rfl w_3 (rfl) rfl
  · ((repeat' (first | refine stp ?_ | (refine stq ?_ ?_ <;> (intro hc; ((try simp at hc) <;> try contradiction))) | fail)) <;> try (exfalso; omega))
    all_goals refine fin_ret rfl w_3 (rfl) rfl
end Go.Proofs.YtfkbjkmlpinoeaaGreat
