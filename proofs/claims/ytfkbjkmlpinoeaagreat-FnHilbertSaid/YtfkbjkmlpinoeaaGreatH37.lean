/-
  TEXTS OF THE PROOF, put together: bMulI, bMulS, pHil7, bDraw.
-/
import Derived.Test.YtfkbjkmlpinoeaaGreatH35
import Derived.Test.YtfkbjkmlpinoeaaGreatH36
import Derived.Test.YtfkbjkmlpinoeaaGreatH08
set_option linter.unusedVariables false
set_option linter.unusedSimpArgs false
namespace Go.Proofs.YtfkbjkmlpinoeaaGreat
open Go.RowKit
def fiJ : Option Nat → Int
  | some k => k
  | none => -1
def mulO (r c : Int) (xs v : List Int) : Option (List Int) := (hilO r c xs).bind fun G => if inConeB r c xs v && decide (htTo xs c.toNat v r.toNat ≤ 4000) then mulTo (inAny xs r.toNat c.toNat) (fun u => htTo xs c.toNat u r.toNat) G ((htTo xs c.toNat v r.toNat).toNat + 1) (List.replicate G.length 0) v else none
theorem small_of {xs w W : List Int} {a b : Nat} (hW : hboxB a b xs = some W) (hw0 : ∀ k, 0 ≤ W.getD k 0 ∧ W.getD k 0 ≤ 2000) (hl : w.length = b) (hK : inAny xs a b w = true) (ht : htTo xs b w a ≤ 4000) : ∀ k, k < b → -8000000 ≤ w.getD k 0 ∧ w.getD k 0 ≤ 8000000 := fun k hk => by
  have h1 := cone_bd Zz Zz hW hl hK k hk
  have h0 := htTo_nonneg hK a (Nat.le_refl _)
  have h2 := hw0 k
  have h3 : W.getD k 0 * htTo xs b w a ≤ 2000 * 4000 := Int.mul_le_mul h2.2 ht h0 (by omega)
  omega
theorem small_num {w : List Int} {b : Nat} (hl : w.length = b) (h : ∀ k, k < b → -8000000 ≤ w.getD k 0 ∧ w.getD k 0 ≤ 8000000) : w.all numB = true := all_num fun k hk => by have := h k (by omega); omega
theorem dif_num {w u : List Int} {b : Nat} (hl : w.length = b) (h : ∀ k, k < b → -8000000 ≤ w.getD k 0 ∧ w.getD k 0 ≤ 8000000) (hu : ∀ k, k < b → -2000 ≤ u.getD k 0 ∧ u.getD k 0 ≤ 2000) : (difL w u).all numB = true := all_num fun k hk => by
  rw [difL_len] at hk
  have h1 := h k (by omega)
  have h2 := hu k (by omega)
  rw [difL_at hk]; omega
set_option maxHeartbeats 1000000 in
theorem d_mc (a b n ca n1 c1 n2 c2 : Nat) (xs w u : List Int) (hn : n = xs.length) (h1 : n1 = u.length) (h2 : n2 = w.length) (hx : xs.length = a * b) (ha : a ≤ 8) (hb1 : 1 ≤ b) (hb : b ≤ 3) (hxn : xs.all numB = true) (hca : xs.length ≤ ca)
    (hwl : w.length = b) (hwa : w.all numB = true) (hul : u.length = b) (hua : u.all numB = true) (hd : (difL w u).all numB = true) :
    Does Tryz.prog 83 [vS 1 1 0 n1 c1, .one (.ptr 2 3 0 0), .one (.ptr 3 1 0 0)]
      [(1, .ro (.ints u)), (2, .ro (.lit [.int a, .int b, .sl 4 1 0 n ca])), (3, .ro (.lit [.sl 5 1 0 n2 c2])), (4, .ro (.ints xs)), (5, .ro (.ints w))] 6 (Ret (vB (inAny xs a b (difL w u))) 6) := by
  subst hn h1 h2
  have hdf := fun c1 c2 => d_diff w u w.length u.length c1 c2 Zz Zz (by omega) hwa hua (by omega)
  have hi := fun m cv (hm : m = (difL w u).length) => d_inAny a b xs.length ca m cv xs (difL w u) rfl hm hx (by rw [difL_len]; exact hwl) ha hb1 hb hxn hd hca
  refine Does.intro TT Tryz.func83 rfl (by kernel_rfl) Zz Zz fun E hE => ?_
  ((repeat' (first | refine stp ?_ | (refine stq ?_ ?_ <;> (intro hc; ((try simp at hc) <;> try contradiction))) | fail)) <;> try (exfalso; omega))
  refine awp_held TM [(2, _), (3, _)] sb rfl (fun ρs => ?_)
  refine zt0 ?_
  refine zt1 ?_
  refine zt2 ?_
  refine w_u [3] kr rfl ⟨?_, trivial⟩
  first | (refine zho ?_) | (refine w_D _ (hdf _ _) Zz Zz Zz Zz Zz Zz Zz Zz ft Zz Zz (MadeI.out) sb Zz Zz ?_; rintro v b ⟨cp, hcp, rfl, he, -⟩; cases he) | refine w_B _ (hi _ _ rfl) Zz Zz Zz Zz Zz Zz Zz Zz Zz ft Zz Zz sb rfl ?_
  refine w_u [4] kr rfl ⟨?_, trivial⟩
  first | (refine zho ?_) | (refine w_D _ (hdf _ _) Zz Zz Zz Zz Zz Zz Zz Zz ft Zz Zz (MadeI.out) sb Zz Zz ?_; rintro v b ⟨cp, hcp, rfl, he, -⟩; cases he) | refine w_B _ (hi _ _ rfl) Zz Zz Zz Zz Zz Zz Zz Zz Zz ft Zz Zz sb rfl ?_
  refine zt5 ?_
  refine w_v kr ?_
  rotate_left
  all_goals ((repeat' (first | refine stx ?_ | (refine stq ?_ ?_ <;> (intro hc; ((try simp at hc) <;> try contradiction))) | fail)) <;> try (exfalso; omega))
  all_goals refine fin_ret rfl w_3 (rfl) rfl
set_option maxHeartbeats 1000000 in
theorem d_indexR (a b n ca n2 c2 c : Nat) (xs w : List Int) (l : List Row) (hn : n = xs.length) (h2 : n2 = w.length) (hx : xs.length = a * b) (ha : a ≤ 8) (hb1 : 1 ≤ b) (hb : b ≤ 3) (hxn : xs.all numB = true) (hca : xs.length ≤ ca)
    (hwl : w.length = b) (hwa : w.all numB = true) (hl : l.length ≤ 1000000) (hg : ∀ r ∈ l, r.xs.length = b ∧ r.xs.all numB = true ∧ (difL w r.xs).all numB = true) :
    Does Tryz.prog 82 [vS 1 1 0 l.length c, .one (.fn 83 [(2, 3), (3, 1)])]
      [(1, .ro (.rows false true l)), (2, .ro (.lit [.int a, .int b, .sl 4 1 0 n ca])), (3, .ro (.lit [.sl 5 1 0 n2 c2])), (4, .ro (.ints xs)), (5, .ro (.ints w))] 6
      (Ret (vI (fiJ (l.findIdx? fun r => inAny xs a b (difL w r.xs)))) 6) := by
  subst hn h2
  refine Does.intro TT Tryz.func82 rfl (by kernel_rfl) Zz Zz fun E hE => ?_
  ((repeat' (first | refine stx ?_ | (refine stq ?_ ?_ <;> (intro hc; ((try simp at hc) <;> try contradiction))) | fail)) <;> try (exfalso; omega))
  refine w_G hE (fun k : Nat => k ≤ l.length ∧ ∀ i (hi : i < k) (hl : i < l.length), inAny xs a b (difL w l[i].xs) = false) (fun k => l.length - k)
    (fun k => [(0, vS 1 1 0 l.length c), (1, .one (.fn 83 [(2, 3), (3, 1)])), (7, vI l.length), (8, vI k)])
    (fun _ => [(1, .ro (.rows false true l)), (2, .ro (.lit [.int a, .int b, .sl 4 1 0 xs.length ca])), (3, .ro (.lit [.sl 5 1 0 w.length c2])), (4, .ro (.ints xs)), (5, .ro (.ints w))]) 6 [] 0 ⟨Nat.zero_le _, fun i hi => by omega⟩ ⟨w_1, w_2, rfl⟩ ?_
  rintro k ⟨hk1, hk2⟩
  by_cases hk : k < l.length
  · have e1 : l.getD (0 + (k : Int).toNat) rowD = l[k] := by rw [show 0 + (k : Int).toNat = k by omega, getD_in hk]
    obtain ⟨g1, g2, g3⟩ := hg (l.getD (0 + (k : Int).toNat) rowD) (by rw [e1]; exact List.getElem_mem hk)
    have hcl := fun c1 => d_mc a b xs.length ca (l.getD (0 + (k : Int).toNat) rowD).xs.length c1 w.length c2 xs w (l.getD (0 + (k : Int).toNat) rowD).xs Zz Zz Zz hx ha hb1 hb hxn hca hwl hwa g1 g2 g3
    cases cs : inAny xs a b (difL w (l.getD (0 + (k : Int).toNat) rowD).xs) with
    | true =>
      rw [cs] at hcl
      ((repeat' (first | refine stx ?_ | (refine awpL_callM [(1, 6)] (hcl _) Zz Zz Zz Zz Zz Zz Zz ft rfl ?_; rintro v Hout n1 ⟨rfl, rfl, rfl⟩) | (refine stq ?_ ?_ <;> (intro hc; ((try simp at hc) <;> try contradiction))) | fail)) <;> try (exfalso; omega))
      refine fin_ret rfl w_3 (congrArg vI (by rw [List.findIdx?_eq_some_iff_getElem.2 ⟨hk, by rw [← e1]; exact cs, fun i hi => by rw [hk2 i hi (by omega)]; simp⟩]; rfl)) rfl
    | false =>
      rw [cs] at hcl
      ((repeat' (first | refine stx ?_ | (refine awpL_callM [(1, 6)] (hcl _) Zz Zz Zz Zz Zz Zz Zz ft rfl ?_; rintro v Hout n1 ⟨rfl, rfl, rfl⟩) | (refine stq ?_ ?_ <;> (intro hc; ((try simp at hc) <;> try contradiction))) | fail)) <;> try (exfalso; omega))
      refine ⟨[], k + 1, ⟨by omega, fun i hi hl => ?_⟩, w_4, ⟨w_1, w_2, rfl⟩⟩
      by_cases c : i < k
      · exact hk2 i c hl
      · obtain rfl : i = k := by omega
        rw [← e1]; exact cs
  · obtain rfl : k = l.length := by omega
    ((repeat' (first | refine stx ?_ | (refine stq ?_ ?_ <;> (intro hc; ((try simp at hc) <;> try contradiction))) | fail)) <;> try (exfalso; omega))
    refine fin_ret rfl w_3 (congrArg vI (by rw [List.findIdx?_eq_none_iff.2 fun r hr => by obtain ⟨i, hi, rfl⟩ := List.mem_iff_getElem.1 hr; exact hk2 i hi hi]; rfl)) rfl
set_option maxRecDepth 100000 in
set_option maxHeartbeats 16000000 in
theorem d_mulI (r c : Int) (xs v : List Int) (ca cv : Nat) (hl : xs.length ≤ 1099511627776) (hl' : v.length ≤ 1099511627776) (hca : xs.length ≤ ca) : Does Tryz.prog 24 [vM r c 1 xs.length ca, vS 2 1 0 v.length cv] [(1, .ro (.ints xs)), (2, .ro (.ints v))] 3 (SlO 3 (mulO r c xs v) 3) := by
 have hh := d_hilI r c xs ca hl hca
 have hci := fun c1 c2 hca => d_inConeI r c xs v c1 c2 hl hl' hca
 refine Does.intro TT Tryz.func24 rfl (by kernel_rfl) Zz Zz fun E hE => ?_
 cases ho : hilO r c xs with
 | none =>
  have hm : mulO r c xs v = none := by rw [mulO, ho]; rfl
  rw [hm]
  rw [ho] at hh
  ((repeat' (first | refine stx ?_ | ((refine w_E (hh) Zz Zz Zz Zz Zz Zz Zz ft rfl ?_); rintro v Hout n1 ⟨rfl, rfl, rfl⟩) | (refine stq ?_ ?_ <;> (intro hc; ((try simp at hc) <;> try contradiction))) | fail)) <;> try (exfalso; omega))
  exact fin rfl w_3 [(3, 5)] (.tup [.one (.sl 3 1 0 0 0), .one (.bool false)]) [(3, .own 3 0 (.ints []))] 4 ⟨0, Nat.le_refl _, rfl, rfl, rfl⟩ rfl ⟨trivial, ⟨rfl, trivial⟩, rfl⟩ rfl
 | some G =>
  rw [ho] at hh
  obtain ⟨a, b, W, L, rfl, rfl, ha, hb1, hb, hx, hxn, hC, hp, hW, hO, hG4, hw0, hG, -⟩ := hil_some ho
  cases hc : inConeB a b xs v with
  | false =>
   have hm : mulO a b xs v = none := by rw [mulO, ho, Option.bind_some, hc]; rfl
   rw [hm]
   rw [hc] at hci
   ((repeat' (first | refine stx ?_ | ((refine w_E (hh) Zz Zz Zz Zz Zz Zz Zz ft rfl ?_); rintro v Hout n1 ⟨lG, cG, hlG, rfl, rfl, rfl⟩) | (first | refine w_z (hci _ _ hca) Zz Zz Zz Zz Zz Zz Zz Zz ft Zz Zz ?_ | refine w_A (hci _ _ hca) Zz Zz Zz Zz Zz Zz Zz Zz ft Zz Zz ?_) | (refine stq ?_ ?_ <;> (intro hc; ((try simp at hc) <;> try contradiction))) | fail)) <;> try (exfalso; omega))
   exact fin rfl w_3 [(3, 6)] (.tup [.one (.sl 3 1 0 0 0), .one (.bool false)]) [(3, .own 3 0 (.ints []))] 4 ⟨0, Nat.le_refl _, rfl, rfl, rfl⟩ rfl ⟨trivial, ⟨rfl, trivial⟩, rfl⟩ rfl
  | true =>
   rw [hc] at hci
   obtain ⟨v1, v2, v3⟩ := (inCone_iff hC).1 hc
   have hK : inAny xs a b v = true := by rw [← inConeB_any hC v1 v2]; exact hc
   have hht := fun m cv (hm : m = v.length) => d_height a b xs.length ca m cv xs v rfl hm hx v1 ha hb1 hb hxn v2 hca
   by_cases h4 : htTo xs b v a ≤ 4000
   ·have hm : mulO a b xs v = mulTo (inAny xs a b) (fun u => htTo xs b u a) G ((htTo xs b v a).toNat + 1) (List.replicate G.length 0) v := by
     rw [mulO, ho, Option.bind_some, hc, Int.toNat_natCast, Int.toNat_natCast, decide_eq_true h4]; rfl
    have hM := MulI.zero (B := G) v1 hK h4
    rw [← hm] at hM
    generalize mulO a b xs v = R at *
    ((repeat' (first | refine stx ?_ | ((refine w_E (hh) Zz Zz Zz Zz Zz Zz Zz ft rfl ?_); rintro v Hout n1 ⟨lG, cG, hlG, rfl, rfl, rfl⟩; have hlen : lG.length = G.length := rowsX_len hlG) | (first | refine w_z (hci _ _ hca) Zz Zz Zz Zz Zz Zz Zz Zz ft Zz Zz ?_ | refine w_A (hci _ _ hca) Zz Zz Zz Zz Zz Zz Zz Zz ft Zz Zz ?_) | (first | refine w_z (hht _ _ rfl) Zz Zz Zz Zz Zz Zz Zz Zz ft Zz Zz ?_ | refine w_A (hht _ _ rfl) Zz Zz Zz Zz Zz Zz Zz Zz ft Zz Zz ?_) | (refine w_x TT Zz Zz Zz Zz Zz sd ?_; intro cap hcap) | (refine stq ?_ ?_ <;> (intro hc; ((try simp at hc) <;> try contradiction))) | fail)) <;> try (exfalso; omega))
    have hmem : ∀ r ∈ lG, r.xs ∈ G := fun r hr => by rw [← hlG]; exact List.mem_map.2 ⟨r, hr, rfl⟩
    refine w_G hE (fun x : Nat × List Int × List Int × Nat => MulI xs a b G R x.1 x.2.1 x.2.2.1) (fun x => x.1)
     (fun x => [(2, .one (.ptr 3 3 0 0)), (6, vS 4 1 0 lG.length cG), (8, vS 6 1 0 lG.length lG.length), (9, .one (.ptr 9 1 0 0))])
     (fun x => [(1, .ro (.ints xs)), (3, .own 26 1 (.lit [.int a, .int b, .sl 1 1 0 xs.length ca])), (4, .own 24 cG (.rows false true lG)), (5, .tok 3 false lG), (6, .own 3 lG.length (.ints x.2.1)), (8, .own 3 x.2.2.2 (.ints x.2.2.1)), (9, .own 24 1 (.lit [.sl 8 1 0 x.2.2.1.length x.2.2.2]))]) 10 [] ((htTo xs b v a).toNat + 1, List.replicate lG.length 0, v, cap) (by rw [hlen]; exact hM) ⟨w_1, ⟨rfl, rfl, rfl, rfl, rfl, own_ints (by simp), congrArg (fun n => some (Blk.own 24 1 (.lit [.sl 8 1 0 n cap]))) (Nat.zero_add v.length), trivial⟩, rfl⟩ ?_
    rintro ⟨n, out, w, cw⟩ hI
    dsimp only at hI
    have hwl := hI.len
    have hsm := small_of hW hw0 hI.len hI.con hI.top
    have hwa := small_num hwl hsm
    have hol := hI.olen
    have hht2 := fun m cv (hm : m = w.length) => d_height a b xs.length ca m cv xs w rfl hm hx hwl ha hb1 hb hxn hwa hca
    by_cases h0 : 0 < htTo xs b w a
    ·have hix := fun c n2 c2 (h2 : n2 = w.length) => d_indexR a b xs.length ca n2 c2 c xs w lG rfl h2 hx ha hb1 hb hxn hca hwl hwa (by omega) (fun r hr => by
      obtain ⟨-, q2, q3, q4, -, -⟩ := hG r.xs (hmem r hr)
      exact ⟨q2, q3, dif_num hwl hsm q4⟩)
     have hfi : (lG.findIdx? fun r => inAny xs a b (difL w r.xs)) = G.findIdx? fun u => inAny xs a b (difL w u) := by
      rw [← hlG, rowsX, List.findIdx?_map]; rfl
     rw [hfi] at hix
     cases hk : G.findIdx? fun u => inAny xs a b (difL w u) with
     | none =>
      have := hI.none h0 hk
      subst this
      rw [hk, fiJ] at hix
      ((repeat' (first | refine stx ?_ | (first | refine w_z (hht2 _ _ rfl) Zz Zz Zz Zz Zz Zz Zz Zz ft Zz Zz ?_ | refine w_A (hht2 _ _ rfl) Zz Zz Zz Zz Zz Zz Zz Zz ft Zz Zz ?_) | (refine awpL_callM [(1, 4), (2, 3), (3, 9), (4, 1), (5, 8)] (hix _ _ _ rfl) Zz Zz Zz Zz Zz Zz Zz ft rfl ?_; rintro v Hout n1 ⟨rfl, rfl, rfl⟩) | (refine stq ?_ ?_ <;> (intro hc; ((try simp at hc) <;> try contradiction))) | fail)) <;> try (exfalso; omega))
      exact fin rfl w_3 [(3, 10)] (.tup [.one (.sl 3 1 0 0 0), .one (.bool false)]) [(3, .own 3 0 (.ints []))] 4 ⟨0, Nat.le_refl _, rfl, rfl, rfl⟩ rfl ⟨trivial, ⟨rfl, trivial⟩, rfl⟩ rfl
     | some k =>
      obtain ⟨hkl, hn1, hnx⟩ := hI.next (fun v hv => (hG v hv).2.2.2.2.2) h0 hk
      rw [hk, fiJ] at hix
      have ek : (0 + (k : Int).toNat) = k := by omega
      have hkr : k < lG.length := by omega
      have eG : G.getD k [] = (lG.getD (0 + (k : Int).toNat) rowD).xs := by rw [ek, ← hlG, getD_in hkr, getD_in (by simpa [rowsX] using hkr)]; simp [rowsX]
      obtain ⟨-, q2, q3, q4, -, -⟩ := hG (G.getD k []) (by rw [getD_in hkl]; exact List.getElem_mem hkl)
      have hcn := hI.cnt k
      have hdf := fun c1 c2 => d_diff w (lG.getD (0 + (k : Int).toNat) rowD).xs w.length (lG.getD (0 + (k : Int).toNat) rowD).xs.length c1 c2 Zz Zz (by rw [← eG]; omega) hwa (by rw [← eG]; exact q3) (by omega)
      rw [eG] at hnx
      have hcn2 : 0 ≤ out.getD (0 + (k : Int).toNat) 0 ∧ out.getD (0 + (k : Int).toNat) 0 ≤ 4000 := by rw [ek]; omega
      ((repeat' (first | refine stp ?_ | (first | refine w_z (hht2 _ _ rfl) Zz Zz Zz Zz Zz Zz Zz Zz ft Zz Zz ?_ | refine w_A (hht2 _ _ rfl) Zz Zz Zz Zz Zz Zz Zz Zz ft Zz Zz ?_) | (refine awpL_callM [(1, 4), (2, 3), (3, 9), (4, 1), (5, 8)] (hix _ _ _ rfl) Zz Zz Zz Zz Zz Zz Zz ft rfl ?_; rintro v Hout n1 ⟨rfl, rfl, rfl⟩) | (refine stq ?_ ?_ <;> (intro hc; ((try simp at hc) <;> try contradiction))) | fail)) <;> try (exfalso; omega))
      refine awp_held TM [(4, _)] sb rfl (fun ρs => ?_)
      refine zt1 ?_
      refine zt2 ?_
      refine zt3 ?_
      refine w_u [0, 4] kr rfl ⟨?_, ?_, trivial⟩
      first | (refine zho ?_) | (refine w_D _ (hdf _ _) Zz Zz Zz Zz Zz Zz Zz Zz ft Zz Zz (MadeI.out) sb Zz Zz ?_; rintro v b ⟨cp, hcp, rfl, he, -⟩; cases he)
      refine w_u [4] kr rfl ⟨?_, trivial⟩
      first | (refine zho ?_) | (refine w_D _ (hdf _ _) Zz Zz Zz Zz Zz Zz Zz Zz ft Zz Zz (MadeI.out) sb Zz Zz ?_; rintro v b ⟨cp, hcp, rfl, he, -⟩; cases he)
      refine w_u [5] kr rfl ⟨?_, trivial⟩
      first | (refine zho ?_) | (refine w_D _ (hdf _ _) Zz Zz Zz Zz Zz Zz Zz Zz ft Zz Zz (MadeI.out) sb Zz Zz ?_; rintro v b ⟨cp, hcp, rfl, he, -⟩; cases he)
      refine w_u [6] kr rfl ⟨?_, trivial⟩
      first | (refine zho ?_) | (refine w_D _ (hdf _ _) Zz Zz Zz Zz Zz Zz Zz Zz ft Zz Zz (MadeI.out) sb Zz Zz ?_; rintro v b ⟨cp, hcp, rfl, he, -⟩; cases he)
      refine w_v kr ?_
      rotate_left
      first | (refine zho ?_) | (refine w_D _ (hdf _ _) Zz Zz Zz Zz Zz Zz Zz Zz ft Zz Zz (MadeI.out) sb Zz Zz ?_; rintro v b ⟨cp, hcp, rfl, he, -⟩; cases he)
      refine w_u [0] kr rfl ⟨?_, trivial⟩
      first | (refine zho ?_) | (refine w_D _ (hdf _ _) Zz Zz Zz Zz Zz Zz Zz Zz ft Zz Zz (MadeI.out) sb Zz Zz ?_; rintro v b ⟨cp, hcp, rfl, he, -⟩; cases he)
      refine w_u [5] kr rfl ⟨?_, trivial⟩
      first | (refine zho ?_) | (refine w_D _ (hdf _ _) Zz Zz Zz Zz Zz Zz Zz Zz ft Zz Zz (MadeI.out) sb Zz Zz ?_; rintro v b ⟨cp, hcp, rfl, he, -⟩; cases he)
      refine w_u [6] kr rfl ⟨?_, trivial⟩
      first | (refine zho ?_) | (refine w_D _ (hdf _ _) Zz Zz Zz Zz Zz Zz Zz Zz ft Zz Zz (MadeI.out) sb Zz Zz ?_; rintro v b ⟨cp, hcp, rfl, he, -⟩; cases he)
      refine w_v kr ?_
      rotate_left
      all_goals ((repeat' (first | refine stx ?_ | (refine stq ?_ ?_ <;> (intro hc; ((try simp at hc) <;> try contradiction))) | fail)) <;> try (exfalso; omega))
      all_goals exact ⟨[(8, 11)], (n - 1, out.set k (out.getD k 0 + 1), difL w (lG.getD (0 + (k : Int).toNat) rowD).xs, cp), hnx, by show n - 1 < n; omega, ⟨w_1, ⟨rfl, rfl, rfl, rfl, own_ints (by rw [ek]), rfl, rfl, trivial⟩, rfl⟩⟩
    ·have := hI.done h0
     subst this
     ((repeat' (first | refine stx ?_ | (first | refine w_z (hht2 _ _ rfl) Zz Zz Zz Zz Zz Zz Zz Zz ft Zz Zz ?_ | refine w_A (hht2 _ _ rfl) Zz Zz Zz Zz Zz Zz Zz Zz ft Zz Zz ?_) | (refine stq ?_ ?_ <;> (intro hc; ((try simp at hc) <;> try contradiction))) | fail)) <;> try (exfalso; omega))
     exact fin rfl w_3 [(3, 6)] (.tup [.one (.sl 3 1 0 lG.length lG.length), .one (.bool true)]) [(3, .own 3 lG.length (.ints out))] 4 ⟨lG.length, by omega, by rw [show out.length = lG.length by omega], rfl, rfl⟩ rfl ⟨trivial, ⟨rfl, trivial⟩, rfl⟩ rfl
   ·have hm : mulO a b xs v = none := by rw [mulO, ho, Option.bind_some, hc, Int.toNat_natCast, Int.toNat_natCast, decide_eq_false h4]; rfl
    rw [hm]
    ((repeat' (first | refine stx ?_ | ((refine w_E (hh) Zz Zz Zz Zz Zz Zz Zz ft rfl ?_); rintro v Hout n1 ⟨lG, cG, hlG, rfl, rfl, rfl⟩) | (first | refine w_z (hci _ _ hca) Zz Zz Zz Zz Zz Zz Zz Zz ft Zz Zz ?_ | refine w_A (hci _ _ hca) Zz Zz Zz Zz Zz Zz Zz Zz ft Zz Zz ?_) | (first | refine w_z (hht _ _ rfl) Zz Zz Zz Zz Zz Zz Zz Zz ft Zz Zz ?_ | refine w_A (hht _ _ rfl) Zz Zz Zz Zz Zz Zz Zz Zz ft Zz Zz ?_) | (refine stq ?_ ?_ <;> (intro hc; ((try simp at hc) <;> try contradiction))) | fail)) <;> try (exfalso; omega))
    exact fin rfl w_3 [(3, 6)] (.tup [.one (.sl 3 1 0 0 0), .one (.bool false)]) [(3, .own 3 0 (.ints []))] 4 ⟨0, Nat.le_refl _, rfl, rfl, rfl⟩ rfl ⟨trivial, ⟨rfl, trivial⟩, rfl⟩ rfl
end Go.Proofs.YtfkbjkmlpinoeaaGreat
namespace Go.Proofs.YtfkbjkmlpinoeaaGreat
open Go.RowKit
def difT (w u : List Int) (j : Nat) : List Int := (difL w u).take j ++ w.drop j
theorem difT_len {w u : List Int} {j : Nat} (h : j ≤ w.length) : (difT w u j).length = w.length := by rw [difT, List.length_append, List.length_take, List.length_drop, difL_len]; omega
theorem difT_at {w u : List Int} {j : Nat} (h : j < w.length) : (difT w u j).getD j 0 = w.getD j 0 := by
  rw [difT, getD_appR (by rw [List.length_take, difL_len]; omega), List.length_take, difL_len, Nat.min_eq_left (by omega), Nat.sub_self, List.drop_eq_getElem_cons h, getD_in h]; rfl
theorem difT_set {w u : List Int} {j : Nat} (h : j < w.length) : (difT w u j).set j (w.getD j 0 - u.getD j 0) = difT w u (j + 1) := by
  have hl : ((difL w u).take j).length = j := by rw [List.length_take, difL_len]; omega
  rw [difT, difT, List.set_append_right _ _ (by omega), hl, Nat.sub_self, List.drop_eq_getElem_cons h, List.set_cons_zero, List.take_succ_eq_append_getElem (by rw [difL_len]; exact h), ← getD_in (d := 0) (by rw [difL_len]; exact h), difL_at h, List.append_assoc]; rfl
theorem difT_full {w u : List Int} : difT w u w.length = difL w u := by rw [difT, List.take_of_length_le (by rw [difL_len]; exact Nat.le_refl _), List.drop_length, List.append_nil]
end Go.Proofs.YtfkbjkmlpinoeaaGreat
namespace Go.Proofs.YtfkbjkmlpinoeaaGreat
open Go.RowKit
set_option maxHeartbeats 1000000 in
theorem hil_irr {a b : Nat} {xs : List Int} {G : List (List Int)} (h : hilO a b xs = some G) : G.Pairwise (fun x y => inAny xs a b (difL x y) = false ∧ inAny xs a b (difL y x) = false) := by
  obtain ⟨a', b', w, L, e1, e2, ha, hb1, hb, hx, hxn, hC0, hp, hW, hO, hG4, hw0, hG, hg⟩ := hil_some h
  have : a = a' := by omega
  subst this
  have : b = b' := by omega
  subst this
  have hC := cone_V hx hxn hp
  have hsm := box_sm (fun k => (hw0 k).1) hO
  have hwl : w.length = b := by
    obtain ⟨a2, b2, -, eb, -, -, -, -, -, -, hwl, -, -⟩ := hbox_dims hW
    omega
  have hmem : ∀ y ∈ putsV (baseL xs a b L), y.1.length = b ∧ y.2 = htTo xs b y.1 a ∧ 0 < htTo xs b y.1 a := fun y hy => by
    obtain ⟨v, hv, rfl⟩ := List.mem_map.1 (mem_puts.1 hy)
    obtain ⟨h1, h2⟩ := List.mem_filter.1 hv
    have hl : v.length = b := by rw [(hsm v h1).1]; omega
    rw [conP_iff hx hxn hp hl, Bool.and_eq_true, decide_eq_true_eq] at h2
    exact ⟨hl, rfl, h2.2⟩
  have hS := puts_strict (base_nodup (xs := xs) (a := a) (b := b) (boxO_nodup hO))
  rw [hg, ← greed_fst, greed_eq hC ⟨fun y hy => (hmem y hy).1, fun y hy => (hmem y hy).2.1, fun y hy => (hmem y hy).2.2⟩ hS]
  refine List.pairwise_map.2 ((List.Pairwise.filter (fun x => !redV (inAny xs a b) (putsV (baseL xs a b L)) x.1) hS).imp_of_mem ?_)
  intro x y hx1 hy1 hlt
  obtain ⟨mx, rx⟩ := List.mem_filter.1 hx1
  obtain ⟨my, ry⟩ := List.mem_filter.1 hy1
  have hne : ∀ p q : List Int × Int, p ∈ putsV (baseL xs a b L) → q ∈ putsV (baseL xs a b L) → p ≠ q → ¬ zeroL (difL p.1 q.1) := fun p q hp hq hpq hz => hpq (Prod.ext (difL_zero (by rw [(hmem p hp).1, (hmem q hq).1]) hz) (by rw [(hmem p hp).2.1, (hmem q hq).2.1, difL_zero (by rw [(hmem p hp).1, (hmem q hq).1]) hz]))
  have hxy : x ≠ y := fun e => by rw [e, cmpV_self] at hlt; omega
  have red : ∀ p q : List Int × Int, p ∈ putsV (baseL xs a b L) → q ∈ putsV (baseL xs a b L) → p ≠ q → (!redV (inAny xs a b) (putsV (baseL xs a b L)) p.1) = true → inAny xs a b (difL p.1 q.1) = false := fun p q hp hq hpq hr => by
    cases hi : inAny xs a b (difL p.1 q.1)
    · rfl
    · rw [redV_iff.2 ⟨q, hq, hne p q hp hq hpq, hi⟩] at hr
      cases hr
  exact ⟨red x y mx my hxy rx, red y x my mx (Ne.symm hxy) ry⟩
theorem pair_at {α : Type} {R : α → α → Prop} {l : List α} (h : l.Pairwise fun x y => R x y ∧ R y x) {i j : Nat} (hi : i < l.length) (hj : j < l.length) (hij : i ≠ j) : R l[i] l[j] := by
  rcases Nat.lt_or_gt_of_ne hij with c | c
  · exact (List.pairwise_iff_getElem.1 h i j hi hj c).1
  · exact (List.pairwise_iff_getElem.1 h j i hj hi c).2
theorem MulI.cnt_res {xs : List Int} {a b : Nat} {B : List (List Int)} {r : List Int} (hB : ∀ v ∈ B, 0 < htTo xs b v a) : ∀ {n : Nat} {out w : List Int}, MulI xs a b B (some r) n out w → ∀ i, 0 ≤ r.getD i 0 ∧ r.getD i 0 ≤ 4000
  | 0, _, _, h, _ => by have := h.fuel; omega
  | n + 1, out, w, h, i => by
    by_cases h0 : 0 < htTo xs b w a
    · cases hk : B.findIdx? fun u => inAny xs a b (difL w u) with
      | none => cases h.none h0 hk
      | some k => exact MulI.cnt_res hB (h.next hB h0 hk).2.2 i
    · have e := h.done h0
      cases e
      have := h.cnt i
      have := htTo_nonneg h.con a (Nat.le_refl _)
      omega
theorem mulO_some {a b : Nat} {xs v out : List Int} {G : List (List Int)} (hG : hilO a b xs = some G) (h : mulO a b xs v = some out) : v.length = b ∧ out.length = G.length ∧ (∀ i, 0 ≤ out.getD i 0 ∧ out.getD i 0 ≤ 4000) ∧ ∀ k, k < b → sumM G out k G.length = v.getD k 0 := by
  obtain ⟨a', b', w, L, e1, e2, ha, hb1, hb, hx, hxn, hC0, hp, hW, hO, hG4, hw0, hGm, hg⟩ := hil_some hG
  have : a = a' := by omega
  subst this
  have : b = b' := by omega
  subst this
  have hC := cone_V hx hxn hp
  rw [mulO, hG, Option.bind_some, Int.toNat_natCast, Int.toNat_natCast] at h
  split at h
  · rename_i hc
    rw [Bool.and_eq_true, decide_eq_true_eq] at hc
    obtain ⟨v1, v2, v3⟩ := (inCone_iff hC0).1 hc.1
    have hK : inAny xs a b v = true := by rw [← inConeB_any hC0 v1 v2]; exact hc.1
    have hM := MulI.zero (B := G) v1 hK hc.2
    rw [h] at hM
    obtain ⟨z, z1, z2, z3, z4, z5⟩ := mulTo_sum (b := b) (by simp) v1 hK h
    refine ⟨v1, z4, hM.cnt_res (fun v hv => (hGm v hv).2.2.2.2.2), fun k hk => ?_⟩
    have h0 : ∀ n, sumM G (List.replicate G.length 0) k n = 0 := fun n => by
      induction n with
      | zero => rfl
      | succ n ih =>
        rw [sumM, ih]
        have : (List.replicate G.length (0 : Int)).getD n 0 = 0 := by
          rw [List.getD_eq_getElem?_getD, List.getElem?_replicate]; split <;> rfl
        rw [this]; simp
    have hz : zeroL z := Classical.byContradiction fun hn => z3 (hC.pos z z1 z2 hn)
    have := z5 k hk
    rw [h0, hz k (by omega)] at this
    omega
  · cases h
theorem sumM_bd {B : List (List Int)} {out : List Int} {k : Nat} (ho : ∀ i, 0 ≤ out.getD i 0 ∧ out.getD i 0 ≤ 4000) (hB : ∀ i, -2000 ≤ (B.getD i []).getD k 0 ∧ (B.getD i []).getD k 0 ≤ 2000) : ∀ n : Nat, -(8000000 * (n : Int)) ≤ sumM B out k n ∧ sumM B out k n ≤ 8000000 * (n : Int)
  | 0 => by simp [sumM]
  | n + 1 => by
    have ih := sumM_bd ho hB n
    have h1 := ho n
    have h2 := hB n
    have h3 : out.getD n 0 * (B.getD n []).getD k 0 ≤ 4000 * 2000 := Int.le_trans (Int.mul_le_mul_of_nonneg_left h2.2 h1.1) (Int.mul_le_mul_of_nonneg_right h1.2 (by omega))
    have h4 : -(4000 * 2000) ≤ out.getD n 0 * (B.getD n []).getD k 0 := by
      have a1 := Int.mul_le_mul_of_nonneg_left h2.1 h1.1
      have a2 : 4000 * (-2000) ≤ out.getD n 0 * (-2000) := Int.mul_le_mul_of_nonpos_right h1.2 (by omega)
      omega
    rw [sumM]; omega
end Go.Proofs.YtfkbjkmlpinoeaaGreat
namespace Go.Proofs.YtfkbjkmlpinoeaaGreat
open Go.RowKit
theorem and255 (x : Int) : 0 ≤ bitV .and x 255 ∧ bitV .and x 255 ≤ 255 := by
  unfold bitV
  have h : (BitVec.ofInt 64 x &&& BitVec.ofInt 64 255).toNat ≤ 255 := by
    rw [BitVec.toNat_and]
    exact Nat.le_trans Nat.and_le_right (by decide)
  have e : bits .and .i64 x 255 = IntKind.i64.wrap ((BitVec.ofInt 64 x &&& BitVec.ofInt 64 255).toNat : Nat) := rfl
  rw [e, IntKind.wrap_i64]
  omega
def curL (c n i : Nat) (h : Int) : List SV := [.sl 1 1 0 n c, .int i, .int h]
def vC : AV := .one (.ptr 2 3 0 0)
def Drew (t : TypeId) (n c : Nat) (φ : Int → Prop) (v : AV) (Hout : List (Nat × Blk)) (n1 : Nat) : Prop :=
  ∃ (r : Int) (i : Nat) (h : Int), φ r ∧ v = vI r ∧ Hout = [(2, .own t 1 (.lit (curL c n i h)))] ∧ n1 = 3
theorem d_big (bs : List Int) (c : Nat) : Does Tryz.prog 10 [vS 1 1 0 bs.length c] [(1, .ro (.bytes bs))] 2 (Ret (vB (decide (1048576 < (bs.length : Int)))) 2) := by
 refine Does.intro TT Tryz.func10 rfl (by kernel_rfl) Zz Zz fun E hE => ?_
 (repeat' (first | refine stx ?_ | (refine stq ?_ ?_ <;> (intro hc; ((try simp at hc) <;> try contradiction))) | fail))
 refine fin_ret rfl w_3 (rfl) rfl
def NewC (t : TypeId) (n c : Nat) (v : AV) (Hout : List (Nat × Blk)) (n1 : Nat) : Prop :=
  ∃ (i : Nat) (h : Int), v = vC ∧ Hout = [(2, .own t 1 (.lit (curL c n i h)))] ∧ n1 = 3
set_option maxHeartbeats 1000000 in
theorem d_l1New (bs : List Int) (c : Nat) (hl : bs.length ≤ 1048576) : Does Tryz.prog 43 [vS 1 1 0 bs.length c] [(1, .ro (.bytes bs))] 2 (NewC 90 bs.length c) := by
 refine Does.intro TT Tryz.func43 rfl (by kernel_rfl) Zz Zz fun E hE => ?_
 (repeat' (first | refine stx ?_ | (refine stq ?_ ?_ <;> (intro hc; ((try simp at hc) <;> try contradiction))) | fail))
 refine w_G hE (fun p : Int × Int => 0 ≤ p.1 ∧ p.1 ≤ bs.length) (fun p => bs.length - p.1.toNat)
  (fun p => [(0, vS 1 1 0 bs.length c), (3, vI p.2), (4, vI p.1)]) (fun _ => [(1, .ro (.bytes bs))]) 2 [] (0, 10101 + bs.length) ⟨Int.le_refl _, by dsimp only; omega⟩ ⟨w_1, w_2, rfl⟩ ?_
 rintro ⟨i, h⟩ ⟨h0, h1⟩
 dsimp only at h0 h1 ⊢
 ((repeat' (first | refine stx ?_ | (first | refine awpL_wrap Zz Zz Zz Zz ?_ | refine awpQ_wrap Zz Zz Zz Zz ?_) | (refine stq ?_ ?_ <;> (intro hc; ((try simp at hc) <;> try contradiction))) | fail)) <;> try (exfalso; omega))
 ·exact ⟨[], (i + 1, _), ⟨by dsimp only; omega, by dsimp only; omega⟩, w_4, ⟨⟨rfl, rfl, rfl, trivial⟩, ⟨rfl, trivial⟩, rfl⟩⟩
 all_goals exact fin rfl w_3 [(2, 2)] vC [(2, .own 90 1 (.lit (curL c bs.length 0 h)))] 3 ⟨0, h, rfl, rfl, rfl⟩ rfl ⟨trivial, ⟨rfl, trivial⟩, rfl⟩ rfl
set_option maxHeartbeats 1000000 in
theorem d_l1Byte (bs : List Int) (c i : Nat) (h : Int) (hl : bs.length ≤ 1048576) : Does Tryz.prog 121 [vC] [(1, .ro (.bytes bs)), (2, .own 90 1 (.lit (curL c bs.length i h)))] 3 (Drew 90 bs.length c fun r => 0 ≤ r ∧ r ≤ 255) := by
 refine Does.intro TT Tryz.func121 rfl (by kernel_rfl) Zz Zz fun E hE => ?_
 ((repeat' (first | refine stx ?_ | (first | refine awpL_wrap Zz Zz Zz Zz ?_ | refine awpQ_wrap Zz Zz Zz Zz ?_) | (refine stq ?_ ?_ <;> (intro hc; ((try simp at hc) <;> try contradiction))) | fail)) <;> try (exfalso; omega))
 ·exact fin rfl w_3 [] (vI _) [(2, .own 90 1 (.lit (curL c bs.length (i + 1) _)))] 3 ⟨_, _, _, and255 _, rfl, rfl, rfl⟩ rfl ⟨trivial, ⟨rfl, trivial⟩, rfl⟩ rfl
 ·exact fin rfl w_3 [] (vI _) [(2, .own 90 1 (.lit (curL c bs.length i _)))] 3 ⟨_, _, _, and255 _, rfl, rfl, rfl⟩ rfl ⟨trivial, ⟨rfl, trivial⟩, rfl⟩ rfl
theorem tmod_in' {x n : Int} (h : 0 ≤ x) : 0 ≤ x.tmod n ∧ (0 < n → x.tmod n < n) := by
  refine ⟨Int.tmod_nonneg n h, fun hn => ?_⟩
  rw [Int.tmod_eq_emod_of_nonneg h]
  exact Int.emod_lt_of_pos x hn
set_option maxHeartbeats 1000000 in
theorem d_l1Below (bs : List Int) (c i : Nat) (h : Int) (n : Int) (hl : bs.length ≤ 1048576) : Does Tryz.prog 90 [vC, vI n] [(1, .ro (.bytes bs)), (2, .own 90 1 (.lit (curL c bs.length i h)))] 3 (Drew 90 bs.length c fun r => 0 ≤ r ∧ (0 < n → r < n)) := by
 refine Does.intro TT Tryz.func90 rfl (by kernel_rfl) Zz Zz fun E hE => ?_
 ((repeat' (first | refine stx ?_ | ((refine w_E (d_l1Byte bs c _ _ hl) Zz Zz Zz Zz Zz Zz Zz ft rfl ?_); rintro v Hout n1 ⟨r, i', h', hr, rfl, rfl, rfl⟩) | (refine stq ?_ ?_ <;> (intro hc; ((try simp at hc) <;> try contradiction))) | fail)) <;> try (exfalso; omega))
 ·exact fin rfl w_3 [] (vI 0) [(2, .own 90 1 (.lit (curL c bs.length i h)))] 3 ⟨_, _, _, ⟨by omega, by omega⟩, rfl, rfl, rfl⟩ rfl ⟨trivial, ⟨rfl, trivial⟩, rfl⟩ rfl
 all_goals exact fin rfl w_3 [] (vI _) [(2, .own 90 1 (.lit (curL c bs.length _ _)))] 3 ⟨_, _, _, tmod_in' (by omega), rfl, rfl, rfl⟩ rfl ⟨trivial, ⟨rfl, trivial⟩, rfl⟩ rfl
def DrewB (t : TypeId) (n c : Nat) (v : AV) (Hout : List (Nat × Blk)) (n1 : Nat) : Prop :=
  ∃ (b : Bool) (i : Nat) (h : Int), v = vB b ∧ Hout = [(2, .own t 1 (.lit (curL c n i h)))] ∧ n1 = 3
theorem d_l1Once (bs : List Int) (c i : Nat) (h : Int) (n : Int) (hl : bs.length ≤ 1048576) : Does Tryz.prog 92 [vC, vI n] [(1, .ro (.bytes bs)), (2, .own 90 1 (.lit (curL c bs.length i h)))] 3 (DrewB 90 bs.length c) := by
 refine Does.intro TT Tryz.func92 rfl (by kernel_rfl) Zz Zz fun E hE => ?_
 ((repeat' (first | refine stx ?_ | ((refine w_E (d_l1Below bs c _ _ n hl) Zz Zz Zz Zz Zz Zz Zz ft rfl ?_); rintro v Hout n1 ⟨r, i', h', hr, rfl, rfl, rfl⟩) | (refine stq ?_ ?_ <;> (intro hc; ((try simp at hc) <;> try contradiction))) | fail)) <;> try (exfalso; omega))
 exact fin rfl w_3 [] (vB _) [(2, .own 90 1 (.lit (curL c bs.length _ _)))] 3 ⟨_, _, _, rfl, rfl, rfl⟩ rfl ⟨trivial, ⟨rfl, trivial⟩, rfl⟩ rfl
theorem d_l1PickInt (bs : List Int) (c i : Nat) (h : Int) (xs : List Int) (n cx : Nat) (hn : n = xs.length) (h0 : 0 < n) (hl : bs.length ≤ 1048576) : Does Tryz.prog 123 [vC, vS 3 1 0 n cx] [(1, .ro (.bytes bs)), (2, .own 90 1 (.lit (curL c bs.length i h))), (3, .ro (.ints xs))] 4 (fun v Hout n1 => ∃ (r : Int) (i : Nat) (h : Int), r ∈ xs ∧ v = vI r ∧ Hout = [(2, .own 90 1 (.lit (curL c bs.length i h)))] ∧ n1 = 4) := by
 refine Does.intro TT Tryz.func123 rfl (by kernel_rfl) Zz Zz fun E hE => ?_
 ((repeat' (first | refine stx ?_ | ((refine w_E (d_l1Below bs c _ _ n hl) Zz Zz Zz Zz Zz Zz Zz ft rfl ?_); rintro v Hout n1 ⟨r, i', h', ⟨hr1, hr2⟩, rfl, rfl, rfl⟩; replace hr2 := hr2 (by omega)) | (refine stq ?_ ?_ <;> (intro hc; ((try simp at hc) <;> try contradiction))) | fail)) <;> try (exfalso; omega))
 have hlt : 0 + r.toNat < xs.length := by omega
 exact fin rfl w_3 [] (vI _) [(2, .own 90 1 (.lit (curL c bs.length _ _)))] 4 ⟨_, _, _, (by rw [List.getD_eq_getElem?_getD, List.getElem?_eq_getElem hlt]; exact List.getElem_mem hlt), rfl, rfl, rfl⟩ rfl ⟨trivial, ⟨rfl, trivial⟩, rfl⟩ rfl
theorem d_l1Odd (bs : List Int) (c i : Nat) (h : Int) (hl : bs.length ≤ 1048576) : Does Tryz.prog 124 [vC] [(1, .ro (.bytes bs)), (2, .own 90 1 (.lit (curL c bs.length i h)))] 3 (Drew 90 bs.length c fun r => -9223372036854775808 ≤ r ∧ r ≤ 9223372036854775807) := by
 refine Does.intro TT Tryz.func124 rfl (by kernel_rfl) Zz Zz fun E hE => ?_
 ((repeat' (first | refine stx ?_ | ((refine w_E (d_l1PickInt bs c _ _ [0, 1, -1, 2, 400000000, -400000000, 400000001, -400000001, 399999999, 9223372036854775807, -9223372036854775808] 11 _ rfl (by omega) hl) Zz Zz Zz Zz Zz Zz Zz ft rfl ?_); rintro v Hout n1 ⟨r, i', h', hr, rfl, rfl, rfl⟩) | (refine stq ?_ ?_ <;> (intro hc; ((try simp at hc) <;> try contradiction))) | fail)) <;> try (exfalso; omega))
 exact fin rfl w_3 [] (vI _) [(2, .own 90 1 (.lit (curL c bs.length _ _)))] 3 ⟨_, _, _, (by simp at hr; omega), rfl, rfl, rfl⟩ rfl ⟨trivial, ⟨rfl, trivial⟩, rfl⟩ rfl
end Go.Proofs.YtfkbjkmlpinoeaaGreat
