/-
  TEXTS OF THE PROOF, put together: bRaysI, bCell, bPart.
-/
import Derived.Test.YtfkbjkmlpinoeaaGreatR24
import Derived.Test.YtfkbjkmlpinoeaaGreatR25
import Derived.Test.YtfkbjkmlpinoeaaGreatR27
import Derived.Test.YtfkbjkmlpinoeaaGreatR17
import Derived.Test.YtfkbjkmlpinoeaaGreatR08
import Derived.Test.YtfkbjkmlpinoeaaGreatR09
import Derived.Test.YtfkbjkmlpinoeaaGreatR20
set_option linter.unusedVariables false
set_option linter.unusedSimpArgs false
namespace Go.Proofs.YtfkbjkmlpinoeaaGreat
open Go.RowKit Go.Sort Go.Lib Go.Shelf
def raysB (r c : Int) (xs : List Int) : Option (List Int × Nat) := (raysO r c xs).map fun L => (L.flatten, L.length)
theorem d_negated (xs : List Int) (n c : Nat) (hn : n = xs.length) (hl : xs.length ≤ 1000000) (hx : xs.all numB = true) : Does Tryz.prog 49 [vS 1 1 0 n c] [(1, .ro (.ints xs))] 2 (MadeI (xs.map fun x => -x) 2) := by
 subst hn
 refine Does.intro TT Tryz.func49 rfl (by kernel_rfl) Zz Zz fun E hE => ?_
 ((repeat' (first | refine stx ?_ | (refine stq ?_ ?_ <;> (intro hc; ((try simp at hc) <;> try contradiction))) | fail)) <;> try (exfalso; omega))
 refine w_G hE (fun x : Nat × Nat => x.1 ≤ xs.length ∧ x.1 ≤ x.2) (fun x => xs.length - x.1)
  (fun x => [(3, vS 2 1 0 x.1 x.2), (7, vS 1 1 0 xs.length c), (8, vI xs.length), (9, vI x.1)]) (fun x => [(1, .ro (.ints xs)), (2, .own 3 x.2 (.ints ((xs.take x.1).map fun x => -x)))]) 3 [] (0, 0) ⟨Nat.zero_le _, Nat.zero_le _⟩ ⟨w_1, w_2, rfl⟩ ?_
 rintro ⟨k, cap⟩ ⟨h1, h2⟩
 dsimp only at h1 h2
 have e1 := num_getD hx (0 + (k : Int).toNat)
 have e2 := num_getD hx k
 by_cases hk : k < xs.length
 ·have en : ((xs.take (k + 1)).map fun x => -x) = ((xs.take k).map fun x => -x) ++ [-(xs.getD (0 + (k : Int).toNat) 0)] := by
   rw [List.take_succ_eq_append_getElem hk, List.map_append]; simp [hk]
  have ek : ((xs.take k).map fun x => -x).length = k := by simp; omega
  ((repeat' (first | refine stx ?_ | (refine w_x TT Zz Zz Zz Zz Zz sd ?_; intro cap hcap) | (refine stq ?_ ?_ <;> (intro hc; ((try simp at hc) <;> try contradiction))) | fail)) <;> try (exfalso; omega))
  refine ⟨[(2, 4)], (k + 1, cap), ⟨hk, by dsimp only at hcap ⊢; omega⟩, w_4, ⟨w_1, ⟨rfl, own_ints en.symm, trivial⟩, rfl⟩⟩
 ·obtain rfl : k = xs.length := by omega
  ((repeat' (first | refine stx ?_ | (refine stq ?_ ?_ <;> (intro hc; ((try simp at hc) <;> try contradiction))) | fail)) <;> try (exfalso; omega))
  refine fin rfl w_3 [] (vS 2 1 0 (xs.map fun x => -x).length cap) [(2, .own 3 cap (.ints (xs.map fun x => -x)))] 3 ⟨cap, by simpa using h2, rfl, rfl, rfl⟩ (by rw [List.length_map]; rfl) ⟨trivial, ⟨own_ints (by simp), trivial⟩, rfl⟩ rfl
theorem d_row0 (b n ca : Nat) (xs : List Int) (hn : n = xs.length) (hx : xs.length = b) (hca : xs.length ≤ ca) (hb : b ≤ 24) : Does Tryz.prog 48 [vM 1 b 1 n ca, vI 0] [(1, .ro (.ints xs))] 2 (fun v Hout n1 => v = vS 1 1 0 b ca ∧ Hout = [] ∧ n1 = 2) := by
 subst hn
 refine Does.intro TT Tryz.func48 rfl (by kernel_rfl) Zz Zz fun E hE => ?_
 have h1 : ((0 : Int) + 1) * b = b := by omega
 have h0 : (0 : Int) * b = 0 := by omega
 ((repeat' (first | refine stx ?_ | (refine stq ?_ ?_ <;> (intro hc; ((try simp at hc) <;> try contradiction))) | fail)) <;> try (exfalso; omega))
 refine fin rfl w_3 [] (vS 1 1 0 b ca) [] 2 ⟨rfl, rfl, rfl⟩ ?_ ⟨trivial, trivial, rfl⟩ rfl
 show AV.one (.sl 1 1 (slOff 0 ((0 : Int) * b).toNat ca) ((((0 : Int) + 1) * b).toNat - ((0 : Int) * b).toNat) (ca - ((0 : Int) * b).toNat)) = _
 rw [h1, h0]
 simp [slOff]
 rfl
theorem swo_cmpL : SWO (ltOf cmpL) where
  irrefl x := by simp [ltOf, cmpL_self]
  trans x y z h1 h2 := by
    simp only [ltOf, decide_eq_true_eq] at *
    exact cmpL_trans h1 h2
  ntrans x y z h1 h2 := by
    simp only [ltOf, decide_eq_false_iff_not] at *
    intro h
    have n1 := cmpL_neg x y
    have n2 := cmpL_neg y z
    by_cases e : cmpL x y = 0
    · rw [cmpL_eq e] at h; exact h2 h
    · exact h2 (cmpL_trans (show cmpL y x < 0 by omega) h)
theorem d_sortRays (l : List Row) (cap : Nat) (hl : l.length ≤ 1000000) (hr : ∀ r ∈ l, r.xs.length ≤ 1000000) :
    Does Tryz.prog 50 [vS 1 1 0 l.length cap, .one (.fn 51 [])] [(1, .own 24 cap (.rows false false l)), (2, .tok 3 false l)] 3 (SortedR 24 cap 3 l cmpL) :=
  d_sortRows 51 cmpL swo_cmpL (enters_of Tryz.func51 (by kernel_rfl) rfl) rays1_reads l _ _ cap hl hr
theorem d_compRays (l : List Row) (n cap : Nat) (hn : n = l.length) (hl : l.length ≤ 1000000) (hr : ∀ r ∈ l, r.xs.length ≤ 1000000) :
    Does Tryz.prog 53 [vS 1 1 0 n cap, .one (.fn 54 [])] [(1, .own 24 cap (.rows false false l)), (2, .tok 3 false l)] 3 (CompR 24 cap 3 l) := by
  subst hn
  exact d_compRows 54 (enters_of Tryz.func54 (by kernel_rfl) rfl) rays2_reads l _ _ cap hl hr
theorem cellsX {l : List Row} : cellsOf l = (rowsX l).flatten := by simp [cellsOf, rowsX, List.flatMap]
theorem flat_len_le {L : List (List Int)} {c : Nat} (h : ∀ v ∈ L, v.length = c) : L.flatten.length = L.length * c := by
  induction L with
  | nil => simp
  | cons v L ih => rw [List.flatten_cons, List.length_append, h v (by simp), ih fun u hu => h u (by simp [hu]), List.length_cons, Nat.succ_mul]; omega
theorem flat_num {L : List (List Int)} (h : ∀ v ∈ L, v.all numB = true) : L.flatten.all numB = true := by
  rw [List.all_eq_true]
  intro x hx
  obtain ⟨v, hv, hxv⟩ := List.mem_flatten.1 hx
  exact List.all_eq_true.1 (h v hv) x hxv
set_option maxRecDepth 100000 in
set_option maxHeartbeats 8000000 in
theorem d_raysI (r c : Int) (xs : List Int) (ca : Nat) (hl : xs.length ≤ 1099511627776) (hca : xs.length ≤ ca) : Does Tryz.prog 12 [vM r c 1 xs.length ca] [(1, .ro (.ints xs))] 2 (BasR 3 c (raysB r c xs) 2) := by
 refine Does.intro TT Tryz.func12 rfl (by kernel_rfl) Zz Zz fun E hE => ?_
 have hpt := d_pointI r c xs ca hl
 cases hp : pointB r c xs
 ·have hR : raysB r c xs = none := by simp [raysB, raysO, hp]
  rw [hR]
  rw [hp] at hpt
  ((repeat' (first | refine stx ?_ | (first | refine w_z (hpt) Zz Zz Zz Zz Zz Zz Zz Zz ft Zz Zz ?_ | refine w_A (hpt) Zz Zz Zz Zz Zz Zz Zz Zz ft Zz Zz ?_) | (refine stq ?_ ?_ <;> (intro hc; ((try simp at hc) <;> try contradiction))) | fail)) <;> try (exfalso; omega))
  exact fin rfl w_3 [] (.tup [.agg zeroM, .one (.bool false)]) [] 2 ⟨rfl, rfl, rfl⟩ rfl ⟨trivial, trivial, rfl⟩ rfl
 ·rw [hp] at hpt
  have hC : coneM r c xs = true := by
   unfold pointB at hp
   split at hp
   ·simp only [Bool.and_eq_true] at hp; exact hp.1
   ·cases hp
  obtain ⟨a, b, rfl, rfl, ha, hb1, hb, hx, hnum⟩ := coneM_dims hC
  have e1 : ((b : Int) - 1) = ((b - 1 : Nat) : Int) := by omega
  have hch := d_choices a ha (b - 1) (by omega)
  rw [← e1] at hch
  have hR : raysB a b xs = (rawO a b xs).map fun l => ((addsL l).flatten, (addsL l).length) := by
   rw [raysB, raysO, if_pos hp]
   simp only [Int.toNat_natCast, Option.map_map]; rfl
  rw [hR]
  ((repeat' (first | refine stx ?_ | (first | refine w_z (hpt) Zz Zz Zz Zz Zz Zz Zz Zz ft Zz Zz ?_ | refine w_A (hpt) Zz Zz Zz Zz Zz Zz Zz Zz ft Zz Zz ?_) | ((refine w_E (hch) Zz Zz Zz Zz Zz Zz Zz ft rfl ?_); rintro v Hout n1 ⟨l, capc, hlc, rfl, rfl, rfl⟩) | (refine stq ?_ ?_ <;> (intro hc; ((try simp at hc) <;> try contradiction))) | fail)) <;> try (exfalso; omega))
  ((first | refine awpL_ghost (Ghost.newTok 3 false) ?_ | refine awp_ghost (Ghost.newTok 3 false) ?_ | refine awpH_ghost (Ghost.newTok 3 false) ?_ | refine awpHop_ghost (Ghost.newTok 3 false) ?_); rintro _ _ ⟨rfl, rfl⟩)
  have hll := rowsX_len hlc
  have hlb := (chTo_len ha (k := b - 1) (by omega)).1
  rw [← hll] at hlb
  refine w_G hE (fun x : Nat × List Row × Nat => x.1 ≤ l.length ∧ candTo a b xs (chTo a (b - 1)) x.1 = some (rowsX x.2.1)) (fun x => l.length - x.1)
   (fun x => [(1, .one (.ptr 2 3 0 0)), (2, .one (.ptr 3 3 0 0)), (4, vS 4 1 0 x.2.1.length x.2.2), (21, vS 5 1 0 l.length capc), (22, vI l.length), (23, vI x.1)])
   (fun x => [(1, .ro (.ints xs)), (2, .own 26 1 (.lit [.int a, .int b, .sl 1 1 0 xs.length ca])), (3, .own 26 1 (.lit zeroM)), (4, .own 24 x.2.2 (.rows false true x.2.1)), (5, .own 24 capc (.rows false true l)), (6, .tok 3 false l), (7, .tok 3 false x.2.1)]) 8 [] (0, [], 0) ⟨Nat.zero_le _, rfl⟩ ⟨w_1, w_2, rfl⟩ ?_
  rintro ⟨j, ry, capy⟩ ⟨hj, hry⟩
  dsimp only at hj hry
  have hrl := candTo_len hry
  rw [show (rowsX ry).length = ry.length by simp [rowsX]] at hrl
  by_cases hjl : j < l.length
  ·obtain ⟨hvx, hvm, hvn⟩ := chRow hlc hjl
   have hnat := nats_of hvm
   obtain ⟨n1, n2⟩ := ch_rows hvm
   have hz0 := cand_zeros hx hnum hb1 (by omega) hvm
   have hpl := pickR_len hx n2
   have hcs : candTo a b xs (chTo a (b - 1)) (j + 1) = (candO a b xs ((chTo a (b - 1)).getD j [])).map fun y => rowsX ry ++ y := by rw [candTo, hry, Option.bind_some]
   have htk := fun cx cp m hh hm => d_takeRows a b xs (natsOf ((chTo a (b - 1)).getD j [])) cx cp xs.length m rfl hm hx hh (by omega) (by omega) n2 (by omega)
   have htk := fun cx cp hh => htk cx cp (l.getD (0 + (j : Int).toNat) rowD).xs.length hh (by rw [hvx, hvn, n1])
   have hzr := fun cx => d_zerosI ((b - 1 : Nat) : Int) b (pickR xs b (natsOf ((chTo a (b - 1)).getD j []))) cx (by rw [hpl, n1]; have := Nat.mul_le_mul (show b - 1 ≤ 2 by omega) hb; omega)
   rw [hnat, n1] at htk
   rw [hz0] at hzr
   unfold candO at hcs
   generalize hP : pickR xs b (natsOf ((chTo a (b - 1)).getD j [])) = P at *
   rw [← hvx] at htk
   cases hk : kerO b (b - 1) (turnM P (b - 1) b) with
   | none =>
    rw [hk] at hzr hcs
    have hno : rawO a b xs = none := by
     have := candTo_none hcs ((chTo a (b - 1)).length - (j + 1))
     rw [show j + 1 + ((chTo a (b - 1)).length - (j + 1)) = (chTo a (b - 1)).length by omega] at this
     exact this
    rw [hno]
    ((repeat' (first | refine stx ?_ | ((refine w_E (htk _ _ hca) Zz Zz Zz Zz Zz Zz Zz ft rfl ?_); rintro v Hout n1 ⟨cap, hcap, rfl, rfl, rfl⟩) | ((refine w_E (hzr _) Zz Zz Zz Zz Zz Zz Zz ft rfl ?_); rintro v Hout n1 ⟨rfl, rfl, rfl⟩) | (refine stq ?_ ?_ <;> (intro hc; ((try simp at hc) <;> try contradiction))) | fail)) <;> try (exfalso; omega))
    exact fin rfl w_3 [] (.tup [.agg zeroM, .one (.bool false)]) [] 2 ⟨rfl, rfl, rfl⟩ rfl ⟨trivial, trivial, rfl⟩ rfl
   | some st =>
    obtain ⟨ys, t⟩ := st
    rw [hk] at hzr hcs
    dsimp only [Option.map_some] at hcs
    by_cases ht : t = 1
    ·subst ht
     rw [if_pos rfl] at hcs
     obtain ⟨hyl, hyn, -⟩ := one_ker (k := b - 1) hx hnum hvm (by rw [hP]; exact hk)
     have hrow := fun cx hh => d_row0 b ys.length cx ys rfl hyl hh (by omega)
     have hneg := fun cx => d_negated ys b cx hyl.symm (by omega) hyn
     ((repeat' (first | refine stp ?_ | ((refine w_E (htk _ _ hca) Zz Zz Zz Zz Zz Zz Zz ft rfl ?_); rintro v Hout n1 ⟨cap, hcap, rfl, rfl, rfl⟩) | ((refine w_E (hzr _) Zz Zz Zz Zz Zz Zz Zz ft rfl ?_); rintro v Hout n1 ⟨cap2, hcap2, rfl, rfl, rfl⟩) | (refine stq ?_ ?_ <;> (intro hc; ((try simp at hc) <;> try contradiction))) | fail)) <;> try (exfalso; omega))
     ((first | refine awpL_ghost (Ghost.reveal 10 rfl) ?_ | refine awp_ghost (Ghost.reveal 10 rfl) ?_ | refine awpH_ghost (Ghost.reveal 10 rfl) ?_ | refine awpHop_ghost (Ghost.reveal 10 rfl) ?_); rintro _ _ ⟨az, rfl, rfl⟩)
     refine awp_held TM [(10, _), (11, _)] sb rfl (fun ρs => ?_)
     refine zt0 ?_
     refine zt2 ?_
     refine zt7 ?_
     refine w_u [1] kr rfl ⟨?_, trivial⟩
     first | (refine zho ?_) | (refine w_F _ (hrow _ hcap2) Zz Zz Zz Zz Zz Zz Zz Zz ft Zz Zz ?_; rintro v Hout n1 ⟨rfl, rfl, rfl⟩; refine ⟨sb, ?_⟩) | (refine w_F _ (hneg _) Zz Zz Zz Zz Zz Zz Zz Zz ft Zz Zz ?_; rintro v Hout n1 ⟨capn, hcapn, rfl, rfl, rfl⟩; refine ⟨sb, ?_⟩; refine awpH_ghost (Ghost.reveal 12 rfl) ?_; rintro _ _ ⟨an, rfl, rfl⟩)
     refine w_u [3] kr rfl ⟨?_, trivial⟩
     first | (refine zho ?_) | (refine w_F _ (hrow _ hcap2) Zz Zz Zz Zz Zz Zz Zz Zz ft Zz Zz ?_; rintro v Hout n1 ⟨rfl, rfl, rfl⟩; refine ⟨sb, ?_⟩) | (refine w_F _ (hneg _) Zz Zz Zz Zz Zz Zz Zz Zz ft Zz Zz ?_; rintro v Hout n1 ⟨capn, hcapn, rfl, rfl, rfl⟩; refine ⟨sb, ?_⟩; refine awpH_ghost (Ghost.reveal 12 rfl) ?_; rintro _ _ ⟨an, rfl, rfl⟩)
     refine w_u [4] kr rfl ⟨?_, trivial⟩
     first | (refine zho ?_) | (refine w_F _ (hrow _ hcap2) Zz Zz Zz Zz Zz Zz Zz Zz ft Zz Zz ?_; rintro v Hout n1 ⟨rfl, rfl, rfl⟩; refine ⟨sb, ?_⟩) | (refine w_F _ (hneg _) Zz Zz Zz Zz Zz Zz Zz Zz ft Zz Zz ?_; rintro v Hout n1 ⟨capn, hcapn, rfl, rfl, rfl⟩; refine ⟨sb, ?_⟩; refine awpH_ghost (Ghost.reveal 12 rfl) ?_; rintro _ _ ⟨an, rfl, rfl⟩)
     refine w_u [5] kr rfl ⟨?_, trivial⟩
     first | (refine zho ?_) | (refine w_F _ (hrow _ hcap2) Zz Zz Zz Zz Zz Zz Zz Zz ft Zz Zz ?_; rintro v Hout n1 ⟨rfl, rfl, rfl⟩; refine ⟨sb, ?_⟩) | (refine w_F _ (hneg _) Zz Zz Zz Zz Zz Zz Zz Zz ft Zz Zz ?_; rintro v Hout n1 ⟨capn, hcapn, rfl, rfl, rfl⟩; refine ⟨sb, ?_⟩; refine awpH_ghost (Ghost.reveal 12 rfl) ?_; rintro _ _ ⟨an, rfl, rfl⟩)
     refine zt6 ?_
     refine w_v kr ?_
     rotate_left
     all_goals ((repeat' (first | refine stx ?_ | (refine stq ?_ ?_ <;> (intro hc; ((try simp at hc) <;> try contradiction))) | fail)) <;> try (exfalso; omega))
     all_goals
      have hrx : ∀ i : Nat, i < 2 → (([⟨az, cap2, ys, []⟩, ⟨an, capn, ys.map fun x => -x, []⟩] : List Row).getD (0 + (i : Int).toNat) rowD).xs = ([ys, ys.map fun x => -x]).getD i [] := fun i hi => by
       have : i = 0 ∨ i = 1 := by omega
       rcases this with rfl | rfl <;> rfl
      have hrn : ∀ i : Nat, i < 2 → (([⟨az, cap2, ys, []⟩, ⟨an, capn, ys.map fun x => -x, []⟩] : List Row).getD (0 + (i : Int).toNat) rowD).xs.length = b := fun i hi => by
       have : i = 0 ∨ i = 1 := by omega
       rcases this with rfl | rfl
       ·exact hyl
       ·show (ys.map fun x => -x).length = b
        rw [List.length_map]; exact hyl
      have hrs : ([⟨az, cap2, ys, []⟩, ⟨an, capn, ys.map fun x => -x, []⟩] : List Row).length = 2 := rfl
      refine w_G hE (fun x : Nat × List Row × Nat => x.1 ≤ 2 ∧ rowsX x.2.1 = rowsX ry ++ (([ys, ys.map fun x => -x]).take x.1).filter fun v => inConeB a b xs v) (fun x => 2 - x.1)
       (fun x => [(1, .one (.ptr 2 3 0 0)), (2, .one (.ptr 3 3 0 0)), (4, vS 4 1 0 x.2.1.length x.2.2), (21, vS 5 1 0 l.length capc), (22, vI l.length), (23, vI j), (45, vS 8 1 0 2 2), (46, vI 2), (47, vI x.1)])
       (fun x => [(1, .ro (.ints xs)), (2, .own 26 1 (.lit [.int a, .int b, .sl 1 1 0 xs.length ca])), (3, .own 26 1 (.lit zeroM)), (4, .own 24 x.2.2 (.rows false true x.2.1)), (5, .own 24 capc (.rows false true l)), (6, .tok 3 false l), (7, .tok 3 false x.2.1), (8, .own 24 2 (.rows false true [⟨az, cap2, ys, []⟩, ⟨an, capn, ys.map fun x => -x, []⟩]))]) 9 [(8, 13)] (0, ry, capy) ⟨Nat.zero_le _, by simp⟩ ⟨w_1, w_2, rfl⟩ ?_
      generalize ([⟨az, cap2, ys, []⟩, ⟨an, capn, ys.map fun x => -x, []⟩] : List Row) = rs at *
      rintro ⟨i, rz, capz⟩ ⟨hi, hrz⟩
      dsimp only at hi hrz
      have hzl : rz.length ≤ 130 := by
       have h1 := congrArg List.length hrz
       have h2 := List.length_filter_le (fun v => inConeB a b xs v) (([ys, ys.map fun x => -x]).take i)
       have h3 : (([ys, ys.map fun x => -x]).take i).length ≤ 2 := by rw [List.length_take]; simp; omega
       rw [List.length_append] at h1
       simp only [rowsX, List.length_map] at h1
       omega
      by_cases hi2 : i < 2
      ·have hx1 := hrx i hi2
       have hn1 := hrn i hi2
       have hin := fun cb => d_inConeI a b xs (rs.getD (0 + (i : Int).toNat) rowD).xs ca cb hl (by omega) hca
       have htk1 : ([ys, ys.map fun x => -x]).take (i + 1) = ([ys, ys.map fun x => -x]).take i ++ [(rs.getD (0 + (i : Int).toNat) rowD).xs] := by
        rw [List.take_succ_eq_append_getElem (show i < ([ys, ys.map fun x => -x]).length from hi2), hx1, getD_in (show i < ([ys, ys.map fun x => -x]).length from hi2)]
       have hfl : (([ys, ys.map fun x => -x]).take (i + 1)).filter (fun v => inConeB a b xs v) = (([ys, ys.map fun x => -x]).take i).filter (fun v => inConeB a b xs v) ++ [(rs.getD (0 + (i : Int).toNat) rowD).xs].filter (fun v => inConeB a b xs v) := by rw [htk1, List.filter_append]
       cases hI : inConeB a b xs (rs.getD (0 + (i : Int).toNat) rowD).xs
       ·rw [hI] at hin
        rw [List.filter_cons, hI] at hfl
        ((repeat' (first | refine stx ?_ | (first | refine w_z (hin _) Zz Zz Zz Zz Zz Zz Zz Zz ft Zz Zz ?_ | refine w_A (hin _) Zz Zz Zz Zz Zz Zz Zz Zz ft Zz Zz ?_) | (refine stq ?_ ?_ <;> (intro hc; ((try simp at hc) <;> try contradiction))) | fail)) <;> try (exfalso; omega))
        exact ⟨[], (i + 1, rz, capz), ⟨hi2, by dsimp only; rw [hfl, hrz]; simp⟩, w_4, ⟨w_1, w_2, rfl⟩⟩
       ·rw [hI] at hin
        rw [List.filter_cons, hI] at hfl
        ((repeat' (first | refine stx ?_ | (first | refine w_z (hin _) Zz Zz Zz Zz Zz Zz Zz Zz ft Zz Zz ?_ | refine w_A (hin _) Zz Zz Zz Zz Zz Zz Zz Zz ft Zz Zz ?_) | (refine w_x TT Zz Zz Zz Zz Zz sd ?_; intro cap hcap) | (refine stq ?_ ?_ <;> (intro hc; ((try simp at hc) <;> try contradiction))) | fail)) <;> try (exfalso; omega))
        ((first | refine awpL_ghost (Ghost.freeze 11 7 Zz Zz) ?_ | refine awp_ghost (Ghost.freeze 11 7 Zz Zz) ?_ | refine awpH_ghost (Ghost.freeze 11 7 Zz Zz) ?_ | refine awpHop_ghost (Ghost.freeze 11 7 Zz Zz) ?_); rintro _ _ ⟨a1, rfl, rfl⟩)
        ((repeat' (first | refine stx ?_ | (refine w_x TT Zz Zz Zz Zz Zz sd ?_; intro cap hcap) | (refine stq ?_ ?_ <;> (intro hc; ((try simp at hc) <;> try contradiction))) | fail)) <;> try (exfalso; omega))
        refine ⟨[(4, 13)], (i + 1, _, _), ⟨hi2, ?_⟩, w_4, ⟨w_1, ⟨rfl, rfl, rfl, rfl, rfl, rfl, rfl, rfl, trivial⟩, rfl⟩⟩
        show rowsX (rz ++ [_]) = _
        rw [hfl, ← List.append_assoc, ← hrz]
        simp [rowsX]
      ·obtain rfl : i = 2 := by omega
       ((repeat' (first | refine stx ?_ | (refine stq ?_ ?_ <;> (intro hc; ((try simp at hc) <;> try contradiction))) | fail)) <;> try (exfalso; omega))
       exact ⟨[], (j + 1, rz, capz), ⟨hjl, by dsimp only; rw [hcs, hrz]; rfl⟩, w_4, ⟨w_1, w_2, rfl⟩⟩
    ·rw [if_neg ht, List.append_nil] at hcs
     have ht2 : ¬ (t : Int) = 1 := by omega
     ((repeat' (first | refine stx ?_ | ((refine w_E (htk _ _ hca) Zz Zz Zz Zz Zz Zz Zz ft rfl ?_); rintro v Hout n1 ⟨cap, hcap, rfl, rfl, rfl⟩) | ((refine w_E (hzr _) Zz Zz Zz Zz Zz Zz Zz ft rfl ?_); rintro v Hout n1 ⟨cap2, hcap2, rfl, rfl, rfl⟩) | (refine stq ?_ ?_ <;> (intro hc; ((try simp at hc) <;> try contradiction))) | fail)) <;> try (exfalso; omega))
     exact ⟨[], (j + 1, ry, capy), ⟨hjl, hcs⟩, w_4, ⟨w_1, w_2, rfl⟩⟩
  ·obtain rfl : j = l.length := by omega
   have hraw : rawO a b xs = some (rowsX ry) := by rw [rawO, ← hll]; exact hry
   have hrw := cand_row hx hnum hC hb1 hraw
   have hrb : ∀ r ∈ ry, r.xs.length ≤ 1000000 := fun r hr => by
    have := (hrw _ (List.mem_map.2 ⟨r, hr, rfl⟩)).1
    omega
   have hrl24 := rays_len ha hx hnum hC hb1 hb hraw
   have hsr := d_sortRays ry capy (by omega) hrb
   rw [hraw]
   have hKK : ∀ l2 : List Row, l2.Perm ry → (l2.Pairwise fun x y => ¬ cmpL y.xs x.xs < 0) → (kept l2).map Row.xs = addsL (rowsX ry) := fun l2 h1 h2 => kept_adds (fun x => (h1.map Row.xs).mem_iff) h2
   have hcf : ∀ l2 : List Row, l2.Perm ry → (l2.Pairwise fun x y => ¬ cmpL y.xs x.xs < 0) → cellsOf (kept l2) = (addsL (rowsX ry)).flatten ∧ (kept l2).length = (addsL (rowsX ry)).length ∧ (cellsOf (kept l2)).length ≤ 72 ∧ isM ((kept l2).length : Nat) b (cellsOf (kept l2)) = true := fun l2 h1 h2 => by
    have e := hKK l2 h1 h2
    have e1 : cellsOf (kept l2) = (addsL (rowsX ry)).flatten := by rw [cellsX, rowsX, e]
    have e2 : (kept l2).length = (addsL (rowsX ry)).length := by rw [← e, List.length_map]
    have e3 : (addsL (rowsX ry)).flatten.length = (addsL (rowsX ry)).length * b := flat_len_le fun v hv => (hrw v (mem_addsL.1 hv)).1
    have e4 := Nat.mul_le_mul hrl24 hb
    refine ⟨e1, e2, by rw [e1, e3]; omega, ?_⟩
    rw [isM, e1, e2]
    simp only [Bool.and_eq_true, decide_eq_true_eq]
    exact ⟨⟨by omega, by omega, by omega, by omega, by rw [e3]; simp⟩, flat_num fun v hv => (hrw v (mem_addsL.1 hv)).2⟩
   ((repeat' (first | refine stx ?_ | (((first | refine awpL_ghost (Ghost.forget 4 Zz Zz) ?_ | refine awp_ghost (Ghost.forget 4 Zz Zz) ?_ | refine awpH_ghost (Ghost.forget 4 Zz Zz) ?_ | refine awpHop_ghost (Ghost.forget 4 Zz Zz) ?_); rintro _ _ ⟨rfl, rfl⟩); refine awpL_callM [(1, 4), (2, 7)] hsr Zz Zz Zz Zz Zz Zz Zz ft rfl ?_; rintro v Hout n1 ⟨l2, hperm, hsort, rfl, rfl, rfl⟩) | (((first | refine awpL_ghost (Ghost.part 7 (l' := l2) rfl (fun r hr => hperm.mem_iff.1 hr) (fun hp => (hperm.pairwise_iff fun h => h.symm).2 hp)) ?_ | refine awp_ghost (Ghost.part 7 (l' := l2) rfl (fun r hr => hperm.mem_iff.1 hr) (fun hp => (hperm.pairwise_iff fun h => h.symm).2 hp)) ?_ | refine awpH_ghost (Ghost.part 7 (l' := l2) rfl (fun r hr => hperm.mem_iff.1 hr) (fun hp => (hperm.pairwise_iff fun h => h.symm).2 hp)) ?_ | refine awpHop_ghost (Ghost.part 7 (l' := l2) rfl (fun r hr => hperm.mem_iff.1 hr) (fun hp => (hperm.pairwise_iff fun h => h.symm).2 hp)) ?_); rintro _ _ ⟨rfl, rfl⟩); ((first | refine awpL_ghost (Ghost.forget 4 Zz Zz) ?_ | refine awp_ghost (Ghost.forget 4 Zz Zz) ?_ | refine awpH_ghost (Ghost.forget 4 Zz Zz) ?_ | refine awpHop_ghost (Ghost.forget 4 Zz Zz) ?_); rintro _ _ ⟨rfl, rfl⟩); refine awpL_callM [(1, 4), (2, 7)] (d_compRays l2 ry.length capy hperm.length_eq.symm (by rw [hperm.length_eq]; omega) (fun r hr => hrb r (hperm.mem_iff.1 hr))) Zz Zz Zz Zz Zz Zz Zz ft rfl ?_; rintro v Hout n1 ⟨rfl, rfl, rfl⟩) | (refine w_C (d_fromRows (kept l2) b capy (by have := (hcf l2 hperm hsort).2.1; omega) (by have := (hcf l2 hperm hsort).2.2.1; omega)) Zz Zz Zz Zz Zz Zz Zz ft Zz Zz (FromR.out) ?_; rintro v b ⟨c1, hc1, rfl, he, -⟩; cases he) | ((refine w_E (d_checked ((kept l2).length : Nat) b (cellsOf (kept l2)) _ c1 rfl true (hcf l2 hperm hsort).2.2.2 (by have := (hcf l2 hperm hsort).2.2.1; omega)) Zz Zz Zz Zz Zz Zz Zz ft rfl ?_); rintro v Hout n1 ⟨rfl, rfl, rfl⟩) | (refine stq ?_ ?_ <;> (intro hc; ((try simp at hc) <;> try contradiction))) | fail)) <;> try (exfalso; omega))
   obtain ⟨f1, f2, -, -⟩ := hcf l2 hperm hsort
   have hfin : (some (rowsX ry)).map (fun l => ((addsL l).flatten, (addsL l).length)) = some (cellsOf (kept l2), (kept l2).length) := by rw [f1, f2]; rfl
   have hOut : BasR 3 b ((some (rowsX ry)).map (fun l => ((addsL l).flatten, (addsL l).length))) 2 (.tup [.agg [.int (kept l2).length, .int b, .sl 2 1 0 (cellsOf (kept l2)).length c1], .one (.bool true)]) [(2, .own 3 c1 (.ints (cellsOf (kept l2))))] 3 := by rw [hfin]; exact ⟨c1, hc1, rfl, rfl, rfl⟩
   exact fin rfl w_3 [(2, 8)] (.tup [.agg [.int (kept l2).length, .int b, .sl 2 1 0 (cellsOf (kept l2)).length c1], .one (.bool true)]) [(2, .own 3 c1 (.ints (cellsOf (kept l2))))] 3 hOut rfl ⟨trivial, ⟨rfl, trivial⟩, rfl⟩ rfl
end Go.Proofs.YtfkbjkmlpinoeaaGreat
namespace Go.Proofs.YtfkbjkmlpinoeaaGreat
open Go.RowKit
theorem d_cell12 (r c i j : Int) (xs : List Int) (n cap : Nat) (hn : n = xs.length) (h1 : 0 ≤ i * c ∧ i * c ≤ 1000000) (h2 : 0 ≤ j) (h3 : i * c + j < xs.length) (hl : xs.length ≤ 1099511627776) : Does Tryz.prog 87 [vM r c 1 n cap, vI i, vI j] [(1, .ro (.ints xs))] 2 (Ret (vI (xs.getD (0 + (i * c + j).toNat) 0)) 2) := by
 subst hn
 refine Does.intro TT Tryz.func87 rfl (by kernel_rfl) Zz Zz fun E hE => ?_
 ((repeat' (first | refine stx ?_ | (refine stq ?_ ?_ <;> (intro hc; ((try simp at hc) <;> try contradiction))) | fail)) <;> try (exfalso; omega))
 refine fin_ret rfl w_3 (rfl) rfl
theorem sl_row {i b r ca n : Nat} (hi : i < r) (hb : 1 ≤ b) (hn : n = r * b) (hc : n ≤ ca) : slOff 0 ((i : Int) * b).toNat ca = i * b ∧ (((i : Int) + 1) * b).toNat - ((i : Int) * b).toNat = b ∧ (0 ≤ (i : Int) * b ∧ (i : Int) * b ≤ ((i : Int) + 1) * b) ∧ ((i : Int) + 1) * b ≤ (ca : Int) ∧ i * b + b ≤ n := by
  have e1 : ((i : Int) * b).toNat = i * b := by
    have e : ((i : Int) * b) = ((i * b : Nat) : Int) := by simp
    rw [e]; omega
  have e3 : ((i : Int) + 1) * b = ((i * b + b : Nat) : Int) := by rw [Int.add_mul]; simp
  have e2 := row_in (c := b) hi
  have e4 : ((i : Int) * b) = ((i * b : Nat) : Int) := by simp
  rw [e1, e3, e4]
  refine ⟨?_, by omega, by omega, by omega, by omega⟩
  unfold slOff
  rw [if_neg (by omega)]; omega
end Go.Proofs.YtfkbjkmlpinoeaaGreat
namespace Go.Proofs.YtfkbjkmlpinoeaaGreat
open Go.RowKit
def partP (xs : List Int) (c : Nat) (is : List Nat) (i j : Nat) : List Int := pickR xs c (is.take i) ++ (xs.drop (is.getD i 0 * c)).take j
theorem partP_zero {xs : List Int} {c : Nat} {is : List Nat} {i : Nat} : partP xs c is i 0 = pickR xs c (is.take i) := by simp [partP]
theorem partP_next {xs : List Int} {r c : Nat} {is : List Nat} {i j : Nat} (hx : xs.length = r * c) (hi : is.getD i 0 < r) (hj : j < c) : partP xs c is i (j + 1) = partP xs c is i j ++ [xs.getD (is.getD i 0 * c + j) 0] := by
  have h1 := row_in (c := c) hi
  have h2 : j < (xs.drop (is.getD i 0 * c)).length := by rw [List.length_drop]; omega
  have e : xs.getD (is.getD i 0 * c + j) 0 = (xs.drop (is.getD i 0 * c))[j] := by rw [List.getElem_drop, getD_in (by omega)]
  rw [partP, partP, List.take_succ_eq_append_getElem h2, List.append_assoc, e]
theorem partP_row {xs : List Int} {c : Nat} {is : List Nat} {i : Nat} (hi : i < is.length) : partP xs c is i c = pickR xs c (is.take (i + 1)) := by
  rw [partP, List.take_succ_eq_append_getElem hi, getD_in hi]
  simp only [pickR, List.flatMap_append, List.flatMap_cons, List.flatMap_nil, List.append_nil]
theorem partP_len {xs : List Int} {r c : Nat} {is : List Nat} {i j : Nat} (hx : xs.length = r * c) (h : ∀ p ∈ is, p < r) (hi : i < is.length) (hj : j ≤ c) : (partP xs c is i j).length = i * c + j := by
  have h1 := row_in (c := c) (h _ (List.getElem_mem hi))
  have h2 := pickR_len hx (is := is.take i) fun p hp => h p (List.mem_of_mem_take hp)
  rw [partP, List.length_append, h2, List.length_take (l := is), Nat.min_eq_left (by omega : i ≤ is.length), List.length_take, List.length_drop, getD_in hi, Nat.min_eq_left (by omega)]
theorem own_litP {t : TypeId} {c : Nat} {x x' y : Int} {k k' a b cp : Nat} {m : Nat → Nat} (hx : x = x') (h : a = b) (hk : k' = m k := by rfl) : some (Blk.own t c (.lit [.int x, .int y, .sl k' 1 0 a cp])) = some ((Blk.own t c (.lit [.int x', .int y, .sl k 1 0 b cp])).ren m) := by subst hx h hk; rfl
theorem natsI_getD {is : List Nat} {i : Nat} : (natsI is).getD i 0 = ((is.getD i 0 : Nat) : Int) := by
  simp only [natsI, List.getD_eq_getElem?_getD, List.getElem?_map]
  cases is[i]? <;> simp
theorem range_getD {n i : Nat} (h : i < n) : (List.range n).getD i 0 = i := by rw [getD_in (by simpa using h)]; simp
set_option maxRecDepth 100000 in
set_option maxHeartbeats 4000000 in
theorem d_part (r c : Nat) (xs : List Int) (is : List Nat) (ca cp cq n m k : Nat) (hn : n = xs.length) (hm : m = is.length) (hk : k = c) (hx : xs.length = r * c) (hr : r ≤ 24) (hc24 : c ≤ 24) (his : ∀ i ∈ is, i < r) (hil : is.length ≤ 24) :
    Does Tryz.prog 61 [vM r c 1 n ca, vS 2 1 0 m cp, vS 3 1 0 k cq] [(1, .ro (.ints xs)), (2, .ro (.ints (natsI is))), (3, .ro (.ints (natsI (List.range c))))] 4 (FromR is.length c 3 (pickR xs c is) 4) := by
  subst hn hm hk
  refine Does.intro TT Tryz.func61 rfl (by kernel_rfl) Zz Zz fun E hE => ?_
  ((repeat' (first | refine stx ?_ | (refine stq ?_ ?_ <;> (intro hc; ((try simp at hc) <;> try contradiction))) | fail)) <;> try (exfalso; omega))
  refine awp_nil (k := 6) (f := 2) (sz := 1) (et := 3) (e0 := .ints []) Zz Zz Zz Zz (fun _ h => by cases h) ?_
  refine w_G hE (fun i : Nat × Nat => i.1 ≤ is.length ∧ (pickR xs k (is.take i.1)).length ≤ i.2) (fun i => is.length - i.1)
    (fun i => [(1, vS 2 1 0 is.length cp), (2, vS 3 1 0 k cq), (3, .one (.ptr 4 3 0 0)), (6, .one (.ptr 5 3 0 0)), (7, .one (.ptr 6 3 0 0)), (8, vI i.1)])
    (fun i => [(1, .ro (.ints xs)), (2, .ro (.ints (natsI is))), (3, .ro (.ints (natsI (List.range k)))), (4, .own 26 1 (.lit [.int r, .int k, .sl 1 1 0 xs.length ca])), (5, .own 26 1 (.lit zeroM)), (6, .own 26 1 (.lit [.int is.length, .int k, .sl 7 1 0 (pickR xs k (is.take i.1)).length i.2])), (7, .own 3 i.2 (.ints (pickR xs k (is.take i.1))))]) 8 [] (0, 0) ⟨Nat.zero_le _, Nat.zero_le _⟩ ⟨w_1, w_2, rfl⟩ ?_
  rintro ⟨i, cap⟩ ⟨hi, hcap⟩
  dsimp only at hi hcap
  have hxs : xs.length ≤ 576 := by rw [hx]; exact Nat.mul_le_mul hr hc24
  by_cases hik : i < is.length
  · ((repeat' (first | refine stx ?_ | (refine stq ?_ ?_ <;> (intro hc; ((try simp at hc) <;> try contradiction))) | fail)) <;> try (exfalso; omega))
    refine w_G hE (fun x : Nat × Nat => x.1 ≤ k ∧ (partP xs k is i x.1).length ≤ x.2) (fun x => k - x.1)
      (fun x => [(1, vS 2 1 0 is.length cp), (2, vS 3 1 0 k cq), (3, .one (.ptr 4 3 0 0)), (6, .one (.ptr 5 3 0 0)), (7, .one (.ptr 6 3 0 0)), (8, vI i), (9, vI x.1)])
      (fun x => [(1, .ro (.ints xs)), (2, .ro (.ints (natsI is))), (3, .ro (.ints (natsI (List.range k)))), (4, .own 26 1 (.lit [.int r, .int k, .sl 1 1 0 xs.length ca])), (5, .own 26 1 (.lit zeroM)), (6, .own 26 1 (.lit [.int is.length, .int k, .sl 7 1 0 (partP xs k is i x.1).length x.2])), (7, .own 3 x.2 (.ints (partP xs k is i x.1)))]) 8 [] (0, cap) ⟨Nat.zero_le _, by dsimp only; rw [partP_zero]; exact hcap⟩ (by rw [partP_zero]; exact ⟨w_1, w_2, rfl⟩) ?_
    rintro ⟨j, cap2⟩ ⟨hj, hcap2⟩
    dsimp only at hj hcap2
    have hip := his _ (List.getElem_mem hik)
    have hin := row_in (c := k) hip
    have hgi : is.getD i 0 = is[i] := getD_in hik
    have hpl := partP_len hx his hik hj
    have hpb : i * k + j ≤ 24 * 24 + 24 := by have := Nat.mul_le_mul (show i ≤ 24 by omega) hc24; omega
    by_cases hjk : j < k
    · have hln1 : (natsI is).length = is.length := natsI_len
      have hln2 : (natsI (List.range k)).length = k := by rw [natsI_len, List.length_range]
      have e1 : (natsI is).getD (0 + (i : Int).toNat) 0 = ((is.getD i 0 : Nat) : Int) := by rw [show 0 + (i : Int).toNat = i by omega, natsI_getD]
      have e2 : (natsI (List.range k)).getD (0 + (j : Int).toNat) 0 = (j : Int) := by rw [show 0 + (j : Int).toNat = j by omega, natsI_getD, range_getD hjk]
      have e3 : ((is.getD i 0 : Nat) : Int) * k = ((is.getD i 0 * k : Nat) : Int) := by simp
      have hcell := fun h1 h3 => d_cell12 r k ((is.getD i 0 : Nat) : Int) j xs xs.length ca rfl h1 (by omega) h3 (by omega)
      have hcell := hcell (by rw [e3, hgi]; omega) (by rw [e3, hgi]; omega)
      rw [← e1, ← e2] at hcell
      have hnx := partP_next (is := is) hx (by rw [hgi]; exact hip) hjk
      have ev : xs.getD (0 + ((natsI is).getD (0 + (i : Int).toNat) 0 * k + (natsI (List.range k)).getD (0 + (j : Int).toNat) 0).toNat) 0 = xs.getD (is.getD i 0 * k + j) 0 := by
        rw [e1, e2, e3]; congr 1; omega
      rw [← ev] at hnx
      ((repeat' (first | refine stp ?_ | (refine stq ?_ ?_ <;> (intro hc; ((try simp at hc) <;> try contradiction))) | fail)) <;> try (exfalso; omega))
      refine awp_held TM [(1, _), (2, _), (3, _), (4, _)] sb rfl (fun ρs => ?_)
      refine zt2 ?_
      refine zt3 ?_
      refine zt4 ?_
      refine zt5 ?_
      refine zt6 ?_
      refine zt7 ?_
      refine zt8 ?_
      refine zt9 ?_
      refine zt10 ?_
      refine w_u [0, 11] kr rfl ⟨?_, ?_, trivial⟩
      first | (refine zho ?_) | (refine w_y TT _ Zz Zz Zz Zz Zz Zz sd sb Zz Zz ?_; intro cap hcap) | refine w_B _ (hcell) Zz Zz Zz Zz Zz Zz Zz Zz Zz ft Zz Zz sb rfl ?_
      refine w_u [1, 11] kr rfl ⟨?_, ?_, trivial⟩
      first | (refine zho ?_) | (refine w_y TT _ Zz Zz Zz Zz Zz Zz sd sb Zz Zz ?_; intro cap hcap) | refine w_B _ (hcell) Zz Zz Zz Zz Zz Zz Zz Zz Zz ft Zz Zz sb rfl ?_
      refine w_u [11] kr rfl ⟨?_, trivial⟩
      first | (refine zho ?_) | (refine w_y TT _ Zz Zz Zz Zz Zz Zz sd sb Zz Zz ?_; intro cap hcap) | refine w_B _ (hcell) Zz Zz Zz Zz Zz Zz Zz Zz Zz ft Zz Zz sb rfl ?_
      refine w_u [12] kr rfl ⟨?_, trivial⟩
      first | (refine zho ?_) | (refine w_y TT _ Zz Zz Zz Zz Zz Zz sd sb Zz Zz ?_; intro cap hcap) | refine w_B _ (hcell) Zz Zz Zz Zz Zz Zz Zz Zz Zz ft Zz Zz sb rfl ?_
      refine w_u [13] kr rfl ⟨?_, trivial⟩
      first | (refine zho ?_) | (refine w_y TT _ Zz Zz Zz Zz Zz Zz sd sb Zz Zz ?_; intro cap hcap) | refine w_B _ (hcell) Zz Zz Zz Zz Zz Zz Zz Zz Zz ft Zz Zz sb rfl ?_
      refine w_u [14] kr rfl ⟨?_, trivial⟩
      first | (refine zho ?_) | (refine w_y TT _ Zz Zz Zz Zz Zz Zz sd sb Zz Zz ?_; intro cap hcap) | refine w_B _ (hcell) Zz Zz Zz Zz Zz Zz Zz Zz Zz ft Zz Zz sb rfl ?_
      refine w_u [15] kr rfl ⟨?_, trivial⟩
      first | (refine zho ?_) | (refine w_y TT _ Zz Zz Zz Zz Zz Zz sd sb Zz Zz ?_; intro cap hcap) | refine w_B _ (hcell) Zz Zz Zz Zz Zz Zz Zz Zz Zz ft Zz Zz sb rfl ?_
      refine w_v kr ?_
      rotate_left
      first | (refine zho ?_) | (refine w_y TT _ Zz Zz Zz Zz Zz Zz sd sb Zz Zz ?_; intro cap hcap) | refine w_B _ (hcell) Zz Zz Zz Zz Zz Zz Zz Zz Zz ft Zz Zz sb rfl ?_
      refine w_u [1, 12] kr rfl ⟨?_, ?_, trivial⟩
      first | (refine zho ?_) | (refine w_y TT _ Zz Zz Zz Zz Zz Zz sd sb Zz Zz ?_; intro cap hcap) | refine w_B _ (hcell) Zz Zz Zz Zz Zz Zz Zz Zz Zz ft Zz Zz sb rfl ?_
      refine w_u [12] kr rfl ⟨?_, trivial⟩
      first | (refine zho ?_) | (refine w_y TT _ Zz Zz Zz Zz Zz Zz sd sb Zz Zz ?_; intro cap hcap) | refine w_B _ (hcell) Zz Zz Zz Zz Zz Zz Zz Zz Zz ft Zz Zz sb rfl ?_
      refine w_u [13] kr rfl ⟨?_, trivial⟩
      first | (refine zho ?_) | (refine w_y TT _ Zz Zz Zz Zz Zz Zz sd sb Zz Zz ?_; intro cap hcap) | refine w_B _ (hcell) Zz Zz Zz Zz Zz Zz Zz Zz Zz ft Zz Zz sb rfl ?_
      refine w_u [14] kr rfl ⟨?_, trivial⟩
      first | (refine zho ?_) | (refine w_y TT _ Zz Zz Zz Zz Zz Zz sd sb Zz Zz ?_; intro cap hcap) | refine w_B _ (hcell) Zz Zz Zz Zz Zz Zz Zz Zz Zz ft Zz Zz sb rfl ?_
      refine w_u [15] kr rfl ⟨?_, trivial⟩
      first | (refine zho ?_) | (refine w_y TT _ Zz Zz Zz Zz Zz Zz sd sb Zz Zz ?_; intro cap hcap) | refine w_B _ (hcell) Zz Zz Zz Zz Zz Zz Zz Zz Zz ft Zz Zz sb rfl ?_
      refine w_v kr ?_
      rotate_left
      first | (refine zho ?_) | (refine w_y TT _ Zz Zz Zz Zz Zz Zz sd sb Zz Zz ?_; intro cap hcap) | refine w_B _ (hcell) Zz Zz Zz Zz Zz Zz Zz Zz Zz ft Zz Zz sb rfl ?_
      refine w_u [1] kr rfl ⟨?_, trivial⟩
      first | (refine zho ?_) | (refine w_y TT _ Zz Zz Zz Zz Zz Zz sd sb Zz Zz ?_; intro cap hcap) | refine w_B _ (hcell) Zz Zz Zz Zz Zz Zz Zz Zz Zz ft Zz Zz sb rfl ?_
      refine w_u [13] kr rfl ⟨?_, trivial⟩
      first | (refine zho ?_) | (refine w_y TT _ Zz Zz Zz Zz Zz Zz sd sb Zz Zz ?_; intro cap hcap) | refine w_B _ (hcell) Zz Zz Zz Zz Zz Zz Zz Zz Zz ft Zz Zz sb rfl ?_
      refine w_u [14] kr rfl ⟨?_, trivial⟩
      first | (refine zho ?_) | (refine w_y TT _ Zz Zz Zz Zz Zz Zz sd sb Zz Zz ?_; intro cap hcap) | refine w_B _ (hcell) Zz Zz Zz Zz Zz Zz Zz Zz Zz ft Zz Zz sb rfl ?_
      refine w_u [15] kr rfl ⟨?_, trivial⟩
      first | (refine zho ?_) | (refine w_y TT _ Zz Zz Zz Zz Zz Zz sd sb Zz Zz ?_; intro cap hcap) | refine w_B _ (hcell) Zz Zz Zz Zz Zz Zz Zz Zz Zz ft Zz Zz sb rfl ?_
      refine w_v kr ?_
      rotate_left
      first | (refine zho ?_) | (refine w_y TT _ Zz Zz Zz Zz Zz Zz sd sb Zz Zz ?_; intro cap hcap) | refine w_B _ (hcell) Zz Zz Zz Zz Zz Zz Zz Zz Zz ft Zz Zz sb rfl ?_
      refine w_u [0, 12] kr rfl ⟨?_, ?_, trivial⟩
      first | (refine zho ?_) | (refine w_y TT _ Zz Zz Zz Zz Zz Zz sd sb Zz Zz ?_; intro cap hcap) | refine w_B _ (hcell) Zz Zz Zz Zz Zz Zz Zz Zz Zz ft Zz Zz sb rfl ?_
      refine w_u [1, 12] kr rfl ⟨?_, ?_, trivial⟩
      first | (refine zho ?_) | (refine w_y TT _ Zz Zz Zz Zz Zz Zz sd sb Zz Zz ?_; intro cap hcap) | refine w_B _ (hcell) Zz Zz Zz Zz Zz Zz Zz Zz Zz ft Zz Zz sb rfl ?_
      refine w_u [12] kr rfl ⟨?_, trivial⟩
      first | (refine zho ?_) | (refine w_y TT _ Zz Zz Zz Zz Zz Zz sd sb Zz Zz ?_; intro cap hcap) | refine w_B _ (hcell) Zz Zz Zz Zz Zz Zz Zz Zz Zz ft Zz Zz sb rfl ?_
      refine w_u [13] kr rfl ⟨?_, trivial⟩
      first | (refine zho ?_) | (refine w_y TT _ Zz Zz Zz Zz Zz Zz sd sb Zz Zz ?_; intro cap hcap) | refine w_B _ (hcell) Zz Zz Zz Zz Zz Zz Zz Zz Zz ft Zz Zz sb rfl ?_
      refine w_u [14] kr rfl ⟨?_, trivial⟩
      first | (refine zho ?_) | (refine w_y TT _ Zz Zz Zz Zz Zz Zz sd sb Zz Zz ?_; intro cap hcap) | refine w_B _ (hcell) Zz Zz Zz Zz Zz Zz Zz Zz Zz ft Zz Zz sb rfl ?_
      refine w_u [15] kr rfl ⟨?_, trivial⟩
      first | (refine zho ?_) | (refine w_y TT _ Zz Zz Zz Zz Zz Zz sd sb Zz Zz ?_; intro cap hcap) | refine w_B _ (hcell) Zz Zz Zz Zz Zz Zz Zz Zz Zz ft Zz Zz sb rfl ?_
      refine w_v kr ?_
      rotate_left
      first | (refine zho ?_) | (refine w_y TT _ Zz Zz Zz Zz Zz Zz sd sb Zz Zz ?_; intro cap hcap) | refine w_B _ (hcell) Zz Zz Zz Zz Zz Zz Zz Zz Zz ft Zz Zz sb rfl ?_
      refine w_u [1] kr rfl ⟨?_, trivial⟩
      first | (refine zho ?_) | (refine w_y TT _ Zz Zz Zz Zz Zz Zz sd sb Zz Zz ?_; intro cap hcap) | refine w_B _ (hcell) Zz Zz Zz Zz Zz Zz Zz Zz Zz ft Zz Zz sb rfl ?_
      refine w_u [13] kr rfl ⟨?_, trivial⟩
      first | (refine zho ?_) | (refine w_y TT _ Zz Zz Zz Zz Zz Zz sd sb Zz Zz ?_; intro cap hcap) | refine w_B _ (hcell) Zz Zz Zz Zz Zz Zz Zz Zz Zz ft Zz Zz sb rfl ?_
      refine w_u [14] kr rfl ⟨?_, trivial⟩
      first | (refine zho ?_) | (refine w_y TT _ Zz Zz Zz Zz Zz Zz sd sb Zz Zz ?_; intro cap hcap) | refine w_B _ (hcell) Zz Zz Zz Zz Zz Zz Zz Zz Zz ft Zz Zz sb rfl ?_
      refine w_u [15] kr rfl ⟨?_, trivial⟩
      first | (refine zho ?_) | (refine w_y TT _ Zz Zz Zz Zz Zz Zz sd sb Zz Zz ?_; intro cap hcap) | refine w_B _ (hcell) Zz Zz Zz Zz Zz Zz Zz Zz Zz ft Zz Zz sb rfl ?_
      refine w_v kr ?_
      rotate_left
      first | (refine zho ?_) | (refine w_y TT _ Zz Zz Zz Zz Zz Zz sd sb Zz Zz ?_; intro cap hcap) | refine w_B _ (hcell) Zz Zz Zz Zz Zz Zz Zz Zz Zz ft Zz Zz sb rfl ?_
      refine w_u [0] kr rfl ⟨?_, trivial⟩
      first | (refine zho ?_) | (refine w_y TT _ Zz Zz Zz Zz Zz Zz sd sb Zz Zz ?_; intro cap hcap) | refine w_B _ (hcell) Zz Zz Zz Zz Zz Zz Zz Zz Zz ft Zz Zz sb rfl ?_
      refine w_u [1] kr rfl ⟨?_, trivial⟩
      first | (refine zho ?_) | (refine w_y TT _ Zz Zz Zz Zz Zz Zz sd sb Zz Zz ?_; intro cap hcap) | refine w_B _ (hcell) Zz Zz Zz Zz Zz Zz Zz Zz Zz ft Zz Zz sb rfl ?_
      refine w_u [13] kr rfl ⟨?_, trivial⟩
      first | (refine zho ?_) | (refine w_y TT _ Zz Zz Zz Zz Zz Zz sd sb Zz Zz ?_; intro cap hcap) | refine w_B _ (hcell) Zz Zz Zz Zz Zz Zz Zz Zz Zz ft Zz Zz sb rfl ?_
      refine w_u [14] kr rfl ⟨?_, trivial⟩
      first | (refine zho ?_) | (refine w_y TT _ Zz Zz Zz Zz Zz Zz sd sb Zz Zz ?_; intro cap hcap) | refine w_B _ (hcell) Zz Zz Zz Zz Zz Zz Zz Zz Zz ft Zz Zz sb rfl ?_
      refine w_u [15] kr rfl ⟨?_, trivial⟩
      first | (refine zho ?_) | (refine w_y TT _ Zz Zz Zz Zz Zz Zz sd sb Zz Zz ?_; intro cap hcap) | refine w_B _ (hcell) Zz Zz Zz Zz Zz Zz Zz Zz Zz ft Zz Zz sb rfl ?_
      refine w_v kr ?_
      rotate_left
      all_goals ((repeat' (first | refine stx ?_ | (refine stq ?_ ?_ <;> (intro hc; ((try simp at hc) <;> try contradiction))) | fail)) <;> try (exfalso; omega))
      all_goals
        have el : (partP xs k is i j).length + 1 = (partP xs k is i (j + 1)).length := by rw [hnx]; simp
        exact ⟨[(7, 9)], (j + 1, cap), ⟨by dsimp only; omega, by dsimp only at hcap ⊢; omega⟩, w_4, ⟨w_1, ⟨rfl, rfl, rfl, rfl, rfl, own_litP rfl el, own_ints hnx.symm, trivial⟩, rfl⟩⟩
    · obtain rfl : j = k := by omega
      ((repeat' (first | refine stx ?_ | (refine stq ?_ ?_ <;> (intro hc; ((try simp at hc) <;> try contradiction))) | fail)) <;> try (exfalso; omega))
      have er := partP_row (xs := xs) (c := j) hik
      exact ⟨[], (i + 1, cap2), ⟨hik, by dsimp only; rw [← er]; exact hcap2⟩, w_4, by dsimp only; rw [← er]; exact ⟨w_1, w_2, rfl⟩⟩
  · obtain rfl : i = is.length := by omega
    rw [List.take_length] at hcap
    ((repeat' (first | refine stx ?_ | (refine stq ?_ ?_ <;> (intro hc; ((try simp at hc) <;> try contradiction))) | fail)) <;> try (exfalso; omega))
    exact fin rfl w_3 [(4, 7)] (.agg [.int is.length, .int k, .sl 4 1 0 (pickR xs k is).length cap]) [(4, .own 3 cap (.ints (pickR xs k is)))] 5 ⟨cap, hcap, rfl, rfl, rfl⟩ (by rw [List.take_length]; rfl) ⟨trivial, ⟨own_ints (by rw [List.take_length]), trivial⟩, rfl⟩ rfl
end Go.Proofs.YtfkbjkmlpinoeaaGreat
