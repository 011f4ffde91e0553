/-
  TEXTS OF THE PROOF, put together: bRaysS, bRaysP, bExtr.
-/
import Derived.Test.YtfkbjkmlpinoeaaGreatR24
import Derived.Test.YtfkbjkmlpinoeaaGreatR25
import Derived.Test.YtfkbjkmlpinoeaaGreatR28
import Derived.Test.YtfkbjkmlpinoeaaGreatR29
import Derived.Test.YtfkbjkmlpinoeaaGreatR22
set_option linter.unusedVariables false
set_option linter.unusedSimpArgs false
namespace Go.Proofs.YtfkbjkmlpinoeaaGreat
open Go.RowKit
def raysT (r c : Int) (xs : List Int) : Option (List Int × Nat) := (raysO r c xs).map fun L => (L.flatten, L.length)
def sgL (i : Nat) (ys : List Int) : List Int := ys.map fun y => (1 - 2 * (i : Int)) * y
theorem sgL_two {i : Nat} {ys : List Int} (hi : i < 2) : sgL i ys = ([ys, ys.map fun x => -x]).getD i [] := by
  have : i = 0 ∨ i = 1 := by omega
  rcases this with rfl | rfl
  · simp [sgL]
  · show (ys.map fun y => (1 - 2 * ((1 : Nat) : Int)) * y) = ys.map fun x => -x
    exact List.map_congr_left fun y _ => by omega
set_option maxRecDepth 100000 in
set_option maxHeartbeats 8000000 in
theorem d_raysS (r c : Int) (xs : List Int) (ca : Nat) (hl : xs.length ≤ 1099511627776) : Does Tryz.prog 13 [vM r c 1 xs.length ca] [(1, .ro (.ints xs))] 2 (BasR 3 c (raysT r c xs) 2) := by
 refine Does.intro TT Tryz.func13 rfl (by kernel_rfl) Zz Zz fun E hE => ?_
 have hpt := d_pointS r c xs ca hl
 cases hp : pointB r c xs
 ·have hR : raysT r c xs = none := by simp [raysT, raysO, hp]
  rw [hR]
  rw [hp] at hpt
  ((repeat' (first | refine stx ?_ | (first | refine w_z (hpt) Zz Zz Zz Zz Zz Zz Zz Zz ft Zz Zz ?_ | refine w_A (hpt) Zz Zz Zz Zz Zz Zz Zz Zz ft Zz Zz ?_) | (refine stq ?_ ?_ <;> (intro hc; ((try simp at hc) <;> try contradiction))) | fail)) <;> try (exfalso; omega))
  exact fin rfl w_3 [] (.tup [.agg zeroM, .one (.bool false)]) [] 2 ⟨rfl, rfl, rfl⟩ rfl ⟨trivial, trivial, rfl⟩ rfl
 ·rw [hp] at hpt
  have hC : coneM r c xs = true := by
   unfold pointB at hp
   split at hp
   ·simp only [Bool.and_eq_true] at hp; exact hp.1
   ·cases hp
  obtain ⟨a, b, rfl, rfl, ha, hb1, hb, hx, hnum⟩ := coneM_dims hC
  have e1 : ((b : Int) - 1) = ((b - 1 : Nat) : Int) := by omega
  have hch := d_subsets a (b - 1) ha (by omega)
  rw [← e1] at hch
  have hR : raysT a b xs = (rawO a b xs).map fun l => ((addsL l).flatten, (addsL l).length) := by
   rw [raysT, raysO, if_pos hp]
   simp only [Int.toNat_natCast, Option.map_map]; rfl
  rw [hR]
  ((repeat' (first | refine stx ?_ | (first | refine w_z (hpt) Zz Zz Zz Zz Zz Zz Zz Zz ft Zz Zz ?_ | refine w_A (hpt) Zz Zz Zz Zz Zz Zz Zz Zz ft Zz Zz ?_) | ((refine w_E (hch) Zz Zz Zz Zz Zz Zz Zz ft rfl ?_); rintro v Hout n1 ⟨l, capc, hlc, rfl, rfl, rfl⟩) | (refine stq ?_ ?_ <;> (intro hc; ((try simp at hc) <;> try contradiction))) | fail)) <;> try (exfalso; omega))
  refine awp_nil (k := 4) (f := 2) (sz := 1) (et := 3) (e0 := .ints []) Zz Zz Zz Zz (fun _ h => by cases h) ?_
  have hll := rowsX_len hlc
  have hlb := (chTo_len ha (k := b - 1) (by omega)).1
  rw [← hll] at hlb
  refine w_G hE (fun x : Nat × Nat => x.1 ≤ b ∧ x.1 ≤ x.2) (fun x => b - x.1)
   (fun x => [(1, .one (.ptr 2 3 0 0)), (2, .one (.ptr 3 3 0 0)), (4, .one (.ptr 4 3 0 0)), (5, vS 5 1 0 l.length capc), (6, vS 7 1 0 x.1 x.2), (7, vI x.1)])
   (fun x => [(1, .ro (.ints xs)), (2, .own 26 1 (.lit [.int a, .int b, .sl 1 1 0 xs.length ca])), (3, .own 26 1 (.lit zeroM)), (4, .own 26 1 (.lit [.int 0, .int b, .sl 8 1 0 0 0])), (5, .own 24 capc (.rows false true l)), (6, .tok 3 false l), (7, .own 3 x.2 (.ints (natsI (List.range x.1)))), (8, .own 3 0 (.ints []))]) 9 [] (0, 0) ⟨Nat.zero_le _, Nat.zero_le _⟩ ⟨w_1, w_2, rfl⟩ ?_
  rintro ⟨jj, capd⟩ ⟨hjj, hcapd⟩
  dsimp only at hjj hcapd
  have hnr : (natsI (List.range jj)).length = jj := by rw [natsI_len, List.length_range]
  by_cases hjb : jj < b
  ·((repeat' (first | refine stx ?_ | (refine w_x TT Zz Zz Zz Zz Zz sd ?_; intro cap hcap) | (refine stq ?_ ?_ <;> (intro hc; ((try simp at hc) <;> try contradiction))) | fail)) <;> try (exfalso; omega))
   exact ⟨[(7, 10)], (jj + 1, cap), ⟨hjb, by dsimp only at hcap ⊢; omega⟩, w_4, ⟨w_1, ⟨rfl, rfl, rfl, rfl, rfl, rfl, own_ints (by dsimp only; rw [natsI_snoc]; rfl), rfl, trivial⟩, rfl⟩⟩
  ·obtain rfl : jj = b := by omega
   ((repeat' (first | refine stx ?_ | (refine stq ?_ ?_ <;> (intro hc; ((try simp at hc) <;> try contradiction))) | fail)) <;> try (exfalso; omega))
   refine w_G hE (fun x : Nat × List (List Int) × Nat => x.1 ≤ l.length ∧ candTo a jj xs (chTo a (jj - 1)) x.1 = some x.2.1 ∧ (addsL x.2.1).flatten.length ≤ x.2.2) (fun x => l.length - x.1)
    (fun x => [(1, .one (.ptr 2 3 0 0)), (2, .one (.ptr 3 3 0 0)), (4, .one (.ptr 4 3 0 0)), (5, vS 5 1 0 l.length capc), (6, vS 7 1 0 jj capd), (8, vI x.1)])
    (fun x => [(1, .ro (.ints xs)), (2, .own 26 1 (.lit [.int a, .int jj, .sl 1 1 0 xs.length ca])), (3, .own 26 1 (.lit zeroM)), (4, .own 26 1 (.lit [.int (addsL x.2.1).length, .int jj, .sl 8 1 0 (addsL x.2.1).flatten.length x.2.2])), (5, .own 24 capc (.rows false true l)), (6, .tok 3 false l), (7, .own 3 capd (.ints (natsI (List.range jj)))), (8, .own 3 x.2.2 (.ints (addsL x.2.1).flatten))]) 9 [] (0, [], 0) ⟨Nat.zero_le _, rfl, Nat.zero_le _⟩ ⟨w_1, w_2, rfl⟩ ?_
   rintro ⟨s, raw, capo⟩ ⟨hs, hraw, hcapo⟩
   dsimp only at hs hraw hcapo
   have hrl := candTo_len hraw
   by_cases hsl : s < l.length
   ·obtain ⟨hvx, hvm, hvn⟩ := chRow hlc hsl
    have hnat := nats_of hvm
    obtain ⟨n1, n2⟩ := ch_rows hvm
    have hz0 := cand_zeros hx hnum hb1 (by omega) hvm
    have hpl := pickR_len hx n2
    have hcs : candTo a jj xs (chTo a (jj - 1)) (s + 1) = (candO a jj xs ((chTo a (jj - 1)).getD s [])).map fun y => raw ++ y := by rw [candTo, hraw, Option.bind_some]
    have hpt2 := fun cp m hm => d_part a jj xs (natsOf ((chTo a (jj - 1)).getD s [])) ca cp capd xs.length m jj rfl hm rfl hx (by omega) (by omega) n2 (by omega)
    have hpt2 := fun cp => hpt2 cp (l.getD (0 + (s : Int).toNat) rowD).xs.length (by rw [hvx, hvn, n1])
    have hzr := fun cx => d_zerosS ((jj - 1 : Nat) : Int) jj (pickR xs jj (natsOf ((chTo a (jj - 1)).getD s []))) cx (by rw [hpl, n1]; have := Nat.mul_le_mul (show jj - 1 ≤ 2 by omega) hb; omega)
    rw [hnat, n1] at hpt2
    rw [hz0] at hzr
    unfold candO at hcs
    generalize hP : pickR xs jj (natsOf ((chTo a (jj - 1)).getD s [])) = P at *
    rw [← hvx] at hpt2
    cases hk : kerO jj (jj - 1) (turnM P (jj - 1) jj) with
    | none =>
     rw [hk] at hzr hcs
     have hno : rawO a jj xs = none := by
      have := candTo_none hcs ((chTo a (jj - 1)).length - (s + 1))
      rw [show s + 1 + ((chTo a (jj - 1)).length - (s + 1)) = (chTo a (jj - 1)).length by omega] at this
      exact this
     rw [hno]
     ((repeat' (first | (refine awp_cutR 13 hE (fun _ : Unit => True) (fun _ => [(2, .one (.ptr 3 3 0 0)), (10, vB false)]) (fun _ => [(1, .ro (.ints xs)), (3, .own 26 1 (.lit zeroM))]) 9 ?_ ?_) | refine stp ?_ | (refine stq ?_ ?_ <;> (intro hc; ((try simp at hc) <;> try contradiction))) | fail)) <;> try (exfalso; omega))
     ·refine awp_held TM [(2, _), (5, _)] sb rfl (fun ρs => ?_)
      refine zt0 ?_
      refine zt1 ?_
      refine zt2 ?_
      refine zt3 ?_
      refine zt5 ?_
      refine w_u [4, 11] kr rfl ⟨?_, ?_, trivial⟩
      first | (refine zho ?_) | (refine w_F _ (hpt2 _) Zz Zz Zz Zz Zz Zz Zz Zz ft Zz Zz ?_; rintro v Hout n1 ⟨cap, hcap, rfl, rfl, rfl⟩; refine ⟨sb, ?_⟩) | (refine w_F _ (hzr _) Zz Zz Zz Zz Zz Zz Zz Zz ft Zz Zz ?_; rintro v Hout n1 ⟨rfl, rfl, rfl⟩; refine ⟨sb, ?_⟩)
      refine w_u [6, 11] kr rfl ⟨?_, ?_, trivial⟩
      first | (refine zho ?_) | (refine w_F _ (hpt2 _) Zz Zz Zz Zz Zz Zz Zz Zz ft Zz Zz ?_; rintro v Hout n1 ⟨cap, hcap, rfl, rfl, rfl⟩; refine ⟨sb, ?_⟩) | (refine w_F _ (hzr _) Zz Zz Zz Zz Zz Zz Zz Zz ft Zz Zz ?_; rintro v Hout n1 ⟨rfl, rfl, rfl⟩; refine ⟨sb, ?_⟩)
      refine w_u [7, 11] kr rfl ⟨?_, ?_, trivial⟩
      first | (refine zho ?_) | (refine w_F _ (hpt2 _) Zz Zz Zz Zz Zz Zz Zz Zz ft Zz Zz ?_; rintro v Hout n1 ⟨cap, hcap, rfl, rfl, rfl⟩; refine ⟨sb, ?_⟩) | (refine w_F _ (hzr _) Zz Zz Zz Zz Zz Zz Zz Zz ft Zz Zz ?_; rintro v Hout n1 ⟨rfl, rfl, rfl⟩; refine ⟨sb, ?_⟩)
      refine zt8 ?_
      refine zt9 ?_
      refine zt10 ?_
      refine w_u [11] kr rfl ⟨?_, trivial⟩
      first | (refine zho ?_) | (refine w_F _ (hpt2 _) Zz Zz Zz Zz Zz Zz Zz Zz ft Zz Zz ?_; rintro v Hout n1 ⟨cap, hcap, rfl, rfl, rfl⟩; refine ⟨sb, ?_⟩) | (refine w_F _ (hzr _) Zz Zz Zz Zz Zz Zz Zz Zz ft Zz Zz ?_; rintro v Hout n1 ⟨rfl, rfl, rfl⟩; refine ⟨sb, ?_⟩)
      refine w_u [12] kr rfl ⟨?_, trivial⟩
      first | (refine zho ?_) | (refine w_F _ (hpt2 _) Zz Zz Zz Zz Zz Zz Zz Zz ft Zz Zz ?_; rintro v Hout n1 ⟨cap, hcap, rfl, rfl, rfl⟩; refine ⟨sb, ?_⟩) | (refine w_F _ (hzr _) Zz Zz Zz Zz Zz Zz Zz Zz ft Zz Zz ?_; rintro v Hout n1 ⟨rfl, rfl, rfl⟩; refine ⟨sb, ?_⟩)
      refine zt13 ?_
      refine w_v kr ?_
      rotate_left
      first | (refine zho ?_) | (refine w_F _ (hpt2 _) Zz Zz Zz Zz Zz Zz Zz Zz ft Zz Zz ?_; rintro v Hout n1 ⟨cap, hcap, rfl, rfl, rfl⟩; refine ⟨sb, ?_⟩) | (refine w_F _ (hzr _) Zz Zz Zz Zz Zz Zz Zz Zz ft Zz Zz ?_; rintro v Hout n1 ⟨rfl, rfl, rfl⟩; refine ⟨sb, ?_⟩)
      refine w_u [7] kr rfl ⟨?_, trivial⟩
      first | (refine zho ?_) | (refine w_F _ (hpt2 _) Zz Zz Zz Zz Zz Zz Zz Zz ft Zz Zz ?_; rintro v Hout n1 ⟨cap, hcap, rfl, rfl, rfl⟩; refine ⟨sb, ?_⟩) | (refine w_F _ (hzr _) Zz Zz Zz Zz Zz Zz Zz Zz ft Zz Zz ?_; rintro v Hout n1 ⟨rfl, rfl, rfl⟩; refine ⟨sb, ?_⟩)
      refine zt8 ?_
      refine zt9 ?_
      refine zt10 ?_
      refine w_u [12] kr rfl ⟨?_, trivial⟩
      first | (refine zho ?_) | (refine w_F _ (hpt2 _) Zz Zz Zz Zz Zz Zz Zz Zz ft Zz Zz ?_; rintro v Hout n1 ⟨cap, hcap, rfl, rfl, rfl⟩; refine ⟨sb, ?_⟩) | (refine w_F _ (hzr _) Zz Zz Zz Zz Zz Zz Zz Zz ft Zz Zz ?_; rintro v Hout n1 ⟨rfl, rfl, rfl⟩; refine ⟨sb, ?_⟩)
      refine zt13 ?_
      refine w_v kr ?_
      rotate_left
      first | (refine zho ?_) | (refine w_F _ (hpt2 _) Zz Zz Zz Zz Zz Zz Zz Zz ft Zz Zz ?_; rintro v Hout n1 ⟨cap, hcap, rfl, rfl, rfl⟩; refine ⟨sb, ?_⟩) | (refine w_F _ (hzr _) Zz Zz Zz Zz Zz Zz Zz Zz ft Zz Zz ?_; rintro v Hout n1 ⟨rfl, rfl, rfl⟩; refine ⟨sb, ?_⟩)
      refine w_u [6] kr rfl ⟨?_, trivial⟩
      first | (refine zho ?_) | (refine w_F _ (hpt2 _) Zz Zz Zz Zz Zz Zz Zz Zz ft Zz Zz ?_; rintro v Hout n1 ⟨cap, hcap, rfl, rfl, rfl⟩; refine ⟨sb, ?_⟩) | (refine w_F _ (hzr _) Zz Zz Zz Zz Zz Zz Zz Zz ft Zz Zz ?_; rintro v Hout n1 ⟨rfl, rfl, rfl⟩; refine ⟨sb, ?_⟩)
      refine w_u [7] kr rfl ⟨?_, trivial⟩
      first | (refine zho ?_) | (refine w_F _ (hpt2 _) Zz Zz Zz Zz Zz Zz Zz Zz ft Zz Zz ?_; rintro v Hout n1 ⟨cap, hcap, rfl, rfl, rfl⟩; refine ⟨sb, ?_⟩) | (refine w_F _ (hzr _) Zz Zz Zz Zz Zz Zz Zz Zz ft Zz Zz ?_; rintro v Hout n1 ⟨rfl, rfl, rfl⟩; refine ⟨sb, ?_⟩)
      refine zt8 ?_
      refine zt9 ?_
      refine zt10 ?_
      refine w_u [12] kr rfl ⟨?_, trivial⟩
      first | (refine zho ?_) | (refine w_F _ (hpt2 _) Zz Zz Zz Zz Zz Zz Zz Zz ft Zz Zz ?_; rintro v Hout n1 ⟨cap, hcap, rfl, rfl, rfl⟩; refine ⟨sb, ?_⟩) | (refine w_F _ (hzr _) Zz Zz Zz Zz Zz Zz Zz Zz ft Zz Zz ?_; rintro v Hout n1 ⟨rfl, rfl, rfl⟩; refine ⟨sb, ?_⟩)
      refine zt13 ?_
      refine w_v kr ?_
      rotate_left
      first | (refine zho ?_) | (refine w_F _ (hpt2 _) Zz Zz Zz Zz Zz Zz Zz Zz ft Zz Zz ?_; rintro v Hout n1 ⟨cap, hcap, rfl, rfl, rfl⟩; refine ⟨sb, ?_⟩) | (refine w_F _ (hzr _) Zz Zz Zz Zz Zz Zz Zz Zz ft Zz Zz ?_; rintro v Hout n1 ⟨rfl, rfl, rfl⟩; refine ⟨sb, ?_⟩)
      refine w_u [4] kr rfl ⟨?_, trivial⟩
      first | (refine zho ?_) | (refine w_F _ (hpt2 _) Zz Zz Zz Zz Zz Zz Zz Zz ft Zz Zz ?_; rintro v Hout n1 ⟨cap, hcap, rfl, rfl, rfl⟩; refine ⟨sb, ?_⟩) | (refine w_F _ (hzr _) Zz Zz Zz Zz Zz Zz Zz Zz ft Zz Zz ?_; rintro v Hout n1 ⟨rfl, rfl, rfl⟩; refine ⟨sb, ?_⟩)
      refine w_u [6] kr rfl ⟨?_, trivial⟩
      first | (refine zho ?_) | (refine w_F _ (hpt2 _) Zz Zz Zz Zz Zz Zz Zz Zz ft Zz Zz ?_; rintro v Hout n1 ⟨cap, hcap, rfl, rfl, rfl⟩; refine ⟨sb, ?_⟩) | (refine w_F _ (hzr _) Zz Zz Zz Zz Zz Zz Zz Zz ft Zz Zz ?_; rintro v Hout n1 ⟨rfl, rfl, rfl⟩; refine ⟨sb, ?_⟩)
      refine w_u [7] kr rfl ⟨?_, trivial⟩
      first | (refine zho ?_) | (refine w_F _ (hpt2 _) Zz Zz Zz Zz Zz Zz Zz Zz ft Zz Zz ?_; rintro v Hout n1 ⟨cap, hcap, rfl, rfl, rfl⟩; refine ⟨sb, ?_⟩) | (refine w_F _ (hzr _) Zz Zz Zz Zz Zz Zz Zz Zz ft Zz Zz ?_; rintro v Hout n1 ⟨rfl, rfl, rfl⟩; refine ⟨sb, ?_⟩)
      refine zt8 ?_
      refine zt9 ?_
      refine zt10 ?_
      refine w_u [12] kr rfl ⟨?_, trivial⟩
      first | (refine zho ?_) | (refine w_F _ (hpt2 _) Zz Zz Zz Zz Zz Zz Zz Zz ft Zz Zz ?_; rintro v Hout n1 ⟨cap, hcap, rfl, rfl, rfl⟩; refine ⟨sb, ?_⟩) | (refine w_F _ (hzr _) Zz Zz Zz Zz Zz Zz Zz Zz ft Zz Zz ?_; rintro v Hout n1 ⟨rfl, rfl, rfl⟩; refine ⟨sb, ?_⟩)
      refine zt13 ?_
      refine w_v kr ?_
      rotate_left
      all_goals exact ⟨[], (), trivial, ⟨w_1, w_2, rfl⟩⟩
     rintro ⟨⟩ -
     ((repeat' (first | refine stx ?_ | (refine stq ?_ ?_ <;> (intro hc; ((try simp at hc) <;> try contradiction))) | fail)) <;> try (exfalso; omega))
     exact fin rfl w_3 [] (.tup [.agg zeroM, .one (.bool false)]) [] 2 ⟨rfl, rfl, rfl⟩ rfl ⟨trivial, trivial, rfl⟩ rfl
    | some st =>
     obtain ⟨ys, t⟩ := st
     rw [hk] at hzr hcs
     dsimp only [Option.map_some] at hcs
     ((repeat' (first | (refine awp_cutR 13 hE (fun z : Nat => ys.length ≤ z) (fun _ => [(1, .one (.ptr 2 3 0 0)), (2, .one (.ptr 3 3 0 0)), (4, .one (.ptr 4 3 0 0)), (5, vS 5 1 0 l.length capc), (6, vS 7 1 0 jj capd), (8, vI s), (9, .one (.ptr 10 3 0 0)), (10, vB true)]) (fun z => [(1, .ro (.ints xs)), (2, .own 26 1 (.lit [.int a, .int jj, .sl 1 1 0 xs.length ca])), (3, .own 26 1 (.lit zeroM)), (4, .own 26 1 (.lit [.int (addsL raw).length, .int jj, .sl 8 1 0 (addsL raw).flatten.length capo])), (5, .own 24 capc (.rows false true l)), (6, .tok 3 false l), (7, .own 3 capd (.ints (natsI (List.range jj)))), (8, .own 3 capo (.ints (addsL raw).flatten)), (9, .own 3 z (.ints ys)), (10, .own 26 1 (.lit [.int t, .int jj, .sl 9 1 0 ys.length z]))]) 11 ?_ ?_) | refine stp ?_ | (refine stq ?_ ?_ <;> (intro hc; ((try simp at hc) <;> try contradiction))) | fail)) <;> try (exfalso; omega))
     ·refine awp_held TM [(2, _), (5, _)] sb rfl (fun ρs => ?_)
      refine zt0 ?_
      refine zt1 ?_
      refine zt2 ?_
      refine zt3 ?_
      refine zt5 ?_
      refine w_u [4, 11] kr rfl ⟨?_, ?_, trivial⟩
      first | (refine zho ?_) | (refine w_F _ (hpt2 _) Zz Zz Zz Zz Zz Zz Zz Zz ft Zz Zz ?_; rintro v Hout n1 ⟨cap, hcap, rfl, rfl, rfl⟩; refine ⟨sb, ?_⟩) | (refine w_F _ (hzr _) Zz Zz Zz Zz Zz Zz Zz Zz ft Zz Zz ?_; rintro v Hout n1 ⟨cap2, hcap2, rfl, rfl, rfl⟩; refine ⟨sb, ?_⟩)
      refine w_u [6, 11] kr rfl ⟨?_, ?_, trivial⟩
      first | (refine zho ?_) | (refine w_F _ (hpt2 _) Zz Zz Zz Zz Zz Zz Zz Zz ft Zz Zz ?_; rintro v Hout n1 ⟨cap, hcap, rfl, rfl, rfl⟩; refine ⟨sb, ?_⟩) | (refine w_F _ (hzr _) Zz Zz Zz Zz Zz Zz Zz Zz ft Zz Zz ?_; rintro v Hout n1 ⟨cap2, hcap2, rfl, rfl, rfl⟩; refine ⟨sb, ?_⟩)
      refine w_u [7, 11] kr rfl ⟨?_, ?_, trivial⟩
      first | (refine zho ?_) | (refine w_F _ (hpt2 _) Zz Zz Zz Zz Zz Zz Zz Zz ft Zz Zz ?_; rintro v Hout n1 ⟨cap, hcap, rfl, rfl, rfl⟩; refine ⟨sb, ?_⟩) | (refine w_F _ (hzr _) Zz Zz Zz Zz Zz Zz Zz Zz ft Zz Zz ?_; rintro v Hout n1 ⟨cap2, hcap2, rfl, rfl, rfl⟩; refine ⟨sb, ?_⟩)
      refine zt8 ?_
      refine zt9 ?_
      refine zt10 ?_
      refine w_u [11] kr rfl ⟨?_, trivial⟩
      first | (refine zho ?_) | (refine w_F _ (hpt2 _) Zz Zz Zz Zz Zz Zz Zz Zz ft Zz Zz ?_; rintro v Hout n1 ⟨cap, hcap, rfl, rfl, rfl⟩; refine ⟨sb, ?_⟩) | (refine w_F _ (hzr _) Zz Zz Zz Zz Zz Zz Zz Zz ft Zz Zz ?_; rintro v Hout n1 ⟨cap2, hcap2, rfl, rfl, rfl⟩; refine ⟨sb, ?_⟩)
      refine w_u [12] kr rfl ⟨?_, trivial⟩
      first | (refine zho ?_) | (refine w_F _ (hpt2 _) Zz Zz Zz Zz Zz Zz Zz Zz ft Zz Zz ?_; rintro v Hout n1 ⟨cap, hcap, rfl, rfl, rfl⟩; refine ⟨sb, ?_⟩) | (refine w_F _ (hzr _) Zz Zz Zz Zz Zz Zz Zz Zz ft Zz Zz ?_; rintro v Hout n1 ⟨cap2, hcap2, rfl, rfl, rfl⟩; refine ⟨sb, ?_⟩)
      refine zt13 ?_
      refine w_v kr ?_
      rotate_left
      first | (refine zho ?_) | (refine w_F _ (hpt2 _) Zz Zz Zz Zz Zz Zz Zz Zz ft Zz Zz ?_; rintro v Hout n1 ⟨cap, hcap, rfl, rfl, rfl⟩; refine ⟨sb, ?_⟩) | (refine w_F _ (hzr _) Zz Zz Zz Zz Zz Zz Zz Zz ft Zz Zz ?_; rintro v Hout n1 ⟨cap2, hcap2, rfl, rfl, rfl⟩; refine ⟨sb, ?_⟩)
      refine w_u [7] kr rfl ⟨?_, trivial⟩
      first | (refine zho ?_) | (refine w_F _ (hpt2 _) Zz Zz Zz Zz Zz Zz Zz Zz ft Zz Zz ?_; rintro v Hout n1 ⟨cap, hcap, rfl, rfl, rfl⟩; refine ⟨sb, ?_⟩) | (refine w_F _ (hzr _) Zz Zz Zz Zz Zz Zz Zz Zz ft Zz Zz ?_; rintro v Hout n1 ⟨cap2, hcap2, rfl, rfl, rfl⟩; refine ⟨sb, ?_⟩)
      refine zt8 ?_
      refine zt9 ?_
      refine zt10 ?_
      refine w_u [12] kr rfl ⟨?_, trivial⟩
      first | (refine zho ?_) | (refine w_F _ (hpt2 _) Zz Zz Zz Zz Zz Zz Zz Zz ft Zz Zz ?_; rintro v Hout n1 ⟨cap, hcap, rfl, rfl, rfl⟩; refine ⟨sb, ?_⟩) | (refine w_F _ (hzr _) Zz Zz Zz Zz Zz Zz Zz Zz ft Zz Zz ?_; rintro v Hout n1 ⟨cap2, hcap2, rfl, rfl, rfl⟩; refine ⟨sb, ?_⟩)
      refine zt13 ?_
      refine w_v kr ?_
      rotate_left
      first | (refine zho ?_) | (refine w_F _ (hpt2 _) Zz Zz Zz Zz Zz Zz Zz Zz ft Zz Zz ?_; rintro v Hout n1 ⟨cap, hcap, rfl, rfl, rfl⟩; refine ⟨sb, ?_⟩) | (refine w_F _ (hzr _) Zz Zz Zz Zz Zz Zz Zz Zz ft Zz Zz ?_; rintro v Hout n1 ⟨cap2, hcap2, rfl, rfl, rfl⟩; refine ⟨sb, ?_⟩)
      refine w_u [6] kr rfl ⟨?_, trivial⟩
      first | (refine zho ?_) | (refine w_F _ (hpt2 _) Zz Zz Zz Zz Zz Zz Zz Zz ft Zz Zz ?_; rintro v Hout n1 ⟨cap, hcap, rfl, rfl, rfl⟩; refine ⟨sb, ?_⟩) | (refine w_F _ (hzr _) Zz Zz Zz Zz Zz Zz Zz Zz ft Zz Zz ?_; rintro v Hout n1 ⟨cap2, hcap2, rfl, rfl, rfl⟩; refine ⟨sb, ?_⟩)
      refine w_u [7] kr rfl ⟨?_, trivial⟩
      first | (refine zho ?_) | (refine w_F _ (hpt2 _) Zz Zz Zz Zz Zz Zz Zz Zz ft Zz Zz ?_; rintro v Hout n1 ⟨cap, hcap, rfl, rfl, rfl⟩; refine ⟨sb, ?_⟩) | (refine w_F _ (hzr _) Zz Zz Zz Zz Zz Zz Zz Zz ft Zz Zz ?_; rintro v Hout n1 ⟨cap2, hcap2, rfl, rfl, rfl⟩; refine ⟨sb, ?_⟩)
      refine zt8 ?_
      refine zt9 ?_
      refine zt10 ?_
      refine w_u [12] kr rfl ⟨?_, trivial⟩
      first | (refine zho ?_) | (refine w_F _ (hpt2 _) Zz Zz Zz Zz Zz Zz Zz Zz ft Zz Zz ?_; rintro v Hout n1 ⟨cap, hcap, rfl, rfl, rfl⟩; refine ⟨sb, ?_⟩) | (refine w_F _ (hzr _) Zz Zz Zz Zz Zz Zz Zz Zz ft Zz Zz ?_; rintro v Hout n1 ⟨cap2, hcap2, rfl, rfl, rfl⟩; refine ⟨sb, ?_⟩)
      refine zt13 ?_
      refine w_v kr ?_
      rotate_left
      first | (refine zho ?_) | (refine w_F _ (hpt2 _) Zz Zz Zz Zz Zz Zz Zz Zz ft Zz Zz ?_; rintro v Hout n1 ⟨cap, hcap, rfl, rfl, rfl⟩; refine ⟨sb, ?_⟩) | (refine w_F _ (hzr _) Zz Zz Zz Zz Zz Zz Zz Zz ft Zz Zz ?_; rintro v Hout n1 ⟨cap2, hcap2, rfl, rfl, rfl⟩; refine ⟨sb, ?_⟩)
      refine w_u [4] kr rfl ⟨?_, trivial⟩
      first | (refine zho ?_) | (refine w_F _ (hpt2 _) Zz Zz Zz Zz Zz Zz Zz Zz ft Zz Zz ?_; rintro v Hout n1 ⟨cap, hcap, rfl, rfl, rfl⟩; refine ⟨sb, ?_⟩) | (refine w_F _ (hzr _) Zz Zz Zz Zz Zz Zz Zz Zz ft Zz Zz ?_; rintro v Hout n1 ⟨cap2, hcap2, rfl, rfl, rfl⟩; refine ⟨sb, ?_⟩)
      refine w_u [6] kr rfl ⟨?_, trivial⟩
      first | (refine zho ?_) | (refine w_F _ (hpt2 _) Zz Zz Zz Zz Zz Zz Zz Zz ft Zz Zz ?_; rintro v Hout n1 ⟨cap, hcap, rfl, rfl, rfl⟩; refine ⟨sb, ?_⟩) | (refine w_F _ (hzr _) Zz Zz Zz Zz Zz Zz Zz Zz ft Zz Zz ?_; rintro v Hout n1 ⟨cap2, hcap2, rfl, rfl, rfl⟩; refine ⟨sb, ?_⟩)
      refine w_u [7] kr rfl ⟨?_, trivial⟩
      first | (refine zho ?_) | (refine w_F _ (hpt2 _) Zz Zz Zz Zz Zz Zz Zz Zz ft Zz Zz ?_; rintro v Hout n1 ⟨cap, hcap, rfl, rfl, rfl⟩; refine ⟨sb, ?_⟩) | (refine w_F _ (hzr _) Zz Zz Zz Zz Zz Zz Zz Zz ft Zz Zz ?_; rintro v Hout n1 ⟨cap2, hcap2, rfl, rfl, rfl⟩; refine ⟨sb, ?_⟩)
      refine zt8 ?_
      refine zt9 ?_
      refine zt10 ?_
      refine w_u [12] kr rfl ⟨?_, trivial⟩
      first | (refine zho ?_) | (refine w_F _ (hpt2 _) Zz Zz Zz Zz Zz Zz Zz Zz ft Zz Zz ?_; rintro v Hout n1 ⟨cap, hcap, rfl, rfl, rfl⟩; refine ⟨sb, ?_⟩) | (refine w_F _ (hzr _) Zz Zz Zz Zz Zz Zz Zz Zz ft Zz Zz ?_; rintro v Hout n1 ⟨cap2, hcap2, rfl, rfl, rfl⟩; refine ⟨sb, ?_⟩)
      refine zt13 ?_
      refine w_v kr ?_
      rotate_left
      ·exact ⟨[(9, 11), (10, 12)], cap2, hcap2, ⟨w_1, w_2, rfl⟩⟩
      ·exact ⟨[(9, 12), (10, 11)], cap2, hcap2, ⟨w_1, w_2, rfl⟩⟩
      ·exact ⟨[(9, 12), (10, 10)], cap2, hcap2, ⟨w_1, w_2, rfl⟩⟩
      ·exact ⟨[(9, 12), (10, 9)], cap2, hcap2, ⟨w_1, w_2, rfl⟩⟩
     rintro zc hzc
     try dsimp only at hzc ⊢
     by_cases ht : t = 1
     ·subst ht
      rw [if_pos rfl] at hcs
      obtain ⟨hyl, hyn, -⟩ := one_ker (k := jj - 1) hx hnum hvm (by rw [hP]; exact hk)
      have hrow0 := candTo_row hx hnum hC hb1 (by omega) hraw
      have hadl := adds_le raw []
      have hadl : (addsL raw).length ≤ 128 := by have h1 : (addsL raw).length ≤ 0 + raw.length := hadl; omega
      ((repeat' (first | refine stx ?_ | (refine stq ?_ ?_ <;> (intro hc; ((try simp at hc) <;> try contradiction))) | fail)) <;> try (exfalso; omega))
      refine w_G hE (fun x : Nat × List (List Int) × Nat => x.1 ≤ 2 ∧ x.2.1 = ((([ys, ys.map fun x => -x]).take x.1).filter fun v => inConeB a jj xs v).foldl addL (addsL raw) ∧ x.2.1.flatten.length ≤ x.2.2) (fun x => 2 - x.1)
       (fun x => [(1, .one (.ptr 2 3 0 0)), (2, .one (.ptr 3 3 0 0)), (4, .one (.ptr 4 3 0 0)), (5, vS 5 1 0 l.length capc), (6, vS 7 1 0 jj capd), (8, vI s), (9, .one (.ptr 10 3 0 0)), (11, vI (1 - 2 * (x.1 : Int)))]) (fun x => [(1, .ro (.ints xs)), (2, .own 26 1 (.lit [.int a, .int jj, .sl 1 1 0 xs.length ca])), (3, .own 26 1 (.lit zeroM)), (4, .own 26 1 (.lit [.int (x.2.1).length, .int jj, .sl 8 1 0 (x.2.1).flatten.length x.2.2])), (5, .own 24 capc (.rows false true l)), (6, .tok 3 false l), (7, .own 3 capd (.ints (natsI (List.range jj)))), (8, .own 3 x.2.2 (.ints (x.2.1).flatten)), (9, .own 3 zc (.ints ys)), (10, .own 26 1 (.lit [.int (1 : Nat), .int jj, .sl 9 1 0 ys.length zc]))]) 11 [] (0, addsL raw, capo) ⟨Nat.zero_le _, by simp, hcapo⟩ ⟨w_1, w_2, rfl⟩ ?_
      rintro ⟨i, acc, capa⟩ ⟨hi, hacc, hcapa⟩
      dsimp only at hi hacc hcapa ⊢
      have haccl : acc.length ≤ 130 := by
       have h1 := adds_le ((([ys, ys.map fun x => -x]).take i).filter fun v => inConeB a jj xs v) (addsL raw)
       have h2 := List.length_filter_le (fun v => inConeB a jj xs v) (([ys, ys.map fun x => -x]).take i)
       have h3 : (([ys, ys.map fun x => -x]).take i).length ≤ 2 := by rw [List.length_take]; simp; omega
       rw [← hacc] at h1
       omega
      have haccr : ∀ v ∈ acc, v.length = jj := fun v hv => by
       rw [hacc] at hv
       rcases mem_foldL.1 hv with h | h
       ·exact (hrow0 v (mem_addsL.1 h)).1
       ·have := List.mem_of_mem_take (List.mem_filter.1 h).1
        simp only [List.mem_cons, List.not_mem_nil, or_false] at this
        rcases this with rfl | rfl
        ·exact hyl
        ·rw [List.length_map]; exact hyl
      by_cases hi2 : i < 2
      ·have hi3 : -1 ≤ 1 - 2 * (i : Int) ∧ 1 - 2 * (i : Int) ≤ 1 := by omega
       ((repeat' (first | refine stx ?_ | (refine stq ?_ ?_ <;> (intro hc; ((try simp at hc) <;> try contradiction))) | fail)) <;> try (exfalso; omega))
       refine w_G hE (fun x : Nat × Nat => x.1 ≤ jj ∧ x.1 ≤ x.2) (fun x => jj - x.1)
        (fun x => [(1, .one (.ptr 2 3 0 0)), (2, .one (.ptr 3 3 0 0)), (4, .one (.ptr 4 3 0 0)), (5, vS 5 1 0 l.length capc), (6, vS 7 1 0 jj capd), (8, vI s), (9, .one (.ptr 10 3 0 0)), (11, vI (1 - 2 * (i : Int))), (12, vS 11 1 0 x.1 x.2), (13, vI x.1)]) (fun x => [(1, .ro (.ints xs)), (2, .own 26 1 (.lit [.int a, .int jj, .sl 1 1 0 xs.length ca])), (3, .own 26 1 (.lit zeroM)), (4, .own 26 1 (.lit [.int (acc).length, .int jj, .sl 8 1 0 (acc).flatten.length capa])), (5, .own 24 capc (.rows false true l)), (6, .tok 3 false l), (7, .own 3 capd (.ints (natsI (List.range jj)))), (8, .own 3 capa (.ints (acc).flatten)), (9, .own 3 zc (.ints ys)), (10, .own 26 1 (.lit [.int (1 : Nat), .int jj, .sl 9 1 0 ys.length zc])), (11, .own 3 x.2 (.ints ((ys.take x.1).map fun y => (1 - 2 * (i : Int)) * y)))]) 12 [] (0, 0) ⟨Nat.zero_le _, Nat.zero_le _⟩ ⟨w_1, w_2, rfl⟩ ?_
       rintro ⟨q, capv⟩ ⟨hq, hcapv⟩
       dsimp only at hq hcapv ⊢
       by_cases hqj : q < jj
       ·have g1 := num_getD hyn (0 + (q : Int).toNat)
        have g2 := num_getD hyn q
        have g3 : -400000000 ≤ (1 - 2 * (i : Int)) * ys.getD (0 + (q : Int).toNat) 0 ∧ (1 - 2 * (i : Int)) * ys.getD (0 + (q : Int).toNat) 0 ≤ 400000000 := by
         have : i = 0 ∨ i = 1 := by omega
         rcases this with rfl | rfl
         ·have e : (1 - 2 * ((0 : Nat) : Int)) * ys.getD (0 + (q : Int).toNat) 0 = ys.getD (0 + (q : Int).toNat) 0 := by omega
          rw [e]; exact g1
         ·have e : (1 - 2 * ((1 : Nat) : Int)) * ys.getD (0 + (q : Int).toNat) 0 = - ys.getD (0 + (q : Int).toNat) 0 := by omega
          rw [e]; omega
        have en : ((ys.take (q + 1)).map fun y => (1 - 2 * (i : Int)) * y) = ((ys.take q).map fun y => (1 - 2 * (i : Int)) * y) ++ [(1 - 2 * (i : Int)) * ys.getD (0 + (q : Int).toNat) 0] := by
         rw [List.take_succ_eq_append_getElem (by omega), List.map_append, show 0 + (q : Int).toNat = q by omega, getD_in (by omega)]; simp
        have el : ((ys.take q).map fun y => (1 - 2 * (i : Int)) * y).length = q := by rw [List.length_map, List.length_take]; omega
        ((repeat' (first | refine stx ?_ | (refine w_x TT Zz Zz Zz Zz Zz sd ?_; intro cap hcap) | (refine stq ?_ ?_ <;> (intro hc; ((try simp at hc) <;> try contradiction))) | fail)) <;> try (exfalso; omega))
        exact ⟨[(11, 13)], (q + 1, cap), ⟨hqj, by dsimp only at hcap ⊢; omega⟩, w_4, ⟨w_1, ⟨rfl, rfl, rfl, rfl, rfl, rfl, rfl, rfl, rfl, rfl, own_ints en.symm, trivial⟩, rfl⟩⟩
       ·obtain rfl : q = jj := by omega
        have hV : ((ys.take q).map fun y => (1 - 2 * (i : Int)) * y) = sgL i ys := by rw [List.take_of_length_le (by omega)]; rfl
        have hVl : ((ys.take q).map fun y => (1 - 2 * (i : Int)) * y).length = q := by rw [hV, sgL, List.length_map]; exact hyl
        have hin := fun cb => d_inConeS a q xs ((ys.take q).map fun y => (1 - 2 * (i : Int)) * y) ca cb hl (by omega)
        rw [hVl] at hin
        have htk1 : ([ys, ys.map fun x => -x]).take (i + 1) = ([ys, ys.map fun x => -x]).take i ++ [sgL i ys] := by
         rw [List.take_succ_eq_append_getElem (show i < ([ys, ys.map fun x => -x]).length from hi2), sgL_two hi2, getD_in (show i < ([ys, ys.map fun x => -x]).length from hi2)]
        have hfl : ((([ys, ys.map fun x => -x]).take (i + 1)).filter fun v => inConeB a q xs v).foldl addL (addsL raw) = ([sgL i ys].filter fun v => inConeB a q xs v).foldl addL acc := by rw [htk1, List.filter_append, List.foldl_append, ← hacc]
        rw [← hV, List.filter_cons] at hfl
        cases hI : inConeB a q xs ((ys.take q).map fun y => (1 - 2 * (i : Int)) * y)
        ·rw [hI] at hin hfl
         ((repeat' (first | refine stx ?_ | (first | refine w_z (hin _) Zz Zz Zz Zz Zz Zz Zz Zz ft Zz Zz ?_ | refine w_A (hin _) Zz Zz Zz Zz Zz Zz Zz Zz ft Zz Zz ?_) | (refine stq ?_ ?_ <;> (intro hc; ((try simp at hc) <;> try contradiction))) | fail)) <;> try (exfalso; omega))
         exact ⟨[], (i + 1, acc, capa), ⟨hi2, hfl.symm, hcapa⟩, w_4, ⟨w_1, w_2, rfl⟩⟩
        ·rw [hI] at hin hfl
         have hfl2 : ((([ys, ys.map fun x => -x]).take (i + 1)).filter fun v => inConeB a q xs v).foldl addL (addsL raw) = addL acc ((ys.take q).map fun y => (1 - 2 * (i : Int)) * y) := hfl
         have had := fun cw => d_l27Add acc ((ys.take q).map fun y => (1 - 2 * (i : Int)) * y) q acc.flatten.length q capa cw rfl hVl.symm haccr hVl (by omega) ⟨hb1, by omega⟩ hcapa
         ((repeat' (first | refine stx ?_ | (first | refine w_z (hin _) Zz Zz Zz Zz Zz Zz Zz Zz ft Zz Zz ?_ | refine w_A (hin _) Zz Zz Zz Zz Zz Zz Zz Zz ft Zz Zz ?_) | ((refine w_E (had _) Zz Zz Zz Zz Zz Zz Zz ft rfl ?_); rintro v Hout n1 (⟨hdup, rfl, rfl, rfl⟩ | ⟨capw, hcapw, rfl, rfl, rfl⟩)) | (refine stq ?_ ?_ <;> (intro hc; ((try simp at hc) <;> try contradiction))) | fail)) <;> try (exfalso; omega))
         ·exact ⟨[], (i + 1, acc, capa), ⟨hi2, by dsimp only; rw [hfl2, hdup], hcapa⟩, w_4, ⟨w_1, w_2, rfl⟩⟩
         ·exact ⟨[(8, 12)], (i + 1, _, capw), ⟨hi2, hfl2.symm, hcapw⟩, w_4, ⟨w_1, w_2, rfl⟩⟩
      ·obtain rfl : i = 2 := by omega
       ((repeat' (first | refine stx ?_ | (refine stq ?_ ?_ <;> (intro hc; ((try simp at hc) <;> try contradiction))) | fail)) <;> try (exfalso; omega))
       have hA : addsL (raw ++ (([ys, ys.map fun x => -x]).filter fun v => inConeB a jj xs v)) = acc := by rw [hacc, addsL, List.foldl_append]; rfl
       exact ⟨[], (s + 1, raw ++ (([ys, ys.map fun x => -x]).filter fun v => inConeB a jj xs v), capa), ⟨hsl, hcs, by dsimp only; rw [hA]; exact hcapa⟩, w_4, by dsimp only; rw [hA]; exact ⟨w_1, w_2, rfl⟩⟩
     ·rw [if_neg ht, List.append_nil] at hcs
      have ht2 : ¬ (t : Int) = 1 := by omega
      ((repeat' (first | refine stx ?_ | (refine stq ?_ ?_ <;> (intro hc; ((try simp at hc) <;> try contradiction))) | fail)) <;> try (exfalso; omega))
      refine w_G hE (fun _ : Unit => True) (fun _ => 0) (fun _ => [(1, .one (.ptr 2 3 0 0)), (2, .one (.ptr 3 3 0 0)), (4, .one (.ptr 4 3 0 0)), (5, vS 5 1 0 l.length capc), (6, vS 7 1 0 jj capd), (8, vI s), (9, .one (.ptr 10 3 0 0)), (11, vI 1)]) (fun _ => [(1, .ro (.ints xs)), (2, .own 26 1 (.lit [.int a, .int jj, .sl 1 1 0 xs.length ca])), (3, .own 26 1 (.lit zeroM)), (4, .own 26 1 (.lit [.int (addsL raw).length, .int jj, .sl 8 1 0 (addsL raw).flatten.length capo])), (5, .own 24 capc (.rows false true l)), (6, .tok 3 false l), (7, .own 3 capd (.ints (natsI (List.range jj)))), (8, .own 3 capo (.ints (addsL raw).flatten)), (9, .own 3 zc (.ints ys)), (10, .own 26 1 (.lit [.int t, .int jj, .sl 9 1 0 ys.length zc]))]) 11 [] () trivial ⟨w_1, w_2, rfl⟩ ?_
      rintro ⟨⟩ -
      ((repeat' (first | refine stx ?_ | (refine stq ?_ ?_ <;> (intro hc; ((try simp at hc) <;> try contradiction))) | fail)) <;> try (exfalso; omega))
      exact ⟨[], (s + 1, raw, capo), ⟨hsl, hcs, hcapo⟩, w_4, ⟨w_1, w_2, rfl⟩⟩
   ·obtain rfl : s = l.length := by omega
    have hraw2 : rawO a jj xs = some raw := by rw [rawO, ← hll]; exact hraw
    rw [hraw2]
    ((repeat' (first | refine stx ?_ | (refine stq ?_ ?_ <;> (intro hc; ((try simp at hc) <;> try contradiction))) | fail)) <;> try (exfalso; omega))
    exact fin rfl w_3 [(2, 8)] (.tup [.agg [.int (addsL raw).length, .int jj, .sl 2 1 0 (addsL raw).flatten.length capo], .one (.bool true)]) [(2, .own 3 capo (.ints (addsL raw).flatten))] 3 ⟨capo, hcapo, rfl, rfl, rfl⟩ rfl ⟨trivial, ⟨rfl, trivial⟩, rfl⟩ rfl
end Go.Proofs.YtfkbjkmlpinoeaaGreat
namespace Go.Proofs.YtfkbjkmlpinoeaaGreat
open Go.RowKit
theorem raysO_some {r c : Int} {xs : List Int} {L : List (List Int)} (h : raysO r c xs = some L) : ∃ (a b : Nat) (raw : List (List Int)), r = a ∧ c = b ∧ a ≤ 8 ∧ 1 ≤ b ∧ b ≤ 3 ∧ xs.length = a * b ∧ xs.all numB = true ∧ coneM r c xs = true ∧ pointB r c xs = true ∧ rawO a b xs = some raw ∧ L = addsL raw := by
  unfold raysO at h
  split at h
  · rename_i hp
    have hC : coneM r c xs = true := by
      unfold pointB at hp
      split at hp
      · simp only [Bool.and_eq_true] at hp; exact hp.1
      · cases hp
    obtain ⟨a, b, rfl, rfl, ha, hb1, hb, hx, hnum⟩ := coneM_dims hC
    rw [Option.map_eq_some_iff] at h
    obtain ⟨raw, h1, h2⟩ := h
    exact ⟨a, b, raw, rfl, rfl, ha, hb1, hb, hx, hnum, hC, hp, h1, h2.symm⟩
  · cases h
theorem raysO_row {r c : Int} {xs : List Int} {L : List (List Int)} (h : raysO r c xs = some L) : L.length ≤ 24 ∧ ∀ v ∈ L, (v.length : Int) = c ∧ v.all numB = true := by
  obtain ⟨a, b, raw, rfl, rfl, ha, hb1, hb, hx, hnum, hC, hp, h1, rfl⟩ := raysO_some h
  refine ⟨rays_len ha hx hnum hC hb1 hb h1, fun v hv => ?_⟩
  obtain ⟨e1, e2⟩ := cand_row hx hnum hC hb1 h1 v (mem_addsL.1 hv)
  exact ⟨by omega, e2⟩
theorem d_facI (r c : Int) (xs : List Int) (ca : Nat) (hl : xs.length ≤ 1099511627776) (hca : xs.length ≤ ca) : Does Tryz.prog 19 [vM r c 1 xs.length ca] [(1, .ro (.ints xs))] 2 (BasR 3 c (raysB r c xs) 2) := by
 have h := d_raysI r c xs ca hl hca
 refine Does.intro TT Tryz.func19 rfl (by kernel_rfl) Zz Zz fun E hE => ?_
 cases hB : raysB r c xs with
 | none =>
  rw [hB] at h
  ((repeat' (first | refine stx ?_ | ((refine w_E (h) Zz Zz Zz Zz Zz Zz Zz ft rfl ?_); rintro v Hout n1 ⟨rfl, rfl, rfl⟩) | (refine stq ?_ ?_ <;> (intro hc; ((try simp at hc) <;> try contradiction))) | fail)) <;> try (exfalso; omega))
  exact fin rfl w_3 [] (.tup [.agg zeroM, .one (.bool false)]) [] 2 ⟨rfl, rfl, rfl⟩ rfl ⟨trivial, trivial, rfl⟩ rfl
 | some s =>
  rw [hB] at h
  ((repeat' (first | refine stx ?_ | ((refine w_E (h) Zz Zz Zz Zz Zz Zz Zz ft rfl ?_); rintro v Hout n1 ⟨cap2, hcap2, rfl, rfl, rfl⟩) | (refine stq ?_ ?_ <;> (intro hc; ((try simp at hc) <;> try contradiction))) | fail)) <;> try (exfalso; omega))
  all_goals first | exact fin rfl w_3 [(2, 4)] (.tup [.agg [.int s.2, .int c, .sl 2 1 0 s.1.length cap2], .one (.bool true)]) [(2, .own 3 cap2 (.ints s.1))] 3 ⟨cap2, hcap2, rfl, rfl, rfl⟩ rfl ⟨trivial, ⟨rfl, trivial⟩, rfl⟩ rfl | exact fin rfl w_3 [(2, 3)] (.tup [.agg [.int s.2, .int c, .sl 2 1 0 s.1.length cap2], .one (.bool true)]) [(2, .own 3 cap2 (.ints s.1))] 3 ⟨cap2, hcap2, rfl, rfl, rfl⟩ rfl ⟨trivial, ⟨rfl, trivial⟩, rfl⟩ rfl
end Go.Proofs.YtfkbjkmlpinoeaaGreat
namespace Go.Proofs.YtfkbjkmlpinoeaaGreat
open Go.RowKit
def tightN (xs : List Int) (c : Nat) (ys : List Int) (i : Nat) : List Nat := (List.range i).filter fun p => decide (dotR xs c ys p = 0)
theorem tightN_next {xs : List Int} {c : Nat} {ys : List Int} {i : Nat} : tightN xs c ys (i + 1) = if dotR xs c ys i = 0 then tightN xs c ys i ++ [i] else tightN xs c ys i := by
  simp only [tightN, List.range_succ, List.filter_append]
  by_cases h : dotR xs c ys i = 0 <;> simp [h]
theorem tightN_lt {xs : List Int} {c : Nat} {ys : List Int} {i : Nat} : ∀ p ∈ tightN xs c ys i, p < i := fun p hp => by
  simp only [tightN, List.mem_filter, List.mem_range] at hp; exact hp.1
theorem tightN_len {xs : List Int} {c : Nat} {ys : List Int} {i : Nat} : (tightN xs c ys i).length ≤ i := by
  have := List.length_filter_le (fun p => decide (dotR xs c ys p = 0)) (List.range i)
  simpa [tightN] using this
theorem inConeB_ok {r c : Int} {xs ys : List Int} (h : inConeB r c xs ys = true) : prodOkB r c xs ys = true := by
  have : inConeB r c xs ys = (prodOkB r c xs ys && decide (∀ i, i < r.toNat → 0 ≤ dotR xs c.toNat ys i)) := rfl
  rw [this, Bool.and_eq_true] at h; exact h.1
def extB (r c : Int) (xs ys : List Int) : Bool := pointB r c xs && inConeB r c xs ys && match rankB ((tightN xs c.toNat ys r.toNat).length : Nat) c (pickR xs c.toNat (tightN xs c.toNat ys r.toNat)) with
  | some k => decide ((k : Int) = c - 1)
  | none => false
set_option maxRecDepth 100000 in
set_option maxHeartbeats 4000000 in
theorem d_extI (r c : Int) (xs ys : List Int) (ca cb : Nat) (hl : xs.length ≤ 1099511627776) (hl' : ys.length ≤ 1099511627776) (hca : xs.length ≤ ca) : Does Tryz.prog 17 [vM r c 1 xs.length ca, vS 2 1 0 ys.length cb] [(1, .ro (.ints xs)), (2, .ro (.ints ys))] 3 (Ret (vB (extB r c xs ys)) 3) := by
 refine Does.intro TT Tryz.func17 rfl (by kernel_rfl) Zz Zz fun E hE => ?_
 have h1 := d_pointI r c xs ca hl
 have h2 := d_inConeI r c xs ys ca cb hl hl' hca
 cases hp : pointB r c xs
 ·have hs : extB r c xs ys = false := by simp [extB, hp]
  rw [hp] at h1
  ((repeat' (first | refine stx ?_ | (first | refine w_z (h1) Zz Zz Zz Zz Zz Zz Zz Zz ft Zz Zz ?_ | refine w_A (h1) Zz Zz Zz Zz Zz Zz Zz Zz ft Zz Zz ?_) | (refine stq ?_ ?_ <;> (intro hc; ((try simp at hc) <;> try contradiction))) | fail)) <;> try (exfalso; omega))
  all_goals refine fin_ret rfl w_3 (congrArg vB hs.symm) rfl
 ·rw [hp] at h1
  cases hc0 : inConeB r c xs ys
  ·have hs : extB r c xs ys = false := by simp [extB, hc0]
   rw [hc0] at h2
   ((repeat' (first | refine stx ?_ | (first | refine w_z (h1) Zz Zz Zz Zz Zz Zz Zz Zz ft Zz Zz ?_ | refine w_A (h1) Zz Zz Zz Zz Zz Zz Zz Zz ft Zz Zz ?_) | (first | refine w_z (h2) Zz Zz Zz Zz Zz Zz Zz Zz ft Zz Zz ?_ | refine w_A (h2) Zz Zz Zz Zz Zz Zz Zz Zz ft Zz Zz ?_) | (refine stq ?_ ?_ <;> (intro hc; ((try simp at hc) <;> try contradiction))) | fail)) <;> try (exfalso; omega))
   all_goals refine fin_ret rfl w_3 (congrArg vB hs.symm) rfl
  ·rw [hc0] at h2
   have hok := inConeB_ok hc0
   simp only [prodOkB, Bool.and_eq_true, decide_eq_true_eq] at hok
   obtain ⟨⟨hco, hyl⟩, hyn⟩ := hok
   obtain ⟨a, b, rfl, rfl, ha, hb1, hb, hx, hnum⟩ := coneM_dims hco
   have hyl' : ys.length = b := by omega
   have hs : extB a b xs ys = match rankB ((tightN xs b ys a).length : Nat) b (pickR xs b (tightN xs b ys a)) with
    | some k => decide ((k : Int) = (b : Int) - 1)
    | none => false := by simp [extB, hp, hc0]
   ((repeat' (first | refine stx ?_ | (first | refine w_z (h1) Zz Zz Zz Zz Zz Zz Zz Zz ft Zz Zz ?_ | refine w_A (h1) Zz Zz Zz Zz Zz Zz Zz Zz ft Zz Zz ?_) | (first | refine w_z (h2) Zz Zz Zz Zz Zz Zz Zz Zz ft Zz Zz ?_ | refine w_A (h2) Zz Zz Zz Zz Zz Zz Zz Zz ft Zz Zz ?_) | (refine stq ?_ ?_ <;> (intro hc; ((try simp at hc) <;> try contradiction))) | fail)) <;> try (exfalso; omega))
   refine w_G hE (fun i : Nat × Nat => i.1 ≤ a ∧ (tightN xs b ys i.1).length ≤ i.2) (fun i => a - i.1)
    (fun i => [(1, vS 2 1 0 ys.length cb), (2, .one (.ptr 3 3 0 0)), (5, vS 4 1 0 (natsI (tightN xs b ys i.1)).length i.2), (6, vI i.1)])
    (fun i => [(1, .ro (.ints xs)), (2, .ro (.ints ys)), (3, .own 26 1 (.lit [.int a, .int b, .sl 1 1 0 xs.length ca])), (4, .own 3 i.2 (.ints (natsI (tightN xs b ys i.1))))]) 5 [] (0, 0) ⟨Nat.zero_le _, Nat.zero_le _⟩ ⟨w_1, w_2, rfl⟩ ?_
   rintro ⟨i, cap⟩ ⟨hi, hcap⟩
   dsimp only at hi hcap
   have tl := tightN_len (xs := xs) (c := b) (ys := ys) (i := i)
   have nl := natsI_len (l := tightN xs b ys i)
   by_cases hia : i < a
   ·have b2 := row_in (c := b) hia
    have hr := d_rowAt a b i xs.length ca xs rfl hx hca (by omega) (by omega) hia
    have hdd := fun cp => d_dot xs ys (i * b) b cp ys.length cb rfl hyl'.symm (by omega) (by omega) hl hnum hyn
    have hn := tightN_next (xs := xs) (c := b) (ys := ys) (i := i)
    ((repeat' (first | refine stx ?_ | ((refine w_E (hr) Zz Zz Zz Zz Zz Zz Zz ft rfl ?_); rintro v Hout n1 ⟨cpr, rfl, rfl, rfl⟩) | (first | refine w_z (hdd _) Zz Zz Zz Zz Zz Zz Zz Zz ft Zz Zz ?_ | refine w_A (hdd _) Zz Zz Zz Zz Zz Zz Zz Zz ft Zz Zz ?_) | (refine w_x TT Zz Zz Zz Zz Zz sd ?_; intro cap hcap) | (refine stq ?_ ?_ <;> (intro hc; ((try simp at hc) <;> try contradiction))) | fail)) <;> try (exfalso; omega))
    ·have hd0 : dotR xs b ys i = 0 := hc
     rw [if_pos hd0] at hn
     dsimp only at hcap
     refine ⟨[(4, 6)], (i + 1, cap), ⟨by dsimp only; omega, by dsimp only; rw [hn, List.length_append, List.length_singleton]; omega⟩, w_4, ⟨⟨rfl, rfl, sl_eqA (by rw [hn]; simp [natsI]), congrArg some (congrArg vI (by dsimp only; omega)), trivial⟩, ⟨rfl, rfl, rfl, own_ints (by rw [hn]; simp [natsI]), trivial⟩, rfl⟩⟩
    ·have hd0 : ¬ dotR xs b ys i = 0 := hc
     rw [if_neg hd0] at hn
     exact ⟨[], (i + 1, cap), ⟨by dsimp only; omega, by dsimp only; rw [hn]; exact hcap⟩, w_4, ⟨⟨rfl, rfl, sl_eqA (by rw [hn]), congrArg some (congrArg vI (by dsimp only; omega)), trivial⟩, ⟨rfl, rfl, rfl, own_ints (by rw [hn]), trivial⟩, rfl⟩⟩
   ·obtain rfl : i = a := by omega
    have ht := d_takeRows i b xs (tightN xs b ys i) ca cap xs.length (natsI (tightN xs b ys i)).length rfl nl hx hca (by omega) (by omega) tightN_lt (by omega)
    have hpl : (pickR xs b (tightN xs b ys i)).length ≤ 1099511627776 := by
     rw [pickR_len hx tightN_lt]
     have : (tightN xs b ys i).length * b ≤ 8 * 3 := Nat.mul_le_mul (by omega) hb
     omega
    have hk := fun cp => d_rankI ((tightN xs b ys i).length : Nat) b (pickR xs b (tightN xs b ys i)) cp hpl
    rw [hs]
    generalize hrk : rankB ((tightN xs b ys i).length : Nat) b (pickR xs b (tightN xs b ys i)) = o at *
    cases o with
    | none =>
     ((repeat' (first | refine stx ?_ | (refine w_C (ht) Zz Zz Zz Zz Zz Zz Zz ft Zz Zz (FromR.out) ?_; rintro v b ⟨c1, hc1, rfl, he, -⟩; cases he) | (first | refine w_z (hk _) Zz Zz Zz Zz Zz Zz Zz Zz ft Zz Zz ?_ | refine w_A (hk _) Zz Zz Zz Zz Zz Zz Zz Zz ft Zz Zz ?_) | (refine stq ?_ ?_ <;> (intro hc; ((try simp at hc) <;> try contradiction))) | fail)) <;> try (exfalso; omega))
     refine fin_ret rfl w_3 (rfl) rfl
    | some k =>
     ((repeat' (first | refine stx ?_ | (refine w_C (ht) Zz Zz Zz Zz Zz Zz Zz ft Zz Zz (FromR.out) ?_; rintro v b ⟨c1, hc1, rfl, he, -⟩; cases he) | (first | refine w_z (hk _) Zz Zz Zz Zz Zz Zz Zz Zz ft Zz Zz ?_ | refine w_A (hk _) Zz Zz Zz Zz Zz Zz Zz Zz ft Zz Zz ?_) | (refine stq ?_ ?_ <;> (intro hc; ((try simp at hc) <;> try contradiction))) | fail)) <;> try (exfalso; omega))
     refine fin_ret rfl w_3 (rfl) rfl
theorem own_litM {t : TypeId} {c : Nat} {x x' y : Int} {k k' a b cp : Nat} {m : Nat → Nat} (hx : x = x') (h : a = b) (hk : k' = m k := by rfl) : some (Blk.own t c (.lit [.int x, .int y, .sl k' 1 0 a cp])) = some ((Blk.own t c (.lit [.int x', .int y, .sl k 1 0 b cp])).ren m) := by subst hx h hk; rfl
theorem pickR_next {xs : List Int} {c : Nat} {is : List Nat} {i : Nat} : pickR xs c (is ++ [i]) = pickR xs c is ++ (xs.drop (i * c)).take c := by simp [pickR]
end Go.Proofs.YtfkbjkmlpinoeaaGreat
