/-
  TEXTS OF THE PROOF, put together: bGrO, bRel3.
-/
import Derived.Test.YtekpamojojfplaaGreatB36
import Derived.Test.YtekpamojojfplaaGreatB27
set_option linter.unusedVariables false
set_option linter.unusedSimpArgs false
namespace Go.Proofs.YtekpamojojfplaaGreat
open Go.RowKit
theorem gramZ_some {r c : Int} {xs g : List Int} (h : gramZ r c xs = some g) : isM r c xs = true ∧ isM r r g = true := by
  unfold gramZ at h
  split at h
  · rename_i hm
    exact ⟨hm, (mulZ_some h).2.2.2⟩
  · cases h
set_option maxHeartbeats 4000000 in
theorem d_grI (r c : Int) (xs : List Int) (ca : Nat) (hl : xs.length ≤ 1099511627776) : Does Tryz.prog 75 [vM r c 1 xs.length ca] [(1, .ro (.ints xs))] 2 (GotZ r r 3 (gramZ r c xs) 2) := by
 refine Does.intro TT Tryz.func75 rfl (by kernel_rfl) Zz Zz fun E hE => ?_
 have ht := d_turnI r c xs ca hl
 unfold TurnZ at ht
 cases hm : isM r c xs
 ·have hz : gramZ r c xs = none := by unfold gramZ; rw [hm]; rfl
  rw [hm] at ht
  ((repeat' (first | refine stx ?_ | ((refine zqe (ht) ?_); rintro v Hout n1 ⟨rfl, rfl, rfl⟩) | (refine stq ?_ ?_ <;> (intro hc; ((try simp at hc) <;> try contradiction))) | fail)) <;> try (exfalso; omega))
  all_goals exact fin rfl w_3 [] (.tup [.agg zeroM, .one (.bool false)]) [] 2 (GotZ.no hz) rfl ⟨trivial, trivial, rfl⟩ rfl
 ·rw [hm] at ht
  obtain ⟨a, b, rfl, rfl⟩ := isM_pos hm
  have hmt := isM_turn hm
  have hle : (turnM xs a b).length ≤ 1099511627776 := by have := isM_le hmt; omega
  simp only [Int.toNat_natCast] at ht
  have hlen : b * a = (turnM xs a b).length := turnM_len.symm
  rw [hlen] at ht
  have hz : gramZ a b xs = mulZ a b b a xs (turnM xs a b) := by unfold gramZ; rw [hm]; simp
  rw [hz]
  have h2 := d_mulI a b b a xs (turnM xs a b) ca (turnM xs a b).length hl hle
  cases ho2 : mulZ a b b a xs (turnM xs a b) with
  | none =>
   rw [ho2] at h2
   ((repeat' (first | refine stx ?_ | ((refine zqe (ht) ?_); rintro v Hout n1 ⟨rfl, rfl, rfl⟩) | ((refine zqe (h2) ?_); rintro v Hout n1 ⟨rfl, rfl, rfl⟩) | (refine stq ?_ ?_ <;> (intro hc; ((try simp at hc) <;> try contradiction))) | fail)) <;> try (exfalso; omega))
   all_goals exact fin rfl w_3 [] (.tup [.agg zeroM, .one (.bool false)]) [] 2 (GotZ.no rfl) rfl ⟨trivial, trivial, rfl⟩ rfl
  | some z =>
   rw [ho2] at h2
   ((repeat' (first | refine stx ?_ | ((refine zqe (ht) ?_); rintro v Hout n1 ⟨rfl, rfl, rfl⟩) | ((refine zqe (h2) ?_); rintro v Hout n1 ⟨c2, hc2, rfl, rfl, rfl⟩) | (refine stq ?_ ?_ <;> (intro hc; ((try simp at hc) <;> try contradiction))) | fail)) <;> try (exfalso; omega))
   all_goals exact fin rfl w_3 [(2, 6)] (doneV a a 2 z.length c2 true) [(2, .own 3 c2 (.ints z))] 3 (GotZ.yes Zz Zz hc2) rfl ⟨trivial, ⟨rfl, trivial⟩, rfl⟩ rfl
set_option maxHeartbeats 4000000 in
theorem d_grS (r c : Int) (xs : List Int) (ca : Nat) (hl : xs.length ≤ 1099511627776) : Does Tryz.prog 80 [vM r c 1 xs.length ca] [(1, .ro (.ints xs))] 2 (GotZ r r 3 (gramZ r c xs) 2) := by
 refine Does.intro TT Tryz.func80 rfl (by kernel_rfl) Zz Zz fun E hE => ?_
 cases hm : isM r c xs
 ·have hz : gramZ r c xs = none := by unfold gramZ; rw [hm]; rfl
  ((repeat' (first | refine stx ?_ | (refine zqc (d_isMatS _ _ _ _ hl) ?_ <;> simp only [hm]) | (refine stq ?_ ?_ <;> (intro hc; ((try simp at hc) <;> try contradiction))) | fail)) <;> try (exfalso; omega))
  all_goals exact fin rfl w_3 [] (.tup [.agg zeroM, .one (.bool false)]) [] 2 (GotZ.no hz) rfl ⟨trivial, trivial, rfl⟩ rfl
 ·obtain ⟨a, b, rfl, rfl⟩ := isM_pos hm
  obtain ⟨ha, hb, hx, hnum⟩ := isM_nat hm
  have hmt := isM_turn hm
  have htn := (isM_nat hmt).2.2.2
  have hlen : (turnM xs a b).length = b * a := turnM_len
  have ht := d_turnS a b xs xs.length ca rfl ha hb hx
  unfold TurnO at ht
  rw [← hlen] at ht
  have h2 := d_l3Mul a b a xs (turnM xs a b) ca (turnM xs a b).length ha hb ha hx hlen hnum htn
  unfold MulOut at h2
  have h3l : (mulM a b a xs (turnM xs a b)).length = a * a := mulM_len
  have hz : gramZ a b xs = mulZ a b b a xs (turnM xs a b) := by unfold gramZ; rw [hm]; simp
  have haa : a * a ≤ 24 * 24 := Nat.mul_le_mul ha ha
  cases hok : (mulM a b a xs (turnM xs a b)).all numB
  ·have h3 := d_doneS a a (mulM a b a xs (turnM xs a b)) (a * a) (a * a) h3l.symm false ((isM_mul ha ha).trans hok) (by omega)
   rw [hz, mulZ_bad hok]
   ((repeat' (first | refine stp ?_ | (refine zqc (d_isMatS _ _ _ _ hl) ?_ <;> simp only [hm]) | (refine stq ?_ ?_ <;> (intro hc; ((try simp at hc) <;> try contradiction))) | fail)) <;> try (exfalso; omega))
   refine awp_held TM [(2, _)] sb rfl (fun ρs => ?_)
   refine zt0 ?_
   refine zt1 ?_
   refine w_u [2, 8] kr rfl ⟨?_, ?_, trivial⟩
   first | (refine zho ?_) | (refine zqf (ht) ?_; rintro v Hout n1 ⟨rfl, rfl, rfl⟩; refine ⟨sb, ?_⟩) | (refine zqf (h2) ?_; rintro v Hout n1 ⟨rfl, rfl, rfl⟩; refine ⟨sb, ?_⟩) | (refine zqf (h3) ?_; rintro v Hout n1 ⟨rfl, rfl, rfl⟩; refine ⟨sb, ?_⟩)
   refine w_u [3, 8] kr rfl ⟨?_, ?_, trivial⟩
   first | (refine zho ?_) | (refine zqf (ht) ?_; rintro v Hout n1 ⟨rfl, rfl, rfl⟩; refine ⟨sb, ?_⟩) | (refine zqf (h2) ?_; rintro v Hout n1 ⟨rfl, rfl, rfl⟩; refine ⟨sb, ?_⟩) | (refine zqf (h3) ?_; rintro v Hout n1 ⟨rfl, rfl, rfl⟩; refine ⟨sb, ?_⟩)
   refine w_u [4, 8] kr rfl ⟨?_, ?_, trivial⟩
   first | (refine zho ?_) | (refine zqf (ht) ?_; rintro v Hout n1 ⟨rfl, rfl, rfl⟩; refine ⟨sb, ?_⟩) | (refine zqf (h2) ?_; rintro v Hout n1 ⟨rfl, rfl, rfl⟩; refine ⟨sb, ?_⟩) | (refine zqf (h3) ?_; rintro v Hout n1 ⟨rfl, rfl, rfl⟩; refine ⟨sb, ?_⟩)
   refine zt5 ?_
   refine zt6 ?_
   refine zt7 ?_
   refine w_u [8] kr rfl ⟨?_, trivial⟩
   first | (refine zho ?_) | (refine zqf (ht) ?_; rintro v Hout n1 ⟨rfl, rfl, rfl⟩; refine ⟨sb, ?_⟩) | (refine zqf (h2) ?_; rintro v Hout n1 ⟨rfl, rfl, rfl⟩; refine ⟨sb, ?_⟩) | (refine zqf (h3) ?_; rintro v Hout n1 ⟨rfl, rfl, rfl⟩; refine ⟨sb, ?_⟩)
   refine w_u [9] kr rfl ⟨?_, trivial⟩
   first | (refine zho ?_) | (refine zqf (ht) ?_; rintro v Hout n1 ⟨rfl, rfl, rfl⟩; refine ⟨sb, ?_⟩) | (refine zqf (h2) ?_; rintro v Hout n1 ⟨rfl, rfl, rfl⟩; refine ⟨sb, ?_⟩) | (refine zqf (h3) ?_; rintro v Hout n1 ⟨rfl, rfl, rfl⟩; refine ⟨sb, ?_⟩)
   refine zt10 ?_
   refine w_v kr ?_
   rotate_left
   first | (refine zho ?_) | (refine zqf (ht) ?_; rintro v Hout n1 ⟨rfl, rfl, rfl⟩; refine ⟨sb, ?_⟩) | (refine zqf (h2) ?_; rintro v Hout n1 ⟨rfl, rfl, rfl⟩; refine ⟨sb, ?_⟩) | (refine zqf (h3) ?_; rintro v Hout n1 ⟨rfl, rfl, rfl⟩; refine ⟨sb, ?_⟩)
   refine w_u [4] kr rfl ⟨?_, trivial⟩
   first | (refine zho ?_) | (refine zqf (ht) ?_; rintro v Hout n1 ⟨rfl, rfl, rfl⟩; refine ⟨sb, ?_⟩) | (refine zqf (h2) ?_; rintro v Hout n1 ⟨rfl, rfl, rfl⟩; refine ⟨sb, ?_⟩) | (refine zqf (h3) ?_; rintro v Hout n1 ⟨rfl, rfl, rfl⟩; refine ⟨sb, ?_⟩)
   refine zt5 ?_
   refine zt6 ?_
   refine zt7 ?_
   refine w_u [9] kr rfl ⟨?_, trivial⟩
   first | (refine zho ?_) | (refine zqf (ht) ?_; rintro v Hout n1 ⟨rfl, rfl, rfl⟩; refine ⟨sb, ?_⟩) | (refine zqf (h2) ?_; rintro v Hout n1 ⟨rfl, rfl, rfl⟩; refine ⟨sb, ?_⟩) | (refine zqf (h3) ?_; rintro v Hout n1 ⟨rfl, rfl, rfl⟩; refine ⟨sb, ?_⟩)
   refine zt10 ?_
   refine w_v kr ?_
   rotate_left
   first | (refine zho ?_) | (refine zqf (ht) ?_; rintro v Hout n1 ⟨rfl, rfl, rfl⟩; refine ⟨sb, ?_⟩) | (refine zqf (h2) ?_; rintro v Hout n1 ⟨rfl, rfl, rfl⟩; refine ⟨sb, ?_⟩) | (refine zqf (h3) ?_; rintro v Hout n1 ⟨rfl, rfl, rfl⟩; refine ⟨sb, ?_⟩)
   refine w_u [3] kr rfl ⟨?_, trivial⟩
   first | (refine zho ?_) | (refine zqf (ht) ?_; rintro v Hout n1 ⟨rfl, rfl, rfl⟩; refine ⟨sb, ?_⟩) | (refine zqf (h2) ?_; rintro v Hout n1 ⟨rfl, rfl, rfl⟩; refine ⟨sb, ?_⟩) | (refine zqf (h3) ?_; rintro v Hout n1 ⟨rfl, rfl, rfl⟩; refine ⟨sb, ?_⟩)
   refine w_u [4] kr rfl ⟨?_, trivial⟩
   first | (refine zho ?_) | (refine zqf (ht) ?_; rintro v Hout n1 ⟨rfl, rfl, rfl⟩; refine ⟨sb, ?_⟩) | (refine zqf (h2) ?_; rintro v Hout n1 ⟨rfl, rfl, rfl⟩; refine ⟨sb, ?_⟩) | (refine zqf (h3) ?_; rintro v Hout n1 ⟨rfl, rfl, rfl⟩; refine ⟨sb, ?_⟩)
   refine zt5 ?_
   refine zt6 ?_
   refine zt7 ?_
   refine w_u [9] kr rfl ⟨?_, trivial⟩
   first | (refine zho ?_) | (refine zqf (ht) ?_; rintro v Hout n1 ⟨rfl, rfl, rfl⟩; refine ⟨sb, ?_⟩) | (refine zqf (h2) ?_; rintro v Hout n1 ⟨rfl, rfl, rfl⟩; refine ⟨sb, ?_⟩) | (refine zqf (h3) ?_; rintro v Hout n1 ⟨rfl, rfl, rfl⟩; refine ⟨sb, ?_⟩)
   refine zt10 ?_
   refine w_v kr ?_
   rotate_left
   first | (refine zho ?_) | (refine zqf (ht) ?_; rintro v Hout n1 ⟨rfl, rfl, rfl⟩; refine ⟨sb, ?_⟩) | (refine zqf (h2) ?_; rintro v Hout n1 ⟨rfl, rfl, rfl⟩; refine ⟨sb, ?_⟩) | (refine zqf (h3) ?_; rintro v Hout n1 ⟨rfl, rfl, rfl⟩; refine ⟨sb, ?_⟩)
   refine w_u [2] kr rfl ⟨?_, trivial⟩
   first | (refine zho ?_) | (refine zqf (ht) ?_; rintro v Hout n1 ⟨rfl, rfl, rfl⟩; refine ⟨sb, ?_⟩) | (refine zqf (h2) ?_; rintro v Hout n1 ⟨rfl, rfl, rfl⟩; refine ⟨sb, ?_⟩) | (refine zqf (h3) ?_; rintro v Hout n1 ⟨rfl, rfl, rfl⟩; refine ⟨sb, ?_⟩)
   refine w_u [3] kr rfl ⟨?_, trivial⟩
   first | (refine zho ?_) | (refine zqf (ht) ?_; rintro v Hout n1 ⟨rfl, rfl, rfl⟩; refine ⟨sb, ?_⟩) | (refine zqf (h2) ?_; rintro v Hout n1 ⟨rfl, rfl, rfl⟩; refine ⟨sb, ?_⟩) | (refine zqf (h3) ?_; rintro v Hout n1 ⟨rfl, rfl, rfl⟩; refine ⟨sb, ?_⟩)
   refine w_u [4] kr rfl ⟨?_, trivial⟩
   first | (refine zho ?_) | (refine zqf (ht) ?_; rintro v Hout n1 ⟨rfl, rfl, rfl⟩; refine ⟨sb, ?_⟩) | (refine zqf (h2) ?_; rintro v Hout n1 ⟨rfl, rfl, rfl⟩; refine ⟨sb, ?_⟩) | (refine zqf (h3) ?_; rintro v Hout n1 ⟨rfl, rfl, rfl⟩; refine ⟨sb, ?_⟩)
   refine zt5 ?_
   refine zt6 ?_
   refine zt7 ?_
   refine w_u [9] kr rfl ⟨?_, trivial⟩
   first | (refine zho ?_) | (refine zqf (ht) ?_; rintro v Hout n1 ⟨rfl, rfl, rfl⟩; refine ⟨sb, ?_⟩) | (refine zqf (h2) ?_; rintro v Hout n1 ⟨rfl, rfl, rfl⟩; refine ⟨sb, ?_⟩) | (refine zqf (h3) ?_; rintro v Hout n1 ⟨rfl, rfl, rfl⟩; refine ⟨sb, ?_⟩)
   refine zt10 ?_
   refine w_v kr ?_
   rotate_left
   all_goals ((repeat' (first | refine stx ?_ | (refine stq ?_ ?_ <;> (intro hc; ((try simp at hc) <;> try contradiction))) | fail)) <;> try (exfalso; omega))
   all_goals exact fin rfl w_3 [] (.tup [.agg zeroM, .one (.bool false)]) [] 2 (GotZ.no rfl) rfl ⟨trivial, trivial, rfl⟩ rfl
  ·have h3 := d_doneS a a (mulM a b a xs (turnM xs a b)) (a * a) (a * a) h3l.symm true ((isM_mul ha ha).trans hok) (by omega)
   rw [hz, mulZ_yes hm hmt hok]
   ((repeat' (first | refine stp ?_ | (refine zqc (d_isMatS _ _ _ _ hl) ?_ <;> simp only [hm]) | (refine stq ?_ ?_ <;> (intro hc; ((try simp at hc) <;> try contradiction))) | fail)) <;> try (exfalso; omega))
   refine awp_held TM [(2, _)] sb rfl (fun ρs => ?_)
   refine zt0 ?_
   refine zt1 ?_
   refine w_u [2, 8] kr rfl ⟨?_, ?_, trivial⟩
   first | (refine zho ?_) | (refine zqf (ht) ?_; rintro v Hout n1 ⟨rfl, rfl, rfl⟩; refine ⟨sb, ?_⟩) | (refine zqf (h2) ?_; rintro v Hout n1 ⟨rfl, rfl, rfl⟩; refine ⟨sb, ?_⟩) | (refine zqf (h3) ?_; rintro v Hout n1 ⟨rfl, rfl, rfl⟩; refine ⟨sb, ?_⟩)
   refine w_u [3, 8] kr rfl ⟨?_, ?_, trivial⟩
   first | (refine zho ?_) | (refine zqf (ht) ?_; rintro v Hout n1 ⟨rfl, rfl, rfl⟩; refine ⟨sb, ?_⟩) | (refine zqf (h2) ?_; rintro v Hout n1 ⟨rfl, rfl, rfl⟩; refine ⟨sb, ?_⟩) | (refine zqf (h3) ?_; rintro v Hout n1 ⟨rfl, rfl, rfl⟩; refine ⟨sb, ?_⟩)
   refine w_u [4, 8] kr rfl ⟨?_, ?_, trivial⟩
   first | (refine zho ?_) | (refine zqf (ht) ?_; rintro v Hout n1 ⟨rfl, rfl, rfl⟩; refine ⟨sb, ?_⟩) | (refine zqf (h2) ?_; rintro v Hout n1 ⟨rfl, rfl, rfl⟩; refine ⟨sb, ?_⟩) | (refine zqf (h3) ?_; rintro v Hout n1 ⟨rfl, rfl, rfl⟩; refine ⟨sb, ?_⟩)
   refine zt5 ?_
   refine zt6 ?_
   refine zt7 ?_
   refine w_u [8] kr rfl ⟨?_, trivial⟩
   first | (refine zho ?_) | (refine zqf (ht) ?_; rintro v Hout n1 ⟨rfl, rfl, rfl⟩; refine ⟨sb, ?_⟩) | (refine zqf (h2) ?_; rintro v Hout n1 ⟨rfl, rfl, rfl⟩; refine ⟨sb, ?_⟩) | (refine zqf (h3) ?_; rintro v Hout n1 ⟨rfl, rfl, rfl⟩; refine ⟨sb, ?_⟩)
   refine w_u [9] kr rfl ⟨?_, trivial⟩
   first | (refine zho ?_) | (refine zqf (ht) ?_; rintro v Hout n1 ⟨rfl, rfl, rfl⟩; refine ⟨sb, ?_⟩) | (refine zqf (h2) ?_; rintro v Hout n1 ⟨rfl, rfl, rfl⟩; refine ⟨sb, ?_⟩) | (refine zqf (h3) ?_; rintro v Hout n1 ⟨rfl, rfl, rfl⟩; refine ⟨sb, ?_⟩)
   refine zt10 ?_
   refine w_v kr ?_
   rotate_left
   first | (refine zho ?_) | (refine zqf (ht) ?_; rintro v Hout n1 ⟨rfl, rfl, rfl⟩; refine ⟨sb, ?_⟩) | (refine zqf (h2) ?_; rintro v Hout n1 ⟨rfl, rfl, rfl⟩; refine ⟨sb, ?_⟩) | (refine zqf (h3) ?_; rintro v Hout n1 ⟨rfl, rfl, rfl⟩; refine ⟨sb, ?_⟩)
   refine w_u [4] kr rfl ⟨?_, trivial⟩
   first | (refine zho ?_) | (refine zqf (ht) ?_; rintro v Hout n1 ⟨rfl, rfl, rfl⟩; refine ⟨sb, ?_⟩) | (refine zqf (h2) ?_; rintro v Hout n1 ⟨rfl, rfl, rfl⟩; refine ⟨sb, ?_⟩) | (refine zqf (h3) ?_; rintro v Hout n1 ⟨rfl, rfl, rfl⟩; refine ⟨sb, ?_⟩)
   refine zt5 ?_
   refine zt6 ?_
   refine zt7 ?_
   refine w_u [9] kr rfl ⟨?_, trivial⟩
   first | (refine zho ?_) | (refine zqf (ht) ?_; rintro v Hout n1 ⟨rfl, rfl, rfl⟩; refine ⟨sb, ?_⟩) | (refine zqf (h2) ?_; rintro v Hout n1 ⟨rfl, rfl, rfl⟩; refine ⟨sb, ?_⟩) | (refine zqf (h3) ?_; rintro v Hout n1 ⟨rfl, rfl, rfl⟩; refine ⟨sb, ?_⟩)
   refine zt10 ?_
   refine w_v kr ?_
   rotate_left
   first | (refine zho ?_) | (refine zqf (ht) ?_; rintro v Hout n1 ⟨rfl, rfl, rfl⟩; refine ⟨sb, ?_⟩) | (refine zqf (h2) ?_; rintro v Hout n1 ⟨rfl, rfl, rfl⟩; refine ⟨sb, ?_⟩) | (refine zqf (h3) ?_; rintro v Hout n1 ⟨rfl, rfl, rfl⟩; refine ⟨sb, ?_⟩)
   refine w_u [3] kr rfl ⟨?_, trivial⟩
   first | (refine zho ?_) | (refine zqf (ht) ?_; rintro v Hout n1 ⟨rfl, rfl, rfl⟩; refine ⟨sb, ?_⟩) | (refine zqf (h2) ?_; rintro v Hout n1 ⟨rfl, rfl, rfl⟩; refine ⟨sb, ?_⟩) | (refine zqf (h3) ?_; rintro v Hout n1 ⟨rfl, rfl, rfl⟩; refine ⟨sb, ?_⟩)
   refine w_u [4] kr rfl ⟨?_, trivial⟩
   first | (refine zho ?_) | (refine zqf (ht) ?_; rintro v Hout n1 ⟨rfl, rfl, rfl⟩; refine ⟨sb, ?_⟩) | (refine zqf (h2) ?_; rintro v Hout n1 ⟨rfl, rfl, rfl⟩; refine ⟨sb, ?_⟩) | (refine zqf (h3) ?_; rintro v Hout n1 ⟨rfl, rfl, rfl⟩; refine ⟨sb, ?_⟩)
   refine zt5 ?_
   refine zt6 ?_
   refine zt7 ?_
   refine w_u [9] kr rfl ⟨?_, trivial⟩
   first | (refine zho ?_) | (refine zqf (ht) ?_; rintro v Hout n1 ⟨rfl, rfl, rfl⟩; refine ⟨sb, ?_⟩) | (refine zqf (h2) ?_; rintro v Hout n1 ⟨rfl, rfl, rfl⟩; refine ⟨sb, ?_⟩) | (refine zqf (h3) ?_; rintro v Hout n1 ⟨rfl, rfl, rfl⟩; refine ⟨sb, ?_⟩)
   refine zt10 ?_
   refine w_v kr ?_
   rotate_left
   first | (refine zho ?_) | (refine zqf (ht) ?_; rintro v Hout n1 ⟨rfl, rfl, rfl⟩; refine ⟨sb, ?_⟩) | (refine zqf (h2) ?_; rintro v Hout n1 ⟨rfl, rfl, rfl⟩; refine ⟨sb, ?_⟩) | (refine zqf (h3) ?_; rintro v Hout n1 ⟨rfl, rfl, rfl⟩; refine ⟨sb, ?_⟩)
   refine w_u [2] kr rfl ⟨?_, trivial⟩
   first | (refine zho ?_) | (refine zqf (ht) ?_; rintro v Hout n1 ⟨rfl, rfl, rfl⟩; refine ⟨sb, ?_⟩) | (refine zqf (h2) ?_; rintro v Hout n1 ⟨rfl, rfl, rfl⟩; refine ⟨sb, ?_⟩) | (refine zqf (h3) ?_; rintro v Hout n1 ⟨rfl, rfl, rfl⟩; refine ⟨sb, ?_⟩)
   refine w_u [3] kr rfl ⟨?_, trivial⟩
   first | (refine zho ?_) | (refine zqf (ht) ?_; rintro v Hout n1 ⟨rfl, rfl, rfl⟩; refine ⟨sb, ?_⟩) | (refine zqf (h2) ?_; rintro v Hout n1 ⟨rfl, rfl, rfl⟩; refine ⟨sb, ?_⟩) | (refine zqf (h3) ?_; rintro v Hout n1 ⟨rfl, rfl, rfl⟩; refine ⟨sb, ?_⟩)
   refine w_u [4] kr rfl ⟨?_, trivial⟩
   first | (refine zho ?_) | (refine zqf (ht) ?_; rintro v Hout n1 ⟨rfl, rfl, rfl⟩; refine ⟨sb, ?_⟩) | (refine zqf (h2) ?_; rintro v Hout n1 ⟨rfl, rfl, rfl⟩; refine ⟨sb, ?_⟩) | (refine zqf (h3) ?_; rintro v Hout n1 ⟨rfl, rfl, rfl⟩; refine ⟨sb, ?_⟩)
   refine zt5 ?_
   refine zt6 ?_
   refine zt7 ?_
   refine w_u [9] kr rfl ⟨?_, trivial⟩
   first | (refine zho ?_) | (refine zqf (ht) ?_; rintro v Hout n1 ⟨rfl, rfl, rfl⟩; refine ⟨sb, ?_⟩) | (refine zqf (h2) ?_; rintro v Hout n1 ⟨rfl, rfl, rfl⟩; refine ⟨sb, ?_⟩) | (refine zqf (h3) ?_; rintro v Hout n1 ⟨rfl, rfl, rfl⟩; refine ⟨sb, ?_⟩)
   refine zt10 ?_
   refine w_v kr ?_
   rotate_left
   all_goals ((repeat' (first | refine stx ?_ | (refine stq ?_ ?_ <;> (intro hc; ((try simp at hc) <;> try contradiction))) | fail)) <;> try (exfalso; omega))
   all_goals first | exact fin rfl w_3 [(2, 5)] (doneV a a 2 (a * a) (a * a) true) [(2, .own 3 (a * a) (.ints (mulM a b a xs (turnM xs a b))))] 3 (GotZ.yes rfl h3l.symm (Nat.le_refl _)) rfl ⟨trivial, ⟨rfl, trivial⟩, rfl⟩ rfl | exact fin rfl w_3 [(2, 6)] (doneV a a 2 (a * a) (a * a) true) [(2, .own 3 (a * a) (.ints (mulM a b a xs (turnM xs a b))))] 3 (GotZ.yes rfl h3l.symm (Nat.le_refl _)) rfl ⟨trivial, ⟨rfl, trivial⟩, rfl⟩ rfl
theorem redG_turn {n : Nat} : ∀ {f k : Nat} {s s' : S3}, TurnS n s → 1 ≤ k → redG n f s k = some s' → TurnS n s'
  | 0, k, s, s', h, _, he => by
    rw [redG] at he
    split at he
    · cases he
    · cases he; exact h
  | f + 1, k, s, s', h, hk, he => by
    rw [redG] at he
    split at he
    · rename_i hkn
      obtain ⟨x, h1, h2⟩ := Option.bind_eq_some_iff.1 he
      have h3 := redStep_turn h ⟨hk, hkn⟩ (s' := x.1) (k' := x.2) h1
      exact redG_turn h3.1 h3.2.1 h2
    · cases he; exact h
theorem redO_some {r c : Int} {xs : List Int} {s : S3} (h : redO r c xs = some s) : ∃ n : Nat, r = n ∧ c = n ∧ n ≤ 6 ∧ TurnS n s := by
  unfold redO at h
  split at h
  · rename_i hd
    obtain ⟨n, rfl, rfl, hn, hx, hnum, -⟩ := defB_dims hd
    rw [Int.toNat_natCast] at h
    exact ⟨n, rfl, rfl, hn, redG_turn (turnS0 hx hnum) (Nat.le_refl _) h⟩
  · cases h
def RbR (t : TypeId) (r c : Int) (o : Option (List Int × List Int)) (v : AV) (Hout : List (Nat × Blk)) (n1 : Nat) : Prop := match o with
  | none => v = .tup [.agg zeroM, .agg zeroM, .one (.bool false)] ∧ Hout = [] ∧ n1 = 2
  | some p => ∃ c1 c2, p.1.length ≤ c1 ∧ p.2.length ≤ c2 ∧ v = .tup [.agg [.int r, .int c, .sl 2 1 0 p.1.length c1], .agg [.int r, .int r, .sl 3 1 0 p.2.length c2], .one (.bool true)] ∧ Hout = [(2, .own t c1 (.ints p.1)), (3, .own t c2 (.ints p.2))] ∧ n1 = 4
set_option maxHeartbeats 4000000 in
theorem d_rbI (r c : Int) (xs : List Int) (ca : Nat) (hl : xs.length ≤ 1099511627776) : Does Tryz.prog 71 [vM r c 1 xs.length ca] [(1, .ro (.ints xs))] 2 (RbR 3 r c (rbasO r c xs)) := by
 refine Does.intro TT Tryz.func71 rfl (by kernel_rfl) Zz Zz fun E hE => ?_
 have h1 := d_grI r c xs ca hl
 unfold rbasO
 cases hg : gramZ r c xs with
 | none =>
  rw [hg] at h1
  ((repeat' (first | refine stx ?_ | ((refine zqe (h1) ?_); rintro v Hout n1 ⟨rfl, rfl, rfl⟩) | (refine stq ?_ ?_ <;> (intro hc; ((try simp at hc) <;> try contradiction))) | fail)) <;> try (exfalso; omega))
  all_goals exact fin rfl w_3 [] (.tup [.agg zeroM, .agg zeroM, .one (.bool false)]) [] 2 ⟨rfl, rfl, rfl⟩ rfl ⟨trivial, trivial, rfl⟩ rfl
 | some g =>
  rw [hg] at h1
  rw [Option.bind_some]
  have hgl : g.length ≤ 1099511627776 := by have := isM_le (gramZ_some hg).2; omega
  have h2 := fun cg h => d_redI r r g cg hgl h
  cases hr : redO r r g with
  | none =>
   rw [hr] at h2
   ((repeat' (first | refine stx ?_ | ((refine zqe (h1) ?_); rintro v Hout n1 ⟨cg, hcg, rfl, rfl, rfl⟩) | ((refine zqe (h2 _ hcg) ?_); rintro v Hout n1 ⟨rfl, rfl, rfl⟩) | (refine stq ?_ ?_ <;> (intro hc; ((try simp at hc) <;> try contradiction))) | fail)) <;> try (exfalso; omega))
   all_goals exact fin rfl w_3 [] (.tup [.agg zeroM, .agg zeroM, .one (.bool false)]) [] 2 ⟨rfl, rfl, rfl⟩ rfl ⟨trivial, trivial, rfl⟩ rfl
  | some s =>
   rw [hr] at h2
   rw [Option.bind_some]
   obtain ⟨n, rfl, -, hn, hT⟩ := redO_some hr
   have hul : s.2.1.length ≤ 1099511627776 := by
    have h3 : n * n ≤ 36 := Nat.mul_le_mul hn hn
    have := hT.1.u; omega
   have h3 := fun cu => d_mulI n n n c s.2.1 xs cu ca hul hl
   cases hp : mulZ n n n c s.2.1 xs with
   | none =>
    rw [hp] at h3
    ((repeat' (first | refine stx ?_ | ((refine zqe (h1) ?_); rintro v Hout n1 ⟨cg, hcg, rfl, rfl, rfl⟩) | ((refine zqe (h2 _ hcg) ?_); rintro v Hout n1 ⟨cx, cu, hcx, hcu, rfl, rfl, rfl⟩) | ((refine zqe (h3 _) ?_); rintro v Hout n1 ⟨rfl, rfl, rfl⟩) | (refine stq ?_ ?_ <;> (intro hc; ((try simp at hc) <;> try contradiction))) | fail)) <;> try (exfalso; omega))
    all_goals exact fin rfl w_3 [] (.tup [.agg zeroM, .agg zeroM, .one (.bool false)]) [] 2 ⟨rfl, rfl, rfl⟩ rfl ⟨trivial, trivial, rfl⟩ rfl
   | some p =>
    rw [hp] at h3
    ((repeat' (first | refine stp ?_ | ((refine zqe (h1) ?_); rintro v Hout n1 ⟨cg, hcg, rfl, rfl, rfl⟩) | ((refine zqe (h2 _ hcg) ?_); rintro v Hout n1 ⟨cx, cu, hcx, hcu, rfl, rfl, rfl⟩) | ((refine zqe (h3 _) ?_); rintro v Hout n1 ⟨cp, hcp, rfl, rfl, rfl⟩) | (refine stq ?_ ?_ <;> (intro hc; ((try simp at hc) <;> try contradiction))) | fail)) <;> try (exfalso; omega))
    refine awp_held TM [(12, _), (10, _)] sb rfl (fun ρs => ?_)
    refine zt0 ?_
    refine zt1 ?_
    refine w_u [2] kr rfl ⟨?_, trivial⟩
    first | (refine zho ?_)
    refine w_u [3] kr rfl ⟨?_, trivial⟩
    first | (refine zho ?_)
    refine zt4 ?_
    refine w_v kr ?_
    rotate_left
    all_goals ((repeat' (first | refine stx ?_ | (refine stq ?_ ?_ <;> (intro hc; ((try simp at hc) <;> try contradiction))) | fail)) <;> try (exfalso; omega))
    all_goals exact fin rfl w_3 [(2, 11), (3, 8)] (.tup [.agg [.int n, .int c, .sl 2 1 0 p.length cp], .agg [.int n, .int n, .sl 3 1 0 s.2.1.length cu], .one (.bool true)]) [(2, .own 3 cp (.ints p)), (3, .own 3 cu (.ints s.2.1))] 4 ⟨cp, cu, hcp, hcu, rfl, rfl, rfl⟩ rfl ⟨trivial, ⟨rfl, rfl, trivial⟩, rfl⟩ rfl
set_option maxHeartbeats 4000000 in
theorem d_rbS (r c : Int) (xs : List Int) (ca : Nat) (hl : xs.length ≤ 1099511627776) : Does Tryz.prog 67 [vM r c 1 xs.length ca] [(1, .ro (.ints xs))] 2 (RbR 3 r c (rbasO r c xs)) := by
 refine Does.intro TT Tryz.func67 rfl (by kernel_rfl) Zz Zz fun E hE => ?_
 have h1 := d_grS r c xs ca hl
 unfold rbasO
 cases hg : gramZ r c xs with
 | none =>
  rw [hg] at h1
  ((repeat' (first | refine stx ?_ | ((refine zqe (h1) ?_); rintro v Hout n1 ⟨rfl, rfl, rfl⟩) | (refine stq ?_ ?_ <;> (intro hc; ((try simp at hc) <;> try contradiction))) | fail)) <;> try (exfalso; omega))
  all_goals exact fin rfl w_3 [] (.tup [.agg zeroM, .agg zeroM, .one (.bool false)]) [] 2 ⟨rfl, rfl, rfl⟩ rfl ⟨trivial, trivial, rfl⟩ rfl
 | some g =>
  rw [hg] at h1
  rw [Option.bind_some]
  have hgl : g.length ≤ 1099511627776 := by have := isM_le (gramZ_some hg).2; omega
  have h2 := fun cg => d_redS r r g cg hgl
  cases hr : redO r r g with
  | none =>
   rw [hr] at h2
   ((repeat' (first | refine stx ?_ | ((refine zqe (h1) ?_); rintro v Hout n1 ⟨cg, hcg, rfl, rfl, rfl⟩) | ((refine zqe (h2 _) ?_); rintro v Hout n1 ⟨rfl, rfl, rfl⟩) | (refine stq ?_ ?_ <;> (intro hc; ((try simp at hc) <;> try contradiction))) | fail)) <;> try (exfalso; omega))
   all_goals exact fin rfl w_3 [] (.tup [.agg zeroM, .agg zeroM, .one (.bool false)]) [] 2 ⟨rfl, rfl, rfl⟩ rfl ⟨trivial, trivial, rfl⟩ rfl
  | some s =>
   rw [hr] at h2
   rw [Option.bind_some]
   obtain ⟨n, rfl, -, hn, hT⟩ := redO_some hr
   have hul : s.2.1.length ≤ 1099511627776 := by
    have h3 : n * n ≤ 36 := Nat.mul_le_mul hn hn
    have := hT.1.u; omega
   have h3 := fun cu => d_mulS n n n c s.2.1 xs cu ca hul hl
   cases hp : mulZ n n n c s.2.1 xs with
   | none =>
    rw [hp] at h3
    ((repeat' (first | refine stx ?_ | ((refine zqe (h1) ?_); rintro v Hout n1 ⟨cg, hcg, rfl, rfl, rfl⟩) | ((refine zqe (h2 _) ?_); rintro v Hout n1 ⟨cx, cu, hcx, hcu, rfl, rfl, rfl⟩) | ((refine zqe (h3 _) ?_); rintro v Hout n1 ⟨rfl, rfl, rfl⟩) | (refine stq ?_ ?_ <;> (intro hc; ((try simp at hc) <;> try contradiction))) | fail)) <;> try (exfalso; omega))
    all_goals exact fin rfl w_3 [] (.tup [.agg zeroM, .agg zeroM, .one (.bool false)]) [] 2 ⟨rfl, rfl, rfl⟩ rfl ⟨trivial, trivial, rfl⟩ rfl
   | some p =>
    rw [hp] at h3
    ((repeat' (first | refine stp ?_ | ((refine zqe (h1) ?_); rintro v Hout n1 ⟨cg, hcg, rfl, rfl, rfl⟩) | ((refine zqe (h2 _) ?_); rintro v Hout n1 ⟨cx, cu, hcx, hcu, rfl, rfl, rfl⟩) | ((refine zqe (h3 _) ?_); rintro v Hout n1 ⟨cp, hcp, rfl, rfl, rfl⟩) | (refine stq ?_ ?_ <;> (intro hc; ((try simp at hc) <;> try contradiction))) | fail)) <;> try (exfalso; omega))
    refine awp_held TM [(12, _), (10, _)] sb rfl (fun ρs => ?_)
    refine zt0 ?_
    refine zt1 ?_
    refine w_u [2] kr rfl ⟨?_, trivial⟩
    first | (refine zho ?_)
    refine w_u [3] kr rfl ⟨?_, trivial⟩
    first | (refine zho ?_)
    refine zt4 ?_
    refine w_v kr ?_
    rotate_left
    all_goals ((repeat' (first | refine stx ?_ | (refine stq ?_ ?_ <;> (intro hc; ((try simp at hc) <;> try contradiction))) | fail)) <;> try (exfalso; omega))
    all_goals exact fin rfl w_3 [(2, 11), (3, 8)] (.tup [.agg [.int n, .int c, .sl 2 1 0 p.length cp], .agg [.int n, .int n, .sl 3 1 0 s.2.1.length cu], .one (.bool true)]) [(2, .own 3 cp (.ints p)), (3, .own 3 cu (.ints s.2.1))] 4 ⟨cp, cu, hcp, hcu, rfl, rfl, rfl⟩ rfl ⟨trivial, ⟨rfl, rfl, trivial⟩, rfl⟩ rfl
end Go.Proofs.YtekpamojojfplaaGreat
namespace Go.Proofs.YtekpamojojfplaaGreat
open Go.RowKit
theorem kerB_some {r c : Int} {xs : List Int} {s : List Int × Nat} (h : kerB r c xs = some s) : ∃ a b : Nat, r = a ∧ c = b ∧ a ≤ 24 ∧ b ≤ 24 ∧ xs.length = a * b ∧ xs.all numB = true ∧ kerO a b xs = some s ∧ s.1.length = s.2 * a ∧ s.2 ≤ a := by
  unfold kerB at h
  split at h
  · rename_i hm
    obtain ⟨a, b, rfl, rfl⟩ := isM_pos hm
    obtain ⟨ha, hb, hx, hnum⟩ := isM_nat hm
    simp only [Int.toNat_natCast] at h
    obtain ⟨h1, h2, -⟩ := ker_spec (ys := s.1) (t := s.2) hx hnum h
    exact ⟨a, b, rfl, rfl, ha, hb, hx, hnum, h, h1.len, h2⟩
  · cases h
theorem rbasO_some {r c : Int} {xs : List Int} {p : List Int × List Int} (h : rbasO r c xs = some p) : isM r c p.1 = true ∧ isM r c xs = true := by
  unfold rbasO at h
  obtain ⟨g, hg, h⟩ := Option.bind_eq_some_iff.1 h
  obtain ⟨s, hs, h⟩ := Option.bind_eq_some_iff.1 h
  obtain ⟨q, hq, rfl⟩ := Option.map_eq_some_iff.1 h
  exact ⟨(mulZ_some hq).2.2.2, (gramZ_some hg).1⟩
theorem relsO_len {v : List Int} {s : List Int × Nat} (h : relsO v = some s) : s.1.length ≤ 576 := by
  unfold relsO at h
  split at h
  · obtain ⟨st, hk, h⟩ := Option.bind_eq_some_iff.1 h
    obtain ⟨p, hp, rfl⟩ := Option.map_eq_some_iff.1 h
    exact isM_le (rbasO_some hp).1
  · cases h
theorem kerB_len {r c : Int} {xs : List Int} {s : List Int × Nat} (h : kerB r c xs = some s) : s.1.length ≤ 576 := by
  obtain ⟨a, b, rfl, rfl, ha, hb, -, -, -, h1, h2⟩ := kerB_some h
  have : s.2 * a ≤ 24 * 24 := Nat.mul_le_mul (by omega) ha
  omega
theorem relsO_no {v : List Int} (h : ¬ (v.length ≤ 6 ∧ v.all numB = true)) : relsO v = none := by
  unfold relsO
  rw [if_neg (by simpa using h)]
theorem relsO_yes {v : List Int} (h1 : v.length ≤ 6) (h2 : v.all numB = true) : relsO v = (kerB v.length 1 v).bind fun st => (rbasO st.2 v.length st.1).map fun p => (p.1, st.2) := by
  unfold relsO
  rw [if_pos (by simp [h1]; simpa using h2)]
set_option maxHeartbeats 4000000 in
theorem d_relI (xs : List Int) (ca : Nat) (hl : xs.length ≤ 1099511627776) : Does Tryz.prog 23 [vS 1 1 0 xs.length ca] [(1, .ro (.ints xs))] 2 (BasR 3 xs.length (relsO xs) 2) := by
 refine Does.intro TT Tryz.func23 rfl (by kernel_rfl) Zz Zz fun E hE => ?_
 have hnu := d_areNumbers xs ca hl
 by_cases h6 : xs.length ≤ 6
 ·cases hnum : xs.all numB with
  | false =>
   rw [hnum] at hnu
   rw [relsO_no (by rw [hnum]; simp)]
   ((repeat' (first | refine stx ?_ | refine zqc (hnu) ?_ | (refine stq ?_ ?_ <;> (intro hc; ((try simp at hc) <;> try contradiction))) | fail)) <;> try (exfalso; omega))
   all_goals exact fin rfl w_3 [] (.tup [.agg zeroM, .one (.bool false)]) [] 2 ⟨rfl, rfl, rfl⟩ rfl ⟨trivial, trivial, rfl⟩ rfl
  | true =>
   rw [hnum] at hnu
   rw [relsO_yes h6 hnum]
   have hco := d_col xs ca hl
   have hke := fun cc => d_kerI xs.length 1 xs cc hl
   cases hk : kerB xs.length 1 xs with
   | none =>
    rw [hk] at hke
    ((repeat' (first | refine stx ?_ | refine zqc (hnu) ?_ | ((refine zqe (hco) ?_); rintro v Hout n1 ⟨cc, hcc, rfl, rfl, rfl⟩) | ((refine zqe (hke _) ?_); rintro v Hout n1 ⟨rfl, rfl, rfl⟩) | (refine stq ?_ ?_ <;> (intro hc; ((try simp at hc) <;> try contradiction))) | fail)) <;> try (exfalso; omega))
    all_goals exact fin rfl w_3 [] (.tup [.agg zeroM, .one (.bool false)]) [] 2 ⟨rfl, rfl, rfl⟩ rfl ⟨trivial, trivial, rfl⟩ rfl
   | some st =>
    rw [hk] at hke
    rw [Option.bind_some]
    have hrb := fun ck => d_rbI st.2 xs.length st.1 ck (by have := kerB_len hk; omega)
    cases hb : rbasO st.2 xs.length st.1 with
    | none =>
     rw [hb] at hrb
     ((repeat' (first | refine stx ?_ | refine zqc (hnu) ?_ | ((refine zqe (hco) ?_); rintro v Hout n1 ⟨cc, hcc, rfl, rfl, rfl⟩) | ((refine zqe (hke _) ?_); rintro v Hout n1 ⟨ck, hck, rfl, rfl, rfl⟩) | ((refine zqe (hrb _) ?_); rintro v Hout n1 ⟨rfl, rfl, rfl⟩) | (refine stq ?_ ?_ <;> (intro hc; ((try simp at hc) <;> try contradiction))) | fail)) <;> try (exfalso; omega))
     all_goals exact fin rfl w_3 [] (.tup [.agg zeroM, .one (.bool false)]) [] 2 ⟨rfl, rfl, rfl⟩ rfl ⟨trivial, trivial, rfl⟩ rfl
    | some p =>
     rw [hb] at hrb
     ((repeat' (first | refine stx ?_ | refine zqc (hnu) ?_ | ((refine zqe (hco) ?_); rintro v Hout n1 ⟨cc, hcc, rfl, rfl, rfl⟩) | ((refine zqe (hke _) ?_); rintro v Hout n1 ⟨ck, hck, rfl, rfl, rfl⟩) | ((refine zqe (hrb _) ?_); rintro v Hout n1 ⟨c1, c2, hc1, hc2, rfl, rfl, rfl⟩) | (refine stq ?_ ?_ <;> (intro hc; ((try simp at hc) <;> try contradiction))) | fail)) <;> try (exfalso; omega))
     all_goals exact fin rfl w_3 [(2, 6)] (.tup [.agg [.int st.2, .int xs.length, .sl 2 1 0 p.1.length c1], .one (.bool true)]) [(2, .own 3 c1 (.ints p.1))] 3 ⟨c1, hc1, rfl, rfl, rfl⟩ rfl ⟨trivial, ⟨rfl, trivial⟩, rfl⟩ rfl
 ·rw [relsO_no (fun h => h6 h.1)]
  have h6' : 6 < xs.length := by omega
  ((repeat' (first | refine stx ?_ | refine zqc (hnu) ?_ | (refine stq ?_ ?_ <;> (intro hc; ((try simp at hc) <;> try contradiction))) | fail)) <;> try (exfalso; omega))
  all_goals exact fin rfl w_3 [] (.tup [.agg zeroM, .one (.bool false)]) [] 2 ⟨rfl, rfl, rfl⟩ rfl ⟨trivial, trivial, rfl⟩ rfl
theorem isM_col {xs : List Int} : isM xs.length 1 xs = (decide (xs.length ≤ 24) && xs.all numB) := by
  rw [Bool.eq_iff_iff]
  simp only [isM, Bool.and_eq_true, decide_eq_true_eq]
  constructor
  · rintro ⟨⟨h1, h2, h3, h4, h5⟩, h6⟩; exact ⟨by omega, h6⟩
  · rintro ⟨h1, h2⟩; exact ⟨⟨by omega, by omega, by omega, by omega, by omega⟩, h2⟩
set_option maxHeartbeats 4000000 in
theorem d_relS (xs : List Int) (ca : Nat) (hl : xs.length ≤ 1099511627776) : Does Tryz.prog 21 [vS 1 1 0 xs.length ca] [(1, .ro (.ints xs))] 2 (BasR 3 xs.length (relsO xs) 2) := by
 refine Does.intro TT Tryz.func21 rfl (by kernel_rfl) Zz Zz fun E hE => ?_
 have hnu := d_isMatS xs.length 1 xs ca hl
 rw [isM_col] at hnu
 have hke := d_kerS xs.length 1 xs ca hl
 by_cases h24 : xs.length ≤ 24
 ·rw [decide_eq_true h24, Bool.true_and] at hnu
  cases hnum : xs.all numB with
  | false =>
   rw [hnum] at hnu
   rw [relsO_no (by rw [hnum]; simp)]
   ((repeat' (first | refine stx ?_ | refine zqc (hnu) ?_ | (refine stq ?_ ?_ <;> (intro hc; ((try simp at hc) <;> try contradiction))) | fail)) <;> try (exfalso; omega))
   all_goals exact fin rfl w_3 [] (.tup [.agg zeroM, .one (.bool false)]) [] 2 ⟨rfl, rfl, rfl⟩ rfl ⟨trivial, trivial, rfl⟩ rfl
  | true =>
   rw [hnum] at hnu
   by_cases h6 : xs.length ≤ 6
   ·have h6' : ¬ 6 < xs.length := by omega
    rw [relsO_yes h6 hnum]
    cases hk : kerB xs.length 1 xs with
    | none =>
     rw [hk] at hke
     ((repeat' (first | refine stx ?_ | refine zqc (hnu) ?_ | ((refine zqe (hke) ?_); rintro v Hout n1 ⟨rfl, rfl, rfl⟩) | (refine stq ?_ ?_ <;> (intro hc; ((try simp at hc) <;> try contradiction))) | fail)) <;> try (exfalso; omega))
     all_goals exact fin rfl w_3 [] (.tup [.agg zeroM, .one (.bool false)]) [] 2 ⟨rfl, rfl, rfl⟩ rfl ⟨trivial, trivial, rfl⟩ rfl
    | some st =>
     rw [hk] at hke
     rw [Option.bind_some]
     have hrb := fun ck => d_rbS st.2 xs.length st.1 ck (by have := kerB_len hk; omega)
     cases hb : rbasO st.2 xs.length st.1 with
     | none =>
      rw [hb] at hrb
      ((repeat' (first | refine stx ?_ | refine zqc (hnu) ?_ | ((refine zqe (hke) ?_); rintro v Hout n1 ⟨ck, hck, rfl, rfl, rfl⟩) | ((refine zqe (hrb _) ?_); rintro v Hout n1 ⟨rfl, rfl, rfl⟩) | (refine stq ?_ ?_ <;> (intro hc; ((try simp at hc) <;> try contradiction))) | fail)) <;> try (exfalso; omega))
      all_goals exact fin rfl w_3 [] (.tup [.agg zeroM, .one (.bool false)]) [] 2 ⟨rfl, rfl, rfl⟩ rfl ⟨trivial, trivial, rfl⟩ rfl
     | some p =>
      rw [hb] at hrb
      ((repeat' (first | refine stx ?_ | refine zqc (hnu) ?_ | ((refine zqe (hke) ?_); rintro v Hout n1 ⟨ck, hck, rfl, rfl, rfl⟩) | ((refine zqe (hrb _) ?_); rintro v Hout n1 ⟨c1, c2, hc1, hc2, rfl, rfl, rfl⟩) | (refine stq ?_ ?_ <;> (intro hc; ((try simp at hc) <;> try contradiction))) | fail)) <;> try (exfalso; omega))
      all_goals exact fin rfl w_3 [(2, 5)] (.tup [.agg [.int st.2, .int xs.length, .sl 2 1 0 p.1.length c1], .one (.bool true)]) [(2, .own 3 c1 (.ints p.1))] 3 ⟨c1, hc1, rfl, rfl, rfl⟩ rfl ⟨trivial, ⟨rfl, trivial⟩, rfl⟩ rfl
   ·rw [relsO_no (fun h => h6 h.1)]
    have h6' : 6 < xs.length := by omega
    ((repeat' (first | refine stx ?_ | refine zqc (hnu) ?_ | (refine stq ?_ ?_ <;> (intro hc; ((try simp at hc) <;> try contradiction))) | fail)) <;> try (exfalso; omega))
    all_goals exact fin rfl w_3 [] (.tup [.agg zeroM, .one (.bool false)]) [] 2 ⟨rfl, rfl, rfl⟩ rfl ⟨trivial, trivial, rfl⟩ rfl
 ·rw [decide_eq_false h24, Bool.false_and] at hnu
  rw [relsO_no (fun h => by omega)]
  ((repeat' (first | refine stx ?_ | refine zqc (hnu) ?_ | (refine stq ?_ ?_ <;> (intro hc; ((try simp at hc) <;> try contradiction))) | fail)) <;> try (exfalso; omega))
  all_goals exact fin rfl w_3 [] (.tup [.agg zeroM, .one (.bool false)]) [] 2 ⟨rfl, rfl, rfl⟩ rfl ⟨trivial, trivial, rfl⟩ rfl
end Go.Proofs.YtekpamojojfplaaGreat
