/-
  TEXTS OF THE PROOF, put together: bHermS2, bRows.
-/
import Derived.Test.YtekpamojojfplaaGreatB18
import Derived.Test.YtekpamojojfplaaGreatB07
import Derived.Test.YtekpamojojfplaaGreatB11
import Derived.Test.YtekpamojojfplaaGreatB12
set_option linter.unusedVariables false
set_option linter.unusedSimpArgs false
namespace Go.Proofs.YtekpamojojfplaaGreat
open Go.RowKit
abbrev hHS (tm t : TypeId) (a b nx cx : Nat) (s : TwoL) : List (Nat × Blk) := [(1, .own t cx (.ints s.1)), (2, .own t (a * a) (.ints s.2)), (3, .own tm 1 (.lit [.int a, .int b, .sl 1 1 0 nx cx])), (4, .own tm 1 (.lit [.int a, .int a, .sl 2 1 0 (a * a) (a * a)]))]
abbrev hFS (j t : Int) : List (Nat × AV) := [(2, .one (.ptr 3 3 0 0)), (3, .one (.ptr 4 3 0 0)), (5, vI t), (6, vI j)]
def HermT (t : TypeId) (cx cu : Nat) (o : Option (TwoL × Nat)) (v : AV) (Hout : List (Nat × Blk)) (n1 : Nat) : Prop := n1 = 3 ∧ match o with
  | some s => v = vB true ∧ Hout = [(1, .own t cx (.ints s.1.1)), (2, .own t cu (.ints s.1.2))]
  | none => v = vB false ∧ ∃ ys zs : List Int, Hout = [(1, .own t cx (.ints ys)), (2, .own t cu (.ints zs))]
set_option maxRecDepth 100000 in
set_option maxHeartbeats 16000000 in
theorem d_l12H (a b cx : Nat) (s0 : TwoL) (o0 : OKs a b s0) (ha : a ≤ 24) (hb : b ≤ 24) (hcx : s0.1.length ≤ cx) : Does Tryz.prog 148 [vM a b 1 s0.1.length cx, vM a a 2 (a * a) (a * a)] [(1, .own 3 cx (.ints s0.1)), (2, .own 3 (a * a) (.ints s0.2))] 3 (HermT 3 cx (a * a) (hTo a b s0 b)) := by
 refine Does.intro TT Tryz.func148 rfl (by kernel_rfl) Zz Zz fun E hE => ?_
 have hab : a * b ≤ 24 * 24 := Nat.mul_le_mul ha hb
 have haa : a * a ≤ 24 * 24 := Nat.mul_le_mul ha ha
 have hx : s0.1.length = a * b := o0.1
 obtain ⟨nx, hnx⟩ : ∃ nx, nx = s0.1.length := ⟨_, rfl⟩
 rw [← hnx]
 ((repeat' (first | refine stx ?_ | (refine stq ?_ ?_ <;> (intro hc; ((try simp at hc) <;> try contradiction))) | fail)) <;> try (exfalso; omega))
 refine w_G hE (fun x : Nat × TwoL × Nat => x.1 ≤ b ∧ x.2.2 ≤ a ∧ hTo a b s0 x.1 = some (x.2.1, x.2.2)) (fun x => b - x.1)
  (fun x => hFS x.1 x.2.2) (fun x => hHS 26 3 a b nx cx x.2.1) 5 [] (0, s0, 0) ⟨Nat.zero_le _, Nat.zero_le _, rfl⟩ ⟨w_1, w_2, rfl⟩ ?_
 rintro ⟨j, s, t⟩ ⟨hj, ht, hT⟩
 dsimp only at hj ht hT ⊢
 obtain ⟨o1, -, -⟩ := hTo_ok o0 hT
 dsimp only at o1
 have l1 : s.1.length = nx := o1.1.trans (hx.symm.trans hnx.symm)
 have l2 : s.2.length = a * a := o1.2.1
 by_cases hgo : j < b ∧ t < a
 ·obtain ⟨hjb, hta⟩ := hgo
  have hls := d_leastS a b t j nx cx s.1 l1.symm o1.1 o1.2.2.1 ha hb ht hjb
  cases hlp : leastTo s.1 b t j (a - t) with
  | none =>
   have hp0 : pI none = -1 := rfl
   rw [hlp] at hls
   ((repeat' (first | refine stx ?_ | refine zqc (hls) ?_ | (refine stq ?_ ?_ <;> (intro hc; ((try simp at hc) <;> try contradiction))) | fail)) <;> try (exfalso; omega))
   all_goals exact ⟨[], (j + 1, s, t), ⟨hjb, ht, (hTo_next hT).trans (col_none hta hlp)⟩, w_4, ⟨w_1, w_2, rfl⟩⟩
  | some p =>
   have hp0 : pI (some p) = (p : Int) := rfl
   obtain ⟨⟨p1, p2⟩, p3⟩ := leastTo_some hlp
   rw [hlp] at hls
   have hRbad : redCol a b t j s p = none → hTo a b s0 b = none := fun h => none_le (f := hTo a b s0) (fun n h m => hTo_none h m) (n := j + 1) (by omega) ((hTo_next hT).trans (col_bad hta hlp h))
   have hRgood := fun s' p' (h : redCol a b t j s p = some (s', p')) => (hTo_next hT).trans (col_top hta hlp h)
   have hpa : p < a := by omega
   have hpw : t ≤ p ∧ p < a := ⟨p1, hpa⟩
   generalize hRR : redCol a b t j s p = R at hRbad hRgood
   ((repeat' (first | refine stx ?_ | refine zqc (hls) ?_ | (refine stq ?_ ?_ <;> (intro hc; ((try simp at hc) <;> try contradiction))) | fail)) <;> try (exfalso; omega))
   refine w_G hE (fun x : TwoL × Nat => OKs a b x.1 ∧ (t ≤ x.2 ∧ x.2 < a) ∧ x.1.1.getD (x.2 * b + j) 0 ≠ 0 ∧ redCol a b t j x.1 x.2 = R) (fun x => colM a b t j x.1 x.2)
    (fun x => hFS j t ++ [(7, vI x.2)]) (fun x => hHS 26 3 a b nx cx x.1) 5 [] (s, p) ⟨o1, hpw, p3, hRR⟩ ⟨w_1, w_2, rfl⟩ ?_
   clear hls
   rintro ⟨s, p⟩ ⟨o1, hpw, hp0, hRR⟩
   dsimp only at o1 hpw hp0 hRR ⊢
   have l1 : s.1.length = nx := o1.1.trans (hx.symm.trans hnx.symm)
   have l2 : s.2.length = a * a := o1.2.1
   have hot := d_aloneS a b t p j nx cx s.1 l1.symm o1.1 o1.2.2.1 ha hb ht hjb
   by_cases hal : alone s.1 b t j p (a - t)
   ·rw [decide_eq_true hal] at hot
    have hRe : R = some (s, p) := hRR.symm.trans (red_done hal)
    have hNx := hRgood s p hRe
    have q2 := swS_ok (p := p) (t := t) o1
    have n2 := sw_piv o1 hpw.2 hta hjb hp0
    by_cases hpt : p = t
    ·have hsw : swS a b p t s = s := if_pos hpt
     rw [hsw] at hNx q2 n2
     have q3 := ngS_ok (r := a) (c := b) (t := t) (j := j) q2
     have n3 := ng_piv (t := t) q2 hta hjb n2
     have m1 : (s).1.length = nx := q2.1.trans (hx.symm.trans hnx.symm)
     have m2 : (s).2.length = a * a := q2.2.1
     have hd := d_cellH a b t j nx cx (s).1 m1.symm q2.1 ha hb hta hjb
     have w1 : (s).1[t * b + j]?.getD 0 = (s).1.getD (t * b + j) 0 := by simp
     have wb := num_getD q2.2.2.1 (t * b + j)
     by_cases hng : (s).1.getD (t * b + j) 0 < 0
     ·have hne := d_opsNeg a b t nx cx (s).1 (s).2 m1.symm q2 ha hb hta
      have hg : ngS a b t j s = (negX (s).1 b t, negX (s).2 a t) := if_pos hng
      rw [hg] at hNx q3 n3
      ((repeat' (first | refine stx ?_ | refine zqc (hot) ?_ | refine zqc (hd) ?_ | ((refine zqe (hne) ?_); rintro v Hout n1 ⟨rfl, rfl, rfl⟩) | (refine stq ?_ ?_ <;> (intro hc; ((try simp at hc) <;> try contradiction))) | fail)) <;> try (exfalso; omega))
      refine w_G hE (fun x : Nat × TwoL => x.1 ≤ t ∧ SpS a b (topTo a b t j (negX (s).1 b t, negX (s).2 a t) x.1) x.2) (fun x => t - x.1)
       (fun x => hFS j t ++ [(12, vI x.1)]) (fun x => hHS 26 3 a b nx cx x.2) 5 [] (0, (negX (s).1 b t, negX (s).2 a t)) ⟨Nat.zero_le _, SpS.of q3⟩ ⟨w_1, w_2, rfl⟩ ?_
      rintro ⟨n, s1⟩ ⟨hn, hinv⟩
      dsimp only at hn hinv ⊢
      have k1 : s1.1.length = nx := hinv.1.trans (hx.symm.trans hnx.symm)
      have k2 : s1.2.length = a * a := hinv.2.1
      have gb1 : GBs s1.1 := hinv.2.2.1
      have gb2 : GBs s1.2 := hinv.2.2.2.1
      by_cases hnt : n < t
      ·have hna : n < a := by omega
       have hnx2 := SpS.top q3 hjb hta n3 hnt hinv
       have hd1 := d_cellH a b n j nx cx s1.1 k1.symm hinv.1 ha hb hna hjb
       have hd2 := d_cellH a b t j nx cx s1.1 k1.symm hinv.1 ha hb hta hjb
       have hdf := d_dfS _ _ (gb1 (n * b + j)) (gb1 (t * b + j))
       have hqb := dfQ_gb (s1.1.getD (n * b + j) 0) (s1.1.getD (t * b + j) 0)
       unfold dfV at hdf
       have hwa := d_opsAdd a b n t nx cx (-dfQ (s1.1.getD (n * b + j) 0) (s1.1.getD (t * b + j) 0)) s1.1 s1.2 k1.symm hinv.1 k2 ha hb hna hta (by omega) gb1 gb2 (.inl (by omega))
       ((repeat' (first | refine stx ?_ | refine zqc (hd1) ?_ | refine zqc (hd2) ?_ | refine zqc (hdf) ?_ | ((refine zqe (hwa) ?_); rintro v Hout n1 ⟨rfl, rfl, rfl⟩) | (refine stq ?_ ?_ <;> (intro hc; ((try simp at hc) <;> try contradiction))) | fail)) <;> try (exfalso; omega))
       all_goals exact ⟨[], (n + 1, (doX s1.1 b n t (-dfQ (s1.1.getD (n * b + j) 0) (s1.1.getD (t * b + j) 0)), doX s1.2 a n t (-dfQ (s1.1.getD (n * b + j) 0) (s1.1.getD (t * b + j) 0)))), ⟨hnt, hnx2⟩, w_4, ⟨⟨rfl, rfl, rfl, rfl, congrArg some (congrArg vI (by dsimp only; omega)), trivial⟩, ⟨rfl, rfl, rfl, rfl, trivial⟩, rfl⟩⟩
      ·have hnt' : n = t := by omega
       rw [hnt'] at hinv
       rw [hnt']
       have hb1 := fun c => d_bads s1.1 c (by omega)
       have hb2 := fun c => d_bads s1.2 c (by omega)
       rw [k1] at hb1
       rw [k2] at hb2
       by_cases h1 : badN ∈ s1.1
       ·rw [decide_eq_true h1] at hb1
        rw [hinv.bad (.inl (hasB_mem.2 h1)), Option.map_none] at hNx
        rw [none_le (f := hTo a b s0) (fun n h m => hTo_none h m) (n := j + 1) (by omega) hNx]
        ((repeat' (first | refine stx ?_ | refine zqc (hb1 _) ?_ | (refine stq ?_ ?_ <;> (intro hc; ((try simp at hc) <;> try contradiction))) | fail)) <;> try (exfalso; omega))
        all_goals exact fin rfl w_3 [] (vB false) [(1, .own 3 cx (.ints s1.1)), (2, .own 3 (a * a) (.ints s1.2))] 3 ⟨rfl, rfl, _, _, rfl⟩ rfl ⟨trivial, ⟨rfl, rfl, trivial⟩, rfl⟩ rfl
       ·rw [decide_eq_false h1] at hb1
        by_cases h2 : badN ∈ s1.2
        ·rw [decide_eq_true h2] at hb2
         rw [hinv.bad (.inr (hasB_mem.2 h2)), Option.map_none] at hNx
         rw [none_le (f := hTo a b s0) (fun n h m => hTo_none h m) (n := j + 1) (by omega) hNx]
         ((repeat' (first | refine stx ?_ | refine zqc (hb1 _) ?_ | refine zqc (hb2 _) ?_ | (refine stq ?_ ?_ <;> (intro hc; ((try simp at hc) <;> try contradiction))) | fail)) <;> try (exfalso; omega))
         all_goals exact fin rfl w_3 [] (vB false) [(1, .own 3 cx (.ints s1.1)), (2, .own 3 (a * a) (.ints s1.2))] 3 ⟨rfl, rfl, _, _, rfl⟩ rfl ⟨trivial, ⟨rfl, rfl, trivial⟩, rfl⟩ rfl
        ·rw [decide_eq_false h2] at hb2
         obtain ⟨hrn, r1⟩ := hinv.ok (fun h => h.elim (fun h => h1 (hasB_mem.1 h)) fun h => h2 (hasB_mem.1 h))
         rw [hrn, Option.map_some] at hNx
         ((repeat' (first | refine stx ?_ | refine zqc (hb1 _) ?_ | refine zqc (hb2 _) ?_ | (refine stq ?_ ?_ <;> (intro hc; ((try simp at hc) <;> try contradiction))) | fail)) <;> try (exfalso; omega))
         all_goals exact ⟨[], (j + 1, s1, t + 1), ⟨hjb, hta, hNx⟩, w_4, ⟨w_1, w_2, rfl⟩⟩
     ·have hg : ngS a b t j s = s := if_neg hng
      rw [hg] at hNx q3 n3
      ((repeat' (first | refine stx ?_ | refine zqc (hot) ?_ | refine zqc (hd) ?_ | (refine stq ?_ ?_ <;> (intro hc; ((try simp at hc) <;> try contradiction))) | fail)) <;> try (exfalso; omega))
      refine w_G hE (fun x : Nat × TwoL => x.1 ≤ t ∧ SpS a b (topTo a b t j s x.1) x.2) (fun x => t - x.1)
       (fun x => hFS j t ++ [(12, vI x.1)]) (fun x => hHS 26 3 a b nx cx x.2) 5 [] (0, s) ⟨Nat.zero_le _, SpS.of q3⟩ ⟨w_1, w_2, rfl⟩ ?_
      rintro ⟨n, s1⟩ ⟨hn, hinv⟩
      dsimp only at hn hinv ⊢
      have k1 : s1.1.length = nx := hinv.1.trans (hx.symm.trans hnx.symm)
      have k2 : s1.2.length = a * a := hinv.2.1
      have gb1 : GBs s1.1 := hinv.2.2.1
      have gb2 : GBs s1.2 := hinv.2.2.2.1
      by_cases hnt : n < t
      ·have hna : n < a := by omega
       have hnx2 := SpS.top q3 hjb hta n3 hnt hinv
       have hd1 := d_cellH a b n j nx cx s1.1 k1.symm hinv.1 ha hb hna hjb
       have hd2 := d_cellH a b t j nx cx s1.1 k1.symm hinv.1 ha hb hta hjb
       have hdf := d_dfS _ _ (gb1 (n * b + j)) (gb1 (t * b + j))
       have hqb := dfQ_gb (s1.1.getD (n * b + j) 0) (s1.1.getD (t * b + j) 0)
       unfold dfV at hdf
       have hwa := d_opsAdd a b n t nx cx (-dfQ (s1.1.getD (n * b + j) 0) (s1.1.getD (t * b + j) 0)) s1.1 s1.2 k1.symm hinv.1 k2 ha hb hna hta (by omega) gb1 gb2 (.inl (by omega))
       ((repeat' (first | refine stx ?_ | refine zqc (hd1) ?_ | refine zqc (hd2) ?_ | refine zqc (hdf) ?_ | ((refine zqe (hwa) ?_); rintro v Hout n1 ⟨rfl, rfl, rfl⟩) | (refine stq ?_ ?_ <;> (intro hc; ((try simp at hc) <;> try contradiction))) | fail)) <;> try (exfalso; omega))
       all_goals exact ⟨[], (n + 1, (doX s1.1 b n t (-dfQ (s1.1.getD (n * b + j) 0) (s1.1.getD (t * b + j) 0)), doX s1.2 a n t (-dfQ (s1.1.getD (n * b + j) 0) (s1.1.getD (t * b + j) 0)))), ⟨hnt, hnx2⟩, w_4, ⟨⟨rfl, rfl, rfl, rfl, congrArg some (congrArg vI (by dsimp only; omega)), trivial⟩, ⟨rfl, rfl, rfl, rfl, trivial⟩, rfl⟩⟩
      ·have hnt' : n = t := by omega
       rw [hnt'] at hinv
       rw [hnt']
       have hb1 := fun c => d_bads s1.1 c (by omega)
       have hb2 := fun c => d_bads s1.2 c (by omega)
       rw [k1] at hb1
       rw [k2] at hb2
       by_cases h1 : badN ∈ s1.1
       ·rw [decide_eq_true h1] at hb1
        rw [hinv.bad (.inl (hasB_mem.2 h1)), Option.map_none] at hNx
        rw [none_le (f := hTo a b s0) (fun n h m => hTo_none h m) (n := j + 1) (by omega) hNx]
        ((repeat' (first | refine stx ?_ | refine zqc (hb1 _) ?_ | (refine stq ?_ ?_ <;> (intro hc; ((try simp at hc) <;> try contradiction))) | fail)) <;> try (exfalso; omega))
        all_goals exact fin rfl w_3 [] (vB false) [(1, .own 3 cx (.ints s1.1)), (2, .own 3 (a * a) (.ints s1.2))] 3 ⟨rfl, rfl, _, _, rfl⟩ rfl ⟨trivial, ⟨rfl, rfl, trivial⟩, rfl⟩ rfl
       ·rw [decide_eq_false h1] at hb1
        by_cases h2 : badN ∈ s1.2
        ·rw [decide_eq_true h2] at hb2
         rw [hinv.bad (.inr (hasB_mem.2 h2)), Option.map_none] at hNx
         rw [none_le (f := hTo a b s0) (fun n h m => hTo_none h m) (n := j + 1) (by omega) hNx]
         ((repeat' (first | refine stx ?_ | refine zqc (hb1 _) ?_ | refine zqc (hb2 _) ?_ | (refine stq ?_ ?_ <;> (intro hc; ((try simp at hc) <;> try contradiction))) | fail)) <;> try (exfalso; omega))
         all_goals exact fin rfl w_3 [] (vB false) [(1, .own 3 cx (.ints s1.1)), (2, .own 3 (a * a) (.ints s1.2))] 3 ⟨rfl, rfl, _, _, rfl⟩ rfl ⟨trivial, ⟨rfl, rfl, trivial⟩, rfl⟩ rfl
        ·rw [decide_eq_false h2] at hb2
         obtain ⟨hrn, r1⟩ := hinv.ok (fun h => h.elim (fun h => h1 (hasB_mem.1 h)) fun h => h2 (hasB_mem.1 h))
         rw [hrn, Option.map_some] at hNx
         ((repeat' (first | refine stx ?_ | refine zqc (hb1 _) ?_ | refine zqc (hb2 _) ?_ | (refine stq ?_ ?_ <;> (intro hc; ((try simp at hc) <;> try contradiction))) | fail)) <;> try (exfalso; omega))
         all_goals exact ⟨[], (j + 1, s1, t + 1), ⟨hjb, hta, hNx⟩, w_4, ⟨w_1, w_2, rfl⟩⟩
    ·have hsw : swS a b p t s = (swapTo s.1 (p * b) (t * b) b, swapTo s.2 (p * a) (t * a) a) := if_neg hpt
     rw [hsw] at hNx q2 n2
     have hptI : ¬ ((p : Int) = (t : Int)) := by omega
     have hsp := d_opsSwap a b p t nx cx s.1 s.2 l1.symm o1 ha hb hpw.2 hta hpt
     have q3 := ngS_ok (r := a) (c := b) (t := t) (j := j) q2
     have n3 := ng_piv (t := t) q2 hta hjb n2
     have m1 : ((swapTo s.1 (p * b) (t * b) b, swapTo s.2 (p * a) (t * a) a)).1.length = nx := q2.1.trans (hx.symm.trans hnx.symm)
     have m2 : ((swapTo s.1 (p * b) (t * b) b, swapTo s.2 (p * a) (t * a) a)).2.length = a * a := q2.2.1
     have hd := d_cellH a b t j nx cx ((swapTo s.1 (p * b) (t * b) b, swapTo s.2 (p * a) (t * a) a)).1 m1.symm q2.1 ha hb hta hjb
     have w1 : ((swapTo s.1 (p * b) (t * b) b, swapTo s.2 (p * a) (t * a) a)).1[t * b + j]?.getD 0 = ((swapTo s.1 (p * b) (t * b) b, swapTo s.2 (p * a) (t * a) a)).1.getD (t * b + j) 0 := by simp
     have w2 : (swapTo s.1 (p * b) (t * b) b)[t * b + j]?.getD 0 = ((swapTo s.1 (p * b) (t * b) b, swapTo s.2 (p * a) (t * a) a)).1.getD (t * b + j) 0 := by simp
     have wb := num_getD q2.2.2.1 (t * b + j)
     by_cases hng : ((swapTo s.1 (p * b) (t * b) b, swapTo s.2 (p * a) (t * a) a)).1.getD (t * b + j) 0 < 0
     ·have hne := d_opsNeg a b t nx cx ((swapTo s.1 (p * b) (t * b) b, swapTo s.2 (p * a) (t * a) a)).1 ((swapTo s.1 (p * b) (t * b) b, swapTo s.2 (p * a) (t * a) a)).2 m1.symm q2 ha hb hta
      have hg : ngS a b t j (swapTo s.1 (p * b) (t * b) b, swapTo s.2 (p * a) (t * a) a) = (negX ((swapTo s.1 (p * b) (t * b) b, swapTo s.2 (p * a) (t * a) a)).1 b t, negX ((swapTo s.1 (p * b) (t * b) b, swapTo s.2 (p * a) (t * a) a)).2 a t) := if_pos hng
      rw [hg] at hNx q3 n3
      ((repeat' (first | refine stx ?_ | refine zqc (hot) ?_ | refine zqc (hd) ?_ | ((refine zqe (hne) ?_); rintro v Hout n1 ⟨rfl, rfl, rfl⟩) | ((refine zqe (hsp) ?_); rintro v Hout n1 ⟨rfl, rfl, rfl⟩) | (refine stq ?_ ?_ <;> (intro hc; ((try simp at hc) <;> try contradiction))) | fail)) <;> try (exfalso; omega))
      refine w_G hE (fun x : Nat × TwoL => x.1 ≤ t ∧ SpS a b (topTo a b t j (negX ((swapTo s.1 (p * b) (t * b) b, swapTo s.2 (p * a) (t * a) a)).1 b t, negX ((swapTo s.1 (p * b) (t * b) b, swapTo s.2 (p * a) (t * a) a)).2 a t) x.1) x.2) (fun x => t - x.1)
       (fun x => hFS j t ++ [(12, vI x.1)]) (fun x => hHS 26 3 a b nx cx x.2) 5 [] (0, (negX ((swapTo s.1 (p * b) (t * b) b, swapTo s.2 (p * a) (t * a) a)).1 b t, negX ((swapTo s.1 (p * b) (t * b) b, swapTo s.2 (p * a) (t * a) a)).2 a t)) ⟨Nat.zero_le _, SpS.of q3⟩ ⟨w_1, w_2, rfl⟩ ?_
      rintro ⟨n, s1⟩ ⟨hn, hinv⟩
      dsimp only at hn hinv ⊢
      have k1 : s1.1.length = nx := hinv.1.trans (hx.symm.trans hnx.symm)
      have k2 : s1.2.length = a * a := hinv.2.1
      have gb1 : GBs s1.1 := hinv.2.2.1
      have gb2 : GBs s1.2 := hinv.2.2.2.1
      by_cases hnt : n < t
      ·have hna : n < a := by omega
       have hnx2 := SpS.top q3 hjb hta n3 hnt hinv
       have hd1 := d_cellH a b n j nx cx s1.1 k1.symm hinv.1 ha hb hna hjb
       have hd2 := d_cellH a b t j nx cx s1.1 k1.symm hinv.1 ha hb hta hjb
       have hdf := d_dfS _ _ (gb1 (n * b + j)) (gb1 (t * b + j))
       have hqb := dfQ_gb (s1.1.getD (n * b + j) 0) (s1.1.getD (t * b + j) 0)
       unfold dfV at hdf
       have hwa := d_opsAdd a b n t nx cx (-dfQ (s1.1.getD (n * b + j) 0) (s1.1.getD (t * b + j) 0)) s1.1 s1.2 k1.symm hinv.1 k2 ha hb hna hta (by omega) gb1 gb2 (.inl (by omega))
       ((repeat' (first | refine stx ?_ | refine zqc (hd1) ?_ | refine zqc (hd2) ?_ | refine zqc (hdf) ?_ | ((refine zqe (hwa) ?_); rintro v Hout n1 ⟨rfl, rfl, rfl⟩) | (refine stq ?_ ?_ <;> (intro hc; ((try simp at hc) <;> try contradiction))) | fail)) <;> try (exfalso; omega))
       all_goals exact ⟨[], (n + 1, (doX s1.1 b n t (-dfQ (s1.1.getD (n * b + j) 0) (s1.1.getD (t * b + j) 0)), doX s1.2 a n t (-dfQ (s1.1.getD (n * b + j) 0) (s1.1.getD (t * b + j) 0)))), ⟨hnt, hnx2⟩, w_4, ⟨⟨rfl, rfl, rfl, rfl, congrArg some (congrArg vI (by dsimp only; omega)), trivial⟩, ⟨rfl, rfl, rfl, rfl, trivial⟩, rfl⟩⟩
      ·have hnt' : n = t := by omega
       rw [hnt'] at hinv
       rw [hnt']
       have hb1 := fun c => d_bads s1.1 c (by omega)
       have hb2 := fun c => d_bads s1.2 c (by omega)
       rw [k1] at hb1
       rw [k2] at hb2
       by_cases h1 : badN ∈ s1.1
       ·rw [decide_eq_true h1] at hb1
        rw [hinv.bad (.inl (hasB_mem.2 h1)), Option.map_none] at hNx
        rw [none_le (f := hTo a b s0) (fun n h m => hTo_none h m) (n := j + 1) (by omega) hNx]
        ((repeat' (first | refine stx ?_ | refine zqc (hb1 _) ?_ | (refine stq ?_ ?_ <;> (intro hc; ((try simp at hc) <;> try contradiction))) | fail)) <;> try (exfalso; omega))
        all_goals exact fin rfl w_3 [] (vB false) [(1, .own 3 cx (.ints s1.1)), (2, .own 3 (a * a) (.ints s1.2))] 3 ⟨rfl, rfl, _, _, rfl⟩ rfl ⟨trivial, ⟨rfl, rfl, trivial⟩, rfl⟩ rfl
       ·rw [decide_eq_false h1] at hb1
        by_cases h2 : badN ∈ s1.2
        ·rw [decide_eq_true h2] at hb2
         rw [hinv.bad (.inr (hasB_mem.2 h2)), Option.map_none] at hNx
         rw [none_le (f := hTo a b s0) (fun n h m => hTo_none h m) (n := j + 1) (by omega) hNx]
         ((repeat' (first | refine stx ?_ | refine zqc (hb1 _) ?_ | refine zqc (hb2 _) ?_ | (refine stq ?_ ?_ <;> (intro hc; ((try simp at hc) <;> try contradiction))) | fail)) <;> try (exfalso; omega))
         all_goals exact fin rfl w_3 [] (vB false) [(1, .own 3 cx (.ints s1.1)), (2, .own 3 (a * a) (.ints s1.2))] 3 ⟨rfl, rfl, _, _, rfl⟩ rfl ⟨trivial, ⟨rfl, rfl, trivial⟩, rfl⟩ rfl
        ·rw [decide_eq_false h2] at hb2
         obtain ⟨hrn, r1⟩ := hinv.ok (fun h => h.elim (fun h => h1 (hasB_mem.1 h)) fun h => h2 (hasB_mem.1 h))
         rw [hrn, Option.map_some] at hNx
         ((repeat' (first | refine stx ?_ | refine zqc (hb1 _) ?_ | refine zqc (hb2 _) ?_ | (refine stq ?_ ?_ <;> (intro hc; ((try simp at hc) <;> try contradiction))) | fail)) <;> try (exfalso; omega))
         all_goals exact ⟨[], (j + 1, s1, t + 1), ⟨hjb, hta, hNx⟩, w_4, ⟨w_1, w_2, rfl⟩⟩
     ·have hg : ngS a b t j (swapTo s.1 (p * b) (t * b) b, swapTo s.2 (p * a) (t * a) a) = (swapTo s.1 (p * b) (t * b) b, swapTo s.2 (p * a) (t * a) a) := if_neg hng
      rw [hg] at hNx q3 n3
      ((repeat' (first | refine stx ?_ | refine zqc (hot) ?_ | refine zqc (hd) ?_ | ((refine zqe (hsp) ?_); rintro v Hout n1 ⟨rfl, rfl, rfl⟩) | (refine stq ?_ ?_ <;> (intro hc; ((try simp at hc) <;> try contradiction))) | fail)) <;> try (exfalso; omega))
      refine w_G hE (fun x : Nat × TwoL => x.1 ≤ t ∧ SpS a b (topTo a b t j (swapTo s.1 (p * b) (t * b) b, swapTo s.2 (p * a) (t * a) a) x.1) x.2) (fun x => t - x.1)
       (fun x => hFS j t ++ [(12, vI x.1)]) (fun x => hHS 26 3 a b nx cx x.2) 5 [] (0, (swapTo s.1 (p * b) (t * b) b, swapTo s.2 (p * a) (t * a) a)) ⟨Nat.zero_le _, SpS.of q3⟩ ⟨w_1, w_2, rfl⟩ ?_
      rintro ⟨n, s1⟩ ⟨hn, hinv⟩
      dsimp only at hn hinv ⊢
      have k1 : s1.1.length = nx := hinv.1.trans (hx.symm.trans hnx.symm)
      have k2 : s1.2.length = a * a := hinv.2.1
      have gb1 : GBs s1.1 := hinv.2.2.1
      have gb2 : GBs s1.2 := hinv.2.2.2.1
      by_cases hnt : n < t
      ·have hna : n < a := by omega
       have hnx2 := SpS.top q3 hjb hta n3 hnt hinv
       have hd1 := d_cellH a b n j nx cx s1.1 k1.symm hinv.1 ha hb hna hjb
       have hd2 := d_cellH a b t j nx cx s1.1 k1.symm hinv.1 ha hb hta hjb
       have hdf := d_dfS _ _ (gb1 (n * b + j)) (gb1 (t * b + j))
       have hqb := dfQ_gb (s1.1.getD (n * b + j) 0) (s1.1.getD (t * b + j) 0)
       unfold dfV at hdf
       have hwa := d_opsAdd a b n t nx cx (-dfQ (s1.1.getD (n * b + j) 0) (s1.1.getD (t * b + j) 0)) s1.1 s1.2 k1.symm hinv.1 k2 ha hb hna hta (by omega) gb1 gb2 (.inl (by omega))
       ((repeat' (first | refine stx ?_ | refine zqc (hd1) ?_ | refine zqc (hd2) ?_ | refine zqc (hdf) ?_ | ((refine zqe (hwa) ?_); rintro v Hout n1 ⟨rfl, rfl, rfl⟩) | (refine stq ?_ ?_ <;> (intro hc; ((try simp at hc) <;> try contradiction))) | fail)) <;> try (exfalso; omega))
       all_goals exact ⟨[], (n + 1, (doX s1.1 b n t (-dfQ (s1.1.getD (n * b + j) 0) (s1.1.getD (t * b + j) 0)), doX s1.2 a n t (-dfQ (s1.1.getD (n * b + j) 0) (s1.1.getD (t * b + j) 0)))), ⟨hnt, hnx2⟩, w_4, ⟨⟨rfl, rfl, rfl, rfl, congrArg some (congrArg vI (by dsimp only; omega)), trivial⟩, ⟨rfl, rfl, rfl, rfl, trivial⟩, rfl⟩⟩
      ·have hnt' : n = t := by omega
       rw [hnt'] at hinv
       rw [hnt']
       have hb1 := fun c => d_bads s1.1 c (by omega)
       have hb2 := fun c => d_bads s1.2 c (by omega)
       rw [k1] at hb1
       rw [k2] at hb2
       by_cases h1 : badN ∈ s1.1
       ·rw [decide_eq_true h1] at hb1
        rw [hinv.bad (.inl (hasB_mem.2 h1)), Option.map_none] at hNx
        rw [none_le (f := hTo a b s0) (fun n h m => hTo_none h m) (n := j + 1) (by omega) hNx]
        ((repeat' (first | refine stx ?_ | refine zqc (hb1 _) ?_ | (refine stq ?_ ?_ <;> (intro hc; ((try simp at hc) <;> try contradiction))) | fail)) <;> try (exfalso; omega))
        all_goals exact fin rfl w_3 [] (vB false) [(1, .own 3 cx (.ints s1.1)), (2, .own 3 (a * a) (.ints s1.2))] 3 ⟨rfl, rfl, _, _, rfl⟩ rfl ⟨trivial, ⟨rfl, rfl, trivial⟩, rfl⟩ rfl
       ·rw [decide_eq_false h1] at hb1
        by_cases h2 : badN ∈ s1.2
        ·rw [decide_eq_true h2] at hb2
         rw [hinv.bad (.inr (hasB_mem.2 h2)), Option.map_none] at hNx
         rw [none_le (f := hTo a b s0) (fun n h m => hTo_none h m) (n := j + 1) (by omega) hNx]
         ((repeat' (first | refine stx ?_ | refine zqc (hb1 _) ?_ | refine zqc (hb2 _) ?_ | (refine stq ?_ ?_ <;> (intro hc; ((try simp at hc) <;> try contradiction))) | fail)) <;> try (exfalso; omega))
         all_goals exact fin rfl w_3 [] (vB false) [(1, .own 3 cx (.ints s1.1)), (2, .own 3 (a * a) (.ints s1.2))] 3 ⟨rfl, rfl, _, _, rfl⟩ rfl ⟨trivial, ⟨rfl, rfl, trivial⟩, rfl⟩ rfl
        ·rw [decide_eq_false h2] at hb2
         obtain ⟨hrn, r1⟩ := hinv.ok (fun h => h.elim (fun h => h1 (hasB_mem.1 h)) fun h => h2 (hasB_mem.1 h))
         rw [hrn, Option.map_some] at hNx
         ((repeat' (first | refine stx ?_ | refine zqc (hb1 _) ?_ | refine zqc (hb2 _) ?_ | (refine stq ?_ ?_ <;> (intro hc; ((try simp at hc) <;> try contradiction))) | fail)) <;> try (exfalso; omega))
         all_goals exact ⟨[], (j + 1, s1, t + 1), ⟨hjb, hta, hNx⟩, w_4, ⟨w_1, w_2, rfl⟩⟩
   ·rw [decide_eq_false hal] at hot
    ((repeat' (first | refine stx ?_ | refine zqc (hot) ?_ | (refine stq ?_ ?_ <;> (intro hc; ((try simp at hc) <;> try contradiction))) | fail)) <;> try (exfalso; omega))
    refine w_G hE (fun x : Nat × TwoL => t + x.1 ≤ a ∧ SpS a b (rndTo a b t p j s x.1) x.2) (fun x => a - (t + x.1))
     (fun x => hFS j t ++ [(7, vI p), (8, vI ((t + x.1 : Nat) : Int))]) (fun x => hHS 26 3 a b nx cx x.2) 5 [] (0, s) ⟨by omega, SpS.of o1⟩ ⟨w_1, w_2, rfl⟩ ?_
    rintro ⟨n, s1⟩ ⟨hn, hinv⟩
    dsimp only at hn hinv ⊢
    have k1 : s1.1.length = nx := hinv.1.trans (hx.symm.trans hnx.symm)
    have k2 : s1.2.length = a * a := hinv.2.1
    have gb1 : GBs s1.1 := hinv.2.2.1
    have gb2 : GBs s1.2 := hinv.2.2.2.1
    by_cases hna : t + n < a
    ·obtain ⟨hskip, hdo⟩ := SpS.rnd o1 hjb hp0 hna hinv
     have hd := d_cellH a b (t + n) j nx cx s1.1 k1.symm hinv.1 ha hb hna hjb
     have hd2 := d_cellH a b p j nx cx s1.1 k1.symm hinv.1 ha hb hpw.2 hjb
     have w1 : s1.1[(t + n) * b + j]?.getD 0 = s1.1.getD ((t + n) * b + j) 0 := by simp
     have nb := (gb1 ((t + n) * b + j)).rng
     by_cases hsk : t + n ≠ p ∧ s1.1.getD ((t + n) * b + j) 0 ≠ 0
     ·have hnx2 := hdo hsk
      have hdf := d_dfS _ _ (gb1 ((t + n) * b + j)) (gb1 (p * b + j))
      have hqb := dfQ_gb (s1.1.getD ((t + n) * b + j) 0) (s1.1.getD (p * b + j) 0)
      unfold dfV at hdf
      have hwa := d_opsAdd a b (t + n) p nx cx (-dfQ (s1.1.getD ((t + n) * b + j) 0) (s1.1.getD (p * b + j) 0)) s1.1 s1.2 k1.symm hinv.1 k2 ha hb hna hpw.2 hsk.1 gb1 gb2 (.inl (by omega))
      have hI1 : ¬ (((t + n : Nat) : Int) = (p : Int)) := by omega
      ((repeat' (first | refine stx ?_ | refine zqc (hd) ?_ | refine zqc (hd2) ?_ | refine zqc (hdf) ?_ | ((refine zqe (hwa) ?_); rintro v Hout n1 ⟨rfl, rfl, rfl⟩) | (refine stq ?_ ?_ <;> (intro hc; ((try simp at hc) <;> try contradiction))) | fail)) <;> try (exfalso; omega))
      all_goals exact ⟨[], (n + 1, (doX s1.1 b (t + n) p (-dfQ (s1.1.getD ((t + n) * b + j) 0) (s1.1.getD (p * b + j) 0)), doX s1.2 a (t + n) p (-dfQ (s1.1.getD ((t + n) * b + j) 0) (s1.1.getD (p * b + j) 0)))), ⟨by dsimp only; omega, hnx2⟩, w_4, ⟨⟨rfl, rfl, rfl, rfl, rfl, congrArg some (congrArg vI (by dsimp only; omega)), trivial⟩, ⟨rfl, rfl, rfl, rfl, trivial⟩, rfl⟩⟩
     ·have hnx2 := hskip hsk
      ((repeat' (first | refine stx ?_ | refine zqc (hd) ?_ | (refine stq ?_ ?_ <;> (intro hc; ((try simp at hc) <;> try contradiction))) | fail)) <;> try (exfalso; omega))
      all_goals exact ⟨[], (n + 1, s1), ⟨by dsimp only; omega, hnx2⟩, w_4, ⟨⟨rfl, rfl, rfl, rfl, rfl, congrArg some (congrArg vI (by dsimp only; omega)), trivial⟩, ⟨rfl, rfl, rfl, rfl, trivial⟩, rfl⟩⟩
    ·have hnt : n = a - t := by omega
     have htn : t + n = a := by omega
     rw [hnt] at hinv
     have htn' : ((t + n : Nat) : Int) = a := by omega
     rw [htn']
     have hb1 := fun c => d_bads s1.1 c (by omega)
     have hb2 := fun c => d_bads s1.2 c (by omega)
     rw [k1] at hb1
     rw [k2] at hb2
     by_cases h1 : badN ∈ s1.1
     ·rw [decide_eq_true h1] at hb1
      have hR0 := hRbad (hRR.symm.trans (red_bad hal (hinv.bad (.inl (hasB_mem.2 h1)))))
      rw [hR0]
      ((repeat' (first | refine stx ?_ | refine zqc (hb1 _) ?_ | (refine stq ?_ ?_ <;> (intro hc; ((try simp at hc) <;> try contradiction))) | fail)) <;> try (exfalso; omega))
      all_goals exact fin rfl w_3 [] (vB false) [(1, .own 3 cx (.ints s1.1)), (2, .own 3 (a * a) (.ints s1.2))] 3 ⟨rfl, rfl, _, _, rfl⟩ rfl ⟨trivial, ⟨rfl, rfl, trivial⟩, rfl⟩ rfl
     ·rw [decide_eq_false h1] at hb1
      by_cases h2 : badN ∈ s1.2
      ·rw [decide_eq_true h2] at hb2
       have hR0 := hRbad (hRR.symm.trans (red_bad hal (hinv.bad (.inr (hasB_mem.2 h2)))))
       rw [hR0]
       ((repeat' (first | refine stx ?_ | refine zqc (hb1 _) ?_ | refine zqc (hb2 _) ?_ | (refine stq ?_ ?_ <;> (intro hc; ((try simp at hc) <;> try contradiction))) | fail)) <;> try (exfalso; omega))
       all_goals exact fin rfl w_3 [] (vB false) [(1, .own 3 cx (.ints s1.1)), (2, .own 3 (a * a) (.ints s1.2))] 3 ⟨rfl, rfl, _, _, rfl⟩ rfl ⟨trivial, ⟨rfl, rfl, trivial⟩, rfl⟩ rfl
      ·rw [decide_eq_false h2] at hb2
       obtain ⟨hrn, q1⟩ := hinv.ok (fun h => h.elim (fun h => h1 (hasB_mem.1 h)) fun h => h2 (hasB_mem.1 h))
       obtain ⟨p', e1, e2, e3⟩ := red_step o1 hjb hp0 hpw hal hrn
       obtain ⟨⟨f1, f2⟩, f3⟩ := leastTo_some e1
       have hlr := d_leastS a b t j nx cx s1.1 k1.symm q1.1 q1.2.2.1 ha hb ht hjb
       rw [e1] at hlr
       ((repeat' (first | refine stx ?_ | refine zqc (hb1 _) ?_ | refine zqc (hb2 _) ?_ | refine zqc (hlr) ?_ | (refine stq ?_ ?_ <;> (intro hc; ((try simp at hc) <;> try contradiction))) | fail)) <;> try (exfalso; omega))
       all_goals exact ⟨[], (s1, p'), ⟨q1, ⟨f1, by dsimp only; omega⟩, f3, e2.symm.trans hRR⟩, e3, ⟨⟨rfl, rfl, rfl, rfl, rfl, trivial⟩, ⟨rfl, rfl, rfl, rfl, trivial⟩, rfl⟩⟩
 ·have hE' : hTo a b s0 b = some (s, t) := by
   by_cases hjb : j < b
   ·have := hTo_full hT (show a ≤ t by omega) (b - j)
    rwa [show j + (b - j) = b by omega] at this
   ·rwa [show j = b by omega] at hT
  rw [hE']
  ((repeat' (first | refine stx ?_ | (refine stq ?_ ?_ <;> (intro hc; ((try simp at hc) <;> try contradiction))) | fail)) <;> try (exfalso; omega))
  all_goals exact fin rfl w_3 [] (vB true) [(1, .own 3 cx (.ints s.1)), (2, .own 3 (a * a) (.ints s.2))] 3 ⟨rfl, rfl, rfl⟩ rfl ⟨trivial, ⟨rfl, rfl, trivial⟩, rfl⟩ rfl
set_option maxRecDepth 100000 in
set_option maxHeartbeats 4000000 in
theorem d_hermS (r c : Int) (xs : List Int) (ca : Nat) (hl : xs.length ≤ 1099511627776) : Does Tryz.prog 114 [vM r c 1 xs.length ca] [(1, .ro (.ints xs))] 2 (HermR 3 r c (hermO r c xs) 2) := by
 refine Does.intro TT Tryz.func114 rfl (by kernel_rfl) Zz Zz fun E hE => ?_
 cases hm : isM r c xs
 ·have hR : hermO r c xs = none := by simp [hermO, hm]
  rw [hR]
  ((repeat' (first | refine stx ?_ | (refine zqc (d_isMatS _ _ _ _ hl) ?_ <;> simp only [hm]) | (refine stq ?_ ?_ <;> (intro hc; ((try simp at hc) <;> try contradiction))) | fail)) <;> try (exfalso; omega))
  all_goals exact fin rfl w_3 [] (.tup [.agg zeroM, .agg zeroM, .one (.bool false)]) [] 2 ⟨rfl, rfl, rfl⟩ rfl ⟨trivial, trivial, rfl⟩ rfl
 ·obtain ⟨a, b, rfl, rfl, ha, hb, hx, hnum⟩ := isM_dimsH hm
  have hR : hermO a b xs = (hTo a b (xs, idTo a a) b).map (·.1) := by simp [hermO, hm]
  rw [hR]
  have o0 : OKs a b (xs, idTo a a) := ⟨hx, idTo_len, hnum, id_num⟩
  have hid := d_identSN a ha
  have hh := fun cx h => d_l12H a b cx (xs, idTo a a) o0 ha hb h
  cases hT : hTo a b (xs, idTo a a) b with
  | none =>
   rw [hT] at hh
   ((repeat' (first | refine stx ?_ | (refine zqc (d_isMatS _ _ _ _ hl) ?_ <;> simp only [hm]) | (refine w_C (d_copyS _ _ xs _ hl) Zz Zz Zz Zz Zz Zz Zz ft Zz Zz (CopyM.out) ?_; rintro v b ⟨c1, hc1, rfl, he, -⟩; cases he) | ((refine zqe (hid) ?_); rintro v Hout n1 ⟨rfl, rfl, rfl⟩) | ((refine zqe (hh _ hc1) ?_); rintro v Hout n1 ⟨rfl, rfl, ys, zs, rfl⟩) | (refine stq ?_ ?_ <;> (intro hc; ((try simp at hc) <;> try contradiction))) | fail)) <;> try (exfalso; omega))
   all_goals exact fin rfl w_3 [] (.tup [.agg zeroM, .agg zeroM, .one (.bool false)]) [] 2 ⟨rfl, rfl, rfl⟩ rfl ⟨trivial, trivial, rfl⟩ rfl
  | some st =>
   obtain ⟨s, t⟩ := st
   rw [hT] at hh
   obtain ⟨o1, -, -⟩ := hTo_ok o0 hT
   have l1 : s.1.length = xs.length := o1.1.trans hx.symm
   have l2 : s.2.length = a * a := o1.2.1
   ((repeat' (first | refine stx ?_ | (refine zqc (d_isMatS _ _ _ _ hl) ?_ <;> simp only [hm]) | (refine w_C (d_copyS _ _ xs _ hl) Zz Zz Zz Zz Zz Zz Zz ft Zz Zz (CopyM.out) ?_; rintro v b ⟨c1, hc1, rfl, he, -⟩; cases he) | ((refine zqe (hid) ?_); rintro v Hout n1 ⟨rfl, rfl, rfl⟩) | ((refine zqe (hh _ hc1) ?_); rintro v Hout n1 ⟨rfl, rfl, rfl⟩) | (refine stq ?_ ?_ <;> (intro hc; ((try simp at hc) <;> try contradiction))) | fail)) <;> try (exfalso; omega))
   refine awp_held TM [(6, _), (8, _)] sb rfl (fun ρs => ?_)
   refine zt0 ?_
   refine zt1 ?_
   refine w_u [2] kr rfl ⟨?_, trivial⟩
   first | (refine zho ?_)
   refine w_u [3] kr rfl ⟨?_, trivial⟩
   first | (refine zho ?_)
   refine zt4 ?_
   refine w_v kr ?_
   rotate_left
   ((repeat' (first | refine stx ?_ | (refine stq ?_ ?_ <;> (intro hc; ((try simp at hc) <;> try contradiction))) | fail)) <;> try (exfalso; omega))
   all_goals exact fin rfl w_3 [(2, 5), (3, 7)] (.tup [.agg [.int a, .int b, .sl 2 1 0 xs.length c1], .agg [.int a, .int a, .sl 3 1 0 (a * a) (a * a)], .one (.bool true)]) [(2, .own 3 c1 (.ints s.1)), (3, .own 3 (a * a) (.ints s.2))] 4 ⟨c1, a * a, by rw [l1]; exact hc1, by rw [l2]; exact Nat.le_refl _, by rw [l1, l2], rfl, rfl⟩ rfl ⟨trivial, ⟨rfl, rfl, trivial⟩, rfl⟩ rfl
end Go.Proofs.YtekpamojojfplaaGreat
namespace Go.Proofs.YtekpamojojfplaaGreat
open Go.RowKit
def cellsOf (l : List Row) : List Int := l.flatMap Row.xs
theorem cellsOf_take {l : List Row} {k : Nat} (h : k < l.length) : cellsOf (l.take (k + 1)) = cellsOf (l.take k) ++ l[k].xs := by
  rw [cellsOf, List.take_succ_eq_append_getElem h, List.flatMap_append]; simp [cellsOf]
theorem getD_row {l : List Row} {j : Nat} (h : j < l.length) : l[j]?.getD rowD = l[j] := by simp [h]
def FromR (n : Nat) (c : Int) (t : TypeId) (xs : List Int) (k : Nat) (v : AV) (Hout : List (Nat × Blk)) (n1 : Nat) : Prop := ∃ cap, xs.length ≤ cap ∧ v = .agg [.int n, .int c, .sl k 1 0 xs.length cap] ∧ Hout = [(k, .own t cap (.ints xs))] ∧ n1 = k + 1
theorem FromR.out {n : Nat} {c : Int} {t : TypeId} {xs : List Int} {k : Nat} : ∀ v Hout n1, FromR n c t xs k v Hout n1 → ∃ b, Hout = [(k, b)] ∧ n1 = k + 1 ∧ b.keys = [] := fun _ _ _ ⟨_, _, _, h2, h3⟩ => ⟨_, h2, h3, by simp [Blk.keys, Elts.keys, Elts.all, ints_keys]⟩
theorem cells_le {l : List Row} {k : Nat} : (cellsOf (l.take k)).length ≤ (cellsOf l).length := by
  have h : cellsOf l = cellsOf (l.take k) ++ cellsOf (l.drop k) := by
    conv => lhs; rw [← List.take_append_drop k l]
    simp only [cellsOf, List.flatMap_append]
  rw [h, List.length_append]; omega
theorem own_lit3R {t : TypeId} {c : Nat} {x y : Int} {k k' a b cp : Nat} {m : Nat → Nat} (h : a = b) (hk : k' = m k := by rfl) : some (Blk.own t c (.lit [.int x, .int y, .sl k' 1 0 a cp])) = some ((Blk.own t c (.lit [.int x, .int y, .sl k 1 0 b cp])).ren m) := by subst h hk; rfl
set_option maxHeartbeats 2000000 in
theorem d_fromRows (l : List Row) (c : Int) (cp : Nat) (hl : l.length ≤ 1000000) (hc : (cellsOf l).length ≤ 1000000) : Does Tryz.prog 97 [vS 1 1 0 l.length cp, vI c] [(1, .ro (.rows false true l))] 2 (FromR l.length c 3 (cellsOf l) 2) := by
 refine Does.intro TT Tryz.func97 rfl (by kernel_rfl) Zz Zz fun E hE => ?_
 ((repeat' (first | refine stx ?_ | (refine stq ?_ ?_ <;> (intro hc; ((try simp at hc) <;> try contradiction))) | fail)) <;> try (exfalso; omega))
 refine w_G hE (fun i : Nat × Nat => i.1 ≤ l.length ∧ (cellsOf (l.take i.1)).length ≤ i.2) (fun i => l.length - i.1)
  (fun i => [(4, .one (.ptr 2 3 0 0)), (5, .one (.ptr 4 3 0 0)), (13, vS 1 1 0 l.length cp), (14, vI l.length), (15, vI i.1)])
  (fun i => [(1, .ro (.rows false true l)), (2, .own 26 1 (.lit zeroM)), (3, .own 3 i.2 (.ints (cellsOf (l.take i.1)))), (4, .own 26 1 (.lit [.int l.length, .int c, .sl 3 1 0 (cellsOf (l.take i.1)).length i.2]))]) 5 [] (0, 0) ⟨Nat.zero_le _, Nat.zero_le _⟩ ⟨w_1, w_2, rfl⟩ ?_
 rintro ⟨i, cap⟩ ⟨hi, hcap⟩
 dsimp only at hi hcap
 by_cases hil : i < l.length
 ·have b1 := cells_le (l := l) (k := i + 1)
  have e1 := cellsOf_take hil
  have b2 : (cellsOf (l.take i)).length + (l[i]).xs.length ≤ 1000000 := by
   have := congrArg List.length e1
   simp only [List.length_append] at this
   omega
  have b3 := getD_row hil
  rw [← b3] at b2 e1
  ((repeat' (first | refine stx ?_ | (refine zqx ?_; intro cap hcap) | (refine stq ?_ ?_ <;> (intro hc; ((try simp at hc) <;> try contradiction))) | fail)) <;> try (exfalso; omega))
  have e2 : (cellsOf (l.take i)).length + (l.getD (0 + (i : Int).toNat) rowD).xs.length = (cellsOf (l.take (i + 1))).length := by rw [e1]; simp
  exact ⟨[(3, 6)], (i + 1, cap), ⟨by dsimp only; omega, by dsimp only at hcap ⊢; omega⟩, w_4, ⟨w_1, ⟨rfl, rfl, own_ints (by simp [e1]), own_lit3R e2, trivial⟩, rfl⟩⟩
 ·obtain rfl : i = l.length := by omega
  ((repeat' (first | refine stx ?_ | (refine stq ?_ ?_ <;> (intro hc; ((try simp at hc) <;> try contradiction))) | fail)) <;> try (exfalso; omega))
  rw [List.take_length] at hcap
  exact fin rfl w_3 [(2, 3)] (.agg [.int l.length, .int c, .sl 2 1 0 (cellsOf l).length cap]) [(2, .own 3 cap (.ints (cellsOf l)))] 3 ⟨cap, hcap, rfl, rfl, rfl⟩ (by simp [mp]; rfl) ⟨trivial, ⟨own_ints (by simp), trivial⟩, rfl⟩ rfl
def natsI (l : List Nat) : List Int := l.map Int.ofNat
theorem natsI_len {l : List Nat} : (natsI l).length = l.length := by simp [natsI]
theorem natsI_at {l : List Nat} {i : Nat} (h : i < l.length) : ((l[i] : Nat) : Int) = (natsI l).getD (0 + (i : Int).toNat) 0 := by simp [natsI, h]
def pickR (xs : List Int) (c : Nat) (is : List Nat) : List Int := is.flatMap fun i => (xs.drop (i * c)).take c
theorem pickR_len {xs : List Int} {r c : Nat} (hx : xs.length = r * c) : ∀ {is : List Nat}, (∀ i ∈ is, i < r) → (pickR xs c is).length = is.length * c
  | [], _ => by simp [pickR]
  | i :: is, h => by
    have h1 := row_in (c := c) (h i (by simp))
    have h2 := pickR_len hx (is := is) fun j hj => h j (by simp [hj])
    simp only [pickR] at h2
    simp only [pickR, List.flatMap_cons, List.length_append, h2, List.length_cons, Nat.succ_mul]
    simp; omega
set_option maxHeartbeats 2000000 in
theorem d_takeRows (r c : Nat) (xs : List Int) (is : List Nat) (ca cp n m : Nat) (hn : n = xs.length) (hm : m = is.length) (hx : xs.length = r * c) (hca : xs.length ≤ ca) (hr : r ≤ 24) (hc24 : c ≤ 24) (his : ∀ i ∈ is, i < r) (hil : is.length ≤ 1000) :
    Does Tryz.prog 122 [vM r c 1 n ca, vS 2 1 0 m cp] [(1, .ro (.ints xs)), (2, .ro (.ints (natsI is)))] 3 (FromR is.length c 3 (pickR xs c is) 3) := by
  subst hn hm
  refine Does.intro TT Tryz.func122 rfl (by kernel_rfl) Zz Zz fun E hE => ?_
  ((repeat' (first | refine stx ?_ | (refine stq ?_ ?_ <;> (intro hc; ((try simp at hc) <;> try contradiction))) | fail)) <;> try (exfalso; omega))
  refine w_G hE (fun i : Nat × List Row × Nat => i.1 ≤ is.length ∧ i.2.1.length = i.1 ∧ cellsOf i.2.1 = pickR xs c (is.take i.1)) (fun i => is.length - i.1)
    (fun i => [(2, .one (.ptr 3 3 0 0)), (4, .one (.ptr 4 3 0 0)), (5, vS 5 1 0 i.2.1.length i.2.2), (9, vS 2 1 0 is.length cp), (10, vI is.length), (11, vI i.1)])
    (fun i => [(1, .ro (.ints xs)), (2, .ro (.ints (natsI is))), (3, .own 26 1 (.lit [.int r, .int c, .sl 1 1 0 xs.length ca])), (4, .own 26 1 (.lit zeroM)), (5, .own 24 i.2.2 (.rows false true i.2.1))]) 6 [] (0, [], 0) ⟨Nat.zero_le _, rfl, rfl⟩ ⟨w_1, w_2, rfl⟩ ?_
  rintro ⟨i, l, cap⟩ ⟨hi, hl, hcl⟩
  dsimp only at hi hl hcl
  by_cases hk : i < is.length
  · have b1 := his _ (List.getElem_mem hk)
    have b2 := row_in (c := c) b1
    have hln : (natsI is).length = is.length := natsI_len
    have hd := d_rowAt r c is[i] xs.length ca xs rfl hx hca hr hc24 b1
    rw [natsI_at hk] at hd
    have hlen : ((xs.drop (is[i] * c)).take c).length = c := by simp; omega
    ((repeat' (first | refine stx ?_ | ((refine zqe (hd) ?_); rintro v Hout n1 ⟨cpr, rfl, rfl, rfl⟩) | (refine stq ?_ ?_ <;> (intro hc; ((try simp at hc) <;> try contradiction))) | fail)) <;> try (exfalso; omega))
    (refine awpL_view 18 Zz Zz Zz Zz Zz Zz (by first | omega | (simp only [Elts.len]; omega)) rfl ints_keys ?_; intro av)
    ((repeat' (first | refine stx ?_ | (refine zqx ?_; intro cap hcap) | (refine stq ?_ ?_ <;> (intro hc; ((try simp at hc) <;> try contradiction))) | fail)) <;> try (exfalso; omega))
    refine ⟨[(5, 8)], (i + 1, l ++ [⟨av, cpr, (xs.drop (is[i] * c)).take c, []⟩], cap), ⟨by dsimp only; omega, by simp [hl], ?_⟩, w_4, ⟨w_1, ⟨rfl, rfl, rfl, rfl, rfl, trivial⟩, rfl⟩⟩
    dsimp only
    rw [List.take_succ_eq_append_getElem hk]
    simp only [cellsOf, pickR, List.flatMap_append] at hcl ⊢
    rw [hcl]; simp
  · obtain rfl : i = is.length := by omega
    rw [List.take_length] at hcl
    have hp := pickR_len hx his
    have hb : is.length * c ≤ 1000 * 24 := Nat.mul_le_mul hil hc24
    have hf := d_fromRows l c cap (by omega) (by rw [hcl, hp]; omega)
    rw [hcl, hl] at hf
    rw [← hl] at hf
    ((repeat' (first | refine stx ?_ | (refine w_C (hf) Zz Zz Zz Zz Zz Zz Zz ft Zz Zz (FromR.out) ?_; rintro v b ⟨c1, hc1, rfl, he, -⟩; cases he) | (refine stq ?_ ?_ <;> (intro hc; ((try simp at hc) <;> try contradiction))) | fail)) <;> try (exfalso; omega))
    exact fin rfl w_3 [(3, 6)] (.agg [.int l.length, .int c, .sl 3 1 0 (pickR xs c is).length c1]) [(3, .own 3 c1 (.ints (pickR xs c is)))] 4 ⟨c1, hc1, by rw [hl], rfl, rfl⟩ rfl ⟨trivial, ⟨rfl, trivial⟩, rfl⟩ rfl
end Go.Proofs.YtekpamojojfplaaGreat
