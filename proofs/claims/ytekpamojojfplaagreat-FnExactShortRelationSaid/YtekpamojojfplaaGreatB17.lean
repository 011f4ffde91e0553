/-
  TEXTS OF THE PROOF, put together: bHermI.
-/
import Derived.Test.YtekpamojojfplaaGreatB16
set_option linter.unusedVariables false
set_option linter.unusedSimpArgs false
namespace Go.Proofs.YtekpamojojfplaaGreat
open Go.RowKit
theorem rnd_skip {r c t p j n : Nat} {s0 s : TwoL} (h : rndTo r c t p j s0 n = some s) (hk : ¬ (t + n ≠ p ∧ s.1.getD ((t + n) * c + j) 0 ≠ 0)) : rndTo r c t p j s0 (n + 1) = some s := by rw [rndTo, h, Option.bind_some, rndAt, if_neg hk]
theorem rnd_go {r c t p j n : Nat} {s0 s : TwoL} (h : rndTo r c t p j s0 n = some s) (hk : t + n ≠ p ∧ s.1.getD ((t + n) * c + j) 0 ≠ 0) : rndTo r c t p j s0 (n + 1) = addS c r (t + n) p (-(s.1.getD ((t + n) * c + j) 0 / s.1.getD (p * c + j) 0)) s := by rw [rndTo, h, Option.bind_some, rndAt, if_pos hk]
theorem top_go {r c t j n : Nat} {s0 s : TwoL} (h : topTo r c t j s0 n = some s) : topTo r c t j s0 (n + 1) = addS c r n t (-(s.1.getD (n * c + j) 0 / s.1.getD (t * c + j) 0)) s := by rw [topTo, h, Option.bind_some, topAt]
theorem col_none {r c j t : Nat} {s : TwoL} (ht : t < r) (hl : leastTo s.1 c t j (r - t) = none) : hCol r c j (s, t) = some (s, t) := by
  unfold hCol
  dsimp only
  rw [if_pos ht, hl]
theorem col_bad {r c j t p : Nat} {s : TwoL} (ht : t < r) (hl : leastTo s.1 c t j (r - t) = some p) (hr : redCol r c t j s p = none) : hCol r c j (s, t) = none := by
  unfold hCol
  dsimp only
  rw [if_pos ht, hl]
  dsimp only
  rw [hr]
theorem col_top {r c j t p p' : Nat} {s s' : TwoL} (ht : t < r) (hl : leastTo s.1 c t j (r - t) = some p) (hr : redCol r c t j s p = some (s', p')) : hCol r c j (s, t) = (topTo r c t j (ngS r c t j (swS r c p' t s')) t).map fun s2 => (s2, t + 1) := by
  unfold hCol
  dsimp only
  rw [if_pos ht, hl]
  dsimp only
  rw [hr]
theorem hTo_next {r c j : Nat} {s0 : TwoL} {st : TwoL × Nat} (h : hTo r c s0 j = some st) : hTo r c s0 (j + 1) = hCol r c j st := by rw [hTo, h, Option.bind_some]
theorem swapTo_in {xs : List Int} {o1 o2 k : Nat} : ∀ {n : Nat}, k < n → (o1 + n ≤ o2 ∨ o2 + n ≤ o1) → o1 + n ≤ xs.length → o2 + n ≤ xs.length → (swapTo xs o1 o2 n).getD (o1 + k) 0 = xs.getD (o2 + k) 0 ∧ (swapTo xs o1 o2 n).getD (o2 + k) 0 = xs.getD (o1 + k) 0
  | 0, h, _, _, _ => by omega
  | n + 1, h, ha, h1, h2 => by
    have hl : (swapTo xs o1 o2 n).length = xs.length := swapTo_len
    rw [swapTo, getD_set, getD_set, getD_set, getD_set]
    simp only [List.length_set, hl]
    rcases Nat.lt_or_ge k n with e | e
    · obtain ⟨i1, i2⟩ := swapTo_in (xs := xs) (o1 := o1) (o2 := o2) e (by omega) (by omega) (by omega)
      rw [if_neg (by omega), if_neg (by omega), if_neg (by omega), if_neg (by omega)]
      exact ⟨i1, i2⟩
    · obtain rfl : k = n := by omega
      rw [if_neg (by omega), if_pos ⟨rfl, by omega⟩, if_pos ⟨rfl, by omega⟩]
      exact ⟨rfl, rfl⟩
theorem sw_piv {a b p t j : Nat} {s : TwoL} (h : OKs a b s) (hp : p < a) (ht : t < a) (hj : j < b) (h0 : s.1.getD (p * b + j) 0 ≠ 0) : (swS a b p t s).1.getD (t * b + j) 0 ≠ 0 := by
  unfold swS
  split
  · rename_i e; rw [← e]; exact h0
  · rename_i e
    have := (swapTo_in (xs := s.1) (o1 := p * b) (o2 := t * b) hj (row_apart e) (by rw [h.1]; exact row_in hp) (by rw [h.1]; exact row_in ht)).2
    dsimp only
    rw [this]; exact h0
theorem ng_piv {a b t j : Nat} {s : TwoL} (h : OKs a b s) (ht : t < a) (hj : j < b) (h0 : s.1.getD (t * b + j) 0 ≠ 0) : (ngS a b t j s).1.getD (t * b + j) 0 ≠ 0 := by
  unfold ngS
  split
  · dsimp only
    rw [negX, updTo_in hj (by rw [h.1]; exact row_in ht)]
    omega
  · exact h0
theorem id_num {n i : Nat} : (idTo n i).all numB = true := by
  rw [List.all_eq_true]
  intro x hx
  simp only [idTo, List.mem_map] at hx
  obtain ⟨p, _, rfl⟩ := hx
  split <;> decide
def HermR (t : TypeId) (r c : Int) (o : Option TwoL) (k : Nat) (v : AV) (Hout : List (Nat × Blk)) (n1 : Nat) : Prop := match o with
  | none => v = .tup [.agg zeroM, .agg zeroM, .one (.bool false)] ∧ Hout = [] ∧ n1 = k
  | some s => ∃ cx cu, s.1.length ≤ cx ∧ s.2.length ≤ cu ∧ v = .tup [.agg [.int r, .int c, .sl k 1 0 s.1.length cx], .agg [.int r, .int r, .sl (k + 1) 1 0 s.2.length cu], .one (.bool true)] ∧ Hout = [(k, .own t cx (.ints s.1)), (k + 1, .own t cu (.ints s.2))] ∧ n1 = k + 2
theorem isM_dimsH {r c : Int} {xs : List Int} (h : isM r c xs = true) : ∃ a b : Nat, r = a ∧ c = b ∧ a ≤ 24 ∧ b ≤ 24 ∧ xs.length = a * b ∧ xs.all numB = true := by
  simp only [isM, Bool.and_eq_true, decide_eq_true_eq] at h
  obtain ⟨⟨h1, h2, h3, h4, h5⟩, h6⟩ := h
  obtain ⟨a, rfl⟩ := Int.eq_ofNat_of_zero_le h1
  obtain ⟨b, rfl⟩ := Int.eq_ofNat_of_zero_le h3
  exact ⟨a, b, rfl, rfl, by omega, by omega, by exact_mod_cast h5, h6⟩
theorem div_num {n d : Int} (h : numB n = true) : numB (-(n / d)) = true := by
  have h1 := numB_true.1 h
  have h2 := Int.natAbs_ediv_le_natAbs n d
  exact numB_true.2 (by omega)
abbrev hH (tm tw t : TypeId) (a b nx ca cx : Nat) (s : TwoL) (bad : Bool) : List (Nat × Blk) := [(2, .own tw 1 (.lit (workL 3 4 5 a b nx cx (a * a) (b * b) bad))), (3, .own t cx (.ints s.1)), (4, .own t (a * a) (.ints s.2)), (6, .own tm 1 (.lit [.int a, .int b, .sl 1 1 0 nx ca])), (7, .own tm 1 (.lit zeroM)), (8, .own tm 1 (.lit zeroM))]
abbrev hF (j t : Int) : List (Nat × AV) := [(1, .one (.ptr 6 3 0 0)), (2, .one (.ptr 7 3 0 0)), (3, .one (.ptr 8 3 0 0)), (5, vW), (6, vI t), (7, vI j)]
set_option maxRecDepth 100000 in
set_option maxHeartbeats 8000000 in
theorem d_hermI (r c : Int) (xs : List Int) (ca : Nat) (hl : xs.length ≤ 1099511627776) : Does Tryz.prog 119 [vM r c 1 xs.length ca] [(1, .ro (.ints xs))] 2 (HermR 3 r c (hermO r c xs) 2) := by
 refine Does.intro TT Tryz.func119 rfl (by kernel_rfl) Zz Zz fun E hE => ?_
 cases hm : isM r c xs
 ·have hR : hermO r c xs = none := by simp [hermO, hm]
  rw [hR]
  ((repeat' (first | refine stx ?_ | (refine zqc (d_isMatI _ _ _ _ hl) ?_ <;> simp only [hm]) | (refine stq ?_ ?_ <;> (intro hc; ((try simp at hc) <;> try contradiction))) | fail)) <;> try (exfalso; omega))
  all_goals exact fin rfl w_3 [] (.tup [.agg zeroM, .agg zeroM, .one (.bool false)]) [] 2 ⟨rfl, rfl, rfl⟩ rfl ⟨trivial, trivial, rfl⟩ rfl
 ·obtain ⟨a, b, rfl, rfl, ha, hb, hx, hnum⟩ := isM_dimsH hm
  have hR : hermO a b xs = (hTo a b (xs, idTo a a) b).map (·.1) := by simp [hermO, hm]
  rw [hR]
  have o0 : OKs a b (xs, idTo a a) := ⟨hx, idTo_len, hnum, id_num⟩
  generalize hs0 : (xs, idTo a a) = s0 at o0
  ((repeat' (first | refine stx ?_ | (refine zqc (d_isMatI _ _ _ _ hl) ?_ <;> simp only [hm]) | ((refine zqe (d_newWork a b xs _ ha hb hl) ?_); rintro v Hout n1 ⟨cx, hcx, rfl, rfl, rfl⟩) | (refine stq ?_ ?_ <;> (intro hc; ((try simp at hc) <;> try contradiction))) | fail)) <;> try (exfalso; omega))
  refine w_G hE (fun x : Nat × TwoL × Nat × Bool => x.1 ≤ b ∧ x.2.2.1 ≤ a ∧ (x.2.2.2 = false → hTo a b s0 x.1 = some (x.2.1, x.2.2.1)) ∧ (x.2.2.2 = true → hTo a b s0 b = none)) (fun x => b - x.1)
   (fun x => hF x.1 x.2.2.1) (fun x => hH 26 137 3 a b xs.length ca cx x.2.1 x.2.2.2) 9 [(2, 8), (3, 5), (4, 6), (5, 7), (6, 2), (7, 3), (8, 4)] (0, s0, 0, false) ⟨Nat.zero_le _, Nat.zero_le _, fun _ => rfl, fun h => by cases h⟩ ⟨w_1, ⟨rfl, own_ints (by rw [← hs0]), own_ints (by rw [← hs0]), rfl, rfl, rfl, trivial⟩, rfl⟩ ?_
  rintro ⟨j, s, t, bad⟩ ⟨hj, ht, hgood, hbad⟩
  dsimp only at hj ht hgood hbad ⊢
  have hfin : hTo a b s0 b = none → True := fun _ => trivial
  cases bad
  ·have hT := hgood rfl
   clear hgood hbad
   obtain ⟨o1, -, -⟩ := hTo_ok o0 hT
   have l1 : s.1.length = xs.length := o1.1.trans hx.symm
   have l2 : s.2.length = a * a := o1.2.1
   by_cases hgo : j < b ∧ t < a
   ·obtain ⟨hjb, hta⟩ := hgo
    have hls := d_leastI a b t j xs.length cx (a * a) (b * b) false s.1 l1.symm o1.1 o1.2.2.1 ha hb ht hjb
    cases hlp : leastTo s.1 b t j (a - t) with
    | none =>
     have hp0 : pI none = -1 := rfl
     rw [hlp] at hls
     ((repeat' (first | refine stx ?_ | refine zqc (hls) ?_ | (refine stq ?_ ?_ <;> (intro hc; ((try simp at hc) <;> try contradiction))) | fail)) <;> try (exfalso; omega))
     all_goals exact ⟨[], (j + 1, s, t, false), ⟨hjb, ht, fun _ => (hTo_next hT).trans (col_none hta hlp), fun h => by cases h⟩, w_4, ⟨w_1, w_2, rfl⟩⟩
    | some p =>
     have hp0 : pI (some p) = (p : Int) := rfl
     obtain ⟨⟨p1, p2⟩, p3⟩ := leastTo_some hlp
     rw [hlp] at hls
     have hRbad : redCol a b t j s p = none → hTo a b s0 b = none := fun h => none_le (f := hTo a b s0) (fun n h m => hTo_none h m) (n := j + 1) (by omega) ((hTo_next hT).trans (col_bad hta hlp h))
     have hRgood := fun s' p' (h : redCol a b t j s p = some (s', p')) => (hTo_next hT).trans (col_top hta hlp h)
     have hpa : p < a := by omega
     have hpw : t ≤ p ∧ p < a := ⟨p1, hpa⟩
     generalize hRR : redCol a b t j s p = R at hRbad hRgood
     ((repeat' (first | refine stx ?_ | refine zqc (hls) ?_ | (refine stq ?_ ?_ <;> (intro hc; ((try simp at hc) <;> try contradiction))) | fail)) <;> try (exfalso; omega))
     refine w_G hE (fun x : TwoL × Nat × Bool => x.2.2 = false ∧ OKs a b x.1 ∧ (t ≤ x.2.1 ∧ x.2.1 < a) ∧ x.1.1.getD (x.2.1 * b + j) 0 ≠ 0 ∧ redCol a b t j x.1 x.2.1 = R ∨ x.2.2 = true ∧ R = none) (fun x => if x.2.2 = true then 0 else colM a b t j x.1 x.2.1 + 1)
      (fun x => hF j t ++ [(8, vI x.2.1)]) (fun x => hH 26 137 3 a b xs.length ca cx x.1 x.2.2) 9 [] (s, p, false) (.inl ⟨rfl, o1, hpw, p3, hRR⟩) ⟨w_1, w_2, rfl⟩ ?_
     rintro ⟨s, p, bad⟩ hinv
     dsimp only at hinv ⊢
     rcases hinv with ⟨rfl, o1, hpw, hp0, hRR⟩ | ⟨rfl, hRR⟩
     ·have l1 : s.1.length = xs.length := o1.1.trans hx.symm
      have l2 : s.2.length = a * a := o1.2.1
      have hot := d_othersI a b t p j xs.length cx (a * a) (b * b) false s.1 l1.symm o1.1 o1.2.2.1 ha hb ht hjb
      by_cases hal : alone s.1 b t j p (a - t)
      ·rw [show (!decide (alone s.1 b t j p (a - t))) = false by rw [decide_eq_true hal]; rfl] at hot
       have hRe : R = some (s, p) := hRR.symm.trans (red_done hal)
       have hNx := hRgood s p hRe
       have q2 := swS_ok (p := p) (t := t) o1
       have n2 := sw_piv o1 hpw.2 hta hjb hp0
       by_cases hpt : p = t
       ·have hsw : swS a b p t s = s := if_pos hpt
        rw [hsw] at hNx q2 n2
        have q3 := ngS_ok (r := a) (c := b) (t := t) (j := j) q2
        have n3 := ng_piv (t := t) q2 hta hjb n2
        have tcell := cell_facts hta hjb ha hb
        have etcell := cell_nat (p := t) (k := j) (c := b)
        have m1 : (s).1.length = xs.length := q2.1.trans hx.symm
        have m2 : (s).2.length = a * a := q2.2.1
        have hd := d_at a b t j (s).1 cx (by omega) (by omega) (by omega) (by omega)
        rw [etcell, m1] at hd
        have w1 : (s).1[t * b + j]?.getD 0 = (s).1.getD (t * b + j) 0 := by simp
        have wb := num_getD q2.2.2.1 (t * b + j)
        by_cases hng : (s).1.getD (t * b + j) 0 < 0
        ·have hne := d_rowsNeg a b t xs.length cx (a * a) (b * b) (s).1 (s).2 q2 m1.symm ha hb hta (by omega) (by omega)
         have hg : ngS a b t j s = (negX (s).1 b t, negX (s).2 a t) := if_pos hng
         rw [hg] at hNx q3 n3
         have k1 : ((negX (s).1 b t, negX (s).2 a t)).1.length = xs.length := q3.1.trans hx.symm
         have k2 : ((negX (s).1 b t, negX (s).2 a t)).2.length = a * a := q3.2.1
         ((repeat' (first | refine stx ?_ | refine zqc (hot) ?_ | refine zqc (hd) ?_ | ((refine zqe (hne) ?_); rintro v Hout n1 ⟨rfl, rfl, rfl⟩) | (refine stq ?_ ?_ <;> (intro hc; ((try simp at hc) <;> try contradiction))) | fail)) <;> try (exfalso; omega))
         refine w_G hE (fun x : Nat × TwoL × Bool => x.1 ≤ t ∧ (x.2.2 = false ∧ topTo a b t j (negX (s).1 b t, negX (s).2 a t) x.1 = some x.2.1 ∨ x.2.2 = true ∧ topTo a b t j (negX (s).1 b t, negX (s).2 a t) t = none)) (fun x => t - x.1)
          (fun x => hF j t ++ [(13, vI x.1)]) (fun x => hH 26 137 3 a b xs.length ca cx x.2.1 x.2.2) 9 [] (0, (negX (s).1 b t, negX (s).2 a t), false) ⟨Nat.zero_le _, .inl ⟨rfl, rfl⟩⟩ ⟨w_1, w_2, rfl⟩ ?_
         rintro ⟨n, s1, bad⟩ ⟨hn, hinv⟩
         dsimp only at hn hinv ⊢
         rcases hinv with ⟨rfl, hrn⟩ | ⟨rfl, hrn⟩
         ·have r1 := topTo_ok q3 hrn
          have u1 : s1.1.length = xs.length := r1.1.trans hx.symm
          have u2 : s1.2.length = a * a := r1.2.1
          have hpc := topTo_cells q3 hjb hta hn hrn
          by_cases hnt : n < t
          ·have hna : n < a := by omega
           have hcell := cell_facts hna hjb ha hb
           have hab : a * b ≤ 24 * 24 := Nat.mul_le_mul ha hb
           have ecell := cell_nat (p := n) (k := j) (c := b)
           have pcell := cell_facts hta hjb ha hb
           have epcell := cell_nat (p := t) (k := j) (c := b)
           have hd1 := d_at a b n j s1.1 cx (by omega) (by omega) (by omega) (by omega)
           have hd2 := d_at a b t j s1.1 cx (by omega) (by omega) (by omega) (by omega)
           rw [ecell, u1] at hd1
           rw [epcell, u1] at hd2
           have nn := num_at r1.2.2.1 (n * b + j)
           have nb := num_getD r1.2.2.1 (n * b + j)
           have np := num_at r1.2.2.1 (t * b + j)
           have hgo := top_go hrn
           have hdf := d_dfI _ _ nn np (by rw [hpc]; exact n3)
           rw [dfV_ok nn np (by rw [hpc]; exact n3)] at hdf
           have hqd := Int.natAbs_ediv_le_natAbs (s1.1.getD (n * b + j) 0) (s1.1.getD (t * b + j) 0)
           have hwa := d_wadd a b n t xs.length cx (a * a) (b * b) (-(s1.1.getD (n * b + j) 0 / s1.1.getD (t * b + j) 0)) s1.1 s1.2 r1 u1.symm ha hb hna hta (by omega) (div_num nn) (by omega) (by omega)
           cases hob : addS b a n t (-(s1.1.getD (n * b + j) 0 / s1.1.getD (t * b + j) 0)) (s1.1, s1.2) with
           | none =>
            rw [hob] at hwa
            have hbd : topTo a b t j (negX (s).1 b t, negX (s).2 a t) t = none := none_le (f := topTo a b t j (negX (s).1 b t, negX (s).2 a t)) (fun n h m => topTo_none h m) (n := n + 1) (by omega) (hgo.trans hob)
            ((repeat' (first | refine stx ?_ | refine zqc (hd1) ?_ | refine zqc (hd2) ?_ | refine zqc (hdf) ?_ | ((refine zqe (hwa) ?_); rintro v Hout n1 ⟨rfl, rfl, ys, zs, rfl⟩) | (refine stq ?_ ?_ <;> (intro hc; ((try simp at hc) <;> try contradiction))) | fail)) <;> try (exfalso; omega))
            all_goals exact ⟨[], (n + 1, (ys, zs), true), ⟨by dsimp only; omega, .inr ⟨rfl, hbd⟩⟩, w_4, ⟨⟨rfl, rfl, rfl, rfl, rfl, rfl, congrArg some (congrArg vI (by dsimp only; omega)), trivial⟩, ⟨rfl, rfl, rfl, rfl, rfl, rfl, trivial⟩, rfl⟩⟩
           | some s2 =>
            rw [hob] at hwa
            ((repeat' (first | refine stx ?_ | refine zqc (hd1) ?_ | refine zqc (hd2) ?_ | refine zqc (hdf) ?_ | ((refine zqe (hwa) ?_); rintro v Hout n1 ⟨rfl, rfl, rfl⟩) | (refine stq ?_ ?_ <;> (intro hc; ((try simp at hc) <;> try contradiction))) | fail)) <;> try (exfalso; omega))
            all_goals exact ⟨[], (n + 1, s2, false), ⟨by dsimp only; omega, .inl ⟨rfl, hgo.trans hob⟩⟩, w_4, ⟨⟨rfl, rfl, rfl, rfl, rfl, rfl, congrArg some (congrArg vI (by dsimp only; omega)), trivial⟩, ⟨rfl, rfl, rfl, rfl, rfl, rfl, trivial⟩, rfl⟩⟩
          ·have hnt' : n = t := by omega
           rw [hnt'] at hrn
           rw [hrn, Option.map_some] at hNx
           rw [hnt']
           ((repeat' (first | refine stx ?_ | (refine stq ?_ ?_ <;> (intro hc; ((try simp at hc) <;> try contradiction))) | fail)) <;> try (exfalso; omega))
           all_goals exact ⟨[], (j + 1, s1, t + 1, false), ⟨hjb, hta, fun _ => hNx, fun h => by cases h⟩, w_4, ⟨w_1, w_2, rfl⟩⟩
         ·rw [hrn, Option.map_none] at hNx
          have hN : hTo a b s0 b = none := none_le (f := hTo a b s0) (fun n h m => hTo_none h m) (n := j + 1) (by omega) hNx
          by_cases hnt : n < t
          ·((repeat' (first | refine stx ?_ | (refine stq ?_ ?_ <;> (intro hc; ((try simp at hc) <;> try contradiction))) | fail)) <;> try (exfalso; omega))
           all_goals exact ⟨[], (j + 1, s1, t + 1, true), ⟨hjb, hta, (fun h => by cases h), fun _ => hN⟩, w_4, ⟨w_1, w_2, rfl⟩⟩
          ·have hnt' : n = t := by omega
           rw [hnt']
           ((repeat' (first | refine stx ?_ | (refine stq ?_ ?_ <;> (intro hc; ((try simp at hc) <;> try contradiction))) | fail)) <;> try (exfalso; omega))
           all_goals exact ⟨[], (j + 1, s1, t + 1, true), ⟨hjb, hta, (fun h => by cases h), fun _ => hN⟩, w_4, ⟨w_1, w_2, rfl⟩⟩
        ·have hg : ngS a b t j s = s := if_neg hng
         rw [hg] at hNx q3 n3
         have k1 : (s).1.length = xs.length := q3.1.trans hx.symm
         have k2 : (s).2.length = a * a := q3.2.1
         ((repeat' (first | refine stx ?_ | refine zqc (hot) ?_ | refine zqc (hd) ?_ | (refine stq ?_ ?_ <;> (intro hc; ((try simp at hc) <;> try contradiction))) | fail)) <;> try (exfalso; omega))
         refine w_G hE (fun x : Nat × TwoL × Bool => x.1 ≤ t ∧ (x.2.2 = false ∧ topTo a b t j s x.1 = some x.2.1 ∨ x.2.2 = true ∧ topTo a b t j s t = none)) (fun x => t - x.1)
          (fun x => hF j t ++ [(13, vI x.1)]) (fun x => hH 26 137 3 a b xs.length ca cx x.2.1 x.2.2) 9 [] (0, s, false) ⟨Nat.zero_le _, .inl ⟨rfl, rfl⟩⟩ ⟨w_1, w_2, rfl⟩ ?_
         rintro ⟨n, s1, bad⟩ ⟨hn, hinv⟩
         dsimp only at hn hinv ⊢
         rcases hinv with ⟨rfl, hrn⟩ | ⟨rfl, hrn⟩
         ·have r1 := topTo_ok q3 hrn
          have u1 : s1.1.length = xs.length := r1.1.trans hx.symm
          have u2 : s1.2.length = a * a := r1.2.1
          have hpc := topTo_cells q3 hjb hta hn hrn
          by_cases hnt : n < t
          ·have hna : n < a := by omega
           have hcell := cell_facts hna hjb ha hb
           have hab : a * b ≤ 24 * 24 := Nat.mul_le_mul ha hb
           have ecell := cell_nat (p := n) (k := j) (c := b)
           have pcell := cell_facts hta hjb ha hb
           have epcell := cell_nat (p := t) (k := j) (c := b)
           have hd1 := d_at a b n j s1.1 cx (by omega) (by omega) (by omega) (by omega)
           have hd2 := d_at a b t j s1.1 cx (by omega) (by omega) (by omega) (by omega)
           rw [ecell, u1] at hd1
           rw [epcell, u1] at hd2
           have nn := num_at r1.2.2.1 (n * b + j)
           have nb := num_getD r1.2.2.1 (n * b + j)
           have np := num_at r1.2.2.1 (t * b + j)
           have hgo := top_go hrn
           have hdf := d_dfI _ _ nn np (by rw [hpc]; exact n3)
           rw [dfV_ok nn np (by rw [hpc]; exact n3)] at hdf
           have hqd := Int.natAbs_ediv_le_natAbs (s1.1.getD (n * b + j) 0) (s1.1.getD (t * b + j) 0)
           have hwa := d_wadd a b n t xs.length cx (a * a) (b * b) (-(s1.1.getD (n * b + j) 0 / s1.1.getD (t * b + j) 0)) s1.1 s1.2 r1 u1.symm ha hb hna hta (by omega) (div_num nn) (by omega) (by omega)
           cases hob : addS b a n t (-(s1.1.getD (n * b + j) 0 / s1.1.getD (t * b + j) 0)) (s1.1, s1.2) with
           | none =>
            rw [hob] at hwa
            have hbd : topTo a b t j s t = none := none_le (f := topTo a b t j s) (fun n h m => topTo_none h m) (n := n + 1) (by omega) (hgo.trans hob)
            ((repeat' (first | refine stx ?_ | refine zqc (hd1) ?_ | refine zqc (hd2) ?_ | refine zqc (hdf) ?_ | ((refine zqe (hwa) ?_); rintro v Hout n1 ⟨rfl, rfl, ys, zs, rfl⟩) | (refine stq ?_ ?_ <;> (intro hc; ((try simp at hc) <;> try contradiction))) | fail)) <;> try (exfalso; omega))
            all_goals exact ⟨[], (n + 1, (ys, zs), true), ⟨by dsimp only; omega, .inr ⟨rfl, hbd⟩⟩, w_4, ⟨⟨rfl, rfl, rfl, rfl, rfl, rfl, congrArg some (congrArg vI (by dsimp only; omega)), trivial⟩, ⟨rfl, rfl, rfl, rfl, rfl, rfl, trivial⟩, rfl⟩⟩
           | some s2 =>
            rw [hob] at hwa
            ((repeat' (first | refine stx ?_ | refine zqc (hd1) ?_ | refine zqc (hd2) ?_ | refine zqc (hdf) ?_ | ((refine zqe (hwa) ?_); rintro v Hout n1 ⟨rfl, rfl, rfl⟩) | (refine stq ?_ ?_ <;> (intro hc; ((try simp at hc) <;> try contradiction))) | fail)) <;> try (exfalso; omega))
            all_goals exact ⟨[], (n + 1, s2, false), ⟨by dsimp only; omega, .inl ⟨rfl, hgo.trans hob⟩⟩, w_4, ⟨⟨rfl, rfl, rfl, rfl, rfl, rfl, congrArg some (congrArg vI (by dsimp only; omega)), trivial⟩, ⟨rfl, rfl, rfl, rfl, rfl, rfl, trivial⟩, rfl⟩⟩
          ·have hnt' : n = t := by omega
           rw [hnt'] at hrn
           rw [hrn, Option.map_some] at hNx
           rw [hnt']
           ((repeat' (first | refine stx ?_ | (refine stq ?_ ?_ <;> (intro hc; ((try simp at hc) <;> try contradiction))) | fail)) <;> try (exfalso; omega))
           all_goals exact ⟨[], (j + 1, s1, t + 1, false), ⟨hjb, hta, fun _ => hNx, fun h => by cases h⟩, w_4, ⟨w_1, w_2, rfl⟩⟩
         ·rw [hrn, Option.map_none] at hNx
          have hN : hTo a b s0 b = none := none_le (f := hTo a b s0) (fun n h m => hTo_none h m) (n := j + 1) (by omega) hNx
          by_cases hnt : n < t
          ·((repeat' (first | refine stx ?_ | (refine stq ?_ ?_ <;> (intro hc; ((try simp at hc) <;> try contradiction))) | fail)) <;> try (exfalso; omega))
           all_goals exact ⟨[], (j + 1, s1, t + 1, true), ⟨hjb, hta, (fun h => by cases h), fun _ => hN⟩, w_4, ⟨w_1, w_2, rfl⟩⟩
          ·have hnt' : n = t := by omega
           rw [hnt']
           ((repeat' (first | refine stx ?_ | (refine stq ?_ ?_ <;> (intro hc; ((try simp at hc) <;> try contradiction))) | fail)) <;> try (exfalso; omega))
           all_goals exact ⟨[], (j + 1, s1, t + 1, true), ⟨hjb, hta, (fun h => by cases h), fun _ => hN⟩, w_4, ⟨w_1, w_2, rfl⟩⟩
       ·have hsw : swS a b p t s = (swapTo s.1 (p * b) (t * b) b, swapTo s.2 (p * a) (t * a) a) := if_neg hpt
        rw [hsw] at hNx q2 n2
        have hptI : ¬ ((p : Int) = (t : Int)) := by omega
        have hptE : ((p : Int) = (t : Int)) = False := eq_false hptI
        have hptS : (t = p) = False := eq_false fun h => hpt h.symm
        have hsp := d_rowsSwap a b p t xs.length cx (a * a) (b * b) s.1 s.2 o1 l1.symm ha hb hpw.2 hta hpt (by omega) (by omega)
        have q3 := ngS_ok (r := a) (c := b) (t := t) (j := j) q2
        have n3 := ng_piv (t := t) q2 hta hjb n2
        have tcell := cell_facts hta hjb ha hb
        have etcell := cell_nat (p := t) (k := j) (c := b)
        have m1 : ((swapTo s.1 (p * b) (t * b) b, swapTo s.2 (p * a) (t * a) a)).1.length = xs.length := q2.1.trans hx.symm
        have m2 : ((swapTo s.1 (p * b) (t * b) b, swapTo s.2 (p * a) (t * a) a)).2.length = a * a := q2.2.1
        have hd := d_at a b t j ((swapTo s.1 (p * b) (t * b) b, swapTo s.2 (p * a) (t * a) a)).1 cx (by omega) (by omega) (by omega) (by omega)
        rw [etcell, m1] at hd
        have w1 : ((swapTo s.1 (p * b) (t * b) b, swapTo s.2 (p * a) (t * a) a)).1[t * b + j]?.getD 0 = ((swapTo s.1 (p * b) (t * b) b, swapTo s.2 (p * a) (t * a) a)).1.getD (t * b + j) 0 := by simp
        have w2 : (swapTo s.1 (p * b) (t * b) b)[t * b + j]?.getD 0 = ((swapTo s.1 (p * b) (t * b) b, swapTo s.2 (p * a) (t * a) a)).1.getD (t * b + j) 0 := by simp
        have wb := num_getD q2.2.2.1 (t * b + j)
        by_cases hng : ((swapTo s.1 (p * b) (t * b) b, swapTo s.2 (p * a) (t * a) a)).1.getD (t * b + j) 0 < 0
        ·have hne := d_rowsNeg a b t xs.length cx (a * a) (b * b) ((swapTo s.1 (p * b) (t * b) b, swapTo s.2 (p * a) (t * a) a)).1 ((swapTo s.1 (p * b) (t * b) b, swapTo s.2 (p * a) (t * a) a)).2 q2 m1.symm ha hb hta (by omega) (by omega)
         have hg : ngS a b t j (swapTo s.1 (p * b) (t * b) b, swapTo s.2 (p * a) (t * a) a) = (negX ((swapTo s.1 (p * b) (t * b) b, swapTo s.2 (p * a) (t * a) a)).1 b t, negX ((swapTo s.1 (p * b) (t * b) b, swapTo s.2 (p * a) (t * a) a)).2 a t) := if_pos hng
         rw [hg] at hNx q3 n3
         have k1 : ((negX ((swapTo s.1 (p * b) (t * b) b, swapTo s.2 (p * a) (t * a) a)).1 b t, negX ((swapTo s.1 (p * b) (t * b) b, swapTo s.2 (p * a) (t * a) a)).2 a t)).1.length = xs.length := q3.1.trans hx.symm
         have k2 : ((negX ((swapTo s.1 (p * b) (t * b) b, swapTo s.2 (p * a) (t * a) a)).1 b t, negX ((swapTo s.1 (p * b) (t * b) b, swapTo s.2 (p * a) (t * a) a)).2 a t)).2.length = a * a := q3.2.1
         ((repeat' (first | refine stx ?_ | refine zqc (hot) ?_ | refine zqc (hd) ?_ | ((refine zqe (hne) ?_); rintro v Hout n1 ⟨rfl, rfl, rfl⟩) | ((refine zqe (hsp) ?_); rintro v Hout n1 ⟨rfl, rfl, rfl⟩) | (refine stq ?_ ?_ <;> (intro hc; ((try simp at hc) <;> try contradiction))) | fail)) <;> try (exfalso; omega))
         refine w_G hE (fun x : Nat × TwoL × Bool => x.1 ≤ t ∧ (x.2.2 = false ∧ topTo a b t j (negX ((swapTo s.1 (p * b) (t * b) b, swapTo s.2 (p * a) (t * a) a)).1 b t, negX ((swapTo s.1 (p * b) (t * b) b, swapTo s.2 (p * a) (t * a) a)).2 a t) x.1 = some x.2.1 ∨ x.2.2 = true ∧ topTo a b t j (negX ((swapTo s.1 (p * b) (t * b) b, swapTo s.2 (p * a) (t * a) a)).1 b t, negX ((swapTo s.1 (p * b) (t * b) b, swapTo s.2 (p * a) (t * a) a)).2 a t) t = none)) (fun x => t - x.1)
          (fun x => hF j t ++ [(13, vI x.1)]) (fun x => hH 26 137 3 a b xs.length ca cx x.2.1 x.2.2) 9 [] (0, (negX ((swapTo s.1 (p * b) (t * b) b, swapTo s.2 (p * a) (t * a) a)).1 b t, negX ((swapTo s.1 (p * b) (t * b) b, swapTo s.2 (p * a) (t * a) a)).2 a t), false) ⟨Nat.zero_le _, .inl ⟨rfl, rfl⟩⟩ ⟨w_1, w_2, rfl⟩ ?_
         rintro ⟨n, s1, bad⟩ ⟨hn, hinv⟩
         dsimp only at hn hinv ⊢
         rcases hinv with ⟨rfl, hrn⟩ | ⟨rfl, hrn⟩
         ·have r1 := topTo_ok q3 hrn
          have u1 : s1.1.length = xs.length := r1.1.trans hx.symm
          have u2 : s1.2.length = a * a := r1.2.1
          have hpc := topTo_cells q3 hjb hta hn hrn
          by_cases hnt : n < t
          ·have hna : n < a := by omega
           have hcell := cell_facts hna hjb ha hb
           have hab : a * b ≤ 24 * 24 := Nat.mul_le_mul ha hb
           have ecell := cell_nat (p := n) (k := j) (c := b)
           have pcell := cell_facts hta hjb ha hb
           have epcell := cell_nat (p := t) (k := j) (c := b)
           have hd1 := d_at a b n j s1.1 cx (by omega) (by omega) (by omega) (by omega)
           have hd2 := d_at a b t j s1.1 cx (by omega) (by omega) (by omega) (by omega)
           rw [ecell, u1] at hd1
           rw [epcell, u1] at hd2
           have nn := num_at r1.2.2.1 (n * b + j)
           have nb := num_getD r1.2.2.1 (n * b + j)
           have np := num_at r1.2.2.1 (t * b + j)
           have hgo := top_go hrn
           have hdf := d_dfI _ _ nn np (by rw [hpc]; exact n3)
           rw [dfV_ok nn np (by rw [hpc]; exact n3)] at hdf
           have hqd := Int.natAbs_ediv_le_natAbs (s1.1.getD (n * b + j) 0) (s1.1.getD (t * b + j) 0)
           have hwa := d_wadd a b n t xs.length cx (a * a) (b * b) (-(s1.1.getD (n * b + j) 0 / s1.1.getD (t * b + j) 0)) s1.1 s1.2 r1 u1.symm ha hb hna hta (by omega) (div_num nn) (by omega) (by omega)
           cases hob : addS b a n t (-(s1.1.getD (n * b + j) 0 / s1.1.getD (t * b + j) 0)) (s1.1, s1.2) with
           | none =>
            rw [hob] at hwa
            have hbd : topTo a b t j (negX ((swapTo s.1 (p * b) (t * b) b, swapTo s.2 (p * a) (t * a) a)).1 b t, negX ((swapTo s.1 (p * b) (t * b) b, swapTo s.2 (p * a) (t * a) a)).2 a t) t = none := none_le (f := topTo a b t j (negX ((swapTo s.1 (p * b) (t * b) b, swapTo s.2 (p * a) (t * a) a)).1 b t, negX ((swapTo s.1 (p * b) (t * b) b, swapTo s.2 (p * a) (t * a) a)).2 a t)) (fun n h m => topTo_none h m) (n := n + 1) (by omega) (hgo.trans hob)
            ((repeat' (first | refine stx ?_ | refine zqc (hd1) ?_ | refine zqc (hd2) ?_ | refine zqc (hdf) ?_ | ((refine zqe (hwa) ?_); rintro v Hout n1 ⟨rfl, rfl, ys, zs, rfl⟩) | (refine stq ?_ ?_ <;> (intro hc; ((try simp at hc) <;> try contradiction))) | fail)) <;> try (exfalso; omega))
            all_goals exact ⟨[], (n + 1, (ys, zs), true), ⟨by dsimp only; omega, .inr ⟨rfl, hbd⟩⟩, w_4, ⟨⟨rfl, rfl, rfl, rfl, rfl, rfl, congrArg some (congrArg vI (by dsimp only; omega)), trivial⟩, ⟨rfl, rfl, rfl, rfl, rfl, rfl, trivial⟩, rfl⟩⟩
           | some s2 =>
            rw [hob] at hwa
            ((repeat' (first | refine stx ?_ | refine zqc (hd1) ?_ | refine zqc (hd2) ?_ | refine zqc (hdf) ?_ | ((refine zqe (hwa) ?_); rintro v Hout n1 ⟨rfl, rfl, rfl⟩) | (refine stq ?_ ?_ <;> (intro hc; ((try simp at hc) <;> try contradiction))) | fail)) <;> try (exfalso; omega))
            all_goals exact ⟨[], (n + 1, s2, false), ⟨by dsimp only; omega, .inl ⟨rfl, hgo.trans hob⟩⟩, w_4, ⟨⟨rfl, rfl, rfl, rfl, rfl, rfl, congrArg some (congrArg vI (by dsimp only; omega)), trivial⟩, ⟨rfl, rfl, rfl, rfl, rfl, rfl, trivial⟩, rfl⟩⟩
          ·have hnt' : n = t := by omega
           rw [hnt'] at hrn
           rw [hrn, Option.map_some] at hNx
           rw [hnt']
           ((repeat' (first | refine stx ?_ | (refine stq ?_ ?_ <;> (intro hc; ((try simp at hc) <;> try contradiction))) | fail)) <;> try (exfalso; omega))
           all_goals exact ⟨[], (j + 1, s1, t + 1, false), ⟨hjb, hta, fun _ => hNx, fun h => by cases h⟩, w_4, ⟨w_1, w_2, rfl⟩⟩
         ·rw [hrn, Option.map_none] at hNx
          have hN : hTo a b s0 b = none := none_le (f := hTo a b s0) (fun n h m => hTo_none h m) (n := j + 1) (by omega) hNx
          by_cases hnt : n < t
          ·((repeat' (first | refine stx ?_ | (refine stq ?_ ?_ <;> (intro hc; ((try simp at hc) <;> try contradiction))) | fail)) <;> try (exfalso; omega))
           all_goals exact ⟨[], (j + 1, s1, t + 1, true), ⟨hjb, hta, (fun h => by cases h), fun _ => hN⟩, w_4, ⟨w_1, w_2, rfl⟩⟩
          ·have hnt' : n = t := by omega
           rw [hnt']
           ((repeat' (first | refine stx ?_ | (refine stq ?_ ?_ <;> (intro hc; ((try simp at hc) <;> try contradiction))) | fail)) <;> try (exfalso; omega))
           all_goals exact ⟨[], (j + 1, s1, t + 1, true), ⟨hjb, hta, (fun h => by cases h), fun _ => hN⟩, w_4, ⟨w_1, w_2, rfl⟩⟩
        ·have hg : ngS a b t j (swapTo s.1 (p * b) (t * b) b, swapTo s.2 (p * a) (t * a) a) = (swapTo s.1 (p * b) (t * b) b, swapTo s.2 (p * a) (t * a) a) := if_neg hng
         rw [hg] at hNx q3 n3
         have k1 : ((swapTo s.1 (p * b) (t * b) b, swapTo s.2 (p * a) (t * a) a)).1.length = xs.length := q3.1.trans hx.symm
         have k2 : ((swapTo s.1 (p * b) (t * b) b, swapTo s.2 (p * a) (t * a) a)).2.length = a * a := q3.2.1
         ((repeat' (first | refine stx ?_ | refine zqc (hot) ?_ | refine zqc (hd) ?_ | ((refine zqe (hsp) ?_); rintro v Hout n1 ⟨rfl, rfl, rfl⟩) | (refine stq ?_ ?_ <;> (intro hc; ((try simp at hc) <;> try contradiction))) | fail)) <;> try (exfalso; omega))
         refine w_G hE (fun x : Nat × TwoL × Bool => x.1 ≤ t ∧ (x.2.2 = false ∧ topTo a b t j (swapTo s.1 (p * b) (t * b) b, swapTo s.2 (p * a) (t * a) a) x.1 = some x.2.1 ∨ x.2.2 = true ∧ topTo a b t j (swapTo s.1 (p * b) (t * b) b, swapTo s.2 (p * a) (t * a) a) t = none)) (fun x => t - x.1)
          (fun x => hF j t ++ [(13, vI x.1)]) (fun x => hH 26 137 3 a b xs.length ca cx x.2.1 x.2.2) 9 [] (0, (swapTo s.1 (p * b) (t * b) b, swapTo s.2 (p * a) (t * a) a), false) ⟨Nat.zero_le _, .inl ⟨rfl, rfl⟩⟩ ⟨w_1, w_2, rfl⟩ ?_
         rintro ⟨n, s1, bad⟩ ⟨hn, hinv⟩
         dsimp only at hn hinv ⊢
         rcases hinv with ⟨rfl, hrn⟩ | ⟨rfl, hrn⟩
         ·have r1 := topTo_ok q3 hrn
          have u1 : s1.1.length = xs.length := r1.1.trans hx.symm
          have u2 : s1.2.length = a * a := r1.2.1
          have hpc := topTo_cells q3 hjb hta hn hrn
          by_cases hnt : n < t
          ·have hna : n < a := by omega
           have hcell := cell_facts hna hjb ha hb
           have hab : a * b ≤ 24 * 24 := Nat.mul_le_mul ha hb
           have ecell := cell_nat (p := n) (k := j) (c := b)
           have pcell := cell_facts hta hjb ha hb
           have epcell := cell_nat (p := t) (k := j) (c := b)
           have hd1 := d_at a b n j s1.1 cx (by omega) (by omega) (by omega) (by omega)
           have hd2 := d_at a b t j s1.1 cx (by omega) (by omega) (by omega) (by omega)
           rw [ecell, u1] at hd1
           rw [epcell, u1] at hd2
           have nn := num_at r1.2.2.1 (n * b + j)
           have nb := num_getD r1.2.2.1 (n * b + j)
           have np := num_at r1.2.2.1 (t * b + j)
           have hgo := top_go hrn
           have hdf := d_dfI _ _ nn np (by rw [hpc]; exact n3)
           rw [dfV_ok nn np (by rw [hpc]; exact n3)] at hdf
           have hqd := Int.natAbs_ediv_le_natAbs (s1.1.getD (n * b + j) 0) (s1.1.getD (t * b + j) 0)
           have hwa := d_wadd a b n t xs.length cx (a * a) (b * b) (-(s1.1.getD (n * b + j) 0 / s1.1.getD (t * b + j) 0)) s1.1 s1.2 r1 u1.symm ha hb hna hta (by omega) (div_num nn) (by omega) (by omega)
           cases hob : addS b a n t (-(s1.1.getD (n * b + j) 0 / s1.1.getD (t * b + j) 0)) (s1.1, s1.2) with
           | none =>
            rw [hob] at hwa
            have hbd : topTo a b t j (swapTo s.1 (p * b) (t * b) b, swapTo s.2 (p * a) (t * a) a) t = none := none_le (f := topTo a b t j (swapTo s.1 (p * b) (t * b) b, swapTo s.2 (p * a) (t * a) a)) (fun n h m => topTo_none h m) (n := n + 1) (by omega) (hgo.trans hob)
            ((repeat' (first | refine stx ?_ | refine zqc (hd1) ?_ | refine zqc (hd2) ?_ | refine zqc (hdf) ?_ | ((refine zqe (hwa) ?_); rintro v Hout n1 ⟨rfl, rfl, ys, zs, rfl⟩) | (refine stq ?_ ?_ <;> (intro hc; ((try simp at hc) <;> try contradiction))) | fail)) <;> try (exfalso; omega))
            all_goals exact ⟨[], (n + 1, (ys, zs), true), ⟨by dsimp only; omega, .inr ⟨rfl, hbd⟩⟩, w_4, ⟨⟨rfl, rfl, rfl, rfl, rfl, rfl, congrArg some (congrArg vI (by dsimp only; omega)), trivial⟩, ⟨rfl, rfl, rfl, rfl, rfl, rfl, trivial⟩, rfl⟩⟩
           | some s2 =>
            rw [hob] at hwa
            ((repeat' (first | refine stx ?_ | refine zqc (hd1) ?_ | refine zqc (hd2) ?_ | refine zqc (hdf) ?_ | ((refine zqe (hwa) ?_); rintro v Hout n1 ⟨rfl, rfl, rfl⟩) | (refine stq ?_ ?_ <;> (intro hc; ((try simp at hc) <;> try contradiction))) | fail)) <;> try (exfalso; omega))
            all_goals exact ⟨[], (n + 1, s2, false), ⟨by dsimp only; omega, .inl ⟨rfl, hgo.trans hob⟩⟩, w_4, ⟨⟨rfl, rfl, rfl, rfl, rfl, rfl, congrArg some (congrArg vI (by dsimp only; omega)), trivial⟩, ⟨rfl, rfl, rfl, rfl, rfl, rfl, trivial⟩, rfl⟩⟩
          ·have hnt' : n = t := by omega
           rw [hnt'] at hrn
           rw [hrn, Option.map_some] at hNx
           rw [hnt']
           ((repeat' (first | refine stx ?_ | (refine stq ?_ ?_ <;> (intro hc; ((try simp at hc) <;> try contradiction))) | fail)) <;> try (exfalso; omega))
           all_goals exact ⟨[], (j + 1, s1, t + 1, false), ⟨hjb, hta, fun _ => hNx, fun h => by cases h⟩, w_4, ⟨w_1, w_2, rfl⟩⟩
         ·rw [hrn, Option.map_none] at hNx
          have hN : hTo a b s0 b = none := none_le (f := hTo a b s0) (fun n h m => hTo_none h m) (n := j + 1) (by omega) hNx
          by_cases hnt : n < t
          ·((repeat' (first | refine stx ?_ | (refine stq ?_ ?_ <;> (intro hc; ((try simp at hc) <;> try contradiction))) | fail)) <;> try (exfalso; omega))
           all_goals exact ⟨[], (j + 1, s1, t + 1, true), ⟨hjb, hta, (fun h => by cases h), fun _ => hN⟩, w_4, ⟨w_1, w_2, rfl⟩⟩
          ·have hnt' : n = t := by omega
           rw [hnt']
           ((repeat' (first | refine stx ?_ | (refine stq ?_ ?_ <;> (intro hc; ((try simp at hc) <;> try contradiction))) | fail)) <;> try (exfalso; omega))
           all_goals exact ⟨[], (j + 1, s1, t + 1, true), ⟨hjb, hta, (fun h => by cases h), fun _ => hN⟩, w_4, ⟨w_1, w_2, rfl⟩⟩
      ·rw [show (!decide (alone s.1 b t j p (a - t))) = true by rw [decide_eq_false hal]; rfl] at hot
       ((repeat' (first | refine stx ?_ | refine zqc (hot) ?_ | (refine stq ?_ ?_ <;> (intro hc; ((try simp at hc) <;> try contradiction))) | fail)) <;> try (exfalso; omega))
       refine w_G hE (fun x : Nat × TwoL × Bool => t + x.1 ≤ a ∧ (x.2.2 = false ∧ rndTo a b t p j s x.1 = some x.2.1 ∨ x.2.2 = true ∧ rndTo a b t p j s (a - t) = none)) (fun x => a - (t + x.1))
        (fun x => hF j t ++ [(8, vI p), (9, vI ((t + x.1 : Nat) : Int))]) (fun x => hH 26 137 3 a b xs.length ca cx x.2.1 x.2.2) 9 [] (0, s, false) ⟨by omega, .inl ⟨rfl, rfl⟩⟩ ⟨w_1, w_2, rfl⟩ ?_
       rintro ⟨n, s1, bad⟩ ⟨hn, hinv⟩
       dsimp only at hn hinv ⊢
       rcases hinv with ⟨rfl, hrn⟩ | ⟨rfl, hrn⟩
       ·have q1 := rndTo_ok o1 hrn
        have k1 : s1.1.length = xs.length := q1.1.trans hx.symm
        have k2 : s1.2.length = a * a := q1.2.1
        have hpc := (rndTo_cells o1 hjb hp0 hn hrn).1
        by_cases hna : t + n < a
        ·have hcell := cell_facts hna hjb ha hb
         have hab : a * b ≤ 24 * 24 := Nat.mul_le_mul ha hb
         have ecell := cell_nat (p := t + n) (k := j) (c := b)
         have pcell := cell_facts hpw.2 hjb ha hb
         have epcell := cell_nat (p := p) (k := j) (c := b)
         have hd := d_at a b (t + n : Nat) j s1.1 cx (by omega) (by omega) (by omega) (by omega)
         have hd2 := d_at a b p j s1.1 cx (by omega) (by omega) (by omega) (by omega)
         rw [ecell, k1] at hd
         rw [epcell, k1] at hd2
         have nn := num_at q1.2.2.1 ((t + n) * b + j)
         have nb := num_getD q1.2.2.1 ((t + n) * b + j)
         have np := num_at q1.2.2.1 (p * b + j)
         have w1 : s1.1[(t + n) * b + j]?.getD 0 = s1.1.getD ((t + n) * b + j) 0 := by simp
         by_cases hsk : t + n ≠ p ∧ s1.1.getD ((t + n) * b + j) 0 ≠ 0
         ·have hgo := rnd_go hrn hsk
          have hdf := d_dfI _ _ nn np (by rw [hpc]; exact hp0)
          rw [dfV_ok nn np (by rw [hpc]; exact hp0)] at hdf
          have hqd := Int.natAbs_ediv_le_natAbs (s1.1.getD ((t + n) * b + j) 0) (s1.1.getD (p * b + j) 0)
          have hwa := d_wadd a b (t + n) p xs.length cx (a * a) (b * b) (-(s1.1.getD ((t + n) * b + j) 0 / s1.1.getD (p * b + j) 0)) s1.1 s1.2 q1 k1.symm ha hb hna hpw.2 hsk.1 (div_num nn) (by omega) (by omega)
          cases hob : addS b a (t + n) p (-(s1.1.getD ((t + n) * b + j) 0 / s1.1.getD (p * b + j) 0)) (s1.1, s1.2) with
          | none =>
           rw [hob] at hwa
           have hbd : rndTo a b t p j s (a - t) = none := none_le (f := rndTo a b t p j s) (fun n h m => rndTo_none h m) (n := n + 1) (by omega) (hgo.trans hob)
           ((repeat' (first | refine stx ?_ | refine zqc (hd) ?_ | refine zqc (hd2) ?_ | refine zqc (hdf) ?_ | ((refine zqe (hwa) ?_); rintro v Hout n1 ⟨rfl, rfl, ys, zs, rfl⟩) | (refine stq ?_ ?_ <;> (intro hc; ((try simp at hc) <;> try contradiction))) | fail)) <;> try (exfalso; omega))
           all_goals exact ⟨[], (n + 1, (ys, zs), true), ⟨by dsimp only; omega, .inr ⟨rfl, hbd⟩⟩, w_4, ⟨⟨rfl, rfl, rfl, rfl, rfl, rfl, rfl, congrArg some (congrArg vI (by dsimp only; omega)), trivial⟩, ⟨rfl, rfl, rfl, rfl, rfl, rfl, trivial⟩, rfl⟩⟩
          | some s2 =>
           rw [hob] at hwa
           ((repeat' (first | refine stx ?_ | refine zqc (hd) ?_ | refine zqc (hd2) ?_ | refine zqc (hdf) ?_ | ((refine zqe (hwa) ?_); rintro v Hout n1 ⟨rfl, rfl, rfl⟩) | (refine stq ?_ ?_ <;> (intro hc; ((try simp at hc) <;> try contradiction))) | fail)) <;> try (exfalso; omega))
           all_goals exact ⟨[], (n + 1, s2, false), ⟨by dsimp only; omega, .inl ⟨rfl, hgo.trans hob⟩⟩, w_4, ⟨⟨rfl, rfl, rfl, rfl, rfl, rfl, rfl, congrArg some (congrArg vI (by dsimp only; omega)), trivial⟩, ⟨rfl, rfl, rfl, rfl, rfl, rfl, trivial⟩, rfl⟩⟩
         ·have hgo := rnd_skip hrn hsk
          ((repeat' (first | refine stx ?_ | refine zqc (hd) ?_ | (refine stq ?_ ?_ <;> (intro hc; ((try simp at hc) <;> try contradiction))) | fail)) <;> try (exfalso; omega))
          all_goals exact ⟨[], (n + 1, s1, false), ⟨by dsimp only; omega, .inl ⟨rfl, hgo⟩⟩, w_4, ⟨⟨rfl, rfl, rfl, rfl, rfl, rfl, rfl, congrArg some (congrArg vI (by dsimp only; omega)), trivial⟩, ⟨rfl, rfl, rfl, rfl, rfl, rfl, trivial⟩, rfl⟩⟩
        ·have hnt : n = a - t := by omega
         have htn : t + n = a := by omega
         obtain ⟨p', e1, e2, e3⟩ := red_step o1 hjb hp0 hpw hal (by rw [← hnt]; exact hrn)
         obtain ⟨⟨f1, f2⟩, f3⟩ := leastTo_some e1
         have hlr := d_leastI a b t j xs.length cx (a * a) (b * b) false s1.1 k1.symm q1.1 q1.2.2.1 ha hb ht hjb
         rw [e1] at hlr
         have htn' : ((t + n : Nat) : Int) = a := by omega
         rw [htn']
         ((repeat' (first | refine stx ?_ | refine zqc (hlr) ?_ | (refine stq ?_ ?_ <;> (intro hc; ((try simp at hc) <;> try contradiction))) | fail)) <;> try (exfalso; omega))
         all_goals exact ⟨[], (s1, p', false), .inl ⟨rfl, q1, ⟨f1, by dsimp only; omega⟩, f3, e2.symm.trans hRR⟩, by (dsimp only; simpa using e3), ⟨⟨rfl, rfl, rfl, rfl, rfl, rfl, rfl, trivial⟩, ⟨rfl, rfl, rfl, rfl, rfl, rfl, trivial⟩, rfl⟩⟩
       ·have hRe : R = none := hRR.symm.trans (red_bad hal hrn)
        ((repeat' (first | refine stx ?_ | (refine stq ?_ ?_ <;> (intro hc; ((try simp at hc) <;> try contradiction))) | fail)) <;> try (exfalso; omega))
        all_goals exact ⟨[], (s1, p, true), .inr ⟨rfl, hRe⟩, by simp, ⟨⟨rfl, rfl, rfl, rfl, rfl, rfl, rfl, trivial⟩, ⟨rfl, rfl, rfl, rfl, rfl, rfl, trivial⟩, rfl⟩⟩
     ·have hN := hRbad hRR
      rw [hN]
      ((repeat' (first | refine stx ?_ | (refine stq ?_ ?_ <;> (intro hc; ((try simp at hc) <;> try contradiction))) | fail)) <;> try (exfalso; omega))
      all_goals exact fin rfl w_3 [] (.tup [.agg zeroM, .agg zeroM, .one (.bool false)]) [] 2 ⟨rfl, rfl, rfl⟩ rfl ⟨trivial, trivial, rfl⟩ rfl
   ·have hE' : hTo a b s0 b = some (s, t) := by
     by_cases hjb : j < b
     ·have := hTo_full hT (show a ≤ t by omega) (b - j)
      rwa [show j + (b - j) = b by omega] at this
     ·rwa [show j = b by omega] at hT
    rw [hE', Option.map_some]
    dsimp only
    by_cases hjb : j < b
    ·have hta : a ≤ t := by omega
     ((repeat' (first | refine stx ?_ | (refine stq ?_ ?_ <;> (intro hc; ((try simp at hc) <;> try contradiction))) | fail)) <;> try (exfalso; omega))
     refine awp_held TM [(2, _)] sb rfl (fun ρs => ?_)
     refine zt0 ?_
     refine zt1 ?_
     refine zt2 ?_
     refine zt3 ?_
     refine zt4 ?_
     refine zt5 ?_
     refine zt6 ?_
     refine zt7 ?_
     refine w_u [8] kr rfl ⟨?_, trivial⟩
     first | (refine zho ?_)
     refine w_u [9] kr rfl ⟨?_, trivial⟩
     first | (refine zho ?_)
     refine zt10 ?_
     refine w_v kr ?_
     rotate_left
     ((repeat' (first | refine stx ?_ | (refine stq ?_ ?_ <;> (intro hc; ((try simp at hc) <;> try contradiction))) | fail)) <;> try (exfalso; omega))
     all_goals exact fin rfl w_3 [(2, 3), (3, 4)] (.tup [.agg [.int a, .int b, .sl 2 1 0 xs.length cx], .agg [.int a, .int a, .sl 3 1 0 (a * a) (a * a)], .one (.bool true)]) [(2, .own 3 cx (.ints s.1)), (3, .own 3 (a * a) (.ints s.2))] 4 ⟨cx, a * a, by rw [l1]; exact hcx, by rw [l2]; exact Nat.le_refl _, by rw [l1, l2], rfl, rfl⟩ rfl ⟨trivial, ⟨rfl, rfl, trivial⟩, rfl⟩ rfl
    ·((repeat' (first | refine stx ?_ | (refine stq ?_ ?_ <;> (intro hc; ((try simp at hc) <;> try contradiction))) | fail)) <;> try (exfalso; omega))
     refine awp_held TM [(2, _)] sb rfl (fun ρs => ?_)
     refine zt0 ?_
     refine zt1 ?_
     refine zt2 ?_
     refine zt3 ?_
     refine zt4 ?_
     refine zt5 ?_
     refine zt6 ?_
     refine zt7 ?_
     refine w_u [8] kr rfl ⟨?_, trivial⟩
     first | (refine zho ?_)
     refine w_u [9] kr rfl ⟨?_, trivial⟩
     first | (refine zho ?_)
     refine zt10 ?_
     refine w_v kr ?_
     rotate_left
     ((repeat' (first | refine stx ?_ | (refine stq ?_ ?_ <;> (intro hc; ((try simp at hc) <;> try contradiction))) | fail)) <;> try (exfalso; omega))
     all_goals exact fin rfl w_3 [(2, 3), (3, 4)] (.tup [.agg [.int a, .int b, .sl 2 1 0 xs.length cx], .agg [.int a, .int a, .sl 3 1 0 (a * a) (a * a)], .one (.bool true)]) [(2, .own 3 cx (.ints s.1)), (3, .own 3 (a * a) (.ints s.2))] 4 ⟨cx, a * a, by rw [l1]; exact hcx, by rw [l2]; exact Nat.le_refl _, by rw [l1, l2], rfl, rfl⟩ rfl ⟨trivial, ⟨rfl, rfl, trivial⟩, rfl⟩ rfl
  ·have hN := hbad rfl
   rw [hN]
   ((repeat' (first | refine stx ?_ | (refine stq ?_ ?_ <;> (intro hc; ((try simp at hc) <;> try contradiction))) | fail)) <;> try (exfalso; omega))
   all_goals exact fin rfl w_3 [] (.tup [.agg zeroM, .agg zeroM, .one (.bool false)]) [] 2 ⟨rfl, rfl, rfl⟩ rfl ⟨trivial, trivial, rfl⟩ rfl
end Go.Proofs.YtekpamojojfplaaGreat
