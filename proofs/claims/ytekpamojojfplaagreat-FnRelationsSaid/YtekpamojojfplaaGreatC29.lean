/-
  TEXTS OF THE PROOF, put together: bDef2, bRgJ, bRgK.
-/
import Derived.Test.YtekpamojojfplaaGreatC28
import Derived.Test.YtekpamojojfplaaGreatC25
set_option linter.unusedVariables false
set_option linter.unusedSimpArgs false
namespace Go.Proofs.YtekpamojojfplaaGreat
open Go.RowKit
set_option maxHeartbeats 4000000 in
theorem d_firstS (n k m : Nat) (xs : List Int) (ca : Nat) (hm : m = xs.length) (hx : xs.length = n * n) (hn : n ≤ 24) (hk : k ≤ n) : Does Tryz.prog 111 [vM n n 1 m ca, vI k] [(1, .ro (.ints xs))] 2 (FromR k k 3 (ldR xs n k k) 2) := by
 subst hm
 refine Does.intro TT Tryz.func111 rfl (by kernel_rfl) Zz Zz fun E hE => ?_
 ((repeat' (first | refine stx ?_ | (refine stq ?_ ?_ <;> (intro hc; ((try simp at hc) <;> try contradiction))) | fail)) <;> try (exfalso; omega))
 refine w_G hE (fun x : Nat × Nat => x.1 ≤ k ∧ x.1 ≤ x.2) (fun x => k - x.1)
  (fun x => [(1, vI k), (2, .one (.ptr 2 3 0 0)), (4, .one (.ptr 3 3 0 0)), (5, vS 4 1 0 x.1 x.2), (6, vI x.1)])
  (fun x => [(1, .ro (.ints xs)), (2, .own 26 1 (.lit [.int n, .int n, .sl 1 1 0 xs.length ca])), (3, .own 26 1 (.lit zeroM)), (4, .own 3 x.2 (.ints (natsI (List.range x.1))))]) 5 [] (0, 0) ⟨Nat.zero_le _, Nat.zero_le _⟩ ⟨w_1, w_2, rfl⟩ ?_
 rintro ⟨i, cap⟩ ⟨hi, hc⟩
 dsimp only at hi hc
 have hln : (natsI (List.range i)).length = i := by rw [natsI_len, List.length_range]
 by_cases hik : i < k
 ·have hik2 : ¬ k ≤ i := by omega
  have e : natsI (List.range (i + 1)) = natsI (List.range i) ++ [(i : Int)] := by rw [natsI, natsI, List.range_succ, List.map_append]; rfl
  ((repeat' (first | refine stx ?_ | (refine zqx ?_; intro cap hcap) | (refine stq ?_ ?_ <;> (intro hc; ((try simp at hc) <;> try contradiction))) | fail)) <;> try (exfalso; omega))
  exact ⟨[(4, 6)], (i + 1, cap), ⟨hik, by dsimp only; omega⟩, w_4, ⟨w_1, ⟨rfl, rfl, rfl, own_ints e.symm, trivial⟩, rfl⟩⟩
 ·obtain rfl : i = k := by omega
  have hp := fun ca cp cq => d_partF n n i xs ca cp cq xs.length i i Zz Zz Zz hx hn hn hk hk
  ((repeat' (first | refine stx ?_ | ((refine zqe (hp _ _ _) ?_); rintro v Hout n1 ⟨cq, hcq, rfl, rfl, rfl⟩) | (refine stq ?_ ?_ <;> (intro hc; ((try simp at hc) <;> try contradiction))) | fail)) <;> try (exfalso; omega))
  exact fin rfl w_3 [(2, 5)] (.agg [.int i, .int i, .sl 2 1 0 (ldR xs n i i).length cq]) [(2, .own 3 cq (.ints (ldR xs n i i)))] 3 ⟨cq, hcq, rfl, rfl, rfl⟩ rfl ⟨trivial, ⟨rfl, trivial⟩, rfl⟩ rfl
set_option maxRecDepth 100000 in
set_option maxHeartbeats 8000000 in
theorem d_leadS (r c : Int) (xs : List Int) (ca : Nat) (hl : xs.length ≤ 1099511627776) : Does Tryz.prog 63 [vM r c 1 xs.length ca] [(1, .ro (.ints xs))] 2 (GotS 3 (leadO r c xs) 2) := by
 refine Does.intro TT Tryz.func63 rfl (by kernel_rfl) Zz Zz fun E hE => ?_
 have hsq := fun ca => d_sqS r c xs ca hl
 cases hs : sqB r c xs with
 | false =>
  rw [hs] at hsq
  rw [show leadO r c xs = none by rw [leadO, hs]; rfl]
  ((repeat' (first | refine stx ?_ | (refine stq ?_ ?_ <;> (intro hc; ((try simp at hc) <;> try contradiction))) | fail)) <;> try (exfalso; omega))
  refine w_G hE (fun _ : Unit => True) (fun _ => 0)
   (fun _ => [(1, .one (.ptr 2 3 0 0)), (4, vS 3 1 0 0 0), (5, vI 1)])
   (fun _ => [(1, .ro (.ints xs)), (2, .own 26 1 (.lit [.int r, .int c, .sl 1 1 0 xs.length ca])), (3, .own 3 0 (.ints []))]) 4 [] () trivial ⟨w_1, w_2, rfl⟩ ?_
  rintro ⟨⟩ -
  ((repeat' (first | refine stx ?_ | refine zqc (hsq _) ?_ | (refine stq ?_ ?_ <;> (intro hc; ((try simp at hc) <;> try contradiction))) | fail)) <;> try (exfalso; omega))
  all_goals exact fin rfl w_3 [(2, 3)] (.tup [.one (.sl 2 1 0 0 0), .one (.bool false)]) [(2, .own 3 0 (.ints []))] 3 ⟨0, Nat.le_refl _, rfl, rfl, rfl⟩ rfl ⟨trivial, ⟨rfl, trivial⟩, rfl⟩ rfl
 | true =>
  rw [hs] at hsq
  obtain ⟨n, rfl, rfl, hn6, hx, hnum⟩ := sqB_dims hs
  have hO : leadO n n xs = leadTo xs n n := by rw [leadO, hs]; rfl
  have hx36 : xs.length ≤ 36 := by rw [hx]; exact Nat.mul_le_mul hn6 hn6
  rw [hO]
  ((repeat' (first | refine stx ?_ | (refine stq ?_ ?_ <;> (intro hc; ((try simp at hc) <;> try contradiction))) | fail)) <;> try (exfalso; omega))
  refine w_G hE (fun x : Nat × List Int × Nat => x.1 ≤ n ∧ leadTo xs n x.1 = some x.2.1 ∧ x.2.1.length ≤ x.2.2) (fun x => n - x.1)
   (fun x => [(1, .one (.ptr 2 3 0 0)), (4, vS 3 1 0 x.2.1.length x.2.2), (5, vI ((x.1 : Int) + 1))])
   (fun x => [(1, .ro (.ints xs)), (2, .own 26 1 (.lit [.int n, .int n, .sl 1 1 0 xs.length ca])), (3, .own 3 x.2.2 (.ints x.2.1))]) 4 [] (0, [], 0) ⟨Nat.zero_le _, rfl, Nat.le_refl _⟩ ⟨w_1, w_2, rfl⟩ ?_
  rintro ⟨j, l, cap⟩ ⟨hj, hlj, hlc⟩
  dsimp only at hj hlj hlc
  have hll := leadTo_len hlj
  by_cases hjn : j < n
  ·obtain ⟨k, hk⟩ : ∃ k, k = j + 1 := ⟨_, rfl⟩
   have hkI : (j : Int) + 1 = (k : Int) := by omega
   have hjn2 : (k : Int) ≤ n := by omega
   have hjn1 : ¬ n < k := by omega
   rw [hkI]
   have hkn : k * n ≤ xs.length := by rw [hx]; exact Nat.mul_le_mul_right _ (by omega)
   have hkk : k * k ≤ 36 := Nat.mul_le_mul (show k ≤ 6 by omega) (show k ≤ 6 by omega)
   have hlr := ldR_len (xs := xs) (c := n) (k := k) (i := k) (by omega) hkn
   have hf := fun ca => d_firstS n k xs.length xs ca rfl hx (by omega) (by omega)
   have hdet := fun m ca (hm : m = (ldR xs n k k).length) => d_detS k (ldR xs n k k) m ca (by omega) hm hlr (ldR_num hnum)
   have hnx : leadTo xs n (j + 1) = (detZ k (ldR xs n k k)).map fun d => l ++ [d] := by rw [leadTo, hlj, hk]; rfl
   cases hd : detZ k (ldR xs n k k) with
   | none =>
    rw [hd] at hdet hnx
    simp only [badV] at hdet
    have hno : leadTo xs n n = none := by
     have := leadTo_none hnx (n - (j + 1))
     rwa [show j + 1 + (n - (j + 1)) = n by omega] at this
    rw [hno]
    ((repeat' (first | refine stx ?_ | refine zqc (hsq _) ?_ | ((refine zqe (hf _) ?_); rintro v Hout n1 ⟨cq, hcq, rfl, rfl, rfl⟩) | refine zqc (hdet _ _ rfl) ?_ | (refine stq ?_ ?_ <;> (intro hc; ((try simp at hc) <;> try contradiction))) | fail)) <;> try (exfalso; omega))
    exact fin rfl w_3 [(2, 5)] (.tup [.one (.sl 2 1 0 0 0), .one (.bool false)]) [(2, .own 3 0 (.ints []))] 3 ⟨0, Nat.le_refl _, rfl, rfl, rfl⟩ rfl ⟨trivial, ⟨rfl, trivial⟩, rfl⟩ rfl
   | some d =>
    rw [hd] at hdet hnx
    simp only [badV] at hdet
    have hdn := numB_true.1 (detZ_num hd)
    have hdb : ¬ d = -4611686018427387904 := by omega
    ((repeat' (first | refine stx ?_ | refine zqc (hsq _) ?_ | ((refine zqe (hf _) ?_); rintro v Hout n1 ⟨cq, hcq, rfl, rfl, rfl⟩) | refine zqc (hdet _ _ rfl) ?_ | (refine zqx ?_; intro cap hcap) | (refine stq ?_ ?_ <;> (intro hc; ((try simp at hc) <;> try contradiction))) | fail)) <;> try (exfalso; omega))
    exact ⟨[(3, 6)], (j + 1, l ++ [d], cap), ⟨hjn, hnx, by dsimp only; rw [List.length_append]; exact hcap⟩, w_4, ⟨w_1, ⟨rfl, rfl, rfl, trivial⟩, rfl⟩⟩
  ·have e : j = n := by omega
   rw [e] at hlj
   have hjn1 : ¬ (j : Int) + 1 ≤ n := by omega
   rw [hlj]
   ((repeat' (first | refine stx ?_ | refine zqc (hsq _) ?_ | (refine stq ?_ ?_ <;> (intro hc; ((try simp at hc) <;> try contradiction))) | fail)) <;> try (exfalso; omega))
   exact fin rfl w_3 [(2, 3)] (.tup [.one (.sl 2 1 0 l.length cap), .one (.bool true)]) [(2, .own 3 cap (.ints l))] 3 ⟨cap, hlc, rfl, rfl, rfl⟩ rfl ⟨trivial, ⟨rfl, trivial⟩, rfl⟩ rfl
def bI (o : Option (List Int)) (i : Nat) : Bool := o.isSome && posL ((o.getD []).take i)
theorem bI_next {o : Option (List Int)} {i : Nat} (h : i < (o.getD []).length) : bI o (i + 1) = (bI o i && decide (0 < (o.getD []).getD i 0)) := by
  rw [bI, bI, List.take_succ_eq_append_getElem h, posL, posL, List.all_append, ← getD_in (d := 0) h, Bool.and_assoc]; simp
theorem bI_full {r c : Int} {xs : List Int} : defB r c xs = (bI (leadO r c xs) ((leadO r c xs).getD []).length && gramB r c xs) := by
  rw [defB, bI, List.take_length]
  cases leadO r c xs <;> rfl
theorem leadO_len {r c : Int} {xs : List Int} : ((leadO r c xs).getD []).length ≤ 6 := by
  cases h : leadO r c xs with
  | none => simp
  | some l =>
    unfold leadO at h
    split at h
    · rename_i hs
      obtain ⟨n, rfl, rfl, hn6, hx, hnum⟩ := sqB_dims hs
      have := leadTo_len h
      simp only [Option.getD_some]
      omega
    · cases h
set_option maxHeartbeats 4000000 in
theorem d_defI (r c : Int) (xs : List Int) (ca : Nat) (hl : xs.length ≤ 1099511627776) (hca : xs.length ≤ ca) : Does Tryz.prog 43 [vM r c 1 xs.length ca] [(1, .ro (.ints xs))] 2 (Ret (vB (defB r c xs)) 2) := by
 have hld := d_leadI r c xs ca hl hca
 have hgr := fun ca => d_gramI r c xs ca hl
 have h6 := leadO_len (r := r) (c := c) (xs := xs)
 rw [bI_full]
 refine Does.intro TT Tryz.func43 rfl (by kernel_rfl) Zz Zz fun E hE => ?_
 have hn := fun i => @bI_next (leadO r c xs) i
 have h0 : bI (leadO r c xs) 0 = (leadO r c xs).isSome := by simp [bI, posL]
 generalize leadO r c xs = o at *
 ((repeat' (first | refine stx ?_ | ((refine zqe (hld) ?_); rintro v Hout n1 ⟨cap, hcap, rfl, rfl, rfl⟩) | (refine stq ?_ ?_ <;> (intro hc; ((try simp at hc) <;> try contradiction))) | fail)) <;> try (exfalso; omega))
 refine w_G hE (fun i : Nat => i ≤ (o.getD []).length) (fun i => (o.getD []).length - i)
  (fun i => [(1, .one (.ptr 2 3 0 0)), (4, vB (bI o i)), (12, vS 3 1 0 (o.getD []).length cap), (13, vI (o.getD []).length), (14, vI i)])
  (fun i => [(1, .ro (.ints xs)), (2, .own 26 1 (.lit [.int r, .int c, .sl 1 1 0 xs.length ca])), (3, .own 3 cap (.ints (o.getD [])))]) 4 [] 0 (Nat.zero_le _) ⟨⟨rfl, congrArg some (congrArg vB h0.symm), rfl, rfl, rfl, trivial⟩, ⟨rfl, rfl, rfl, trivial⟩, rfl⟩ ?_
 intro i hi
 by_cases hil : i < (o.getD []).length
 ·have hil2 : ¬ (o.getD []).length ≤ i := by omega
  have hnx := hn i hil
  have e : (o.getD []).getD (0 + (i : Int).toNat) 0 = (o.getD []).getD i 0 := by rw [show 0 + (i : Int).toNat = i by omega]
  rw [← e] at hnx
  cases hb : bI o i with
  | false =>
   rw [hb] at hnx
   ((repeat' (first | refine stx ?_ | (refine stq ?_ ?_ <;> (intro hc; ((try simp at hc) <;> try contradiction))) | fail)) <;> try (exfalso; omega))
   exact ⟨[], i + 1, hil, w_4, ⟨⟨rfl, congrArg some (congrArg vB hnx.symm), rfl, rfl, rfl, trivial⟩, ⟨rfl, rfl, rfl, trivial⟩, rfl⟩⟩
  | true =>
   rw [hb, Bool.true_and] at hnx
   ((repeat' (first | refine stx ?_ | (refine stq ?_ ?_ <;> (intro hc; ((try simp at hc) <;> try contradiction))) | fail)) <;> try (exfalso; omega))
   exact ⟨[], i + 1, hil, w_4, ⟨⟨rfl, congrArg some (congrArg vB hnx.symm), rfl, rfl, rfl, trivial⟩, ⟨rfl, rfl, rfl, trivial⟩, rfl⟩⟩
 ·obtain rfl : i = (o.getD []).length := by omega
  cases hb : bI o (o.getD []).length with
  | false =>
   ((repeat' (first | refine stx ?_ | (refine stq ?_ ?_ <;> (intro hc; ((try simp at hc) <;> try contradiction))) | fail)) <;> try (exfalso; omega))
   refine fin_ret rfl w_3 (rfl) rfl
  | true =>
   ((repeat' (first | refine stx ?_ | refine zqc (hgr _) ?_ | (refine stq ?_ ?_ <;> (intro hc; ((try simp at hc) <;> try contradiction))) | fail)) <;> try (exfalso; omega))
   refine fin_ret rfl w_3 (rfl) rfl
set_option maxHeartbeats 4000000 in
theorem d_defS (r c : Int) (xs : List Int) (ca : Nat) (hl : xs.length ≤ 1099511627776) : Does Tryz.prog 20 [vM r c 1 xs.length ca] [(1, .ro (.ints xs))] 2 (Ret (vB (defB r c xs)) 2) := by
 have hld := d_leadS r c xs ca hl
 have hgr := fun ca => d_gramS r c xs ca hl
 have h6 := leadO_len (r := r) (c := c) (xs := xs)
 rw [bI_full]
 refine Does.intro TT Tryz.func20 rfl (by kernel_rfl) Zz Zz fun E hE => ?_
 generalize leadO r c xs = o at *
 ((repeat' (first | refine stx ?_ | ((refine zqe (hld) ?_); rintro v Hout n1 ⟨cap, hcap, rfl, rfl, rfl⟩) | (refine stq ?_ ?_ <;> (intro hc; ((try simp at hc) <;> try contradiction))) | fail)) <;> try (exfalso; omega))
 refine w_G hE (fun i : Nat => i ≤ (o.getD []).length ∧ posL ((o.getD []).take i) = true) (fun i => (o.getD []).length - i)
  (fun i => [(1, .one (.ptr 2 3 0 0)), (3, vS 3 1 0 (o.getD []).length cap), (4, vB o.isSome), (5, vI i)])
  (fun i => [(1, .ro (.ints xs)), (2, .own 26 1 (.lit [.int r, .int c, .sl 1 1 0 xs.length ca])), (3, .own 3 cap (.ints (o.getD [])))]) 4 [] 0 ⟨Nat.zero_le _, rfl⟩ ⟨w_1, w_2, rfl⟩ ?_
 rintro i ⟨hi, hpos⟩
 by_cases hil : i < (o.getD []).length
 ·have hil2 : ¬ (o.getD []).length ≤ i := by omega
  by_cases hp : 0 < (o.getD [])[i]?.getD 0
  ·((repeat' (first | refine stx ?_ | (refine stq ?_ ?_ <;> (intro hc; ((try simp at hc) <;> try contradiction))) | fail)) <;> try (exfalso; omega))
   refine ⟨[], i + 1, ⟨hil, ?_⟩, w_4, ⟨w_1, w_2, rfl⟩⟩
   rw [List.take_succ_eq_append_getElem hil, posL, List.all_append]
   rw [posL] at hpos
   rw [hpos]
   simp [hil] at hp
   simpa using hp
  ·((repeat' (first | refine stx ?_ | (refine stq ?_ ?_ <;> (intro hc; ((try simp at hc) <;> try contradiction))) | fail)) <;> try (exfalso; omega))
   refine fin_ret rfl w_3 (congrArg vB ?_) rfl
   have : bI o (o.getD []).length = false := by
    rw [bI, List.take_length]
    have : posL (o.getD []) = false := by
     rw [posL, List.all_eq_false]
     refine ⟨(o.getD [])[i], List.getElem_mem hil, ?_⟩
     simp [hil] at hp
     simpa using hp
    rw [this, Bool.and_false]
   rw [this]; rfl
 ·obtain rfl : i = (o.getD []).length := by omega
  rw [List.take_length] at hpos
  cases hb : o.isSome with
  | false =>
   ((repeat' (first | refine stx ?_ | (refine stq ?_ ?_ <;> (intro hc; ((try simp at hc) <;> try contradiction))) | fail)) <;> try (exfalso; omega))
   refine fin_ret rfl w_3 (congrArg vB (by rw [bI, hb]; rfl)) rfl
  | true =>
   ((repeat' (first | refine stx ?_ | refine zqc (hgr _) ?_ | (refine stq ?_ ?_ <;> (intro hc; ((try simp at hc) <;> try contradiction))) | fail)) <;> try (exfalso; omega))
   refine fin_ret rfl w_3 (congrArg vB (by rw [bI, List.take_length, hb, hpos]; rfl)) rfl
end Go.Proofs.YtekpamojojfplaaGreat
namespace Go.Proofs.YtekpamojojfplaaGreat
open Go.RowKit
def redIn (n k : Nat) (s : S3) (st : List (List RP) × List RP) : Option (S3 × Nat) := match rdJ (st.1.getD k []) k with
  | none => none
  | some (some j) => (bothO n k j (-rndP2 ((st.1.getD k []).getD j (0, 0))) s).map fun s' => (s', k)
  | some none => if ordC st.1 st.2 k = 2 then none else if ordC st.1 st.2 k = 0 ∨ ordC st.1 st.2 k = 1 then some (s, k + 1) else some (swC n n k (k - 1) (swR n n k (k - 1) s), max 1 (k - 1))
theorem redStep_in {n k : Nat} {s : S3} : redStep n k s = (acTo s.1 n n).bind (redIn n k s) := rfl
theorem rdJ_same {row : List RP} {k m : Nat} (h : rdJ row k = rdJ row (m + 1)) : rdJ row k = if ratP (row.getD m (0, 0)) then (if rndP2 (row.getD m (0, 0)) = 0 then rdJ row m else some (some m)) else none := h
def StepR (ti tw : TypeId) (n cu : Nat) (o : Option (S3 × Nat)) (v : AV) (Hout : List (Nat × Blk)) (n1 : Nat) : Prop := match o with
  | none => v = vB false ∧ Hout = [] ∧ n1 = 9
  | some x => ∃ cx cv, n * n ≤ cx ∧ v = vB true ∧ n1 = 11 ∧ Hout = [(2, .own tw 1 (.lit (workL 9 4 10 n n (n * n) cx cu cv false))), (9, .own ti cx (.ints x.1.1)), (4, .own ti cu (.ints x.1.2.1)), (10, .own ti cv (.ints x.1.2.2)), (8, .own ti 1 (.lit [.int x.2]))]
set_option maxRecDepth 100000 in
set_option maxHeartbeats 16000000 in
theorem d_stepI (n k c1 c2 cx cu cv : Nat) (s : S3) (l : List Row) (sq : List RP) (hs : OK3 n n s) (hn : n ≤ 24) (hk1 : 1 ≤ k) (hk : k < n) (hl : l.length = n) (hsq : sq.length = n) (hp : (l.getD k rowD).ps.length = k) (hcx : n * n ≤ cx) (hcu : n * n ≤ cu) :
    Does Tryz.prog 162 [vW, .agg [.sl 6 1 0 n c1, .sl 7 2 0 n c2], .one (.ptr 8 1 0 0)] [(2, .own 137 1 (.lit (workL 3 4 5 n n (n * n) cx cu cv false))), (3, .own 3 cx (.ints s.1)), (4, .own 3 cu (.ints s.2.1)), (5, .own 3 cv (.ints s.2.2)), (6, .ro (.rows true true l)), (7, .ro (.i2 sq)), (8, .own 3 1 (.lit [.int k]))] 9 (StepR 3 137 n cu (redIn n k s (psX l, sq))) := by
  have e0 : 0 + (k : Int).toNat = k := by omega
  have ex : (l.getD (0 + (k : Int).toNat) rowD).ps = (psX l).getD k [] := by
    rw [e0, getD_in (show k < l.length by omega), getD_in (by rw [psX, List.length_map]; omega)]; simp [psX]
  have exl : (l.getD (0 + (k : Int).toNat) rowD).ps.length = k := by rw [e0]; exact hp
  have exn : (l[k]?.getD rowD).ps.length = k := by rw [← List.getD_eq_getElem?_getD]; exact hp
  obtain ⟨row, hrow⟩ : ∃ row, row = (psX l).getD k [] := ⟨_, rfl⟩
  have h1 := hs.x
  have h2 := hs.u
  refine Does.intro TT Tryz.func162 rfl (by kernel_rfl) Zz Zz fun E hE => ?_
  ((repeat' (first | refine stx ?_ | (refine stq ?_ ?_ <;> (intro hc; ((try simp at hc) <;> try contradiction))) | fail)) <;> try (exfalso; omega))
  refine w_G hE (fun m : Nat => m ≤ k ∧ rdJ row k = rdJ row m) (fun m => m)
    (fun m => [(0, vW), (2, .one (.ptr 8 1 0 0)), (4, .one (.ptr 9 2 0 0)), (7, vI ((m : Int) - 1))])
    (fun _ => [(2, .own 137 1 (.lit (workL 3 4 5 n n (n * n) cx cu cv false))), (3, .own 3 cx (.ints s.1)), (4, .own 3 cu (.ints s.2.1)), (5, .own 3 cv (.ints s.2.2)), (6, .ro (.rows true true l)), (7, .ro (.i2 sq)), (8, .own 3 1 (.lit [.int k])), (9, .own 142 1 (.lit [.sl 6 1 0 n c1, .sl 7 2 0 n c2]))]) 10 [] k ⟨Nat.le_refl _, rfl⟩ ⟨w_1, w_2, rfl⟩ ?_
  rintro m ⟨hm, hrd⟩
  cases m with
  | zero =>
    have hio := d_inOrdI n k c1 c2 l sq hn hl hsq hk1 hk hp
    have hin : redIn n k s (psX l, sq) = if ordC (psX l) sq k = 2 then none else if ordC (psX l) sq k = 0 ∨ ordC (psX l) sq k = 1 then some (s, k + 1) else some (swC n n k (k - 1) (swR n n k (k - 1) s), max 1 (k - 1)) := by
      unfold redIn
      dsimp only
      rw [← hrow, hrd]; rfl
    rw [hin]
    obtain ⟨c, hc⟩ : ∃ c, c = ordC (psX l) sq k := ⟨_, rfl⟩
    rw [← hc] at hio ⊢
    rw [show (((0 : Nat) : Int) - 1) = -1 from rfl]
    by_cases c2 : c = 2
    · rw [if_pos c2]
      rw [decide_eq_true c2] at hio
      ((repeat' (first | refine stp ?_ | (refine stq ?_ ?_ <;> (intro hc; ((try simp at hc) <;> try contradiction))) | fail)) <;> try (exfalso; omega))
      refine awp_held TM [(8, _), (9, _)] sb rfl (fun ρs => ?_)
      refine zt0 ?_
      refine zt1 ?_
      refine zt2 ?_
      refine zt3 ?_
      refine w_u [4] kr rfl ⟨?_, trivial⟩
      first | (refine zho ?_) | refine zqb (hio) ?_
      refine zt5 ?_
      refine zt6 ?_
      refine zt7 ?_
      refine zt8 ?_
      refine zt9 ?_
      refine w_v kr ?_
      rotate_left
      all_goals ((repeat' (first | refine stx ?_ | (refine stq ?_ ?_ <;> (intro hc; ((try simp at hc) <;> try contradiction))) | fail)) <;> try (exfalso; omega))
      all_goals exact fin rfl w_3 [] (vB false) [] 9 ⟨rfl, rfl, rfl⟩ rfl ⟨trivial, trivial, rfl⟩ rfl
    · rw [if_neg c2]
      rw [decide_eq_false c2] at hio
      by_cases c1 : c = 0 ∨ c = 1
      · rw [if_pos c1]
        rw [decide_eq_true c1] at hio
        ((repeat' (first | refine stp ?_ | (refine stq ?_ ?_ <;> (intro hc; ((try simp at hc) <;> try contradiction))) | fail)) <;> try (exfalso; omega))
        refine awp_held TM [(8, _), (9, _)] sb rfl (fun ρs => ?_)
        refine zt0 ?_
        refine zt1 ?_
        refine zt2 ?_
        refine zt3 ?_
        refine w_u [4] kr rfl ⟨?_, trivial⟩
        first | (refine zho ?_) | refine zqb (hio) ?_
        refine zt5 ?_
        refine zt6 ?_
        refine zt7 ?_
        refine zt8 ?_
        refine zt9 ?_
        refine w_v kr ?_
        rotate_left
        all_goals ((repeat' (first | refine stx ?_ | (refine stq ?_ ?_ <;> (intro hc; ((try simp at hc) <;> try contradiction))) | fail)) <;> try (exfalso; omega))
        all_goals exact fin rfl w_3 [(9, 3), (10, 5)] (vB true) [(2, .own 137 1 (.lit (workL 9 4 10 n n (n * n) cx cu cv false))), (9, .own 3 cx (.ints s.1)), (4, .own 3 cu (.ints s.2.1)), (10, .own 3 cv (.ints s.2.2)), (8, .own 3 1 (.lit [.int (k + 1 : Nat)]))] 11 ⟨cx, cv, hcx, rfl, rfl, rfl⟩ rfl ⟨trivial, ⟨rfl, rfl, rfl, rfl, rfl, trivial⟩, rfl⟩ rfl
      · rw [if_neg c1]
        rw [decide_eq_false c1] at hio
        have hb := d_bothSwap n k (k - 1) cx cu cv s hs hn hk (by omega) (by omega) hcx hcu
        rw [show ((k - 1 : Nat) : Int) = (k : Int) - 1 by omega] at hb
        have emx : (if 1 < (k : Int) - 1 then (k : Int) - 1 else 1) = ((max 1 (k - 1) : Nat) : Int) := by split <;> omega
        generalize swC n n k (k - 1) (swR n n k (k - 1) s) = z at hb ⊢
        ((repeat' (first | refine stp ?_ | (refine stq ?_ ?_ <;> (intro hc; ((try simp at hc) <;> try contradiction))) | fail)) <;> try (exfalso; omega))
        refine awp_held TM [(8, _), (9, _)] sb rfl (fun ρs => ?_)
        refine zt0 ?_
        refine zt1 ?_
        refine zt2 ?_
        refine zt3 ?_
        refine w_u [4] kr rfl ⟨?_, trivial⟩
        first | (refine zho ?_) | refine zqb (hio) ?_
        refine zt5 ?_
        refine zt6 ?_
        refine zt7 ?_
        refine zt8 ?_
        refine zt9 ?_
        refine w_v kr ?_
        rotate_left
        all_goals ((repeat' (first | refine stp ?_ | (refine stq ?_ ?_ <;> (intro hc; ((try simp at hc) <;> try contradiction))) | fail)) <;> try (exfalso; omega))
        refine awp_held TM [(8, _)] sb rfl (fun ρs => ?_)
        refine zt0 ?_
        refine zt1 ?_
        refine zt2 ?_
        refine zt3 ?_
        refine zt4 ?_
        refine zt5 ?_
        refine zt6 ?_
        refine zt7 ?_
        refine zt8 ?_
        refine w_u [9] kr rfl ⟨?_, trivial⟩
        first | (refine zho ?_) | (refine zqf (hb) ?_; rintro v Hout n1 ⟨rfl, rfl, rfl⟩; refine ⟨sb, ?_⟩)
        refine w_v kr ?_
        rotate_left
        all_goals ((repeat' (first | refine stx ?_ | (refine stq ?_ ?_ <;> (intro hc; ((try simp at hc) <;> try contradiction))) | fail)) <;> try (exfalso; omega))
        all_goals exact fin rfl w_3 [(9, 10), (10, 11)] (vB true) [(2, .own 137 1 (.lit (workL 9 4 10 n n (n * n) (n * n) cu (n * n) false))), (9, .own 3 (n * n) (.ints z.1)), (4, .own 3 cu (.ints z.2.1)), (10, .own 3 (n * n) (.ints z.2.2)), (8, .own 3 1 (.lit [.int (max 1 (k - 1) : Nat)]))] 11 ⟨_, _, Nat.le_refl _, rfl, rfl, rfl⟩ rfl ⟨trivial, ⟨rfl, rfl, rfl, rfl, congrArg (fun x : Int => some (Blk.own 3 1 (.lit [.int x]))) emx, trivial⟩, rfl⟩ rfl
  | succ m =>
    rw [show (((m + 1 : Nat) : Int) - 1) = m by omega]
    obtain ⟨T, hT⟩ : ∃ T, T = (l.getD (0 + (k : Int).toNat) rowD).ps.getD (0 + (m : Int).toNat) (0, 0) := ⟨_, rfl⟩
    have eT : T = row.getD m (0, 0) := by rw [hT, ex, ← hrow, show 0 + (m : Int).toNat = m by omega]
    have h3 := rdJ_same hrd
    rw [← eT] at h3
    have hqb : -1000000000000 ≤ rndP2 T ∧ rndP2 T ≤ 1000000000000 := rnd_bd T
    have hrt := d_ratioI T.1 T.2
    have hrn := d_rndRI T.1 T.2
    rw [show ratioB T.1 T.2 = ratP T from rfl] at hrt
    rw [show rndR T.1 T.2 = rndP2 T from rfl] at hrn
    rw [hT] at hrt hrn
    generalize hq : rndP2 ((l.getD (0 + (k : Int).toNat) rowD).ps.getD (0 + (m : Int).toNat) (0, 0)) = q at hrn
    rw [hT, hq] at hqb
    rw [hT, hq] at h3
    cases hr : ratP ((l.getD (0 + (k : Int).toNat) rowD).ps.getD (0 + (m : Int).toNat) (0, 0)) with
    | false =>
      rw [hr] at hrt h3
      have hin : redIn n k s (psX l, sq) = none := by
        unfold redIn
        dsimp only
        rw [← hrow, h3]; rfl
      rw [hin]
      ((repeat' (first | refine stp ?_ | (refine stq ?_ ?_ <;> (intro hc; ((try simp at hc) <;> try contradiction))) | fail)) <;> try (exfalso; omega))
      refine awp_held TM [(8, _), (9, _)] sb rfl (fun ρs => ?_)
      refine zt0 ?_
      refine zt1 ?_
      refine zt2 ?_
      refine zt3 ?_
      refine zt4 ?_
      refine zt5 ?_
      refine zt7 ?_
      refine w_u [6, 10] kr rfl ⟨?_, ?_, trivial⟩
      first | (refine zho ?_)
      refine zt8 ?_
      refine w_u [9, 10] kr rfl ⟨?_, ?_, trivial⟩
      first | (refine zho ?_)
      refine w_u [10] kr rfl ⟨?_, trivial⟩
      first | (refine zho ?_)
      refine w_u [11] kr rfl ⟨?_, trivial⟩
      first | (refine zho ?_)
      refine w_v kr ?_
      rotate_left
      first | (refine zho ?_)
      refine w_u [9] kr rfl ⟨?_, trivial⟩
      first | (refine zho ?_)
      refine w_u [11] kr rfl ⟨?_, trivial⟩
      first | (refine zho ?_)
      refine w_v kr ?_
      rotate_left
      first | (refine zho ?_)
      refine w_u [6] kr rfl ⟨?_, trivial⟩
      first | (refine zho ?_)
      refine zt8 ?_
      refine w_u [9] kr rfl ⟨?_, trivial⟩
      first | (refine zho ?_)
      refine w_u [11] kr rfl ⟨?_, trivial⟩
      first | (refine zho ?_)
      refine w_v kr ?_
      rotate_left
      all_goals ((repeat' (first | refine stx ?_ | refine zqc (hrt) ?_ | (refine stq ?_ ?_ <;> (intro hc; ((try simp at hc) <;> try contradiction))) | fail)) <;> try (exfalso; omega))
      all_goals exact fin rfl w_3 [] (vB false) [] 9 ⟨rfl, rfl, rfl⟩ rfl ⟨trivial, trivial, rfl⟩ rfl
    | true =>
      rw [hr] at hrt h3
      rw [if_pos rfl] at h3
      by_cases q0 : q = 0
      · rw [if_pos q0] at h3
        ((repeat' (first | refine stp ?_ | (refine stq ?_ ?_ <;> (intro hc; ((try simp at hc) <;> try contradiction))) | fail)) <;> try (exfalso; omega))
        refine awp_held TM [(8, _), (9, _)] sb rfl (fun ρs => ?_)
        refine zt0 ?_
        refine zt1 ?_
        refine zt2 ?_
        refine zt3 ?_
        refine zt4 ?_
        refine zt5 ?_
        refine zt7 ?_
        refine w_u [6, 10] kr rfl ⟨?_, ?_, trivial⟩
        first | (refine zho ?_)
        refine zt8 ?_
        refine w_u [9, 10] kr rfl ⟨?_, ?_, trivial⟩
        first | (refine zho ?_)
        refine w_u [10] kr rfl ⟨?_, trivial⟩
        first | (refine zho ?_)
        refine w_u [11] kr rfl ⟨?_, trivial⟩
        first | (refine zho ?_)
        refine w_v kr ?_
        rotate_left
        first | (refine zho ?_)
        refine w_u [9] kr rfl ⟨?_, trivial⟩
        first | (refine zho ?_)
        refine w_u [11] kr rfl ⟨?_, trivial⟩
        first | (refine zho ?_)
        refine w_v kr ?_
        rotate_left
        first | (refine zho ?_)
        refine w_u [6] kr rfl ⟨?_, trivial⟩
        first | (refine zho ?_)
        refine zt8 ?_
        refine w_u [9] kr rfl ⟨?_, trivial⟩
        first | (refine zho ?_)
        refine w_u [11] kr rfl ⟨?_, trivial⟩
        first | (refine zho ?_)
        refine w_v kr ?_
        rotate_left
        all_goals ((repeat' (first | refine stx ?_ | refine zqc (hrt) ?_ | refine zqc (hrn) ?_ | (refine stq ?_ ?_ <;> (intro hc; ((try simp at hc) <;> try contradiction))) | fail)) <;> try (exfalso; omega))
        all_goals exact ⟨[], m, ⟨by omega, h3⟩, Nat.lt_succ_self m, ⟨w_1, w_2, rfl⟩⟩
      · rw [if_neg q0] at h3
        have hin : redIn n k s (psX l, sq) = (bothO n k m (-q) s).map fun s' => (s', k) := by
          unfold redIn
          dsimp only
          rw [← hrow, h3]
          dsimp only
          rw [← eT, hT, hq]
        rw [hin]
        have hqn : numB (-q) = true := by rw [← hq]; exact rnd_num _
        have hb := d_bothAdd n k m cx cu cv (-q) s hs hn hk (by omega) (by omega) hqn hcx hcu
        cases ho : bothO n k m (-q) s with
        | none =>
          rw [ho] at hb
          ((repeat' (first | refine stp ?_ | (refine stq ?_ ?_ <;> (intro hc; ((try simp at hc) <;> try contradiction))) | fail)) <;> try (exfalso; omega))
          refine awp_held TM [(8, _), (9, _)] sb rfl (fun ρs => ?_)
          refine zt0 ?_
          refine zt1 ?_
          refine zt2 ?_
          refine zt3 ?_
          refine zt4 ?_
          refine zt5 ?_
          refine zt7 ?_
          refine w_u [6, 10] kr rfl ⟨?_, ?_, trivial⟩
          first | (refine zho ?_)
          refine zt8 ?_
          refine w_u [9, 10] kr rfl ⟨?_, ?_, trivial⟩
          first | (refine zho ?_)
          refine w_u [10] kr rfl ⟨?_, trivial⟩
          first | (refine zho ?_)
          refine w_u [11] kr rfl ⟨?_, trivial⟩
          first | (refine zho ?_)
          refine w_v kr ?_
          rotate_left
          first | (refine zho ?_)
          refine w_u [9] kr rfl ⟨?_, trivial⟩
          first | (refine zho ?_)
          refine w_u [11] kr rfl ⟨?_, trivial⟩
          first | (refine zho ?_)
          refine w_v kr ?_
          rotate_left
          first | (refine zho ?_)
          refine w_u [6] kr rfl ⟨?_, trivial⟩
          first | (refine zho ?_)
          refine zt8 ?_
          refine w_u [9] kr rfl ⟨?_, trivial⟩
          first | (refine zho ?_)
          refine w_u [11] kr rfl ⟨?_, trivial⟩
          first | (refine zho ?_)
          refine w_v kr ?_
          rotate_left
          all_goals ((repeat' (first | refine stx ?_ | refine zqc (hrt) ?_ | refine zqc (hrn) ?_ | ((refine zqe (hb) ?_); rintro v Hout n1 ⟨rfl, rfl, rfl⟩) | (refine stq ?_ ?_ <;> (intro hc; ((try simp at hc) <;> try contradiction))) | fail)) <;> try (exfalso; omega))
          all_goals exact fin rfl w_3 [] (vB false) [] 9 ⟨rfl, rfl, rfl⟩ rfl ⟨trivial, trivial, rfl⟩ rfl
        | some z =>
          rw [ho] at hb
          ((repeat' (first | refine stp ?_ | (refine stq ?_ ?_ <;> (intro hc; ((try simp at hc) <;> try contradiction))) | fail)) <;> try (exfalso; omega))
          refine awp_held TM [(8, _), (9, _)] sb rfl (fun ρs => ?_)
          refine zt0 ?_
          refine zt1 ?_
          refine zt2 ?_
          refine zt3 ?_
          refine zt4 ?_
          refine zt5 ?_
          refine zt7 ?_
          refine w_u [6, 10] kr rfl ⟨?_, ?_, trivial⟩
          first | (refine zho ?_)
          refine zt8 ?_
          refine w_u [9, 10] kr rfl ⟨?_, ?_, trivial⟩
          first | (refine zho ?_)
          refine w_u [10] kr rfl ⟨?_, trivial⟩
          first | (refine zho ?_)
          refine w_u [11] kr rfl ⟨?_, trivial⟩
          first | (refine zho ?_)
          refine w_v kr ?_
          rotate_left
          first | (refine zho ?_)
          refine w_u [9] kr rfl ⟨?_, trivial⟩
          first | (refine zho ?_)
          refine w_u [11] kr rfl ⟨?_, trivial⟩
          first | (refine zho ?_)
          refine w_v kr ?_
          rotate_left
          first | (refine zho ?_)
          refine w_u [6] kr rfl ⟨?_, trivial⟩
          first | (refine zho ?_)
          refine zt8 ?_
          refine w_u [9] kr rfl ⟨?_, trivial⟩
          first | (refine zho ?_)
          refine w_u [11] kr rfl ⟨?_, trivial⟩
          first | (refine zho ?_)
          refine w_v kr ?_
          rotate_left
          all_goals ((repeat' (first | refine stx ?_ | refine zqc (hrt) ?_ | refine zqc (hrn) ?_ | ((refine zqe (hb) ?_); rintro v Hout n1 ⟨rfl, rfl, rfl⟩) | (refine stq ?_ ?_ <;> (intro hc; ((try simp at hc) <;> try contradiction))) | fail)) <;> try (exfalso; omega))
          all_goals exact fin rfl w_3 [(9, 12), (10, 13)] (vB true) [(2, .own 137 1 (.lit (workL 9 4 10 n n (n * n) (n * n) cu (n * n) false))), (9, .own 3 (n * n) (.ints z.1)), (4, .own 3 cu (.ints z.2.1)), (10, .own 3 (n * n) (.ints z.2.2)), (8, .own 3 1 (.lit [.int k]))] 11 ⟨_, _, Nat.le_refl _, rfl, rfl, rfl⟩ rfl ⟨trivial, ⟨rfl, rfl, rfl, rfl, rfl, trivial⟩, rfl⟩ rfl
end Go.Proofs.YtekpamojojfplaaGreat
namespace Go.Proofs.YtekpamojojfplaaGreat
open Go.RowKit
theorem turn_id {n : Nat} : turnM (idTo n n) n n = idTo n n := by
  apply List.ext_getElem (by simp [turnM])
  intro p h1 h2
  have hp : p < n * n := by simpa [turnM] using h1
  have hn : 0 < n := by
    rcases Nat.eq_zero_or_pos n with h | h
    · subst h; omega
    · exact h
  have hd := div_lt_c hp
  have hm := Nat.mod_lt p hn
  obtain ⟨e1, e2⟩ := turn_idx (j := p % n) hd
  have hq : p % n * n + p / n < n * n := by
    have := Nat.mul_le_mul_right n (show p % n + 1 ≤ n by omega)
    rw [Nat.succ_mul] at this; omega
  simp only [turnM, List.getElem_map, List.getElem_range]
  rw [getD_in (by rw [idTo_len]; exact hq)]
  simp only [idTo, List.getElem_map, List.getElem_range, e1, e2]
  have : (p % n = p / n ∧ p % n < n) ↔ (p / n = p % n ∧ p / n < n) := by
    generalize p % n = u at *
    generalize p / n = v at *
    omega
  simp only [this]
theorem defB_dims {r c : Int} {xs : List Int} (h : defB r c xs = true) : ∃ n : Nat, r = n ∧ c = n ∧ n ≤ 6 ∧ xs.length = n * n ∧ xs.all numB = true ∧ turnM xs n n = xs := by
  simp only [defB, Bool.and_eq_true] at h
  have h2 := h.2
  simp only [gramB, Bool.and_eq_true, decide_eq_true_eq] at h2
  obtain ⟨n, rfl, rfl, hn, hx, hnum⟩ := sqB_dims h2.1
  exact ⟨n, rfl, rfl, hn, hx, hnum, by simpa using h2.2⟩
theorem turnS0 {n : Nat} {xs : List Int} (hx : xs.length = n * n) (hnum : xs.all numB = true) : TurnS n (xs, idTo n n, idTo n n) := ⟨⟨hx, idTo_len, idTo_len, hnum, id_num, id_num⟩, turn_id.symm⟩
theorem redG_go {n f k : Nat} {s : S3} (h : k < n) : redG n (f + 1) s k = (redStep n k s).bind fun x => redG n f x.1 x.2 := by rw [redG, if_pos h]
theorem redG_end {n f k : Nat} {s : S3} (h : ¬ k < n) : redG n f s k = some s := by cases f <;> rw [redG, if_neg h]
theorem redG_out {n k : Nat} {s : S3} (h : k < n) : redG n 0 s k = none := by rw [redG, if_pos h]
def RedR (t : TypeId) (r : Int) (o : Option S3) (v : AV) (Hout : List (Nat × Blk)) (n1 : Nat) : Prop := match o with
  | none => v = .tup [.agg zeroM, .agg zeroM, .one (.bool false)] ∧ Hout = [] ∧ n1 = 2
  | some s => ∃ cx cu, s.1.length ≤ cx ∧ s.2.1.length ≤ cu ∧ v = .tup [.agg [.int r, .int r, .sl 2 1 0 s.1.length cx], .agg [.int r, .int r, .sl 3 1 0 s.2.1.length cu], .one (.bool true)] ∧ Hout = [(2, .own t cx (.ints s.1)), (3, .own t cu (.ints s.2.1))] ∧ n1 = 4
theorem own_workR {tw : TypeId} {kx ku kv a b nx nx' cx cu cv : Nat} {bad : Bool} {m : Nat → Nat} (h : nx = nx') : some (Blk.own tw 1 (.lit (workL (m kx) (m ku) (m kv) a b nx cx cu cv bad))) = some ((Blk.own tw 1 (.lit (workL kx ku kv a b nx' cx cu cv bad))).ren m) := by subst h; rfl
set_option maxRecDepth 100000 in
set_option maxHeartbeats 16000000 in
theorem d_redI (r c : Int) (xs : List Int) (ca : Nat) (hl : xs.length ≤ 1099511627776) (hca : xs.length ≤ ca) : Does Tryz.prog 123 [vM r c 1 xs.length ca] [(1, .ro (.ints xs))] 2 (RedR 3 r (redO r c xs)) := by
 refine Does.intro TT Tryz.func123 rfl (by kernel_rfl) Zz Zz fun E hE => ?_
 have hde := d_defI r c xs ca hl hca
 cases hd : defB r c xs with
 | false =>
  have hR : redO r c xs = none := by rw [redO, hd]; rfl
  rw [hR]
  rw [hd] at hde
  ((repeat' (first | refine stx ?_ | refine zqc (hde) ?_ | (refine stq ?_ ?_ <;> (intro hc; ((try simp at hc) <;> try contradiction))) | fail)) <;> try (exfalso; omega))
  all_goals exact fin rfl w_3 [] (.tup [.agg zeroM, .agg zeroM, .one (.bool false)]) [] 2 ⟨rfl, rfl, rfl⟩ rfl ⟨trivial, trivial, rfl⟩ rfl
 | true =>
  rw [hd] at hde
  have hR0 : redO r c xs = redG r.toNat 200 (xs, idTo r.toNat r.toNat, idTo r.toNat r.toNat) 1 := by rw [redO, hd]; rfl
  obtain ⟨n, rfl, rfl, hn, hx, hnum, -⟩ := defB_dims hd
  have o0 := turnS0 hx hnum
  have hR : redO n n xs = redG n 200 (xs, idTo n n, idTo n n) 1 := by rw [hR0, Int.toNat_natCast]
  generalize hs0 : (xs, idTo n n, idTo n n) = s0 at o0 hR
  have hx0 : xs = s0.1 := by rw [← hs0]
  have hu0 : idTo n n = s0.2.1 := by rw [← hs0]
  have hv0 : idTo n n = s0.2.2 := by rw [← hs0]
  have hn24 : n ≤ 24 := by omega
  have hn3 : n * n ≤ 36 := Nat.mul_le_mul hn hn
  rw [hR]
  generalize hRR : redG n 200 s0 1 = R
  ((repeat' (first | refine stx ?_ | refine zqc (hde) ?_ | ((refine zqe (d_newWork n n xs _ hn24 hn24 hl) ?_); rintro v Hout n1 ⟨cx0, hcx0, rfl, rfl, rfl⟩) | (refine stq ?_ ?_ <;> (intro hc; ((try simp at hc) <;> try contradiction))) | fail)) <;> try (exfalso; omega))
  refine w_G hE (fun x : Nat × Nat × S3 × Nat × Nat => x.1 ≤ 200 ∧ 1 ≤ x.2.1 ∧ TurnS n x.2.2.1 ∧ n * n ≤ x.2.2.2.1 ∧ redG n (200 - x.1) x.2.2.1 x.2.1 = R) (fun x => 200 - x.1)
   (fun x => [(1, .one (.ptr 6 3 0 0)), (2, .one (.ptr 7 3 0 0)), (3, .one (.ptr 8 3 0 0)), (5, vW), (6, .one (.ptr 9 1 0 0)), (7, vI x.1)])
   (fun x => [(1, .ro (.ints xs)), (2, .own 137 1 (.lit (workL 3 4 5 n n (n * n) x.2.2.2.1 (n * n) x.2.2.2.2 false))), (3, .own 3 x.2.2.2.1 (.ints x.2.2.1.1)), (4, .own 3 (n * n) (.ints x.2.2.1.2.1)), (5, .own 3 x.2.2.2.2 (.ints x.2.2.1.2.2)), (6, .own 26 1 (.lit [.int n, .int n, .sl 1 1 0 xs.length ca])), (7, .own 26 1 (.lit zeroM)), (8, .own 26 1 (.lit zeroM)), (9, .own 3 1 (.lit [.int x.2.1]))]) 10 [(2, 8), (3, 5), (4, 6), (5, 7), (6, 2), (7, 3), (8, 4)] (0, 1, s0, cx0, n * n) ⟨Nat.zero_le _, Nat.le_refl _, o0, by dsimp only; omega, hRR⟩ ⟨w_1, ⟨rfl, own_workR hx, own_ints hx0, own_ints hu0, own_ints hv0, rfl, rfl, rfl, rfl, trivial⟩, rfl⟩ ?_
  rintro ⟨steps, k, s, cx, cv⟩ ⟨hst, hk1, hT, hcx, hrg⟩
  dsimp only at hst hk1 hT hcx hrg ⊢
  have o1 := hT.1
  have k1 := o1.x
  have k2 := o1.u
  by_cases hkn : k < n
  ·have hkn2 : ¬ n ≤ k := by omega
   have hac := d_accI n s.1 cx (n * n) k1.symm k1 hn24
   cases ho : acTo s.1 n n with
   | none =>
    rw [ho] at hac
    have hRn : R = none := by
     rw [← hrg]
     cases h : 200 - steps with
     | zero => exact redG_out hkn
     | succ f => rw [redG_go hkn, redStep_in, ho]; rfl
    rw [hRn]
    ((repeat' (first | refine stx ?_ | ((refine zqe (hac) ?_); rintro v Hout n1 ⟨rfl, rfl, rfl⟩) | (refine stq ?_ ?_ <;> (intro hc; ((try simp at hc) <;> try contradiction))) | fail)) <;> try (exfalso; omega))
    all_goals exact fin rfl w_3 [] (.tup [.agg zeroM, .agg zeroM, .one (.bool false)]) [] 2 ⟨rfl, rfl, rfl⟩ rfl ⟨trivial, trivial, rfl⟩ rfl
   | some st =>
    rw [ho] at hac
    by_cases h200 : steps = 200
    ·have hRn : R = none := by
      rw [← hrg, h200]; exact redG_out hkn
     rw [hRn]
     have h200i : (steps : Int) = 200 := by omega
     ((repeat' (first | refine stx ?_ | ((refine zqe (hac) ?_); rintro v Hout n1 ⟨l, c1, c2, hps, rfl, rfl, rfl⟩) | (refine stq ?_ ?_ <;> (intro hc; ((try simp at hc) <;> try contradiction))) | fail)) <;> try (exfalso; omega))
     all_goals exact fin rfl w_3 [] (.tup [.agg zeroM, .agg zeroM, .one (.bool false)]) [] 2 ⟨rfl, rfl, rfl⟩ rfl ⟨trivial, trivial, rfl⟩ rfl
    ·have h200i : ¬ (steps : Int) = 200 := by omega
     obtain ⟨a1, a2, a3⟩ := acTo_len ho
     have hsi := fun l c1 c2 hl hp => d_stepI n k c1 c2 cx (n * n) cv s l st.2 o1 hn24 hk1 hkn hl a2 hp hcx (Nat.le_refl _)
     have hgo : redG n (200 - steps) s k = (redStep n k s).bind fun x => redG n (200 - (steps + 1)) x.1 x.2 := by
      rw [show 200 - steps = (200 - (steps + 1)) + 1 by omega]; exact redG_go hkn
     rw [redStep_in, ho, Option.bind_some] at hgo
     have hlen : ∀ l : List Row, psX l = st.1 → l.length = n ∧ (l.getD k rowD).ps.length = k := fun l hl => by
      have e1 : l.length = n := by rw [← a1, ← hl, psX, List.length_map]
      refine ⟨e1, ?_⟩
      have e2 := a3 k hkn
      rw [← hl, psX, getD_in (by rw [List.length_map]; omega)] at e2
      rw [getD_in (show k < l.length by omega)]
      simpa using e2
     have hsj : ∀ (l : List Row) (c1 c2 : Nat), psX l = st.1 → _ := fun l c1 c2 hl => hsi l c1 c2 (hlen l hl).1 (hlen l hl).2
     have hpe : ∀ l : List Row, psX l = st.1 → (psX l, st.2) = st := fun l hl => by rw [hl]
     cases hin : redIn n k s st with
     | none =>
      have hRn : R = none := by rw [← hrg, hgo, hin]; rfl
      rw [hRn]
      have hsk : ∀ (l : List Row) (c1 c2 : Nat), psX l = st.1 → Does Tryz.prog 162 [vW, .agg [.sl 6 1 0 l.length c1, .sl 7 2 0 st.2.length c2], .one (.ptr 8 1 0 0)] [(2, .own 137 1 (.lit (workL 3 4 5 n n (n * n) cx (n * n) cv false))), (3, .own 3 cx (.ints s.1)), (4, .own 3 (n * n) (.ints s.2.1)), (5, .own 3 cv (.ints s.2.2)), (6, .ro (.rows true true l)), (7, .ro (.i2 st.2)), (8, .own 3 1 (.lit [.int k]))] 9 (StepR 3 137 n (n * n) none) := fun l c1 c2 hl => by
       have h := hsj l c1 c2 hl
       rw [hpe l hl, hin] at h
       rw [(hlen l hl).1, a2]
       exact h
      ((repeat' (first | refine stx ?_ | ((refine zqe (hac) ?_); rintro v Hout n1 ⟨l, c1, c2, hps, rfl, rfl, rfl⟩) | ((refine zqe (hsk _ _ _ hps) ?_); rintro v Hout n1 ⟨rfl, rfl, rfl⟩) | (refine stq ?_ ?_ <;> (intro hc; ((try simp at hc) <;> try contradiction))) | fail)) <;> try (exfalso; omega))
      all_goals exact fin rfl w_3 [] (.tup [.agg zeroM, .agg zeroM, .one (.bool false)]) [] 2 ⟨rfl, rfl, rfl⟩ rfl ⟨trivial, trivial, rfl⟩ rfl
     | some y =>
      have hnx : redG n (200 - (steps + 1)) y.1 y.2 = R := by rw [← hrg, hgo, hin]; rfl
      have hT2 := redStep_turn hT ⟨hk1, hkn⟩ (s' := y.1) (k' := y.2) (by rw [redStep_in, ho, Option.bind_some, hin])
      have hsk : ∀ (l : List Row) (c1 c2 : Nat), psX l = st.1 → Does Tryz.prog 162 [vW, .agg [.sl 6 1 0 l.length c1, .sl 7 2 0 st.2.length c2], .one (.ptr 8 1 0 0)] [(2, .own 137 1 (.lit (workL 3 4 5 n n (n * n) cx (n * n) cv false))), (3, .own 3 cx (.ints s.1)), (4, .own 3 (n * n) (.ints s.2.1)), (5, .own 3 cv (.ints s.2.2)), (6, .ro (.rows true true l)), (7, .ro (.i2 st.2)), (8, .own 3 1 (.lit [.int k]))] 9 (StepR 3 137 n (n * n) (some y)) := fun l c1 c2 hl => by
       have h := hsj l c1 c2 hl
       rw [hpe l hl, hin] at h
       rw [(hlen l hl).1, a2]
       exact h
      ((repeat' (first | refine stx ?_ | ((refine zqe (hac) ?_); rintro v Hout n1 ⟨l, c1, c2, hps, rfl, rfl, rfl⟩) | ((refine zqe (hsk _ _ _ hps) ?_); rintro v Hout n1 ⟨cx1, cv1, hcx1, rfl, rfl, rfl⟩) | (refine stq ?_ ?_ <;> (intro hc; ((try simp at hc) <;> try contradiction))) | fail)) <;> try (exfalso; omega))
      all_goals exact ⟨[(3, 14), (5, 15)], (steps + 1, y.2, y.1, cx1, cv1), ⟨by dsimp only; omega, hT2.2.1, hT2.1, hcx1, hnx⟩, w_4, ⟨w_1, w_2, rfl⟩⟩
  ·rw [redG_end hkn] at hrg
   rw [← hrg]
   have hkn2 : n ≤ k := by omega
   ((repeat' (first | refine stx ?_ | (refine stq ?_ ?_ <;> (intro hc; ((try simp at hc) <;> try contradiction))) | fail)) <;> try (exfalso; omega))
   refine awp_held TM [(2, _)] sb rfl (fun ρs => ?_)
   refine zt0 ?_
   refine zt1 ?_
   refine zt2 ?_
   refine zt3 ?_
   refine zt4 ?_
   refine zt5 ?_
   refine zt6 ?_
   refine zt7 ?_
   refine w_u [8] kr rfl ⟨?_, trivial⟩
   first | (refine zho ?_)
   refine w_u [9] kr rfl ⟨?_, trivial⟩
   first | (refine zho ?_)
   refine zt10 ?_
   refine w_v kr ?_
   rotate_left
   all_goals ((repeat' (first | refine stx ?_ | (refine stq ?_ ?_ <;> (intro hc; ((try simp at hc) <;> try contradiction))) | fail)) <;> try (exfalso; omega))
   all_goals exact fin rfl w_3 [(2, 3), (3, 4)] (.tup [.agg [.int n, .int n, .sl 2 1 0 (n * n) cx], .agg [.int n, .int n, .sl 3 1 0 (n * n) (n * n)], .one (.bool true)]) [(2, .own 3 cx (.ints s.1)), (3, .own 3 (n * n) (.ints s.2.1))] 4 ⟨cx, n * n, by omega, by omega, by rw [k1, k2], rfl, rfl⟩ rfl ⟨trivial, ⟨rfl, rfl, trivial⟩, rfl⟩ rfl
end Go.Proofs.YtekpamojojfplaaGreat
