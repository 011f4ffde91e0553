/-
  CONTRACTS: sums of matrices, sums in a module, of both packages; the law FnExactAddIn.
-/
import Derived.Test.YtmkoifmokdmebaabNormLaw
import Derived.Test.YtmkoifmokdmebaabTimes
set_option linter.unusedVariables false
set_option linter.unusedSimpArgs false
namespace Go.Proofs.Ytmkoifmokdmebaa
open Go.RowKit

def sumF (ys : List Int) (k : Nat) (v : Int) : Int := v + ys.getD k 0
def sumL (xs ys : List Int) : List Int := updTo xs 0 (sumF ys) xs.length
theorem sumL_len {xs ys : List Int} : (sumL xs ys).length = xs.length := updTo_len
theorem sumL_at {xs ys : List Int} {k : Nat} (h : k < xs.length) : (sumL xs ys).getD k 0 = xs.getD k 0 + ys.getD k 0 := by
  have := updTo_in (xs := xs) (off := 0) (f := sumF ys) h (by omega)
  rw [Nat.zero_add] at this
  exact this
def addZ (r c r' c' : Int) (xs ys : List Int) : Option (List Int) := if isM r c xs = true ∧ isM r' c' ys = true ∧ r = r' ∧ c = c' ∧ (sumL xs ys).all numB = true then some (sumL xs ys) else none
theorem addZ_no {r c r' c' : Int} {xs ys : List Int} (h : ¬ (isM r c xs = true ∧ isM r' c' ys = true ∧ r = r' ∧ c = c')) : addZ r c r' c' xs ys = none := if_neg fun q => h ⟨q.1, q.2.1, q.2.2.1, q.2.2.2.1⟩
theorem isM_sum {a b : Nat} {xs ys : List Int} (h : isM a b xs = true) : isM a b (sumL xs ys) = (sumL xs ys).all numB := by
  obtain ⟨h1, h2, h3, h4⟩ := isM_nat h
  have : (0 : Int) ≤ a ∧ (a : Int) ≤ 24 ∧ (0 : Int) ≤ b ∧ (b : Int) ≤ 24 ∧ ((sumL xs ys).length : Int) = a * b := ⟨by omega, by omega, by omega, by omega, by rw [sumL_len, h3]; simp⟩
  simp only [isM, decide_eq_true this, Bool.true_and]
theorem set_take_repG {zs : List Int} {k : Nat} (h : k < zs.length) : (zs.take k ++ List.replicate (zs.length - k) 0).set k zs[k] = zs.take (k + 1) ++ List.replicate (zs.length - (k + 1)) 0 := by
  have e : zs.length - k = (zs.length - (k + 1)) + 1 := by omega
  rw [e, List.replicate_succ, List.set_append_right _ _ (by simp; omega)]
  rw [List.length_take, Nat.min_eq_left (Nat.le_of_lt h), Nat.sub_self, List.set_cons_zero, List.take_succ_eq_append_getElem h, List.append_assoc]
  rfl
set_option maxHeartbeats 4000000 in
theorem d_addMI (r c r' c' : Int) (xs ys : List Int) (ca cb : Nat) (hl : xs.length ≤ 1099511627776) (hl' : ys.length ≤ 1099511627776) : Does Try.prog 83 [vM r c 1 xs.length ca, vM r' c' 2 ys.length cb] [(1, .ro (.ints xs)), (2, .ro (.ints ys))] 3 (GotZ r c 3 (addZ r c r' c' xs ys) 3) := by
  refine Does.intro TT Try.func83 rfl (by kernel_rfl) rfl rfl fun E hE => ?_
  have i1 := d_isMatI r c xs ca hl
  have i2 := d_isMatI r' c' ys cb hl'
  by_cases hg : isM r c xs = true ∧ isM r' c' ys = true ∧ r = r' ∧ c = c'
  · obtain ⟨h1, h2, rfl, rfl⟩ := hg
    rw [h1] at i1
    rw [h2] at i2
    obtain ⟨a, b, rfl, rfl, ha, hb, hx, hnum⟩ := isM_dimsH h1
    have hy : ys.length = a * b := (isM_nat h2).2.2.1
    have hynum : ys.all numB = true := (isM_nat h2).2.2.2
    have hab : a * b ≤ 24 * 24 := Nat.mul_le_mul ha hb
    ((repeat' (first | (refine awpL_step TT rfl rfl rfl sd ?_) | (refine awpL_nil ?_) | (refine awpL_skip rfl rfl ?_) | (refine awpQ_step TT rfl rfl rfl rfl sd ?_) | (refine awpQ_nil ?_) | (refine awpQ_skip rfl rfl ?_) | (refine awp_seq ?_) | (refine awp_region ?_) | (first | refine awpL_ret (i1) rfl rfl rfl rfl rfl rfl rfl rfl ft rfl rfl ?_ | refine awpQ_ret (i1) rfl rfl rfl rfl rfl rfl rfl rfl ft rfl rfl ?_ | refine awpHop_ret _ (i1) rfl rfl rfl rfl rfl rfl rfl rfl rfl ft rfl rfl sb rfl ?_) | (first | refine awpL_ret (i2) rfl rfl rfl rfl rfl rfl rfl rfl ft rfl rfl ?_ | refine awpQ_ret (i2) rfl rfl rfl rfl rfl rfl rfl rfl ft rfl rfl ?_ | refine awpHop_ret _ (i2) rfl rfl rfl rfl rfl rfl rfl rfl rfl ft rfl rfl sb rfl ?_) | ((first | refine awpL_one (d_copyI _ _ xs _ hl) rfl rfl rfl rfl rfl rfl rfl ft rfl rfl (CopyM.out) ?_ | refine awpHop_one _ (d_copyI _ _ xs _ hl) rfl rfl rfl rfl rfl rfl rfl rfl ft rfl rfl (CopyM.out) sb rfl rfl ?_); rintro v b ⟨c1, hc1, rfl, he, -⟩; cases he) | (refine awp_block ?_) | (refine awp_exit ?_) | (refine awp_skip ?_) | (refine awp_ret ?_) | (refine awp_cond_t rfl ?_) | (refine awp_cond_f rfl ?_) | (refine awp_quiet TM rfl (by kernel_rfl) ?_) | ((first | refine awpL_split rfl rfl rfl (fun hc => ?_) (fun hc => ?_) | refine awpQ_split rfl rfl rfl (fun hc => ?_) (fun hc => ?_) | refine awp_cond rfl (fun hc => ?_) (fun hc => ?_)) <;> ((try simp at hc) <;> try contradiction)))) <;> try (exfalso; omega))
    refine awp_loop hE (fun k : Nat => k ≤ xs.length) (fun k => xs.length - k)
      (fun k => [(3, .one (.ptr 4 3 0 0)), (4, .one (.ptr 5 3 0 0)), (6, .one (.ptr 7 3 0 0)), (35, vI xs.length), (36, vI k)]) (fun k => [(2, .ro (.ints ys)), (4, .own 27 1 (.lit [.int a, .int b, .sl 2 1 0 ys.length cb])), (5, .own 27 1 (.lit zeroM)), (6, .own 3 c1 (.ints (updTo xs 0 (sumF ys) k))), (7, .own 27 1 (.lit [.int a, .int b, .sl 6 1 0 xs.length c1]))]) 8 [] 0 (Nat.zero_le _) ⟨(by repeat' (first | exact trivial | refine ⟨rfl, ?_⟩ | refine ⟨congrArg some (congrArg vI (by first | omega | (simp; done) | (simp; omega))), ?_⟩ | refine ⟨sl_eqA (by first | omega | (simp; done) | (simp; omega)), ?_⟩)), (by repeat' (first | exact trivial | refine ⟨rfl, ?_⟩)), rfl⟩ ?_
    intro k hk
    have hul : (updTo xs 0 (sumF ys) k).length = xs.length := updTo_len
    by_cases hkl : k < xs.length
    · have a1 := updTo_at (xs := xs) (off := 0) (f := sumF ys) (p := 0 + k) (k := k) (by omega)
      have e1 : 0 + (k : Int).toNat = 0 + k := by omega
      have v1 := num_getD hnum (0 + k)
      rw [← a1, ← e1] at v1
      have v2 := num_getD hynum (0 + (k : Int).toNat)
      have hv : (updTo xs 0 (sumF ys) k).getD (0 + (k : Int).toNat) 0 + ys.getD (0 + (k : Int).toNat) 0 = sumF ys k (xs.getD (0 + k) 0) := by rw [e1, a1, sumF, Nat.zero_add]
      ((repeat' (first | (refine awpL_step TT rfl rfl rfl sd ?_) | (refine awpL_nil ?_) | (refine awpL_skip rfl rfl ?_) | (refine awpQ_step TT rfl rfl rfl rfl sd ?_) | (refine awpQ_nil ?_) | (refine awpQ_skip rfl rfl ?_) | (refine awp_seq ?_) | (refine awp_region ?_) | (refine awp_block ?_) | (refine awp_exit ?_) | (refine awp_skip ?_) | (refine awp_ret ?_) | (refine awp_cond_t rfl ?_) | (refine awp_cond_f rfl ?_) | ((first | refine awpL_split rfl rfl rfl (fun hc => ?_) (fun hc => ?_) | refine awpQ_split rfl rfl rfl (fun hc => ?_) (fun hc => ?_) | refine awp_cond rfl (fun hc => ?_) (fun hc => ?_)) <;> ((try simp at hc) <;> try contradiction)))) <;> try (exfalso; omega))
      refine awp_held TM [(7, _), (4, _), (2, _)] sb rfl (fun ρs => ?_)
      refine awpH_take TT 0 rfl kr kr kr nh rfl rfl rfl rfl sd ?_
      refine awpH_take TT 1 rfl kr kr kr nh rfl rfl rfl rfl sd ?_
      refine awpH_take TT 2 rfl kr kr kr nh rfl rfl rfl rfl sd ?_
      first | (refine awpH_take TT 3 rfl kr kr kr nh rfl rfl rfl rfl sd ?_) | (refine awpH_idx TT 3 rfl kr kr kr nh rfl rfl rfl rfl rfl sd ?_)
      refine awpH_take TT 5 rfl kr kr kr nh rfl rfl rfl rfl sd ?_
      refine awpH_take TT 6 rfl kr kr kr nh rfl rfl rfl rfl sd ?_
      refine awpH_take TT 7 rfl kr kr kr nh rfl rfl rfl rfl sd ?_
      first | (refine awpH_take TT 8 rfl kr kr kr nh rfl rfl rfl rfl sd ?_) | (refine awpH_idx TT 8 rfl kr kr kr nh rfl rfl rfl rfl rfl sd ?_)
      refine awpH_take TT 9 rfl kr kr kr nh rfl rfl rfl rfl sd ?_
      refine awpH_all [4] kr rfl ⟨?_, trivial⟩
      first | (refine awpHop_step TT 4 rfl rfl rfl rfl sd sb rfl ?_)
      refine awpH_take TT 10 rfl kr kr kr nh rfl rfl rfl rfl sd ?_
      first | (refine awpH_take TT 11 rfl kr kr kr nh rfl rfl rfl rfl sd ?_) | (refine awpH_idx TT 11 rfl kr kr kr nh rfl rfl rfl rfl rfl sd ?_)
      refine awpH_all [12] kr rfl ⟨?_, trivial⟩
      first | (refine awpHop_step TT 12 rfl rfl rfl rfl sd sb rfl ?_)
      refine awpH_done kr ?_
      rotate_left
      all_goals ((repeat' (first | (refine awpL_step TT rfl rfl rfl sd ?_) | (refine awpL_nil ?_) | (refine awpL_skip rfl rfl ?_) | (refine awpQ_step TT rfl rfl rfl rfl sd ?_) | (refine awpQ_nil ?_) | (refine awpQ_skip rfl rfl ?_) | (refine awp_seq ?_) | (refine awp_region ?_) | (refine awp_block ?_) | (refine awp_exit ?_) | (refine awp_skip ?_) | (refine awp_ret ?_) | (refine awp_cond_t rfl ?_) | (refine awp_cond_f rfl ?_) | ((first | refine awpL_split rfl rfl rfl (fun hc => ?_) (fun hc => ?_) | refine awpQ_split rfl rfl rfl (fun hc => ?_) (fun hc => ?_) | refine awp_cond rfl (fun hc => ?_) (fun hc => ?_)) <;> ((try simp at hc) <;> try contradiction)))) <;> try (exfalso; omega))
      all_goals
        refine ⟨[], k + 1, hkl, (by first | omega | (dsimp only; omega)), ⟨(by repeat' (first | exact trivial | refine ⟨rfl, ?_⟩ | refine ⟨congrArg some (congrArg vI (by first | omega | (simp; done) | (simp; omega))), ?_⟩ | refine ⟨sl_eqA (by first | omega | (simp; done) | (simp; omega)), ?_⟩)), ⟨rfl, rfl, rfl, own_ints ?_, rfl, trivial⟩, rfl⟩⟩
        rw [hv, e1]; rfl
    · obtain rfl : k = xs.length := by omega
      have hch := fun cap => d_checked a b (sumL xs ys) xs.length cap sumL_len.symm _ (isM_sum h1) (by rw [sumL_len]; exact hl)
      cases hs : (sumL xs ys).all numB
      · have hZ : addZ a b a b xs ys = none := if_neg fun h => by rw [hs] at h; exact absurd h.2.2.2.2 (by decide)
        rw [hZ]
        rw [hs] at hch
        ((repeat' (first | (refine awpL_step TT rfl rfl rfl sd ?_) | (refine awpL_nil ?_) | (refine awpL_skip rfl rfl ?_) | (refine awpQ_step TT rfl rfl rfl rfl sd ?_) | (refine awpQ_nil ?_) | (refine awpQ_skip rfl rfl ?_) | (refine awp_seq ?_) | (refine awp_region ?_) | ((refine awpL_call (hch _) rfl rfl rfl rfl rfl rfl rfl ft rfl ?_); rintro v Hout n1 ⟨rfl, rfl, rfl⟩) | (refine awp_block ?_) | (refine awp_exit ?_) | (refine awp_skip ?_) | (refine awp_ret ?_) | (refine awp_cond_t rfl ?_) | (refine awp_cond_f rfl ?_) | (refine awp_quiet TM rfl (by kernel_rfl) ?_) | ((first | refine awpL_split rfl rfl rfl (fun hc => ?_) (fun hc => ?_) | refine awpQ_split rfl rfl rfl (fun hc => ?_) (fun hc => ?_) | refine awp_cond rfl (fun hc => ?_) (fun hc => ?_)) <;> ((try simp at hc) <;> try contradiction)))) <;> try (exfalso; omega))
        all_goals exact fin rfl (by repeat' (first | exact trivial | exact Nat.zero_lt_one | omega | refine ⟨?_, ?_⟩)) [] (.tup [.agg zeroM, .one (.bool false)]) [] 3 ⟨rfl, rfl, rfl⟩ rfl ⟨trivial, trivial, rfl⟩ rfl
      · have hZ : addZ a b a b xs ys = some (sumL xs ys) := if_pos ⟨h1, h2, rfl, rfl, hs⟩
        rw [hs] at hch
        ((repeat' (first | (refine awpL_step TT rfl rfl rfl sd ?_) | (refine awpL_nil ?_) | (refine awpL_skip rfl rfl ?_) | (refine awpQ_step TT rfl rfl rfl rfl sd ?_) | (refine awpQ_nil ?_) | (refine awpQ_skip rfl rfl ?_) | (refine awp_seq ?_) | (refine awp_region ?_) | ((refine awpL_call (hch _) rfl rfl rfl rfl rfl rfl rfl ft rfl ?_); rintro v Hout n1 ⟨rfl, rfl, rfl⟩) | (refine awp_block ?_) | (refine awp_exit ?_) | (refine awp_skip ?_) | (refine awp_ret ?_) | (refine awp_cond_t rfl ?_) | (refine awp_cond_f rfl ?_) | (refine awp_quiet TM rfl (by kernel_rfl) ?_) | ((first | refine awpL_split rfl rfl rfl (fun hc => ?_) (fun hc => ?_) | refine awpQ_split rfl rfl rfl (fun hc => ?_) (fun hc => ?_) | refine awp_cond rfl (fun hc => ?_) (fun hc => ?_)) <;> ((try simp at hc) <;> try contradiction)))) <;> try (exfalso; omega))
        all_goals exact fin rfl (by repeat' (first | exact trivial | exact Nat.zero_lt_one | omega | refine ⟨?_, ?_⟩)) [(3, 6)] (doneV a b 3 xs.length c1 true) [(3, .own 3 c1 (.ints (sumL xs ys)))] 4 (GotZ.yes hZ sumL_len.symm hc1) rfl ⟨trivial, ⟨rfl, trivial⟩, rfl⟩ rfl
  · have hZ := addZ_no hg
    rw [hZ]
    cases h1 : isM r c xs
    · rw [h1] at i1
      ((repeat' (first | (refine awpL_step TT rfl rfl rfl sd ?_) | (refine awpL_nil ?_) | (refine awpL_skip rfl rfl ?_) | (refine awpQ_step TT rfl rfl rfl rfl sd ?_) | (refine awpQ_nil ?_) | (refine awpQ_skip rfl rfl ?_) | (refine awp_seq ?_) | (refine awp_region ?_) | (first | refine awpL_ret (i1) rfl rfl rfl rfl rfl rfl rfl rfl ft rfl rfl ?_ | refine awpQ_ret (i1) rfl rfl rfl rfl rfl rfl rfl rfl ft rfl rfl ?_ | refine awpHop_ret _ (i1) rfl rfl rfl rfl rfl rfl rfl rfl rfl ft rfl rfl sb rfl ?_) | (first | refine awpL_ret (i2) rfl rfl rfl rfl rfl rfl rfl rfl ft rfl rfl ?_ | refine awpQ_ret (i2) rfl rfl rfl rfl rfl rfl rfl rfl ft rfl rfl ?_ | refine awpHop_ret _ (i2) rfl rfl rfl rfl rfl rfl rfl rfl rfl ft rfl rfl sb rfl ?_) | (refine awp_block ?_) | (refine awp_exit ?_) | (refine awp_skip ?_) | (refine awp_ret ?_) | (refine awp_cond_t rfl ?_) | (refine awp_cond_f rfl ?_) | (refine awp_quiet TM rfl (by kernel_rfl) ?_) | ((first | refine awpL_split rfl rfl rfl (fun hc => ?_) (fun hc => ?_) | refine awpQ_split rfl rfl rfl (fun hc => ?_) (fun hc => ?_) | refine awp_cond rfl (fun hc => ?_) (fun hc => ?_)) <;> ((try simp at hc) <;> try contradiction)))) <;> try (exfalso; omega))
      all_goals exact fin rfl (by repeat' (first | exact trivial | exact Nat.zero_lt_one | omega | refine ⟨?_, ?_⟩)) [] (.tup [.agg zeroM, .one (.bool false)]) [] 3 ⟨rfl, rfl, rfl⟩ rfl ⟨trivial, trivial, rfl⟩ rfl
    · rw [h1] at i1
      cases h2 : isM r' c' ys
      · rw [h2] at i2
        ((repeat' (first | (refine awpL_step TT rfl rfl rfl sd ?_) | (refine awpL_nil ?_) | (refine awpL_skip rfl rfl ?_) | (refine awpQ_step TT rfl rfl rfl rfl sd ?_) | (refine awpQ_nil ?_) | (refine awpQ_skip rfl rfl ?_) | (refine awp_seq ?_) | (refine awp_region ?_) | (first | refine awpL_ret (i1) rfl rfl rfl rfl rfl rfl rfl rfl ft rfl rfl ?_ | refine awpQ_ret (i1) rfl rfl rfl rfl rfl rfl rfl rfl ft rfl rfl ?_ | refine awpHop_ret _ (i1) rfl rfl rfl rfl rfl rfl rfl rfl rfl ft rfl rfl sb rfl ?_) | (first | refine awpL_ret (i2) rfl rfl rfl rfl rfl rfl rfl rfl ft rfl rfl ?_ | refine awpQ_ret (i2) rfl rfl rfl rfl rfl rfl rfl rfl ft rfl rfl ?_ | refine awpHop_ret _ (i2) rfl rfl rfl rfl rfl rfl rfl rfl rfl ft rfl rfl sb rfl ?_) | (refine awp_block ?_) | (refine awp_exit ?_) | (refine awp_skip ?_) | (refine awp_ret ?_) | (refine awp_cond_t rfl ?_) | (refine awp_cond_f rfl ?_) | (refine awp_quiet TM rfl (by kernel_rfl) ?_) | ((first | refine awpL_split rfl rfl rfl (fun hc => ?_) (fun hc => ?_) | refine awpQ_split rfl rfl rfl (fun hc => ?_) (fun hc => ?_) | refine awp_cond rfl (fun hc => ?_) (fun hc => ?_)) <;> ((try simp at hc) <;> try contradiction)))) <;> try (exfalso; omega))
        all_goals exact fin rfl (by repeat' (first | exact trivial | exact Nat.zero_lt_one | omega | refine ⟨?_, ?_⟩)) [] (.tup [.agg zeroM, .one (.bool false)]) [] 3 ⟨rfl, rfl, rfl⟩ rfl ⟨trivial, trivial, rfl⟩ rfl
      · rw [h2] at i2
        obtain ⟨a, b, rfl, rfl, ha, hb, hx, hnum⟩ := isM_dimsH h1
        obtain ⟨a', b', rfl, rfl, ha', hb', hx', hnum'⟩ := isM_dimsH h2
        have hne : ((a : Int) = a' → ((b : Int) ≠ b')) := fun e1 e2 => hg ⟨h1, h2, e1, e2⟩
        by_cases q1 : a = a'
        · have q2 : b ≠ b' := fun e => hne (by omega) (by omega)
          ((repeat' (first | (refine awpL_step TT rfl rfl rfl sd ?_) | (refine awpL_nil ?_) | (refine awpL_skip rfl rfl ?_) | (refine awpQ_step TT rfl rfl rfl rfl sd ?_) | (refine awpQ_nil ?_) | (refine awpQ_skip rfl rfl ?_) | (refine awp_seq ?_) | (refine awp_region ?_) | (first | refine awpL_ret (i1) rfl rfl rfl rfl rfl rfl rfl rfl ft rfl rfl ?_ | refine awpQ_ret (i1) rfl rfl rfl rfl rfl rfl rfl rfl ft rfl rfl ?_ | refine awpHop_ret _ (i1) rfl rfl rfl rfl rfl rfl rfl rfl rfl ft rfl rfl sb rfl ?_) | (first | refine awpL_ret (i2) rfl rfl rfl rfl rfl rfl rfl rfl ft rfl rfl ?_ | refine awpQ_ret (i2) rfl rfl rfl rfl rfl rfl rfl rfl ft rfl rfl ?_ | refine awpHop_ret _ (i2) rfl rfl rfl rfl rfl rfl rfl rfl rfl ft rfl rfl sb rfl ?_) | (refine awp_block ?_) | (refine awp_exit ?_) | (refine awp_skip ?_) | (refine awp_ret ?_) | (refine awp_cond_t rfl ?_) | (refine awp_cond_f rfl ?_) | (refine awp_quiet TM rfl (by kernel_rfl) ?_) | ((first | refine awpL_split rfl rfl rfl (fun hc => ?_) (fun hc => ?_) | refine awpQ_split rfl rfl rfl (fun hc => ?_) (fun hc => ?_) | refine awp_cond rfl (fun hc => ?_) (fun hc => ?_)) <;> ((try simp at hc) <;> try contradiction)))) <;> try (exfalso; omega))
          all_goals exact fin rfl (by repeat' (first | exact trivial | exact Nat.zero_lt_one | omega | refine ⟨?_, ?_⟩)) [] (.tup [.agg zeroM, .one (.bool false)]) [] 3 ⟨rfl, rfl, rfl⟩ rfl ⟨trivial, trivial, rfl⟩ rfl
        · ((repeat' (first | (refine awpL_step TT rfl rfl rfl sd ?_) | (refine awpL_nil ?_) | (refine awpL_skip rfl rfl ?_) | (refine awpQ_step TT rfl rfl rfl rfl sd ?_) | (refine awpQ_nil ?_) | (refine awpQ_skip rfl rfl ?_) | (refine awp_seq ?_) | (refine awp_region ?_) | (first | refine awpL_ret (i1) rfl rfl rfl rfl rfl rfl rfl rfl ft rfl rfl ?_ | refine awpQ_ret (i1) rfl rfl rfl rfl rfl rfl rfl rfl ft rfl rfl ?_ | refine awpHop_ret _ (i1) rfl rfl rfl rfl rfl rfl rfl rfl rfl ft rfl rfl sb rfl ?_) | (first | refine awpL_ret (i2) rfl rfl rfl rfl rfl rfl rfl rfl ft rfl rfl ?_ | refine awpQ_ret (i2) rfl rfl rfl rfl rfl rfl rfl rfl ft rfl rfl ?_ | refine awpHop_ret _ (i2) rfl rfl rfl rfl rfl rfl rfl rfl rfl ft rfl rfl sb rfl ?_) | (refine awp_block ?_) | (refine awp_exit ?_) | (refine awp_skip ?_) | (refine awp_ret ?_) | (refine awp_cond_t rfl ?_) | (refine awp_cond_f rfl ?_) | (refine awp_quiet TM rfl (by kernel_rfl) ?_) | ((first | refine awpL_split rfl rfl rfl (fun hc => ?_) (fun hc => ?_) | refine awpQ_split rfl rfl rfl (fun hc => ?_) (fun hc => ?_) | refine awp_cond rfl (fun hc => ?_) (fun hc => ?_)) <;> ((try simp at hc) <;> try contradiction)))) <;> try (exfalso; omega))
          all_goals exact fin rfl (by repeat' (first | exact trivial | exact Nat.zero_lt_one | omega | refine ⟨?_, ?_⟩)) [] (.tup [.agg zeroM, .one (.bool false)]) [] 3 ⟨rfl, rfl, rfl⟩ rfl ⟨trivial, trivial, rfl⟩ rfl
set_option maxHeartbeats 4000000 in
theorem d_addMS (r c r' c' : Int) (xs ys : List Int) (ca cb : Nat) (hl : xs.length ≤ 1099511627776) (hl' : ys.length ≤ 1099511627776) : Does Try.prog 85 [vM r c 1 xs.length ca, vM r' c' 2 ys.length cb] [(1, .ro (.ints xs)), (2, .ro (.ints ys))] 3 (GotZ r c 3 (addZ r c r' c' xs ys) 3) := by
  refine Does.intro TT Try.func85 rfl (by kernel_rfl) rfl rfl fun E hE => ?_
  have i1 := d_isMatS r c xs ca hl
  have i2 := d_isMatS r' c' ys cb hl'
  by_cases hg : isM r c xs = true ∧ isM r' c' ys = true ∧ r = r' ∧ c = c'
  · obtain ⟨h1, h2, rfl, rfl⟩ := hg
    rw [h1] at i1
    rw [h2] at i2
    obtain ⟨a, b, rfl, rfl, ha, hb, hx, hnum⟩ := isM_dimsH h1
    have hy : ys.length = a * b := (isM_nat h2).2.2.1
    have hynum : ys.all numB = true := (isM_nat h2).2.2.2
    have hab : a * b ≤ 24 * 24 := Nat.mul_le_mul ha hb
    have hsl : (sumL xs ys).length = a * b := sumL_len.trans hx
    ((repeat' (first | (refine awpL_step TT rfl rfl rfl sd ?_) | (refine awpL_nil ?_) | (refine awpL_skip rfl rfl ?_) | (refine awpQ_step TT rfl rfl rfl rfl sd ?_) | (refine awpQ_nil ?_) | (refine awpQ_skip rfl rfl ?_) | (refine awp_seq ?_) | (refine awp_region ?_) | (first | refine awpL_ret (i1) rfl rfl rfl rfl rfl rfl rfl rfl ft rfl rfl ?_ | refine awpQ_ret (i1) rfl rfl rfl rfl rfl rfl rfl rfl ft rfl rfl ?_ | refine awpHop_ret _ (i1) rfl rfl rfl rfl rfl rfl rfl rfl rfl ft rfl rfl sb rfl ?_) | (first | refine awpL_ret (i2) rfl rfl rfl rfl rfl rfl rfl rfl ft rfl rfl ?_ | refine awpQ_ret (i2) rfl rfl rfl rfl rfl rfl rfl rfl ft rfl rfl ?_ | refine awpHop_ret _ (i2) rfl rfl rfl rfl rfl rfl rfl rfl rfl ft rfl rfl sb rfl ?_) | ((first | refine awpL_one (d_newS _ _ ha hb) rfl rfl rfl rfl rfl rfl rfl ft rfl rfl (NewM.out) ?_ | refine awpHop_one _ (d_newS _ _ ha hb) rfl rfl rfl rfl rfl rfl rfl rfl ft rfl rfl (NewM.out) sb rfl rfl ?_); rintro v b ⟨rfl, he, -⟩; cases he) | (refine awp_block ?_) | (refine awp_exit ?_) | (refine awp_skip ?_) | (refine awp_ret ?_) | (refine awp_cond_t rfl ?_) | (refine awp_cond_f rfl ?_) | (refine awp_quiet TM rfl (by kernel_rfl) ?_) | ((first | refine awpL_split rfl rfl rfl (fun hc => ?_) (fun hc => ?_) | refine awpQ_split rfl rfl rfl (fun hc => ?_) (fun hc => ?_) | refine awp_cond rfl (fun hc => ?_) (fun hc => ?_)) <;> ((try simp at hc) <;> try contradiction)))) <;> try (exfalso; omega))
    refine awp_loop hE (fun k : Nat => k ≤ a * b) (fun k => a * b - k)
      (fun k => [(2, .one (.ptr 3 3 0 0)), (3, .one (.ptr 4 3 0 0)), (4, .one (.ptr 5 3 0 0)), (6, .one (.ptr 7 3 0 0)), (7, vI k)]) (fun k => [(1, .ro (.ints xs)), (2, .ro (.ints ys)), (3, .own 27 1 (.lit [.int a, .int b, .sl 1 1 0 xs.length ca])), (4, .own 27 1 (.lit [.int a, .int b, .sl 2 1 0 ys.length cb])), (5, .own 27 1 (.lit zeroM)), (6, .own 3 (a * b) (.ints ((sumL xs ys).take k ++ List.replicate ((sumL xs ys).length - k) 0))), (7, .own 27 1 (.lit [.int a, .int b, .sl 6 1 0 (a * b) (a * b)]))]) 8 [] 0 (Nat.zero_le _) ⟨(by repeat' (first | exact trivial | refine ⟨rfl, ?_⟩ | refine ⟨congrArg some (congrArg vI (by first | omega | (simp; done) | (simp; omega))), ?_⟩ | refine ⟨sl_eqA (by first | omega | (simp; done) | (simp; omega)), ?_⟩)), ⟨rfl, rfl, rfl, rfl, rfl, own_ints (by rw [hsl]; simp), rfl, trivial⟩, rfl⟩ ?_
    intro k hk
    by_cases hkl : k < a * b
    · have v1 := num_getD hnum (0 + (k : Int).toNat)
      have v2 := num_getD hynum (0 + (k : Int).toNat)
      have hks : k < (sumL xs ys).length := by omega
      have hv : xs.getD (0 + (k : Int).toNat) 0 + ys.getD (0 + (k : Int).toNat) 0 = (sumL xs ys)[k] := by
        have e1 : 0 + (k : Int).toNat = k := by omega
        have := sumL_at (xs := xs) (ys := ys) (k := k) (by omega)
        rw [e1, ← this]; simp [hks]
      have hlen : ((sumL xs ys).take k ++ List.replicate ((sumL xs ys).length - k) 0).length = a * b := by simp; omega
      ((repeat' (first | (refine awpL_step TT rfl rfl rfl sd ?_) | (refine awpL_nil ?_) | (refine awpL_skip rfl rfl ?_) | (refine awpQ_step TT rfl rfl rfl rfl sd ?_) | (refine awpQ_nil ?_) | (refine awpQ_skip rfl rfl ?_) | (refine awp_seq ?_) | (refine awp_region ?_) | (refine awp_block ?_) | (refine awp_exit ?_) | (refine awp_skip ?_) | (refine awp_ret ?_) | (refine awp_cond_t rfl ?_) | (refine awp_cond_f rfl ?_) | ((first | refine awpL_split rfl rfl rfl (fun hc => ?_) (fun hc => ?_) | refine awpQ_split rfl rfl rfl (fun hc => ?_) (fun hc => ?_) | refine awp_cond rfl (fun hc => ?_) (fun hc => ?_)) <;> ((try simp at hc) <;> try contradiction)))) <;> try (exfalso; omega))
      refine awp_held TM [(7, _), (3, _), (1, _), (4, _), (2, _)] sb rfl (fun ρs => ?_)
      refine awpH_take TT 0 rfl kr kr kr nh rfl rfl rfl rfl sd ?_
      refine awpH_take TT 1 rfl kr kr kr nh rfl rfl rfl rfl sd ?_
      refine awpH_take TT 2 rfl kr kr kr nh rfl rfl rfl rfl sd ?_
      refine awpH_take TT 3 rfl kr kr kr nh rfl rfl rfl rfl sd ?_
      refine awpH_take TT 4 rfl kr kr kr nh rfl rfl rfl rfl sd ?_
      refine awpH_take TT 5 rfl kr kr kr nh rfl rfl rfl rfl sd ?_
      first | (refine awpH_take TT 6 rfl kr kr kr nh rfl rfl rfl rfl sd ?_) | (refine awpH_idx TT 6 rfl kr kr kr nh rfl rfl rfl rfl rfl sd ?_)
      refine awpH_take TT 7 rfl kr kr kr nh rfl rfl rfl rfl sd ?_
      refine awpH_take TT 8 rfl kr kr kr nh rfl rfl rfl rfl sd ?_
      refine awpH_take TT 9 rfl kr kr kr nh rfl rfl rfl rfl sd ?_
      refine awpH_take TT 10 rfl kr kr kr nh rfl rfl rfl rfl sd ?_
      first | (refine awpH_take TT 11 rfl kr kr kr nh rfl rfl rfl rfl sd ?_) | (refine awpH_idx TT 11 rfl kr kr kr nh rfl rfl rfl rfl rfl sd ?_)
      refine awpH_take TT 12 rfl kr kr kr nh rfl rfl rfl rfl sd ?_
      refine awpH_take TT 13 rfl kr kr kr nh rfl rfl rfl rfl sd ?_
      first | (refine awpH_take TT 14 rfl kr kr kr nh rfl rfl rfl rfl sd ?_) | (refine awpH_idx TT 14 rfl kr kr kr nh rfl rfl rfl rfl rfl sd ?_)
      refine awpH_all [15] kr rfl ⟨?_, trivial⟩
      first | (refine awpHop_step TT 15 rfl rfl rfl rfl sd sb rfl ?_)
      refine awpH_done kr ?_
      rotate_left
      all_goals ((repeat' (first | (refine awpL_step TT rfl rfl rfl sd ?_) | (refine awpL_nil ?_) | (refine awpL_skip rfl rfl ?_) | (refine awpQ_step TT rfl rfl rfl rfl sd ?_) | (refine awpQ_nil ?_) | (refine awpQ_skip rfl rfl ?_) | (refine awp_seq ?_) | (refine awp_region ?_) | (refine awp_block ?_) | (refine awp_exit ?_) | (refine awp_skip ?_) | (refine awp_ret ?_) | (refine awp_cond_t rfl ?_) | (refine awp_cond_f rfl ?_) | ((first | refine awpL_split rfl rfl rfl (fun hc => ?_) (fun hc => ?_) | refine awpQ_split rfl rfl rfl (fun hc => ?_) (fun hc => ?_) | refine awp_cond rfl (fun hc => ?_) (fun hc => ?_)) <;> ((try simp at hc) <;> try contradiction)))) <;> try (exfalso; omega))
      all_goals
        refine ⟨[], k + 1, hkl, (by first | omega | (dsimp only; omega)), ⟨(by repeat' (first | exact trivial | refine ⟨rfl, ?_⟩ | refine ⟨congrArg some (congrArg vI (by first | omega | (simp; done) | (simp; omega))), ?_⟩ | refine ⟨sl_eqA (by first | omega | (simp; done) | (simp; omega)), ?_⟩)), ⟨rfl, rfl, rfl, rfl, rfl, own_ints ?_, rfl, trivial⟩, rfl⟩⟩
        rw [hv, ← set_take_repG hks]; simp
    · obtain rfl : k = a * b := by omega
      have hf : (sumL xs ys).take (a * b) ++ List.replicate ((sumL xs ys).length - a * b) 0 = sumL xs ys := by rw [hsl, Nat.sub_self, ← hsl]; simp
      rw [hf]
      have hch := fun cap => d_doneS a b (sumL xs ys) (a * b) cap hsl.symm _ (isM_sum h1) (by rw [sumL_len]; exact hl)
      cases hs : (sumL xs ys).all numB
      · have hZ : addZ a b a b xs ys = none := if_neg fun h => by rw [hs] at h; exact absurd h.2.2.2.2 (by decide)
        rw [hZ]
        rw [hs] at hch
        ((repeat' (first | (refine awpL_step TT rfl rfl rfl sd ?_) | (refine awpL_nil ?_) | (refine awpL_skip rfl rfl ?_) | (refine awpQ_step TT rfl rfl rfl rfl sd ?_) | (refine awpQ_nil ?_) | (refine awpQ_skip rfl rfl ?_) | (refine awp_seq ?_) | (refine awp_region ?_) | ((refine awpL_call (hch _) rfl rfl rfl rfl rfl rfl rfl ft rfl ?_); rintro v Hout n1 ⟨rfl, rfl, rfl⟩) | (refine awp_block ?_) | (refine awp_exit ?_) | (refine awp_skip ?_) | (refine awp_ret ?_) | (refine awp_cond_t rfl ?_) | (refine awp_cond_f rfl ?_) | (refine awp_quiet TM rfl (by kernel_rfl) ?_) | ((first | refine awpL_split rfl rfl rfl (fun hc => ?_) (fun hc => ?_) | refine awpQ_split rfl rfl rfl (fun hc => ?_) (fun hc => ?_) | refine awp_cond rfl (fun hc => ?_) (fun hc => ?_)) <;> ((try simp at hc) <;> try contradiction)))) <;> try (exfalso; omega))
        all_goals exact fin rfl (by repeat' (first | exact trivial | exact Nat.zero_lt_one | omega | refine ⟨?_, ?_⟩)) [] (.tup [.agg zeroM, .one (.bool false)]) [] 3 ⟨rfl, rfl, rfl⟩ rfl ⟨trivial, trivial, rfl⟩ rfl
      · have hZ : addZ a b a b xs ys = some (sumL xs ys) := if_pos ⟨h1, h2, rfl, rfl, hs⟩
        rw [hs] at hch
        ((repeat' (first | (refine awpL_step TT rfl rfl rfl sd ?_) | (refine awpL_nil ?_) | (refine awpL_skip rfl rfl ?_) | (refine awpQ_step TT rfl rfl rfl rfl sd ?_) | (refine awpQ_nil ?_) | (refine awpQ_skip rfl rfl ?_) | (refine awp_seq ?_) | (refine awp_region ?_) | ((refine awpL_call (hch _) rfl rfl rfl rfl rfl rfl rfl ft rfl ?_); rintro v Hout n1 ⟨rfl, rfl, rfl⟩) | (refine awp_block ?_) | (refine awp_exit ?_) | (refine awp_skip ?_) | (refine awp_ret ?_) | (refine awp_cond_t rfl ?_) | (refine awp_cond_f rfl ?_) | (refine awp_quiet TM rfl (by kernel_rfl) ?_) | ((first | refine awpL_split rfl rfl rfl (fun hc => ?_) (fun hc => ?_) | refine awpQ_split rfl rfl rfl (fun hc => ?_) (fun hc => ?_) | refine awp_cond rfl (fun hc => ?_) (fun hc => ?_)) <;> ((try simp at hc) <;> try contradiction)))) <;> try (exfalso; omega))
        all_goals exact fin rfl (by repeat' (first | exact trivial | exact Nat.zero_lt_one | omega | refine ⟨?_, ?_⟩)) [(3, 6)] (doneV a b 3 (a * b) (a * b) true) [(3, .own 3 (a * b) (.ints (sumL xs ys)))] 4 (GotZ.yes hZ hsl.symm (Nat.le_refl _)) rfl ⟨trivial, ⟨rfl, trivial⟩, rfl⟩ rfl
  · have hZ := addZ_no hg
    rw [hZ]
    cases h1 : isM r c xs
    · rw [h1] at i1
      ((repeat' (first | (refine awpL_step TT rfl rfl rfl sd ?_) | (refine awpL_nil ?_) | (refine awpL_skip rfl rfl ?_) | (refine awpQ_step TT rfl rfl rfl rfl sd ?_) | (refine awpQ_nil ?_) | (refine awpQ_skip rfl rfl ?_) | (refine awp_seq ?_) | (refine awp_region ?_) | (first | refine awpL_ret (i1) rfl rfl rfl rfl rfl rfl rfl rfl ft rfl rfl ?_ | refine awpQ_ret (i1) rfl rfl rfl rfl rfl rfl rfl rfl ft rfl rfl ?_ | refine awpHop_ret _ (i1) rfl rfl rfl rfl rfl rfl rfl rfl rfl ft rfl rfl sb rfl ?_) | (first | refine awpL_ret (i2) rfl rfl rfl rfl rfl rfl rfl rfl ft rfl rfl ?_ | refine awpQ_ret (i2) rfl rfl rfl rfl rfl rfl rfl rfl ft rfl rfl ?_ | refine awpHop_ret _ (i2) rfl rfl rfl rfl rfl rfl rfl rfl rfl ft rfl rfl sb rfl ?_) | (refine awp_block ?_) | (refine awp_exit ?_) | (refine awp_skip ?_) | (refine awp_ret ?_) | (refine awp_cond_t rfl ?_) | (refine awp_cond_f rfl ?_) | (refine awp_quiet TM rfl (by kernel_rfl) ?_) | ((first | refine awpL_split rfl rfl rfl (fun hc => ?_) (fun hc => ?_) | refine awpQ_split rfl rfl rfl (fun hc => ?_) (fun hc => ?_) | refine awp_cond rfl (fun hc => ?_) (fun hc => ?_)) <;> ((try simp at hc) <;> try contradiction)))) <;> try (exfalso; omega))
      all_goals exact fin rfl (by repeat' (first | exact trivial | exact Nat.zero_lt_one | omega | refine ⟨?_, ?_⟩)) [] (.tup [.agg zeroM, .one (.bool false)]) [] 3 ⟨rfl, rfl, rfl⟩ rfl ⟨trivial, trivial, rfl⟩ rfl
    · rw [h1] at i1
      cases h2 : isM r' c' ys
      · rw [h2] at i2
        ((repeat' (first | (refine awpL_step TT rfl rfl rfl sd ?_) | (refine awpL_nil ?_) | (refine awpL_skip rfl rfl ?_) | (refine awpQ_step TT rfl rfl rfl rfl sd ?_) | (refine awpQ_nil ?_) | (refine awpQ_skip rfl rfl ?_) | (refine awp_seq ?_) | (refine awp_region ?_) | (first | refine awpL_ret (i1) rfl rfl rfl rfl rfl rfl rfl rfl ft rfl rfl ?_ | refine awpQ_ret (i1) rfl rfl rfl rfl rfl rfl rfl rfl ft rfl rfl ?_ | refine awpHop_ret _ (i1) rfl rfl rfl rfl rfl rfl rfl rfl rfl ft rfl rfl sb rfl ?_) | (first | refine awpL_ret (i2) rfl rfl rfl rfl rfl rfl rfl rfl ft rfl rfl ?_ | refine awpQ_ret (i2) rfl rfl rfl rfl rfl rfl rfl rfl ft rfl rfl ?_ | refine awpHop_ret _ (i2) rfl rfl rfl rfl rfl rfl rfl rfl rfl ft rfl rfl sb rfl ?_) | (refine awp_block ?_) | (refine awp_exit ?_) | (refine awp_skip ?_) | (refine awp_ret ?_) | (refine awp_cond_t rfl ?_) | (refine awp_cond_f rfl ?_) | (refine awp_quiet TM rfl (by kernel_rfl) ?_) | ((first | refine awpL_split rfl rfl rfl (fun hc => ?_) (fun hc => ?_) | refine awpQ_split rfl rfl rfl (fun hc => ?_) (fun hc => ?_) | refine awp_cond rfl (fun hc => ?_) (fun hc => ?_)) <;> ((try simp at hc) <;> try contradiction)))) <;> try (exfalso; omega))
        all_goals exact fin rfl (by repeat' (first | exact trivial | exact Nat.zero_lt_one | omega | refine ⟨?_, ?_⟩)) [] (.tup [.agg zeroM, .one (.bool false)]) [] 3 ⟨rfl, rfl, rfl⟩ rfl ⟨trivial, trivial, rfl⟩ rfl
      · rw [h2] at i2
        obtain ⟨a, b, rfl, rfl, ha, hb, hx, hnum⟩ := isM_dimsH h1
        obtain ⟨a', b', rfl, rfl, ha', hb', hx', hnum'⟩ := isM_dimsH h2
        have hne : ((a : Int) = a' → ((b : Int) ≠ b')) := fun e1 e2 => hg ⟨h1, h2, e1, e2⟩
        by_cases q1 : a = a'
        · have q2 : b ≠ b' := fun e => hne (by omega) (by omega)
          ((repeat' (first | (refine awpL_step TT rfl rfl rfl sd ?_) | (refine awpL_nil ?_) | (refine awpL_skip rfl rfl ?_) | (refine awpQ_step TT rfl rfl rfl rfl sd ?_) | (refine awpQ_nil ?_) | (refine awpQ_skip rfl rfl ?_) | (refine awp_seq ?_) | (refine awp_region ?_) | (first | refine awpL_ret (i1) rfl rfl rfl rfl rfl rfl rfl rfl ft rfl rfl ?_ | refine awpQ_ret (i1) rfl rfl rfl rfl rfl rfl rfl rfl ft rfl rfl ?_ | refine awpHop_ret _ (i1) rfl rfl rfl rfl rfl rfl rfl rfl rfl ft rfl rfl sb rfl ?_) | (first | refine awpL_ret (i2) rfl rfl rfl rfl rfl rfl rfl rfl ft rfl rfl ?_ | refine awpQ_ret (i2) rfl rfl rfl rfl rfl rfl rfl rfl ft rfl rfl ?_ | refine awpHop_ret _ (i2) rfl rfl rfl rfl rfl rfl rfl rfl rfl ft rfl rfl sb rfl ?_) | (refine awp_block ?_) | (refine awp_exit ?_) | (refine awp_skip ?_) | (refine awp_ret ?_) | (refine awp_cond_t rfl ?_) | (refine awp_cond_f rfl ?_) | (refine awp_quiet TM rfl (by kernel_rfl) ?_) | ((first | refine awpL_split rfl rfl rfl (fun hc => ?_) (fun hc => ?_) | refine awpQ_split rfl rfl rfl (fun hc => ?_) (fun hc => ?_) | refine awp_cond rfl (fun hc => ?_) (fun hc => ?_)) <;> ((try simp at hc) <;> try contradiction)))) <;> try (exfalso; omega))
          all_goals exact fin rfl (by repeat' (first | exact trivial | exact Nat.zero_lt_one | omega | refine ⟨?_, ?_⟩)) [] (.tup [.agg zeroM, .one (.bool false)]) [] 3 ⟨rfl, rfl, rfl⟩ rfl ⟨trivial, trivial, rfl⟩ rfl
        · ((repeat' (first | (refine awpL_step TT rfl rfl rfl sd ?_) | (refine awpL_nil ?_) | (refine awpL_skip rfl rfl ?_) | (refine awpQ_step TT rfl rfl rfl rfl sd ?_) | (refine awpQ_nil ?_) | (refine awpQ_skip rfl rfl ?_) | (refine awp_seq ?_) | (refine awp_region ?_) | (first | refine awpL_ret (i1) rfl rfl rfl rfl rfl rfl rfl rfl ft rfl rfl ?_ | refine awpQ_ret (i1) rfl rfl rfl rfl rfl rfl rfl rfl ft rfl rfl ?_ | refine awpHop_ret _ (i1) rfl rfl rfl rfl rfl rfl rfl rfl rfl ft rfl rfl sb rfl ?_) | (first | refine awpL_ret (i2) rfl rfl rfl rfl rfl rfl rfl rfl ft rfl rfl ?_ | refine awpQ_ret (i2) rfl rfl rfl rfl rfl rfl rfl rfl ft rfl rfl ?_ | refine awpHop_ret _ (i2) rfl rfl rfl rfl rfl rfl rfl rfl rfl ft rfl rfl sb rfl ?_) | (refine awp_block ?_) | (refine awp_exit ?_) | (refine awp_skip ?_) | (refine awp_ret ?_) | (refine awp_cond_t rfl ?_) | (refine awp_cond_f rfl ?_) | (refine awp_quiet TM rfl (by kernel_rfl) ?_) | ((first | refine awpL_split rfl rfl rfl (fun hc => ?_) (fun hc => ?_) | refine awpQ_split rfl rfl rfl (fun hc => ?_) (fun hc => ?_) | refine awp_cond rfl (fun hc => ?_) (fun hc => ?_)) <;> ((try simp at hc) <;> try contradiction)))) <;> try (exfalso; omega))
          all_goals exact fin rfl (by repeat' (first | exact trivial | exact Nat.zero_lt_one | omega | refine ⟨?_, ?_⟩)) [] (.tup [.agg zeroM, .one (.bool false)]) [] 3 ⟨rfl, rfl, rfl⟩ rfl ⟨trivial, trivial, rfl⟩ rfl
theorem addZ_len {r c r' c' : Int} {xs ys zs : List Int} (h : addZ r c r' c' xs ys = some zs) : zs.length = xs.length := by
  unfold addZ at h
  split at h
  · cases h; exact sumL_len
  · cases h
def addInO (r c : Int) (xs vs ws : List Int) : Option (List Int) := match addZ 1 vs.length 1 ws.length vs ws with
  | none => none
  | some s => normO r c xs s
theorem addIn_form {r c : Int} {xs vs ws : List Int} : ∃ (zs : List Int) (ok : Bool), zs.length ≤ 24 ∧ ∀ t k, NormR t (addInO r c xs vs ws) k = NormV t zs ok k := by
  unfold addInO
  split
  · exact ⟨[], false, Nat.zero_le _, fun _ _ => rfl⟩
  · obtain ⟨zs, ok, h1, -, h2⟩ := norm_form (r := r) (c := c) (xs := xs) (vs := _)
    exact ⟨zs, ok, h1, h2⟩
set_option maxHeartbeats 2000000 in
theorem d_addInI (r c : Int) (xs vs ws : List Int) (ca cv cw : Nat) (hl : xs.length ≤ 1099511627776) (hl' : vs.length ≤ 1099511627776) (hl3 : ws.length ≤ 1099511627776) :
    Does Try.prog 37 [vM r c 1 xs.length ca, vS 2 1 0 vs.length cv, vS 3 1 0 ws.length cw] [(1, .ro (.ints xs)), (2, .ro (.ints vs)), (3, .ro (.ints ws))] 4 (NormR 3 (addInO r c xs vs ws) 4) := by
  refine Does.intro TT Try.func37 rfl (by kernel_rfl) rfl rfl fun E hE => ?_
  have ha := fun ca cb => d_addMI 1 vs.length 1 ws.length vs ws ca cb hl' hl3
  unfold addInO
  cases hz : addZ 1 vs.length 1 ws.length vs ws with
  | none =>
    rw [hz] at ha
    ((repeat' (first | (refine awpL_step TT rfl rfl rfl sd ?_) | (refine awpL_nil ?_) | (refine awpL_skip rfl rfl ?_) | (refine awpQ_step TT rfl rfl rfl rfl sd ?_) | (refine awpQ_nil ?_) | (refine awpQ_skip rfl rfl ?_) | (refine awp_seq ?_) | (refine awp_region ?_) | ((first | refine awpL_one (d_row vs _ hl') rfl rfl rfl rfl rfl rfl rfl ft rfl rfl (RowM.out) ?_ | refine awpHop_one _ (d_row vs _ hl') rfl rfl rfl rfl rfl rfl rfl rfl ft rfl rfl (RowM.out) sb rfl rfl ?_); rintro v b ⟨c3, hc3, rfl, he, -⟩; cases he) | ((first | refine awpL_one (d_row ws _ hl3) rfl rfl rfl rfl rfl rfl rfl ft rfl rfl (RowM.out) ?_ | refine awpHop_one _ (d_row ws _ hl3) rfl rfl rfl rfl rfl rfl rfl rfl ft rfl rfl (RowM.out) sb rfl rfl ?_); rintro v b ⟨c4, hc4, rfl, he, -⟩; cases he) | ((refine awpL_call (ha _ _) rfl rfl rfl rfl rfl rfl rfl ft rfl ?_); rintro v Hout n1 ⟨rfl, rfl, rfl⟩) | (refine awp_block ?_) | (refine awp_exit ?_) | (refine awp_skip ?_) | (refine awp_ret ?_) | (refine awp_cond_t rfl ?_) | (refine awp_cond_f rfl ?_) | (refine awp_quiet TM rfl (by kernel_rfl) ?_) | ((first | refine awpL_split rfl rfl rfl (fun hc => ?_) (fun hc => ?_) | refine awpQ_split rfl rfl rfl (fun hc => ?_) (fun hc => ?_) | refine awp_cond rfl (fun hc => ?_) (fun hc => ?_)) <;> ((try simp at hc) <;> try contradiction)))) <;> try (exfalso; omega))
    all_goals exact fin rfl (by repeat' (first | exact trivial | exact Nat.zero_lt_one | omega | refine ⟨?_, ?_⟩)) [(4, 8)] (.tup [.one (.sl 4 1 0 0 0), .one (.bool false)]) [(4, .own 3 0 (.ints []))] 5 ⟨0, Nat.le_refl _, rfl, rfl, rfl⟩ rfl ⟨trivial, ⟨own_ints rfl, trivial⟩, rfl⟩ rfl
  | some s =>
    rw [hz] at ha
    have hsl := addZ_len hz
    obtain ⟨zs, ok, hzl, -, hZ⟩ := norm_form (r := r) (c := c) (xs := xs) (vs := s)
    have hno := fun ca cv => d_normI r c xs s ca cv hl (by omega)
    dsimp only
    rw [hZ] at hno ⊢
    ((repeat' (first | (refine awpL_step TT rfl rfl rfl sd ?_) | (refine awpL_nil ?_) | (refine awpL_skip rfl rfl ?_) | (refine awpQ_step TT rfl rfl rfl rfl sd ?_) | (refine awpQ_nil ?_) | (refine awpQ_skip rfl rfl ?_) | (refine awp_seq ?_) | (refine awp_region ?_) | ((first | refine awpL_one (d_row vs _ hl') rfl rfl rfl rfl rfl rfl rfl ft rfl rfl (RowM.out) ?_ | refine awpHop_one _ (d_row vs _ hl') rfl rfl rfl rfl rfl rfl rfl rfl ft rfl rfl (RowM.out) sb rfl rfl ?_); rintro v b ⟨c3, hc3, rfl, he, -⟩; cases he) | ((first | refine awpL_one (d_row ws _ hl3) rfl rfl rfl rfl rfl rfl rfl ft rfl rfl (RowM.out) ?_ | refine awpHop_one _ (d_row ws _ hl3) rfl rfl rfl rfl rfl rfl rfl rfl ft rfl rfl (RowM.out) sb rfl rfl ?_); rintro v b ⟨c4, hc4, rfl, he, -⟩; cases he) | ((refine awpL_call (ha _ _) rfl rfl rfl rfl rfl rfl rfl ft rfl ?_); rintro v Hout n1 ⟨c5, hc5, rfl, rfl, rfl⟩) | ((first | refine awpL_one (hno _ _) rfl rfl rfl rfl rfl rfl rfl ft rfl rfl (NormV.out) ?_ | refine awpHop_one _ (hno _ _) rfl rfl rfl rfl rfl rfl rfl rfl ft rfl rfl (NormV.out) sb rfl rfl ?_); rintro v b ⟨c6, hc6, rfl, he, -⟩; cases he) | (refine awp_block ?_) | (refine awp_exit ?_) | (refine awp_skip ?_) | (refine awp_ret ?_) | (refine awp_cond_t rfl ?_) | (refine awp_cond_f rfl ?_) | (refine awp_quiet TM rfl (by kernel_rfl) ?_) | ((first | refine awpL_split rfl rfl rfl (fun hc => ?_) (fun hc => ?_) | refine awpQ_split rfl rfl rfl (fun hc => ?_) (fun hc => ?_) | refine awp_cond rfl (fun hc => ?_) (fun hc => ?_)) <;> ((try simp at hc) <;> try contradiction)))) <;> try (exfalso; omega))
    all_goals exact fin rfl (by repeat' (first | exact trivial | exact Nat.zero_lt_one | omega | refine ⟨?_, ?_⟩)) [(4, 9)] (.tup [.one (.sl 4 1 0 zs.length c6), .one (.bool ok)]) [(4, .own 3 c6 (.ints zs))] 5 ⟨c6, hc6, rfl, rfl, rfl⟩ rfl ⟨trivial, ⟨rfl, trivial⟩, rfl⟩ rfl
set_option maxHeartbeats 2000000 in
theorem d_addInS (r c : Int) (xs vs ws : List Int) (ca cv cw : Nat) (hl : xs.length ≤ 1099511627776) (hl' : vs.length ≤ 1099511627776) (hl3 : ws.length ≤ 1099511627776) :
    Does Try.prog 39 [vM r c 1 xs.length ca, vS 2 1 0 vs.length cv, vS 3 1 0 ws.length cw] [(1, .ro (.ints xs)), (2, .ro (.ints vs)), (3, .ro (.ints ws))] 4 (NormR 3 (addInO r c xs vs ws) 4) := by
  refine Does.intro TT Try.func39 rfl (by kernel_rfl) rfl rfl fun E hE => ?_
  have ha := fun ca cb => d_addMS 1 vs.length 1 ws.length vs ws ca cb hl' hl3
  unfold addInO
  cases hz : addZ 1 vs.length 1 ws.length vs ws with
  | none =>
    rw [hz] at ha
    ((repeat' (first | (refine awpL_step TT rfl rfl rfl sd ?_) | (refine awpL_nil ?_) | (refine awpL_skip rfl rfl ?_) | (refine awpQ_step TT rfl rfl rfl rfl sd ?_) | (refine awpQ_nil ?_) | (refine awpQ_skip rfl rfl ?_) | (refine awp_seq ?_) | (refine awp_region ?_) | ((refine awpL_call (ha _ _) rfl rfl rfl rfl rfl rfl rfl ft rfl ?_); rintro v Hout n1 ⟨rfl, rfl, rfl⟩) | (refine awp_block ?_) | (refine awp_exit ?_) | (refine awp_skip ?_) | (refine awp_ret ?_) | (refine awp_cond_t rfl ?_) | (refine awp_cond_f rfl ?_) | (refine awp_quiet TM rfl (by kernel_rfl) ?_) | ((first | refine awpL_split rfl rfl rfl (fun hc => ?_) (fun hc => ?_) | refine awpQ_split rfl rfl rfl (fun hc => ?_) (fun hc => ?_) | refine awp_cond rfl (fun hc => ?_) (fun hc => ?_)) <;> ((try simp at hc) <;> try contradiction)))) <;> try (exfalso; omega))
    all_goals exact fin rfl (by repeat' (first | exact trivial | exact Nat.zero_lt_one | omega | refine ⟨?_, ?_⟩)) [(4, 6)] (.tup [.one (.sl 4 1 0 0 0), .one (.bool false)]) [(4, .own 3 0 (.ints []))] 5 ⟨0, Nat.le_refl _, rfl, rfl, rfl⟩ rfl ⟨trivial, ⟨own_ints rfl, trivial⟩, rfl⟩ rfl
  | some s =>
    rw [hz] at ha
    have hsl := addZ_len hz
    obtain ⟨zs, ok, hzl, -, hZ⟩ := norm_form (r := r) (c := c) (xs := xs) (vs := s)
    have hno := fun ca cv => d_normS r c xs s ca cv hl (by omega)
    dsimp only
    rw [hZ] at hno ⊢
    ((repeat' (first | (refine awpL_step TT rfl rfl rfl sd ?_) | (refine awpL_nil ?_) | (refine awpL_skip rfl rfl ?_) | (refine awpQ_step TT rfl rfl rfl rfl sd ?_) | (refine awpQ_nil ?_) | (refine awpQ_skip rfl rfl ?_) | (refine awp_seq ?_) | (refine awp_region ?_) | ((refine awpL_call (ha _ _) rfl rfl rfl rfl rfl rfl rfl ft rfl ?_); rintro v Hout n1 ⟨c5, hc5, rfl, rfl, rfl⟩) | ((first | refine awpL_one (hno _ _) rfl rfl rfl rfl rfl rfl rfl ft rfl rfl (NormV.out) ?_ | refine awpHop_one _ (hno _ _) rfl rfl rfl rfl rfl rfl rfl rfl ft rfl rfl (NormV.out) sb rfl rfl ?_); rintro v b ⟨c6, hc6, rfl, he, -⟩; cases he) | (refine awp_block ?_) | (refine awp_exit ?_) | (refine awp_skip ?_) | (refine awp_ret ?_) | (refine awp_cond_t rfl ?_) | (refine awp_cond_f rfl ?_) | (refine awp_quiet TM rfl (by kernel_rfl) ?_) | ((first | refine awpL_split rfl rfl rfl (fun hc => ?_) (fun hc => ?_) | refine awpQ_split rfl rfl rfl (fun hc => ?_) (fun hc => ?_) | refine awp_cond rfl (fun hc => ?_) (fun hc => ?_)) <;> ((try simp at hc) <;> try contradiction)))) <;> try (exfalso; omega))
    all_goals exact fin rfl (by repeat' (first | exact trivial | exact Nat.zero_lt_one | omega | refine ⟨?_, ?_⟩)) [(4, 7)] (.tup [.one (.sl 4 1 0 zs.length c6), .one (.bool ok)]) [(4, .own 3 c6 (.ints zs))] 5 ⟨c6, hc6, rfl, rfl, rfl⟩ rfl ⟨trivial, ⟨rfl, trivial⟩, rfl⟩ rfl
set_option maxRecDepth 100000 in
set_option maxHeartbeats 16000000 in
theorem d_lawAdd (r c : Int) (xs : List Int) (ca : Nat) (bs : List Int) (cb : Nat) (cs : List Int) (cc : Nat) (hn : xs.length ≤ 9223372036854775807) (hn' : bs.length ≤ 9223372036854775807) (hn3 : cs.length ≤ 9223372036854775807) :
    Does Try.prog 11 [vM r c 1 xs.length ca, vS 2 1 0 bs.length cb, vS 3 1 0 cs.length cc] [(1, .ro (.ints xs)), (2, .ro (.ints bs)), (3, .ro (.ints cs))] 4 (Ret (vB true) 4) := by
  refine Does.intro TT Try.func11 rfl (by kernel_rfl) rfl rfl fun E hE => ?_
  by_cases hy : bs.length ≤ 1048576
  · by_cases hy3 : cs.length ≤ 1048576
    · have e1 := d_szMatrix r c xs ca 1048576 (by omega) hn
      by_cases q1 : 0 ≤ szL 1048576 xs.length
      · have hl : xs.length ≤ 1099511627776 := by unfold szL at q1; split at q1 <;> omega
        have hl' : bs.length ≤ 1099511627776 := by omega
        have hl3 : cs.length ≤ 1099511627776 := by omega
        obtain ⟨ys, ok, hyl, hZ⟩ := addIn_form (r := r) (c := c) (xs := xs) (vs := bs) (ws := cs)
        have h1 := fun ca cb cc => d_addInS r c xs bs cs ca cb cc hl hl' hl3
        have h2 := fun ca cb cc => d_addInI r c xs bs cs ca cb cc hl hl' hl3
        rw [hZ] at h1 h2
        have hyy : ys.length ≤ 1099511627776 := by omega
        cases ok
        all_goals ((repeat' (first | (refine awpL_step TT rfl rfl rfl sd ?_) | (refine awpL_nil ?_) | (refine awpL_skip rfl rfl ?_) | (refine awpQ_step TT rfl rfl rfl rfl sd ?_) | (refine awpQ_nil ?_) | (refine awpQ_skip rfl rfl ?_) | (refine awp_seq ?_) | (refine awp_region ?_) | (first | refine awpL_ret (e1) rfl rfl rfl rfl rfl rfl rfl rfl ft rfl rfl ?_ | refine awpQ_ret (e1) rfl rfl rfl rfl rfl rfl rfl rfl ft rfl rfl ?_ | refine awpHop_ret _ (e1) rfl rfl rfl rfl rfl rfl rfl rfl rfl ft rfl rfl sb rfl ?_) | ((first | refine awpL_one (d_toMatrix r c xs _ hl) rfl rfl rfl rfl rfl rfl rfl ft rfl rfl (MadeMx.out) ?_ | refine awpHop_one _ (d_toMatrix r c xs _ hl) rfl rfl rfl rfl rfl rfl rfl rfl ft rfl rfl (MadeMx.out) sb rfl rfl ?_); rintro v b ⟨c1a, hc1a, rfl, he, -⟩; cases he) | ((first | refine awpL_one (d_toIntS bs _ hl') rfl rfl rfl rfl rfl rfl rfl ft rfl rfl (MadeI.out) ?_ | refine awpHop_one _ (d_toIntS bs _ hl') rfl rfl rfl rfl rfl rfl rfl rfl ft rfl rfl (MadeI.out) sb rfl rfl ?_); rintro v b ⟨c2a, hc2a, rfl, he, -⟩; cases he) | ((first | refine awpL_one (d_toIntS cs _ hl3) rfl rfl rfl rfl rfl rfl rfl ft rfl rfl (MadeI.out) ?_ | refine awpHop_one _ (d_toIntS cs _ hl3) rfl rfl rfl rfl rfl rfl rfl rfl ft rfl rfl (MadeI.out) sb rfl rfl ?_); rintro v b ⟨c3a, hc3a, rfl, he, -⟩; cases he) | ((first | refine awpL_one (h1 _ _ _) rfl rfl rfl rfl rfl rfl rfl ft rfl rfl (NormV.out) ?_ | refine awpHop_one _ (h1 _ _ _) rfl rfl rfl rfl rfl rfl rfl rfl ft rfl rfl (NormV.out) sb rfl rfl ?_); rintro v b ⟨cw, hcw, rfl, he, -⟩; cases he) | ((first | refine awpL_one (h2 _ _ _) rfl rfl rfl rfl rfl rfl rfl ft rfl rfl (NormV.out) ?_ | refine awpHop_one _ (h2 _ _ _) rfl rfl rfl rfl rfl rfl rfl rfl ft rfl rfl (NormV.out) sb rfl rfl ?_); rintro v b ⟨cg, hcg, rfl, he, -⟩; cases he) | (first | refine awpL_ret (d_eqIntS ys ys _ _ hyy hyy) rfl rfl rfl rfl rfl rfl rfl rfl ft rfl rfl ?_ | refine awpQ_ret (d_eqIntS ys ys _ _ hyy hyy) rfl rfl rfl rfl rfl rfl rfl rfl ft rfl rfl ?_ | refine awpHop_ret _ (d_eqIntS ys ys _ _ hyy hyy) rfl rfl rfl rfl rfl rfl rfl rfl rfl ft rfl rfl sb rfl ?_) | (refine awp_block ?_) | (refine awp_exit ?_) | (refine awp_skip ?_) | (refine awp_ret ?_) | (refine awp_cond_t rfl ?_) | (refine awp_cond_f rfl ?_) | ((first | refine awpL_split rfl rfl rfl (fun hc => ?_) (fun hc => ?_) | refine awpQ_split rfl rfl rfl (fun hc => ?_) (fun hc => ?_) | refine awp_cond rfl (fun hc => ?_) (fun hc => ?_)) <;> ((try simp at hc) <;> try contradiction)))) <;> try (exfalso; omega))
        · refine awp_held TM [(4, _), (10, _)] sb rfl (fun ρs => ?_)
          refine awpH_take TT 0 rfl kr kr kr nh rfl rfl rfl rfl sd ?_
          refine awpH_take TT 1 rfl kr kr kr nh rfl rfl rfl rfl sd ?_
          refine awpH_all [2] kr rfl ⟨?_, trivial⟩
          first | (refine awpHop_step TT 2 rfl rfl rfl rfl sd sb rfl ?_) | ((first | refine awpL_one (d_toMatrix r c xs _ hl) rfl rfl rfl rfl rfl rfl rfl ft rfl rfl (MadeMx.out) ?_ | refine awpHop_one _ (d_toMatrix r c xs _ hl) rfl rfl rfl rfl rfl rfl rfl rfl ft rfl rfl (MadeMx.out) sb rfl rfl ?_); rintro v b ⟨c1b, hc1b, rfl, he, -⟩; cases he) | (first | refine awpL_ret (d_eqMatrix r c r c xs xs _ _ hl hl) rfl rfl rfl rfl rfl rfl rfl rfl ft rfl rfl ?_ | refine awpQ_ret (d_eqMatrix r c r c xs xs _ _ hl hl) rfl rfl rfl rfl rfl rfl rfl rfl ft rfl rfl ?_ | refine awpHop_ret _ (d_eqMatrix r c r c xs xs _ _ hl hl) rfl rfl rfl rfl rfl rfl rfl rfl rfl ft rfl rfl sb rfl ?_)
          refine awpH_all [3] kr rfl ⟨?_, trivial⟩
          first | (refine awpHop_step TT 3 rfl rfl rfl rfl sd sb rfl ?_) | ((first | refine awpL_one (d_toMatrix r c xs _ hl) rfl rfl rfl rfl rfl rfl rfl ft rfl rfl (MadeMx.out) ?_ | refine awpHop_one _ (d_toMatrix r c xs _ hl) rfl rfl rfl rfl rfl rfl rfl rfl ft rfl rfl (MadeMx.out) sb rfl rfl ?_); rintro v b ⟨c1b, hc1b, rfl, he, -⟩; cases he) | (first | refine awpL_ret (d_eqMatrix r c r c xs xs _ _ hl hl) rfl rfl rfl rfl rfl rfl rfl rfl ft rfl rfl ?_ | refine awpQ_ret (d_eqMatrix r c r c xs xs _ _ hl hl) rfl rfl rfl rfl rfl rfl rfl rfl ft rfl rfl ?_ | refine awpHop_ret _ (d_eqMatrix r c r c xs xs _ _ hl hl) rfl rfl rfl rfl rfl rfl rfl rfl rfl ft rfl rfl sb rfl ?_)
          refine awpH_take TT 4 rfl kr kr kr nh rfl rfl rfl rfl sd ?_
          refine awpH_done kr ?_
          rotate_left
          ((repeat' (first | (refine awpL_step TT rfl rfl rfl sd ?_) | (refine awpL_nil ?_) | (refine awpL_skip rfl rfl ?_) | (refine awpQ_step TT rfl rfl rfl rfl sd ?_) | (refine awpQ_nil ?_) | (refine awpQ_skip rfl rfl ?_) | (refine awp_seq ?_) | (refine awp_region ?_) | ((first | refine awpL_one (d_toMatrix r c xs _ hl) rfl rfl rfl rfl rfl rfl rfl ft rfl rfl (MadeMx.out) ?_ | refine awpHop_one _ (d_toMatrix r c xs _ hl) rfl rfl rfl rfl rfl rfl rfl rfl ft rfl rfl (MadeMx.out) sb rfl rfl ?_); rintro v b ⟨c1c, hc1c, rfl, he, -⟩; cases he) | ((first | refine awpL_one (d_toIntS bs _ hl') rfl rfl rfl rfl rfl rfl rfl ft rfl rfl (MadeI.out) ?_ | refine awpHop_one _ (d_toIntS bs _ hl') rfl rfl rfl rfl rfl rfl rfl rfl ft rfl rfl (MadeI.out) sb rfl rfl ?_); rintro v b ⟨c2b, hc2b, rfl, he, -⟩; cases he) | ((first | refine awpL_one (d_toIntS cs _ hl3) rfl rfl rfl rfl rfl rfl rfl ft rfl rfl (MadeI.out) ?_ | refine awpHop_one _ (d_toIntS cs _ hl3) rfl rfl rfl rfl rfl rfl rfl rfl ft rfl rfl (MadeI.out) sb rfl rfl ?_); rintro v b ⟨c3b, hc3b, rfl, he, -⟩; cases he) | (first | refine awpL_ret (d_eqIntS bs bs _ _ hl' hl') rfl rfl rfl rfl rfl rfl rfl rfl ft rfl rfl ?_ | refine awpQ_ret (d_eqIntS bs bs _ _ hl' hl') rfl rfl rfl rfl rfl rfl rfl rfl ft rfl rfl ?_ | refine awpHop_ret _ (d_eqIntS bs bs _ _ hl' hl') rfl rfl rfl rfl rfl rfl rfl rfl rfl ft rfl rfl sb rfl ?_) | (first | refine awpL_ret (d_eqIntS cs cs _ _ hl3 hl3) rfl rfl rfl rfl rfl rfl rfl rfl ft rfl rfl ?_ | refine awpQ_ret (d_eqIntS cs cs _ _ hl3 hl3) rfl rfl rfl rfl rfl rfl rfl rfl ft rfl rfl ?_ | refine awpHop_ret _ (d_eqIntS cs cs _ _ hl3 hl3) rfl rfl rfl rfl rfl rfl rfl rfl rfl ft rfl rfl sb rfl ?_) | ((refine awpL_call (d_markMatrix r c xs _ _ 1 hl (by omega) (by omega)) rfl rfl rfl rfl rfl rfl rfl ft rfl ?_); rintro v Hout n1 ⟨rfl, rfl, rfl⟩) | ((refine awpL_call (d_markIntS bs _ _ (1 + xs.length) hl' (by omega) (by omega)) rfl rfl rfl rfl rfl rfl rfl ft rfl ?_); rintro v Hout n1 ⟨rfl, rfl, rfl⟩) | ((refine awpL_call (d_markIntS cs _ _ (1 + xs.length + bs.length) hl3 (by omega) (by omega)) rfl rfl rfl rfl rfl rfl rfl ft rfl ?_); rintro v Hout n1 ⟨rfl, rfl, rfl⟩) | (first | refine awpL_ret (d_eqIntS ys ys _ _ hyy hyy) rfl rfl rfl rfl rfl rfl rfl rfl ft rfl rfl ?_ | refine awpQ_ret (d_eqIntS ys ys _ _ hyy hyy) rfl rfl rfl rfl rfl rfl rfl rfl ft rfl rfl ?_ | refine awpHop_ret _ (d_eqIntS ys ys _ _ hyy hyy) rfl rfl rfl rfl rfl rfl rfl rfl rfl ft rfl rfl sb rfl ?_) | ((refine awpL_call (d_markIntS ys _ _ 1 hyy (by omega) (by omega)) rfl rfl rfl rfl rfl rfl rfl ft rfl ?_); rintro v Hout n1 ⟨rfl, rfl, rfl⟩) | (first | refine awpL_ret (d_heldIntS ys.length _ 1 hyy (by omega) (by omega)) rfl rfl rfl rfl rfl rfl rfl rfl ft rfl rfl ?_ | refine awpQ_ret (d_heldIntS ys.length _ 1 hyy (by omega) (by omega)) rfl rfl rfl rfl rfl rfl rfl rfl ft rfl rfl ?_ | refine awpHop_ret _ (d_heldIntS ys.length _ 1 hyy (by omega) (by omega)) rfl rfl rfl rfl rfl rfl rfl rfl rfl ft rfl rfl sb rfl ?_) | ((first | refine awpL_one (h2 _ _ _) rfl rfl rfl rfl rfl rfl rfl ft rfl rfl (NormV.out) ?_ | refine awpHop_one _ (h2 _ _ _) rfl rfl rfl rfl rfl rfl rfl rfl ft rfl rfl (NormV.out) sb rfl rfl ?_); rintro v b ⟨ch, hch, rfl, he, -⟩; cases he) | (refine awp_block ?_) | (refine awp_exit ?_) | (refine awp_skip ?_) | (refine awp_ret ?_) | (refine awp_cond_t rfl ?_) | (refine awp_cond_f rfl ?_) | (refine awp_quiet TM rfl (by kernel_rfl) ?_) | ((first | refine awpL_split rfl rfl rfl (fun hc => ?_) (fun hc => ?_) | refine awpQ_split rfl rfl rfl (fun hc => ?_) (fun hc => ?_) | refine awp_cond rfl (fun hc => ?_) (fun hc => ?_)) <;> ((try simp at hc) <;> try contradiction)))) <;> try (exfalso; omega))
          all_goals refine fin_ret rfl (by repeat' (first | exact trivial | exact Nat.zero_lt_one | omega | refine ⟨?_, ?_⟩)) (rfl) rfl
        · refine awp_held TM [(4, _), (10, _)] sb rfl (fun ρs => ?_)
          refine awpH_take TT 0 rfl kr kr kr nh rfl rfl rfl rfl sd ?_
          refine awpH_take TT 1 rfl kr kr kr nh rfl rfl rfl rfl sd ?_
          refine awpH_all [2] kr rfl ⟨?_, trivial⟩
          first | (refine awpHop_step TT 2 rfl rfl rfl rfl sd sb rfl ?_) | ((first | refine awpL_one (d_toMatrix r c xs _ hl) rfl rfl rfl rfl rfl rfl rfl ft rfl rfl (MadeMx.out) ?_ | refine awpHop_one _ (d_toMatrix r c xs _ hl) rfl rfl rfl rfl rfl rfl rfl rfl ft rfl rfl (MadeMx.out) sb rfl rfl ?_); rintro v b ⟨c1b, hc1b, rfl, he, -⟩; cases he) | (first | refine awpL_ret (d_eqMatrix r c r c xs xs _ _ hl hl) rfl rfl rfl rfl rfl rfl rfl rfl ft rfl rfl ?_ | refine awpQ_ret (d_eqMatrix r c r c xs xs _ _ hl hl) rfl rfl rfl rfl rfl rfl rfl rfl ft rfl rfl ?_ | refine awpHop_ret _ (d_eqMatrix r c r c xs xs _ _ hl hl) rfl rfl rfl rfl rfl rfl rfl rfl rfl ft rfl rfl sb rfl ?_)
          refine awpH_all [3] kr rfl ⟨?_, trivial⟩
          first | (refine awpHop_step TT 3 rfl rfl rfl rfl sd sb rfl ?_) | ((first | refine awpL_one (d_toMatrix r c xs _ hl) rfl rfl rfl rfl rfl rfl rfl ft rfl rfl (MadeMx.out) ?_ | refine awpHop_one _ (d_toMatrix r c xs _ hl) rfl rfl rfl rfl rfl rfl rfl rfl ft rfl rfl (MadeMx.out) sb rfl rfl ?_); rintro v b ⟨c1b, hc1b, rfl, he, -⟩; cases he) | (first | refine awpL_ret (d_eqMatrix r c r c xs xs _ _ hl hl) rfl rfl rfl rfl rfl rfl rfl rfl ft rfl rfl ?_ | refine awpQ_ret (d_eqMatrix r c r c xs xs _ _ hl hl) rfl rfl rfl rfl rfl rfl rfl rfl ft rfl rfl ?_ | refine awpHop_ret _ (d_eqMatrix r c r c xs xs _ _ hl hl) rfl rfl rfl rfl rfl rfl rfl rfl rfl ft rfl rfl sb rfl ?_)
          refine awpH_take TT 4 rfl kr kr kr nh rfl rfl rfl rfl sd ?_
          refine awpH_done kr ?_
          rotate_left
          ((repeat' (first | (refine awpL_step TT rfl rfl rfl sd ?_) | (refine awpL_nil ?_) | (refine awpL_skip rfl rfl ?_) | (refine awpQ_step TT rfl rfl rfl rfl sd ?_) | (refine awpQ_nil ?_) | (refine awpQ_skip rfl rfl ?_) | (refine awp_seq ?_) | (refine awp_region ?_) | ((first | refine awpL_one (d_toMatrix r c xs _ hl) rfl rfl rfl rfl rfl rfl rfl ft rfl rfl (MadeMx.out) ?_ | refine awpHop_one _ (d_toMatrix r c xs _ hl) rfl rfl rfl rfl rfl rfl rfl rfl ft rfl rfl (MadeMx.out) sb rfl rfl ?_); rintro v b ⟨c1c, hc1c, rfl, he, -⟩; cases he) | ((first | refine awpL_one (d_toIntS bs _ hl') rfl rfl rfl rfl rfl rfl rfl ft rfl rfl (MadeI.out) ?_ | refine awpHop_one _ (d_toIntS bs _ hl') rfl rfl rfl rfl rfl rfl rfl rfl ft rfl rfl (MadeI.out) sb rfl rfl ?_); rintro v b ⟨c2b, hc2b, rfl, he, -⟩; cases he) | ((first | refine awpL_one (d_toIntS cs _ hl3) rfl rfl rfl rfl rfl rfl rfl ft rfl rfl (MadeI.out) ?_ | refine awpHop_one _ (d_toIntS cs _ hl3) rfl rfl rfl rfl rfl rfl rfl rfl ft rfl rfl (MadeI.out) sb rfl rfl ?_); rintro v b ⟨c3b, hc3b, rfl, he, -⟩; cases he) | (first | refine awpL_ret (d_eqIntS bs bs _ _ hl' hl') rfl rfl rfl rfl rfl rfl rfl rfl ft rfl rfl ?_ | refine awpQ_ret (d_eqIntS bs bs _ _ hl' hl') rfl rfl rfl rfl rfl rfl rfl rfl ft rfl rfl ?_ | refine awpHop_ret _ (d_eqIntS bs bs _ _ hl' hl') rfl rfl rfl rfl rfl rfl rfl rfl rfl ft rfl rfl sb rfl ?_) | (first | refine awpL_ret (d_eqIntS cs cs _ _ hl3 hl3) rfl rfl rfl rfl rfl rfl rfl rfl ft rfl rfl ?_ | refine awpQ_ret (d_eqIntS cs cs _ _ hl3 hl3) rfl rfl rfl rfl rfl rfl rfl rfl ft rfl rfl ?_ | refine awpHop_ret _ (d_eqIntS cs cs _ _ hl3 hl3) rfl rfl rfl rfl rfl rfl rfl rfl rfl ft rfl rfl sb rfl ?_) | ((refine awpL_call (d_markMatrix r c xs _ _ 1 hl (by omega) (by omega)) rfl rfl rfl rfl rfl rfl rfl ft rfl ?_); rintro v Hout n1 ⟨rfl, rfl, rfl⟩) | ((refine awpL_call (d_markIntS bs _ _ (1 + xs.length) hl' (by omega) (by omega)) rfl rfl rfl rfl rfl rfl rfl ft rfl ?_); rintro v Hout n1 ⟨rfl, rfl, rfl⟩) | ((refine awpL_call (d_markIntS cs _ _ (1 + xs.length + bs.length) hl3 (by omega) (by omega)) rfl rfl rfl rfl rfl rfl rfl ft rfl ?_); rintro v Hout n1 ⟨rfl, rfl, rfl⟩) | (first | refine awpL_ret (d_eqIntS ys ys _ _ hyy hyy) rfl rfl rfl rfl rfl rfl rfl rfl ft rfl rfl ?_ | refine awpQ_ret (d_eqIntS ys ys _ _ hyy hyy) rfl rfl rfl rfl rfl rfl rfl rfl ft rfl rfl ?_ | refine awpHop_ret _ (d_eqIntS ys ys _ _ hyy hyy) rfl rfl rfl rfl rfl rfl rfl rfl rfl ft rfl rfl sb rfl ?_) | ((refine awpL_call (d_markIntS ys _ _ 1 hyy (by omega) (by omega)) rfl rfl rfl rfl rfl rfl rfl ft rfl ?_); rintro v Hout n1 ⟨rfl, rfl, rfl⟩) | (first | refine awpL_ret (d_heldIntS ys.length _ 1 hyy (by omega) (by omega)) rfl rfl rfl rfl rfl rfl rfl rfl ft rfl rfl ?_ | refine awpQ_ret (d_heldIntS ys.length _ 1 hyy (by omega) (by omega)) rfl rfl rfl rfl rfl rfl rfl rfl ft rfl rfl ?_ | refine awpHop_ret _ (d_heldIntS ys.length _ 1 hyy (by omega) (by omega)) rfl rfl rfl rfl rfl rfl rfl rfl rfl ft rfl rfl sb rfl ?_) | ((first | refine awpL_one (h2 _ _ _) rfl rfl rfl rfl rfl rfl rfl ft rfl rfl (NormV.out) ?_ | refine awpHop_one _ (h2 _ _ _) rfl rfl rfl rfl rfl rfl rfl rfl ft rfl rfl (NormV.out) sb rfl rfl ?_); rintro v b ⟨ch, hch, rfl, he, -⟩; cases he) | (refine awp_block ?_) | (refine awp_exit ?_) | (refine awp_skip ?_) | (refine awp_ret ?_) | (refine awp_cond_t rfl ?_) | (refine awp_cond_f rfl ?_) | (refine awp_quiet TM rfl (by kernel_rfl) ?_) | ((first | refine awpL_split rfl rfl rfl (fun hc => ?_) (fun hc => ?_) | refine awpQ_split rfl rfl rfl (fun hc => ?_) (fun hc => ?_) | refine awp_cond rfl (fun hc => ?_) (fun hc => ?_)) <;> ((try simp at hc) <;> try contradiction)))) <;> try (exfalso; omega))
          all_goals refine fin_ret rfl (by repeat' (first | exact trivial | exact Nat.zero_lt_one | omega | refine ⟨?_, ?_⟩)) (rfl) rfl
      · ((repeat' (first | (refine awpL_step TT rfl rfl rfl sd ?_) | (refine awpL_nil ?_) | (refine awpL_skip rfl rfl ?_) | (refine awpQ_step TT rfl rfl rfl rfl sd ?_) | (refine awpQ_nil ?_) | (refine awpQ_skip rfl rfl ?_) | (refine awp_seq ?_) | (refine awp_region ?_) | (first | refine awpL_ret (e1) rfl rfl rfl rfl rfl rfl rfl rfl ft rfl rfl ?_ | refine awpQ_ret (e1) rfl rfl rfl rfl rfl rfl rfl rfl ft rfl rfl ?_ | refine awpHop_ret _ (e1) rfl rfl rfl rfl rfl rfl rfl rfl rfl ft rfl rfl sb rfl ?_) | (refine awp_block ?_) | (refine awp_exit ?_) | (refine awp_skip ?_) | (refine awp_ret ?_) | (refine awp_cond_t rfl ?_) | (refine awp_cond_f rfl ?_) | ((first | refine awpL_split rfl rfl rfl (fun hc => ?_) (fun hc => ?_) | refine awpQ_split rfl rfl rfl (fun hc => ?_) (fun hc => ?_) | refine awp_cond rfl (fun hc => ?_) (fun hc => ?_)) <;> ((try simp at hc) <;> try contradiction)))) <;> try (exfalso; omega))
        all_goals refine fin_ret rfl (by repeat' (first | exact trivial | exact Nat.zero_lt_one | omega | refine ⟨?_, ?_⟩)) (rfl) rfl
    · ((repeat' (first | (refine awpL_step TT rfl rfl rfl sd ?_) | (refine awpL_nil ?_) | (refine awpL_skip rfl rfl ?_) | (refine awpQ_step TT rfl rfl rfl rfl sd ?_) | (refine awpQ_nil ?_) | (refine awpQ_skip rfl rfl ?_) | (refine awp_seq ?_) | (refine awp_region ?_) | (refine awp_block ?_) | (refine awp_exit ?_) | (refine awp_skip ?_) | (refine awp_ret ?_) | (refine awp_cond_t rfl ?_) | (refine awp_cond_f rfl ?_) | ((first | refine awpL_split rfl rfl rfl (fun hc => ?_) (fun hc => ?_) | refine awpQ_split rfl rfl rfl (fun hc => ?_) (fun hc => ?_) | refine awp_cond rfl (fun hc => ?_) (fun hc => ?_)) <;> ((try simp at hc) <;> try contradiction)))) <;> try (exfalso; omega))
      all_goals refine fin_ret rfl (by repeat' (first | exact trivial | exact Nat.zero_lt_one | omega | refine ⟨?_, ?_⟩)) (rfl) rfl
  · ((repeat' (first | (refine awpL_step TT rfl rfl rfl sd ?_) | (refine awpL_nil ?_) | (refine awpL_skip rfl rfl ?_) | (refine awpQ_step TT rfl rfl rfl rfl sd ?_) | (refine awpQ_nil ?_) | (refine awpQ_skip rfl rfl ?_) | (refine awp_seq ?_) | (refine awp_region ?_) | (refine awp_block ?_) | (refine awp_exit ?_) | (refine awp_skip ?_) | (refine awp_ret ?_) | (refine awp_cond_t rfl ?_) | (refine awp_cond_f rfl ?_) | ((first | refine awpL_split rfl rfl rfl (fun hc => ?_) (fun hc => ?_) | refine awpQ_split rfl rfl rfl (fun hc => ?_) (fun hc => ?_) | refine awp_cond rfl (fun hc => ?_) (fun hc => ?_)) <;> ((try simp at hc) <;> try contradiction)))) <;> try (exfalso; omega))
    all_goals refine fin_ret rfl (by repeat' (first | exact trivial | exact Nat.zero_lt_one | omega | refine ⟨?_, ?_⟩)) (rfl) rfl
end Go.Proofs.Ytmkoifmokdmebaa
