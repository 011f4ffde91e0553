/-
  CONTRACTS: identity matrices.
-/
import Derived.Test.YtbgeooalhoaemaabMat
set_option linter.unusedVariables false
set_option linter.unusedSimpArgs false
namespace Go.Proofs.Ytbgeooalhoaemaa
open Go.RowKit

def idTo (n i : Nat) : List Int := (List.range (n * n)).map fun p => if p / n = p % n ∧ p / n < i then 1 else 0
@[simp] theorem idTo_len {n i : Nat} : (idTo n i).length = n * n := by simp [idTo]
theorem idTo_zero {n : Nat} : idTo n 0 = List.replicate (n * n) 0 := by
  apply List.ext_getElem (by simp)
  intro p h1 h2
  simp [idTo]
theorem idTo_set {n i : Nat} (h : i < n) : (idTo n i).set (i * n + i) 1 = idTo n (i + 1) := by
  apply List.ext_getElem (by simp)
  intro p h1 h2
  rw [List.getElem_set]
  simp only [idTo, List.getElem_map, List.getElem_range]
  by_cases c : i * n + i = p
  · subst c
    have e1 : (i * n + i) / n = i := by rw [Nat.mul_comm, Nat.mul_add_div (by omega), Nat.div_eq_of_lt h, Nat.add_zero]
    have e2 : (i * n + i) % n = i := by rw [Nat.mul_comm, Nat.mul_add_mod, Nat.mod_eq_of_lt h]
    rw [if_pos rfl, e1, e2, if_pos ⟨rfl, Nat.lt_succ_self i⟩]
  · rw [if_neg c]
    have hd := Nat.div_add_mod p n
    by_cases q : p / n = p % n
    · have hne : p / n ≠ i := fun e => c (by rw [← hd, ← q, e, Nat.mul_comm])
      have : (p / n = p % n ∧ p / n < i) ↔ (p / n = p % n ∧ p / n < i + 1) := by
        generalize p / n = u at *
        exact ⟨fun h => ⟨h.1, by omega⟩, fun h => ⟨h.1, by omega⟩⟩
      simp only [this]
    · rw [if_neg (fun hh => q hh.1), if_neg (fun hh => q hh.1)]
def IdOut (n : Int) (t : TypeId) (v : AV) (Hout : List (Nat × Blk)) (n1 : Nat) : Prop :=
  match inB n 0 24 with
  | true => v = .tup [.agg [.int n, .int n, .sl 1 1 0 (n.toNat * n.toNat) (n.toNat * n.toNat)], .one (.bool true)] ∧ Hout = [(1, .own t (n.toNat * n.toNat) (.ints (idTo n.toNat n.toNat)))] ∧ n1 = 2
  | false => v = .tup [.agg zeroM, .one (.bool false)] ∧ Hout = [] ∧ n1 = 1
theorem id_lt {i n : Nat} (h : i < n) (hn : n ≤ 24) : (0 ≤ (i : Int) * n ∧ (i : Int) * n ≤ 576) ∧ (i : Int) * n + i < ((n * n : Nat) : Int) := by
  have h1 : i * n + i < n * n := cell_lt h h
  have h2 : i * n ≤ 24 * 24 := Nat.mul_le_mul (by omega) hn
  have e : (i : Int) * n = ((i * n : Nat) : Int) := by simp
  rw [e]
  omega
set_option maxHeartbeats 1000000 in
theorem d_identS (n : Int) : Does Try.prog 102 [vI n] [] 1 (IdOut n 3) := by
  refine Does.intro TT Try.func102 rfl (by kernel_rfl) rfl rfl fun E hE => ?_
  cases hn : inB n 0 24
  · (repeat' (first | (refine awpL_step TT rfl rfl rfl sd ?_) | (refine awpL_nil ?_) | (refine awpL_skip rfl rfl ?_) | (refine awpQ_step TT rfl rfl rfl rfl sd ?_) | (refine awpQ_nil ?_) | (refine awpQ_skip rfl rfl ?_) | (refine awp_seq ?_) | (refine awp_region ?_) | ((first | refine awpL_ret (d_l1In _ _ _) rfl rfl rfl rfl rfl rfl rfl rfl ft rfl rfl ?_ | refine awpQ_ret (d_l1In _ _ _) rfl rfl rfl rfl rfl rfl rfl rfl ft rfl rfl ?_ | refine awpHop_ret _ (d_l1In _ _ _) rfl rfl rfl rfl rfl rfl rfl rfl rfl ft rfl rfl sb rfl ?_) <;> simp only [hn]) | (refine awp_block ?_) | (refine awp_exit ?_) | (refine awp_skip ?_) | (refine awp_ret ?_) | (refine awp_cond_t rfl ?_) | (refine awp_cond_f rfl ?_) | (refine awp_quiet TM rfl (by kernel_rfl) ?_) | ((first | refine awpL_split rfl rfl rfl (fun hc => ?_) (fun hc => ?_) | refine awpQ_split rfl rfl rfl (fun hc => ?_) (fun hc => ?_) | refine awp_cond rfl (fun hc => ?_) (fun hc => ?_)) <;> ((try simp at hc) <;> try contradiction))))
    exact fin rfl (by repeat' (first | exact trivial | exact Nat.zero_lt_one | omega | refine ⟨?_, ?_⟩)) [] (.tup [.agg zeroM, .one (.bool false)]) [] 1 (by unfold IdOut; rw [hn]; exact ⟨rfl, rfl, rfl⟩) rfl ⟨trivial, trivial, rfl⟩ rfl
  · have hn' := inB_true.1 hn
    obtain ⟨m, rfl⟩ := Int.eq_ofNat_of_zero_le hn'.1
    have hm : m ≤ 24 := by omega
    (repeat' (first | (refine awpL_step TT rfl rfl rfl sd ?_) | (refine awpL_nil ?_) | (refine awpL_skip rfl rfl ?_) | (refine awpQ_step TT rfl rfl rfl rfl sd ?_) | (refine awpQ_nil ?_) | (refine awpQ_skip rfl rfl ?_) | (refine awp_seq ?_) | (refine awp_region ?_) | ((first | refine awpL_ret (d_l1In _ _ _) rfl rfl rfl rfl rfl rfl rfl rfl ft rfl rfl ?_ | refine awpQ_ret (d_l1In _ _ _) rfl rfl rfl rfl rfl rfl rfl rfl ft rfl rfl ?_ | refine awpHop_ret _ (d_l1In _ _ _) rfl rfl rfl rfl rfl rfl rfl rfl rfl ft rfl rfl sb rfl ?_) <;> simp only [hn]) | ((first | refine awpL_one (d_newS _ _ hm hm) rfl rfl rfl rfl rfl rfl rfl ft rfl rfl (NewM.out) ?_ | refine awpHop_one _ (d_newS _ _ hm hm) rfl rfl rfl rfl rfl rfl rfl rfl ft rfl rfl (NewM.out) sb rfl rfl ?_); rintro v b ⟨rfl, he, -⟩; cases he) | (refine awp_block ?_) | (refine awp_exit ?_) | (refine awp_skip ?_) | (refine awp_ret ?_) | (refine awp_cond_t rfl ?_) | (refine awp_cond_f rfl ?_) | (refine awp_quiet TM rfl (by kernel_rfl) ?_) | ((first | refine awpL_split rfl rfl rfl (fun hc => ?_) (fun hc => ?_) | refine awpQ_split rfl rfl rfl (fun hc => ?_) (fun hc => ?_) | refine awp_cond rfl (fun hc => ?_) (fun hc => ?_)) <;> ((try simp at hc) <;> try contradiction))))
    refine awp_loop hE (fun i : Nat => i ≤ m) (fun i => m - i)
      (fun i => [(0, vI m), (2, .one (.ptr 1 3 0 0)), (4, .one (.ptr 3 3 0 0)), (5, vI i)])
      (fun i => [(1, .own 27 1 (.lit zeroM)), (2, .own 3 (m * m) (.ints (idTo m i))), (3, .own 27 1 (.lit [.int m, .int m, .sl 2 1 0 (m * m) (m * m)]))]) 4 [] 0 (Nat.zero_le _) ⟨(by repeat' (first | exact trivial | refine ⟨rfl, ?_⟩ | refine ⟨congrArg some (congrArg vI (by first | omega | (simp; done) | (simp; omega))), ?_⟩ | refine ⟨sl_eqA (by first | omega | (simp; done) | (simp; omega)), ?_⟩)), ⟨rfl, own_ints idTo_zero.symm, rfl, trivial⟩, rfl⟩ ?_
    intro i hi
    have hlen : (idTo m i).length = m * m := idTo_len
    by_cases c : i < m
    · have hb := id_lt c hm
      ((repeat' (first | (refine awpL_step TT rfl rfl rfl sd ?_) | (refine awpL_nil ?_) | (refine awpL_skip rfl rfl ?_) | (refine awpQ_step TT rfl rfl rfl rfl sd ?_) | (refine awpQ_nil ?_) | (refine awpQ_skip rfl rfl ?_) | (refine awp_seq ?_) | (refine awp_region ?_) | (refine awp_block ?_) | (refine awp_exit ?_) | (refine awp_skip ?_) | (refine awp_ret ?_) | (refine awp_cond_t rfl ?_) | (refine awp_cond_f rfl ?_) | (refine awp_quiet TM rfl (by kernel_rfl) ?_) | ((first | refine awpL_split rfl rfl rfl (fun hc => ?_) (fun hc => ?_) | refine awpQ_split rfl rfl rfl (fun hc => ?_) (fun hc => ?_) | refine awp_cond rfl (fun hc => ?_) (fun hc => ?_)) <;> ((try simp at hc) <;> try contradiction)))) <;> try (exfalso; omega))
      · refine ⟨[], i + 1, c, (by first | omega | (dsimp only; omega)), ⟨(by repeat' (first | exact trivial | refine ⟨rfl, ?_⟩ | refine ⟨congrArg some (congrArg vI (by first | omega | (simp; done) | (simp; omega))), ?_⟩ | refine ⟨sl_eqA (by first | omega | (simp; done) | (simp; omega)), ?_⟩)), ⟨rfl, own_ints ?_, rfl, trivial⟩, rfl⟩⟩
        rw [← idTo_set c]
        congr 1
        have : ((i : Int) * m + i).toNat = i * m + i := by
          have e : ((i : Int) * m + i) = ((i * m + i : Nat) : Int) := by simp
          rw [e]; exact Int.toNat_natCast _
        omega
    · obtain rfl : i = m := by omega
      ((repeat' (first | (refine awpL_step TT rfl rfl rfl sd ?_) | (refine awpL_nil ?_) | (refine awpL_skip rfl rfl ?_) | (refine awpQ_step TT rfl rfl rfl rfl sd ?_) | (refine awpQ_nil ?_) | (refine awpQ_skip rfl rfl ?_) | (refine awp_seq ?_) | (refine awp_region ?_) | (refine awp_block ?_) | (refine awp_exit ?_) | (refine awp_skip ?_) | (refine awp_ret ?_) | (refine awp_cond_t rfl ?_) | (refine awp_cond_f rfl ?_) | (refine awp_quiet TM rfl (by kernel_rfl) ?_) | ((first | refine awpL_split rfl rfl rfl (fun hc => ?_) (fun hc => ?_) | refine awpQ_split rfl rfl rfl (fun hc => ?_) (fun hc => ?_) | refine awp_cond rfl (fun hc => ?_) (fun hc => ?_)) <;> ((try simp at hc) <;> try contradiction)))) <;> try (exfalso; omega))
      exact fin rfl (by repeat' (first | exact trivial | exact Nat.zero_lt_one | omega | refine ⟨?_, ?_⟩)) [(1, 2)] (.tup [.agg [.int i, .int i, .sl 1 1 0 (i * i) (i * i)], .one (.bool true)]) [(1, .own 3 (i * i) (.ints (idTo i i)))] 2 (by unfold IdOut; rw [hn]; exact ⟨rfl, rfl, rfl⟩) rfl ⟨trivial, ⟨rfl, trivial⟩, rfl⟩ rfl
end Go.Proofs.Ytbgeooalhoaemaa
