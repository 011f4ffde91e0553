/-
  CONTRACTS: FormsOf of both packages, and its law.
-/
import Derived.Test.YtbaaelampabhdaabI3
set_option linter.unusedVariables false
set_option linter.unusedSimpArgs false
namespace Go.Proofs.Ytbaaelampabhdaa
open Go.RowKit

theorem up_18 {n : Int} (h : 3 * n * n ≤ 1000) : n ≤ 18 := by
  rcases Int.lt_or_le 18 n with c | c
  · have h1 := Int.mul_le_mul (a := 19) (b := 19) (c := n) (d := n) (by omega) (by omega) (by omega) (by omega)
    have h2 : 3 * n * n = 3 * (n * n) := Int.mul_assoc 3 n n
    omega
  · exact c
theorem three_sq {i N : Nat} (hN : N ≤ 18) (hi : i ≤ N) : 0 ≤ 3 * ((i : Int) + 1) * ((i : Int) + 1) ∧ 3 * ((i : Int) + 1) * ((i : Int) + 1) ≤ 1083 := by
  have h1 := sq_in (a := 3 * ((i : Int) + 1)) (b := (i : Int) + 1) (A := 57) (B := 19) (by omega) (by omega) (by omega) (by omega)
  have h2 := Int.mul_nonneg (show 0 ≤ 3 * ((i : Int) + 1) by omega) (show 0 ≤ (i : Int) + 1 by omega)
  omega
theorem stepF_yes {d a b : Int} (h1 : (b * b - d).tmod (4 * a) = 0) (h2 : lowB a b ((b * b - d).tdiv (4 * a)) = true) (h3 : primB a b ((b * b - d).tdiv (4 * a)) = true) : stepF d a b = [(a, b, (b * b - d).tdiv (4 * a))] := if_pos ⟨h1, h2, h3⟩
theorem stepF_no {d a b : Int} (h : ¬((b * b - d).tmod (4 * a) = 0 ∧ lowB a b ((b * b - d).tdiv (4 * a)) = true ∧ primB a b ((b * b - d).tdiv (4 * a)) = true)) : stepF d a b = [] := if_neg h
theorem prim_isForm {a b c : Int} (h : primB a b c = true) : isFormB a b c = true := by simp only [primB, Bool.and_eq_true] at h; exact h.1
set_option maxHeartbeats 2000000 in
theorem d_formsI (d : Int) (N : Nat) (hN : N ≤ 18) (hu : discB d = true → Upto d N) : Does Try.prog 25 [vI d] [] 1 (GotF 26 (if discB d then allF d N else []) 1) := by
  refine Does.intro TT Try.func25 rfl (by kernel_rfl) rfl rfl fun E hE => ?_
  cases hd : discB d
  · (repeat' (first | (refine awpL_step TT rfl rfl rfl sd ?_) | (refine awpL_nil ?_) | (refine awpL_skip rfl rfl ?_) | (refine awpQ_step TT rfl rfl rfl rfl sd ?_) | (refine awpQ_nil ?_) | (refine awpQ_skip rfl rfl ?_) | (refine awp_seq ?_) | (refine awp_region ?_) | ((first | refine awpL_ret (d_discI _) rfl rfl rfl rfl rfl rfl rfl rfl ft rfl rfl ?_ | refine awpQ_ret (d_discI _) rfl rfl rfl rfl rfl rfl rfl rfl ft rfl rfl ?_ | refine awpHop_ret _ (d_discI _) rfl rfl rfl rfl rfl rfl rfl rfl rfl ft rfl rfl sb rfl ?_) <;> simp only [hd]) | (refine awp_block ?_) | (refine awp_exit ?_) | (refine awp_skip ?_) | (refine awp_ret ?_) | (refine awp_cond_t rfl ?_) | (refine awp_cond_f rfl ?_) | (refine awp_quiet TM rfl (by kernel_rfl) ?_) | ((first | refine awpL_split rfl rfl rfl (fun hc => ?_) (fun hc => ?_) | refine awpQ_split rfl rfl rfl (fun hc => ?_) (fun hc => ?_) | refine awp_cond rfl (fun hc => ?_) (fun hc => ?_)) <;> ((try simp at hc) <;> try contradiction))))
    exact fin rfl (by repeat' (first | exact trivial | exact Nat.zero_lt_one | omega | refine ⟨?_, ?_⟩)) [] (vS3 1 0 0) [(1, .own 26 0 (.i3 []))] 2 (⟨0, Nat.le_refl _, rfl, rfl, rfl⟩) rfl ⟨trivial, ⟨rfl, trivial⟩, rfl⟩ rfl
  · obtain ⟨q1, q2, q3⟩ := discB_true.1 hd
    replace hu := hu hd
    (repeat' (first | (refine awpL_step TT rfl rfl rfl sd ?_) | (refine awpL_nil ?_) | (refine awpL_skip rfl rfl ?_) | (refine awpQ_step TT rfl rfl rfl rfl sd ?_) | (refine awpQ_nil ?_) | (refine awpQ_skip rfl rfl ?_) | (refine awp_seq ?_) | (refine awp_region ?_) | ((first | refine awpL_ret (d_discI _) rfl rfl rfl rfl rfl rfl rfl rfl ft rfl rfl ?_ | refine awpQ_ret (d_discI _) rfl rfl rfl rfl rfl rfl rfl rfl ft rfl rfl ?_ | refine awpHop_ret _ (d_discI _) rfl rfl rfl rfl rfl rfl rfl rfl rfl ft rfl rfl sb rfl ?_) <;> simp only [hd]) | (refine awp_block ?_) | (refine awp_exit ?_) | (refine awp_skip ?_) | (refine awp_ret ?_) | (refine awp_cond_t rfl ?_) | (refine awp_cond_f rfl ?_) | (refine awp_quiet TM rfl (by kernel_rfl) ?_) | ((first | refine awpL_split rfl rfl rfl (fun hc => ?_) (fun hc => ?_) | refine awpQ_split rfl rfl rfl (fun hc => ?_) (fun hc => ?_) | refine awp_cond rfl (fun hc => ?_) (fun hc => ?_)) <;> ((try simp at hc) <;> try contradiction))))
    refine awp_loop hE (fun p : Nat × Nat => p.1 ≤ N ∧ (allF d p.1).length ≤ p.2) (fun p => N - p.1)
      (fun p => [(0, vI d), (3, vS3 1 (allF d p.1).length p.2), (4, vI ((p.1 : Int) + 1))]) (fun p => [(1, .own 26 p.2 (.i3 (allF d p.1)))]) 2 [] (0, 0) ⟨Nat.zero_le _, Nat.le_refl _⟩ ⟨(by repeat' (first | exact trivial | refine ⟨rfl, ?_⟩ | refine ⟨congrArg some (congrArg vI (by first | omega | (simp; done) | (simp; omega))), ?_⟩ | refine ⟨sl_eqA (by first | omega | (simp; done) | (simp; omega)), ?_⟩)), (by repeat' (first | exact trivial | refine ⟨rfl, ?_⟩)), rfl⟩ ?_
    rintro ⟨i, cap⟩ ⟨h1, h2⟩
    dsimp only at h1 h2 ⊢
    have t1 := three_sq hN h1
    have hlen := allF_len (d := d) (i := i) (by omega)
    (repeat' (first | (refine awpL_step TT rfl rfl rfl sd ?_) | (refine awpL_nil ?_) | (refine awpL_skip rfl rfl ?_) | (refine awpQ_step TT rfl rfl rfl rfl sd ?_) | (refine awpQ_nil ?_) | (refine awpQ_skip rfl rfl ?_) | (refine awp_seq ?_) | (refine awp_region ?_) | (refine awp_block ?_) | (refine awp_exit ?_) | (refine awp_skip ?_) | (refine awp_ret ?_) | (refine awp_cond_t rfl ?_) | (refine awp_cond_f rfl ?_) | (refine awp_quiet TM rfl (by kernel_rfl) ?_) | ((first | refine awpL_split rfl rfl rfl (fun hc => ?_) (fun hc => ?_) | refine awpQ_split rfl rfl rfl (fun hc => ?_) (fun hc => ?_) | refine awp_cond rfl (fun hc => ?_) (fun hc => ?_)) <;> ((try simp at hc) <;> try contradiction))))
    · have hiN : i < N := by
        rcases Nat.lt_or_ge i N with c | c
        · exact c
        · have : i = N := by omega
          subst this
          exact absurd hc hu.at_
      refine awp_loop hE (fun p : Nat × Nat => p.1 ≤ 2 * i + 3 ∧ (allF d i ++ rowF d ((i : Int) + 1) p.1).length ≤ p.2) (fun p => 2 * i + 3 - p.1)
        (fun p => [(0, vI d), (3, vS3 1 (allF d i ++ rowF d ((i : Int) + 1) p.1).length p.2), (4, vI ((i : Int) + 1)), (5, vI (-((i : Int) + 1) + p.1))]) (fun p => [(1, .own 26 p.2 (.i3 (allF d i ++ rowF d ((i : Int) + 1) p.1)))]) 2 [] (0, cap) ⟨Nat.zero_le _, by simpa [rowF] using h2⟩ ⟨⟨rfl, sl_eq' (k := 1) (m := mp []) (by simp [rowF]), rfl, congrArg some (congrArg vI (by dsimp only; omega)), trivial⟩, ⟨own_i3 (by simp [rowF]), trivial⟩, rfl⟩ ?_
      rintro ⟨k, cp⟩ ⟨g1, g2⟩
      dsimp only at g1 g2 ⊢
      · have hrl := rowF_len (d := d) (a := (i : Int) + 1) (k := k)
        have hll : (allF d i ++ rowF d ((i : Int) + 1) k).length ≤ 1000 := by rw [List.length_append]; omega
        have hnext : rowF d ((i : Int) + 1) (k + 1) = rowF d ((i : Int) + 1) k ++ stepF d ((i : Int) + 1) (-((i : Int) + 1) + k) := rfl
        have m1 := sq_in (a := -((i : Int) + 1) + k) (b := -((i : Int) + 1) + k) (A := 20) (B := 20) (by omega) (by omega) (by omega) (by omega)
        have m2 := tdiv_bd ((-((i : Int) + 1) + k) * (-((i : Int) + 1) + k) - d) (4 * ((i : Int) + 1))
        ((repeat' (first | (refine awpL_step TT rfl rfl rfl sd ?_) | (refine awpL_nil ?_) | (refine awpL_skip rfl rfl ?_) | (refine awpQ_step TT rfl rfl rfl rfl sd ?_) | (refine awpQ_nil ?_) | (refine awpQ_skip rfl rfl ?_) | (refine awp_seq ?_) | (refine awp_region ?_) | (first | refine awpL_ret (d_lowI _ _ _ ⟨by omega, by omega⟩) rfl rfl rfl rfl rfl rfl rfl rfl ft rfl rfl ?_ | refine awpQ_ret (d_lowI _ _ _ ⟨by omega, by omega⟩) rfl rfl rfl rfl rfl rfl rfl rfl ft rfl rfl ?_ | refine awpHop_ret _ (d_lowI _ _ _ ⟨by omega, by omega⟩) rfl rfl rfl rfl rfl rfl rfl rfl rfl ft rfl rfl sb rfl ?_) | (first | refine awpL_ret (d_primI _ _ _) rfl rfl rfl rfl rfl rfl rfl rfl ft rfl rfl ?_ | refine awpQ_ret (d_primI _ _ _) rfl rfl rfl rfl rfl rfl rfl rfl ft rfl rfl ?_ | refine awpHop_ret _ (d_primI _ _ _) rfl rfl rfl rfl rfl rfl rfl rfl rfl ft rfl rfl sb rfl ?_) | (first | (refine awpL_append TT rfl rfl rfl rfl rfl sd ?_; intro cap hcap) | (refine awpHop_append TT _ rfl rfl rfl rfl rfl rfl sd sb rfl rfl ?_; intro cap hcap)) | (refine awp_block ?_) | (refine awp_exit ?_) | (refine awp_skip ?_) | (refine awp_ret ?_) | (refine awp_cond_t rfl ?_) | (refine awp_cond_f rfl ?_) | (refine awp_quiet TM rfl (by kernel_rfl) ?_) | ((first | refine awpL_split rfl rfl rfl (fun hc => ?_) (fun hc => ?_) | refine awpQ_split rfl rfl rfl (fun hc => ?_) (fun hc => ?_) | refine awp_cond rfl (fun hc => ?_) (fun hc => ?_)) <;> ((try simp at hc) <;> try contradiction)))) <;> try (exfalso; omega))
        · have hE : allF d i ++ rowF d ((i : Int) + 1) (k + 1) = allF d i ++ rowF d ((i : Int) + 1) k := by rw [hnext, stepF_no (by rintro ⟨u1, u2, u3⟩; first | exact absurd u1 (by assumption) | (revert hc; simp [u2, u3, prim_isForm u3])), List.append_nil]
          exact ⟨[], (k + 1, cp), ⟨by omega, by rw [hE]; exact g2⟩, (by first | omega | (dsimp only; omega)), ⟨⟨rfl, sl_eq' (k := 1) (m := mp []) (by dsimp only; rw [hE]), rfl, congrArg some (congrArg vI (by dsimp only; omega)), trivial⟩, ⟨own_i3 hE.symm, trivial⟩, rfl⟩⟩
        · have hE : allF d i ++ rowF d ((i : Int) + 1) (k + 1) = (allF d i ++ rowF d ((i : Int) + 1) k) ++ [((i : Int) + 1, -((i : Int) + 1) + k, ((-((i : Int) + 1) + k) * (-((i : Int) + 1) + k) - d).tdiv (4 * ((i : Int) + 1)))] := by rw [hnext, stepF_yes (by assumption) (by first | assumption | exact (show isFormB _ _ _ = true ∧ lowB _ _ _ = true by assumption).2) (by assumption), List.append_assoc]
          exact ⟨[(1, 4)], (k + 1, cap), ⟨by omega, by rw [hE, List.length_append]; simpa using hcap⟩, (by first | omega | (dsimp only; omega)), ⟨⟨rfl, sl_eq' (k := 1) (m := mp [(1, 4)]) (by dsimp only; rw [hE]; simp only [List.length_append, List.length_cons, List.length_nil]), rfl, congrArg some (congrArg vI (by dsimp only; omega)), trivial⟩, ⟨own_i3 hE.symm, trivial⟩, rfl⟩⟩
        · have hE : allF d i ++ rowF d ((i : Int) + 1) (k + 1) = allF d i ++ rowF d ((i : Int) + 1) k := by rw [hnext, stepF_no (by rintro ⟨u1, u2, u3⟩; first | exact absurd u1 (by assumption) | (revert hc; simp [u2, u3, prim_isForm u3])), List.append_nil]
          exact ⟨[], (k + 1, cp), ⟨by omega, by rw [hE]; exact g2⟩, (by first | omega | (dsimp only; omega)), ⟨⟨rfl, sl_eq' (k := 1) (m := mp []) (by dsimp only; rw [hE]), rfl, congrArg some (congrArg vI (by dsimp only; omega)), trivial⟩, ⟨own_i3 hE.symm, trivial⟩, rfl⟩⟩
        · have hE : allF d i ++ rowF d ((i : Int) + 1) (k + 1) = allF d i ++ rowF d ((i : Int) + 1) k := by rw [hnext, stepF_no (by rintro ⟨u1, u2, u3⟩; first | exact absurd u1 (by assumption) | (revert hc; simp [u2, u3, prim_isForm u3])), List.append_nil]
          exact ⟨[], (k + 1, cp), ⟨by omega, by rw [hE]; exact g2⟩, (by first | omega | (dsimp only; omega)), ⟨⟨rfl, sl_eq' (k := 1) (m := mp []) (by dsimp only; rw [hE]), rfl, congrArg some (congrArg vI (by dsimp only; omega)), trivial⟩, ⟨own_i3 hE.symm, trivial⟩, rfl⟩⟩
        · have : k = 2 * i + 3 := by omega
          subst this
          exact ⟨[], (i + 1, cp), ⟨by omega, g2⟩, (by first | omega | (dsimp only; omega)), ⟨(by repeat' (first | exact trivial | refine ⟨rfl, ?_⟩ | refine ⟨congrArg some (congrArg vI (by first | omega | (simp; done) | (simp; omega))), ?_⟩ | refine ⟨sl_eqA (by first | omega | (simp; done) | (simp; omega)), ?_⟩)), (by repeat' (first | exact trivial | refine ⟨rfl, ?_⟩)), rfl⟩⟩
    · have : i = N := by
        rcases Nat.lt_or_ge i N with c | c
        · exact absurd (hu.below i c) (by omega)
        · omega
      subst this
      exact fin rfl (by repeat' (first | exact trivial | exact Nat.zero_lt_one | omega | refine ⟨?_, ?_⟩)) [] (vS3 1 (allF d i).length cap) [(1, .own 26 cap (.i3 (allF d i)))] 2 (⟨cap, h2, rfl, rfl, rfl⟩) rfl ⟨trivial, ⟨rfl, trivial⟩, rfl⟩ rfl
set_option maxHeartbeats 2000000 in
theorem d_formsS (d : Int) (N : Nat) (hN : N ≤ 18) (hu : discB d = true → Upto d N) : Does Try.prog 24 [vI d] [] 1 (GotF 26 (if discB d then allF d N else []) 1) := by
  refine Does.intro TT Try.func24 rfl (by kernel_rfl) rfl rfl fun E hE => ?_
  cases hd : discB d
  · (repeat' (first | (refine awpL_step TT rfl rfl rfl sd ?_) | (refine awpL_nil ?_) | (refine awpL_skip rfl rfl ?_) | (refine awpQ_step TT rfl rfl rfl rfl sd ?_) | (refine awpQ_nil ?_) | (refine awpQ_skip rfl rfl ?_) | (refine awp_seq ?_) | (refine awp_region ?_) | ((first | refine awpL_ret (d_discS _) rfl rfl rfl rfl rfl rfl rfl rfl ft rfl rfl ?_ | refine awpQ_ret (d_discS _) rfl rfl rfl rfl rfl rfl rfl rfl ft rfl rfl ?_ | refine awpHop_ret _ (d_discS _) rfl rfl rfl rfl rfl rfl rfl rfl rfl ft rfl rfl sb rfl ?_) <;> simp only [hd]) | (refine awp_block ?_) | (refine awp_exit ?_) | (refine awp_skip ?_) | (refine awp_ret ?_) | (refine awp_cond_t rfl ?_) | (refine awp_cond_f rfl ?_) | (refine awp_quiet TM rfl (by kernel_rfl) ?_) | ((first | refine awpL_split rfl rfl rfl (fun hc => ?_) (fun hc => ?_) | refine awpQ_split rfl rfl rfl (fun hc => ?_) (fun hc => ?_) | refine awp_cond rfl (fun hc => ?_) (fun hc => ?_)) <;> ((try simp at hc) <;> try contradiction))))
    exact fin rfl (by repeat' (first | exact trivial | exact Nat.zero_lt_one | omega | refine ⟨?_, ?_⟩)) [] (vS3 1 0 0) [(1, .own 26 0 (.i3 []))] 2 (⟨0, Nat.le_refl _, rfl, rfl, rfl⟩) rfl ⟨trivial, ⟨rfl, trivial⟩, rfl⟩ rfl
  · obtain ⟨q1, q2, q3⟩ := discB_true.1 hd
    replace hu := hu hd
    (repeat' (first | (refine awpL_step TT rfl rfl rfl sd ?_) | (refine awpL_nil ?_) | (refine awpL_skip rfl rfl ?_) | (refine awpQ_step TT rfl rfl rfl rfl sd ?_) | (refine awpQ_nil ?_) | (refine awpQ_skip rfl rfl ?_) | (refine awp_seq ?_) | (refine awp_region ?_) | ((first | refine awpL_ret (d_discS _) rfl rfl rfl rfl rfl rfl rfl rfl ft rfl rfl ?_ | refine awpQ_ret (d_discS _) rfl rfl rfl rfl rfl rfl rfl rfl ft rfl rfl ?_ | refine awpHop_ret _ (d_discS _) rfl rfl rfl rfl rfl rfl rfl rfl rfl ft rfl rfl sb rfl ?_) <;> simp only [hd]) | (refine awp_block ?_) | (refine awp_exit ?_) | (refine awp_skip ?_) | (refine awp_ret ?_) | (refine awp_cond_t rfl ?_) | (refine awp_cond_f rfl ?_) | (refine awp_quiet TM rfl (by kernel_rfl) ?_) | ((first | refine awpL_split rfl rfl rfl (fun hc => ?_) (fun hc => ?_) | refine awpQ_split rfl rfl rfl (fun hc => ?_) (fun hc => ?_) | refine awp_cond rfl (fun hc => ?_) (fun hc => ?_)) <;> ((try simp at hc) <;> try contradiction))))
    refine awp_loop hE (fun p : Nat × Nat => p.1 ≤ N ∧ (allF d p.1).length ≤ p.2) (fun p => N - p.1)
      (fun p => [(0, vI d), (3, vS3 1 (allF d p.1).length p.2), (4, vI ((p.1 : Int) + 1))]) (fun p => [(1, .own 26 p.2 (.i3 (allF d p.1)))]) 2 [] (0, 0) ⟨Nat.zero_le _, Nat.le_refl _⟩ ⟨(by repeat' (first | exact trivial | refine ⟨rfl, ?_⟩ | refine ⟨congrArg some (congrArg vI (by first | omega | (simp; done) | (simp; omega))), ?_⟩ | refine ⟨sl_eqA (by first | omega | (simp; done) | (simp; omega)), ?_⟩)), (by repeat' (first | exact trivial | refine ⟨rfl, ?_⟩)), rfl⟩ ?_
    rintro ⟨i, cap⟩ ⟨h1, h2⟩
    dsimp only at h1 h2 ⊢
    have t1 := three_sq hN h1
    have hlen := allF_len (d := d) (i := i) (by omega)
    (repeat' (first | (refine awpL_step TT rfl rfl rfl sd ?_) | (refine awpL_nil ?_) | (refine awpL_skip rfl rfl ?_) | (refine awpQ_step TT rfl rfl rfl rfl sd ?_) | (refine awpQ_nil ?_) | (refine awpQ_skip rfl rfl ?_) | (refine awp_seq ?_) | (refine awp_region ?_) | (refine awp_block ?_) | (refine awp_exit ?_) | (refine awp_skip ?_) | (refine awp_ret ?_) | (refine awp_cond_t rfl ?_) | (refine awp_cond_f rfl ?_) | (refine awp_quiet TM rfl (by kernel_rfl) ?_) | ((first | refine awpL_split rfl rfl rfl (fun hc => ?_) (fun hc => ?_) | refine awpQ_split rfl rfl rfl (fun hc => ?_) (fun hc => ?_) | refine awp_cond rfl (fun hc => ?_) (fun hc => ?_)) <;> ((try simp at hc) <;> try contradiction))))
    · have hiN : i < N := by
        rcases Nat.lt_or_ge i N with c | c
        · exact c
        · have : i = N := by omega
          subst this
          exact absurd hc hu.at_
      refine awp_loop hE (fun p : Nat × Nat => p.1 ≤ 2 * i + 3 ∧ (allF d i ++ rowF d ((i : Int) + 1) p.1).length ≤ p.2) (fun p => 2 * i + 3 - p.1)
        (fun p => [(0, vI d), (3, vS3 1 (allF d i ++ rowF d ((i : Int) + 1) p.1).length p.2), (4, vI ((i : Int) + 1)), (5, vI (-((i : Int) + 1) + p.1))]) (fun p => [(1, .own 26 p.2 (.i3 (allF d i ++ rowF d ((i : Int) + 1) p.1)))]) 2 [] (0, cap) ⟨Nat.zero_le _, by simpa [rowF] using h2⟩ ⟨⟨rfl, sl_eq' (k := 1) (m := mp []) (by simp [rowF]), rfl, congrArg some (congrArg vI (by dsimp only; omega)), trivial⟩, ⟨own_i3 (by simp [rowF]), trivial⟩, rfl⟩ ?_
      rintro ⟨k, cp⟩ ⟨g1, g2⟩
      dsimp only at g1 g2 ⊢
      · have hrl := rowF_len (d := d) (a := (i : Int) + 1) (k := k)
        have hll : (allF d i ++ rowF d ((i : Int) + 1) k).length ≤ 1000 := by rw [List.length_append]; omega
        have hnext : rowF d ((i : Int) + 1) (k + 1) = rowF d ((i : Int) + 1) k ++ stepF d ((i : Int) + 1) (-((i : Int) + 1) + k) := rfl
        have m1 := sq_in (a := -((i : Int) + 1) + k) (b := -((i : Int) + 1) + k) (A := 20) (B := 20) (by omega) (by omega) (by omega) (by omega)
        have m2 := tdiv_bd ((-((i : Int) + 1) + k) * (-((i : Int) + 1) + k) - d) (4 * ((i : Int) + 1))
        ((repeat' (first | (refine awpL_step TT rfl rfl rfl sd ?_) | (refine awpL_nil ?_) | (refine awpL_skip rfl rfl ?_) | (refine awpQ_step TT rfl rfl rfl rfl sd ?_) | (refine awpQ_nil ?_) | (refine awpQ_skip rfl rfl ?_) | (refine awp_seq ?_) | (refine awp_region ?_) | (first | refine awpL_ret (d_isRedS _ _ _) rfl rfl rfl rfl rfl rfl rfl rfl ft rfl rfl ?_ | refine awpQ_ret (d_isRedS _ _ _) rfl rfl rfl rfl rfl rfl rfl rfl ft rfl rfl ?_ | refine awpHop_ret _ (d_isRedS _ _ _) rfl rfl rfl rfl rfl rfl rfl rfl rfl ft rfl rfl sb rfl ?_) | (first | refine awpL_ret (d_primS _ _ _) rfl rfl rfl rfl rfl rfl rfl rfl ft rfl rfl ?_ | refine awpQ_ret (d_primS _ _ _) rfl rfl rfl rfl rfl rfl rfl rfl ft rfl rfl ?_ | refine awpHop_ret _ (d_primS _ _ _) rfl rfl rfl rfl rfl rfl rfl rfl rfl ft rfl rfl sb rfl ?_) | (first | (refine awpL_append TT rfl rfl rfl rfl rfl sd ?_; intro cap hcap) | (refine awpHop_append TT _ rfl rfl rfl rfl rfl rfl sd sb rfl rfl ?_; intro cap hcap)) | (refine awp_block ?_) | (refine awp_exit ?_) | (refine awp_skip ?_) | (refine awp_ret ?_) | (refine awp_cond_t rfl ?_) | (refine awp_cond_f rfl ?_) | (refine awp_quiet TM rfl (by kernel_rfl) ?_) | ((first | refine awpL_split rfl rfl rfl (fun hc => ?_) (fun hc => ?_) | refine awpQ_split rfl rfl rfl (fun hc => ?_) (fun hc => ?_) | refine awp_cond rfl (fun hc => ?_) (fun hc => ?_)) <;> ((try simp at hc) <;> try contradiction)))) <;> try (exfalso; omega))
        · have hE : allF d i ++ rowF d ((i : Int) + 1) (k + 1) = (allF d i ++ rowF d ((i : Int) + 1) k) ++ [((i : Int) + 1, -((i : Int) + 1) + k, ((-((i : Int) + 1) + k) * (-((i : Int) + 1) + k) - d).tdiv (4 * ((i : Int) + 1)))] := by rw [hnext, stepF_yes (by assumption) (by first | assumption | exact (show isFormB _ _ _ = true ∧ lowB _ _ _ = true by assumption).2) (by assumption), List.append_assoc]
          exact ⟨[(1, 4)], (k + 1, cap), ⟨by omega, by rw [hE, List.length_append]; simpa using hcap⟩, (by first | omega | (dsimp only; omega)), ⟨⟨rfl, sl_eq' (k := 1) (m := mp [(1, 4)]) (by dsimp only; rw [hE]; simp only [List.length_append, List.length_cons, List.length_nil]), rfl, congrArg some (congrArg vI (by dsimp only; omega)), trivial⟩, ⟨own_i3 hE.symm, trivial⟩, rfl⟩⟩
        · have hE : allF d i ++ rowF d ((i : Int) + 1) (k + 1) = allF d i ++ rowF d ((i : Int) + 1) k := by rw [hnext, stepF_no (by rintro ⟨u1, u2, u3⟩; first | exact absurd u1 (by assumption) | (revert hc; simp [u2, u3, prim_isForm u3])), List.append_nil]
          exact ⟨[], (k + 1, cp), ⟨by omega, by rw [hE]; exact g2⟩, (by first | omega | (dsimp only; omega)), ⟨⟨rfl, sl_eq' (k := 1) (m := mp []) (by dsimp only; rw [hE]), rfl, congrArg some (congrArg vI (by dsimp only; omega)), trivial⟩, ⟨own_i3 hE.symm, trivial⟩, rfl⟩⟩
        · have hE : allF d i ++ rowF d ((i : Int) + 1) (k + 1) = allF d i ++ rowF d ((i : Int) + 1) k := by rw [hnext, stepF_no (by rintro ⟨u1, u2, u3⟩; first | exact absurd u1 (by assumption) | (revert hc; simp [u2, u3, prim_isForm u3])), List.append_nil]
          exact ⟨[], (k + 1, cp), ⟨by omega, by rw [hE]; exact g2⟩, (by first | omega | (dsimp only; omega)), ⟨⟨rfl, sl_eq' (k := 1) (m := mp []) (by dsimp only; rw [hE]), rfl, congrArg some (congrArg vI (by dsimp only; omega)), trivial⟩, ⟨own_i3 hE.symm, trivial⟩, rfl⟩⟩
        · have hE : allF d i ++ rowF d ((i : Int) + 1) (k + 1) = allF d i ++ rowF d ((i : Int) + 1) k := by rw [hnext, stepF_no (by rintro ⟨u1, u2, u3⟩; first | exact absurd u1 (by assumption) | (revert hc; simp [u2, u3, prim_isForm u3])), List.append_nil]
          exact ⟨[], (k + 1, cp), ⟨by omega, by rw [hE]; exact g2⟩, (by first | omega | (dsimp only; omega)), ⟨⟨rfl, sl_eq' (k := 1) (m := mp []) (by dsimp only; rw [hE]), rfl, congrArg some (congrArg vI (by dsimp only; omega)), trivial⟩, ⟨own_i3 hE.symm, trivial⟩, rfl⟩⟩
        · have : k = 2 * i + 3 := by omega
          subst this
          exact ⟨[], (i + 1, cp), ⟨by omega, g2⟩, (by first | omega | (dsimp only; omega)), ⟨(by repeat' (first | exact trivial | refine ⟨rfl, ?_⟩ | refine ⟨congrArg some (congrArg vI (by first | omega | (simp; done) | (simp; omega))), ?_⟩ | refine ⟨sl_eqA (by first | omega | (simp; done) | (simp; omega)), ?_⟩)), (by repeat' (first | exact trivial | refine ⟨rfl, ?_⟩)), rfl⟩⟩
    · have : i = N := by
        rcases Nat.lt_or_ge i N with c | c
        · exact absurd (hu.below i c) (by omega)
        · omega
      subst this
      exact fin rfl (by repeat' (first | exact trivial | exact Nat.zero_lt_one | omega | refine ⟨?_, ?_⟩)) [] (vS3 1 (allF d i).length cap) [(1, .own 26 cap (.i3 (allF d i)))] 2 (⟨cap, h2, rfl, rfl, rfl⟩) rfl ⟨trivial, ⟨rfl, trivial⟩, rfl⟩ rfl
end Go.Proofs.Ytbaaelampabhdaa
