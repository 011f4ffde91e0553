/-
  TEXTS OF THE PROOF, put together: bPrim, bSwap.
-/
import Derived.Test.YtfkbjkmlpinoeaaGreatM09
set_option linter.unusedVariables false
set_option linter.unusedSimpArgs false
/-
  CONTRACTS: rows made primitive, of both packages.
-/
namespace Go.Proofs.YtfkbjkmlpinoeaaGreat
open Go.RowKit

theorem off_nat {off k : Nat} : off + ((k : Int)).toNat = off + k := by omega
theorem d_nonZeroF (n : Int) : Does Tryz.prog 166 [vI n] [] 1 (Ret (vB (decide (n ≠ 0))) 1) := by
  refine Does.intro TT Tryz.func166 rfl (by kernel_rfl) rfl rfl fun E hE => ?_
  (repeat' (first | refine w_a TT rfl rfl rfl sd ?_ | refine w_b ?_ | refine w_c rfl rfl ?_ | refine w_d TT rfl rfl rfl rfl sd ?_ | refine w_e ?_ | refine w_f rfl rfl ?_ | refine w_g ?_ | refine w_h ?_ | refine w_i ?_ | refine w_j ?_ | refine w_k ?_ | refine w_l ?_ | refine w_m rfl ?_ | refine w_n rfl ?_ | refine w_o TM rfl kr ?_ | ((first | refine w_p rfl rfl rfl (fun hc => ?_) (fun hc => ?_) | refine w_q rfl rfl rfl (fun hc => ?_) (fun hc => ?_) | refine w_r rfl (fun hc => ?_) (fun hc => ?_)) <;> ((try simp at hc) <;> try contradiction))))
  refine fin_ret rfl w_3 (rfl) rfl
def FirstN (xs : List Int) (off n : Nat) (j : Int) : Prop := ((∀ k, k < n → xs.getD (off + k) 0 = 0) ∧ j = -1) ∨ ∃ k, k < n ∧ j = (k : Int) ∧ xs.getD (off + k) 0 ≠ 0 ∧ ∀ i, i < k → xs.getD (off + i) 0 = 0
def FoundF (xs : List Int) (off n : Nat) (v : AV) (Hout : List (Nat × Blk)) (n1 : Nat) : Prop := ∃ j : Int, v = vI j ∧ Hout = [] ∧ n1 = 2 ∧ FirstN xs off n j
theorem d_indexF (xs : List Int) (off n c : Nat) (hl : off + n ≤ xs.length) (hx : xs.length ≤ 1099511627776) : Does Tryz.prog 150 [vS 1 1 off n c, .one (.fn 166 [])] [(1, .ro (.ints xs))] 2 (FoundF xs off n) := by
  refine Does.intro TT Tryz.func150 rfl (by kernel_rfl) rfl rfl fun E hE => ?_
  (repeat' (first | refine w_a TT rfl rfl rfl sd ?_ | refine w_b ?_ | refine w_c rfl rfl ?_ | refine w_d TT rfl rfl rfl rfl sd ?_ | refine w_e ?_ | refine w_f rfl rfl ?_ | refine w_g ?_ | refine w_h ?_ | refine w_i ?_ | refine w_j ?_ | refine w_k ?_ | refine w_l ?_ | refine w_m rfl ?_ | refine w_n rfl ?_ | refine w_o TM rfl kr ?_ | ((first | refine w_p rfl rfl rfl (fun hc => ?_) (fun hc => ?_) | refine w_q rfl rfl rfl (fun hc => ?_) (fun hc => ?_) | refine w_r rfl (fun hc => ?_) (fun hc => ?_)) <;> ((try simp at hc) <;> try contradiction))))
  refine w_G hE (fun k : Nat => k ≤ n ∧ ∀ i, i < k → xs.getD (off + i) 0 = 0) (fun k => n - k)
    (fun k => [(0, vS 1 1 off n c), (1, .one (.fn 166 [])), (7, vI n), (8, vI k)]) (fun _ => [(1, .ro (.ints xs))]) 2 [] 0 ⟨Nat.zero_le _, fun i hi => by omega⟩ ⟨w_1, w_2, rfl⟩ ?_
  rintro k ⟨h1, h2⟩
  have e := off_nat (off := off) (k := k)
  ((repeat' (first | refine w_a TT rfl rfl rfl sd ?_ | refine w_b ?_ | refine w_c rfl rfl ?_ | refine w_d TT rfl rfl rfl rfl sd ?_ | refine w_e ?_ | refine w_f rfl rfl ?_ | refine w_g ?_ | refine w_h ?_ | (first | refine w_z (d_nonZeroF _) rfl rfl rfl rfl rfl rfl rfl rfl ft rfl rfl ?_ | refine w_A (d_nonZeroF _) rfl rfl rfl rfl rfl rfl rfl rfl ft rfl rfl ?_) | refine w_i ?_ | refine w_j ?_ | refine w_k ?_ | refine w_l ?_ | refine w_m rfl ?_ | refine w_n rfl ?_ | refine w_o TM rfl kr ?_ | ((first | refine w_p rfl rfl rfl (fun hc => ?_) (fun hc => ?_) | refine w_q rfl rfl rfl (fun hc => ?_) (fun hc => ?_) | refine w_r rfl (fun hc => ?_) (fun hc => ?_)) <;> ((try simp at hc) <;> try contradiction)))) <;> try (exfalso; omega))
  · have hz : xs.getD (off + k) 0 ≠ 0 := by rw [List.getD_eq_getElem?_getD]; simpa using hc
    exact fin rfl w_3 [] (vI k) [] 2 ⟨_, rfl, rfl, rfl, .inr ⟨k, by omega, rfl, hz, h2⟩⟩ rfl ⟨trivial, trivial, rfl⟩ rfl
  · have hz : xs.getD (off + k) 0 = 0 := by rw [List.getD_eq_getElem?_getD]; simpa using hc
    refine ⟨[], k + 1, ⟨by omega, fun i hi => ?_⟩, w_4, ⟨w_1, w_2, rfl⟩⟩
    rcases Nat.lt_or_ge i k with q | q
    · exact h2 i q
    · obtain rfl : i = k := by omega
      exact hz
  · obtain rfl : k = n := by omega
    exact fin rfl w_3 [] (vI (-1)) [] 2 ⟨_, rfl, rfl, rfl, .inl ⟨h2, rfl⟩⟩ rfl ⟨trivial, trivial, rfl⟩ rfl
theorem d_firstCell (xs : List Int) (off n c : Nat) (hl : off + n ≤ xs.length) (hx : xs.length ≤ 1099511627776) : Does Tryz.prog 149 [vS 1 1 off n c] [(1, .ro (.ints xs))] 2 (FoundF xs off n) := by
  refine Does.intro TT Tryz.func149 rfl (by kernel_rfl) rfl rfl fun E hE => ?_
  (repeat' (first | refine w_a TT rfl rfl rfl sd ?_ | refine w_b ?_ | refine w_c rfl rfl ?_ | refine w_d TT rfl rfl rfl rfl sd ?_ | refine w_e ?_ | refine w_f rfl rfl ?_ | refine w_g ?_ | refine w_h ?_ | ((refine w_E (d_indexF xs off n _ hl hx) rfl rfl rfl rfl rfl rfl rfl ft rfl ?_); rintro v Hout n1 ⟨j, rfl, rfl, rfl, hj⟩) | refine w_i ?_ | refine w_j ?_ | refine w_k ?_ | refine w_l ?_ | refine w_m rfl ?_ | refine w_n rfl ?_ | refine w_o TM rfl kr ?_ | ((first | refine w_p rfl rfl rfl (fun hc => ?_) (fun hc => ?_) | refine w_q rfl rfl rfl (fun hc => ?_) (fun hc => ?_) | refine w_r rfl (fun hc => ?_) (fun hc => ?_)) <;> ((try simp at hc) <;> try contradiction))))
  exact fin rfl w_3 [] (vI j) [] 2 ⟨_, rfl, rfl, rfl, hj⟩ rfl ⟨trivial, trivial, rfl⟩ rfl
set_option maxHeartbeats 1000000 in
theorem d_primI (xs : List Int) (off n c cap : Nat) (hl : off + n ≤ xs.length) (hx : xs.length ≤ 1099511627776) (hn : xs.all numB = true) : Does Tryz.prog 109 [vS 1 1 off n c] [(1, .own 3 cap (.ints xs))] 2 (SetM 3 cap (primAt xs off n)) := by
  refine Does.intro TT Tryz.func109 rfl (by kernel_rfl) rfl rfl fun E hE => ?_
  (repeat' (first | refine w_a TT rfl rfl rfl sd ?_ | refine w_b ?_ | refine w_c rfl rfl ?_ | refine w_d TT rfl rfl rfl rfl sd ?_ | refine w_e ?_ | refine w_f rfl rfl ?_ | refine w_g ?_ | refine w_h ?_ | refine w_i ?_ | refine w_j ?_ | refine w_k ?_ | refine w_l ?_ | refine w_m rfl ?_ | refine w_n rfl ?_ | refine w_o TM rfl kr ?_ | ((first | refine w_p rfl rfl rfl (fun hc => ?_) (fun hc => ?_) | refine w_q rfl rfl rfl (fun hc => ?_) (fun hc => ?_) | refine w_r rfl (fun hc => ?_) (fun hc => ?_)) <;> ((try simp at hc) <;> try contradiction))))
  refine w_G hE (fun k : Nat => k ≤ n) (fun k => n - k)
    (fun k => [(0, vS 1 1 off n c), (2, vI (rowGcd xs off k)), (6, vS 1 1 off n c), (7, vI n), (8, vI k)]) (fun _ => [(1, .own 3 cap (.ints xs))]) 2 [] 0 (Nat.zero_le _) ⟨w_1, w_2, rfl⟩ ?_
  intro k h1
  have e := off_nat (off := off) (k := k)
  have hv := num_getD hn (off + (k : Int).toNat)
  have hg := rowGcd_bd (off := off) hn k
  by_cases hk : k < n
  · have hstep : rowGcd xs off (k + 1) = (Int.gcd (rowGcd xs off k) (xs.getD (off + (k : Int).toNat) 0) : Int) := by rw [e]; rfl
    ((repeat' (first | refine w_a TT rfl rfl rfl sd ?_ | refine w_b ?_ | refine w_c rfl rfl ?_ | refine w_d TT rfl rfl rfl rfl sd ?_ | refine w_e ?_ | refine w_f rfl rfl ?_ | refine w_g ?_ | refine w_h ?_ | (first | refine w_z (d_gcd _ _ (by omega) (by omega)) rfl rfl rfl rfl rfl rfl rfl rfl ft rfl rfl ?_ | refine w_A (d_gcd _ _ (by omega) (by omega)) rfl rfl rfl rfl rfl rfl rfl rfl ft rfl rfl ?_) | refine w_i ?_ | refine w_j ?_ | refine w_k ?_ | refine w_l ?_ | refine w_m rfl ?_ | refine w_n rfl ?_ | refine w_o TM rfl kr ?_ | ((first | refine w_p rfl rfl rfl (fun hc => ?_) (fun hc => ?_) | refine w_q rfl rfl rfl (fun hc => ?_) (fun hc => ?_) | refine w_r rfl (fun hc => ?_) (fun hc => ?_)) <;> ((try simp at hc) <;> try contradiction)))) <;> try (exfalso; omega))
    exact ⟨[], k + 1, hk, w_4, ⟨⟨rfl, congrArg some (congrArg vI hstep.symm), rfl, rfl, rfl, trivial⟩, ⟨rfl, trivial⟩, rfl⟩⟩
  · obtain rfl : k = n := by omega
    ((repeat' (first | refine w_a TT rfl rfl rfl sd ?_ | refine w_b ?_ | refine w_c rfl rfl ?_ | refine w_d TT rfl rfl rfl rfl sd ?_ | refine w_e ?_ | refine w_f rfl rfl ?_ | refine w_g ?_ | refine w_h ?_ | ((refine w_E (d_firstCell xs off k _ hl hx) rfl rfl rfl rfl rfl rfl rfl ft rfl ?_); rintro v Hout n1 ⟨j, rfl, rfl, rfl, hj⟩) | refine w_i ?_ | refine w_j ?_ | refine w_k ?_ | refine w_l ?_ | refine w_m rfl ?_ | refine w_n rfl ?_ | refine w_o TM rfl kr ?_ | ((first | refine w_p rfl rfl rfl (fun hc => ?_) (fun hc => ?_) | refine w_q rfl rfl rfl (fun hc => ?_) (fun hc => ?_) | refine w_r rfl (fun hc => ?_) (fun hc => ?_)) <;> ((try simp at hc) <;> try contradiction)))) <;> try (exfalso; omega))
    · exact fin rfl w_3 [] (.tup []) [(1, .own 3 cap (.ints (primAt xs off k)))] 2 ⟨rfl, rfl, rfl⟩ rfl ⟨trivial, ⟨own_ints (by rw [primAt, if_pos hc]), trivial⟩, rfl⟩ rfl
    · rcases hj with ⟨hj, rfl⟩ | ⟨q, hq, rfl, hz, hf⟩
      · exact absurd (rowGcd_none hj) hc
      · have hs := sgn_first hz hf hq
        have eq := off_nat (off := off) (k := q)
        have hp : primAt xs off k = updTo xs off (fun _ v => v.tdiv (sgnTo xs off k * rowGcd xs off k)) k := by rw [primAt, if_neg hc]
        have hG : (xs.getD (off + q) 0 < 0 → -rowGcd xs off k = sgnTo xs off k * rowGcd xs off k) ∧ (¬xs.getD (off + q) 0 < 0 → rowGcd xs off k = sgnTo xs off k * rowGcd xs off k) := by
          rw [hs]
          refine ⟨fun h => ?_, fun h => ?_⟩
          · rw [Int.sign_eq_neg_one_of_neg h]; omega
          · rw [Int.sign_eq_one_of_pos (by omega)]; omega
        rw [List.getD_eq_getElem?_getD] at hG
        rw [hp]
        generalize hGG : sgnTo xs off k * rowGcd xs off k = G at *
        have hG0 : G ≠ 0 := by
          intro e0
          rcases Int.lt_or_le ((xs[off + q]?).getD 0) 0 with c1 | c1
          · have := hG.1 c1; omega
          · have := hG.2 (by omega); omega
        ((repeat' (first | refine w_a TT rfl rfl rfl sd ?_ | refine w_b ?_ | refine w_c rfl rfl ?_ | refine w_d TT rfl rfl rfl rfl sd ?_ | refine w_e ?_ | refine w_f rfl rfl ?_ | refine w_g ?_ | refine w_h ?_ | refine w_i ?_ | refine w_j ?_ | refine w_k ?_ | refine w_l ?_ | refine w_m rfl ?_ | refine w_n rfl ?_ | refine w_o TM rfl kr ?_ | ((first | refine w_p rfl rfl rfl (fun hc => ?_) (fun hc => ?_) | refine w_q rfl rfl rfl (fun hc => ?_) (fun hc => ?_) | refine w_r rfl (fun hc => ?_) (fun hc => ?_)) <;> ((try simp at hc) <;> try contradiction)))) <;> try (exfalso; omega))
        all_goals
          refine w_G hE (fun i : Nat => i ≤ k) (fun i => k - i)
            (fun i => [(0, vS 1 1 off k c), (2, vI G), (27, vI k), (28, vI i)]) (fun i => [(1, .own 3 cap (.ints (updTo xs off (fun _ v => v.tdiv G) i)))]) 2 [] 0 (Nat.zero_le _) ⟨⟨rfl, congrArg some (congrArg vI (by first | exact hG.1 hc | exact hG.2 (by omega))), rfl, rfl, trivial⟩, ⟨rfl, trivial⟩, rfl⟩ ?_
          intro i hi
          have ei := off_nat (off := off) (k := i)
          have hlen : (updTo xs off (fun _ v => v.tdiv G) i).length = xs.length := updTo_len
          have hat := updTo_at (xs := xs) (off := off) (f := fun _ v => v.tdiv G) (p := off + i) (k := i) (by omega)
          have hvi := num_getD hn (off + i)
          have hd := tdiv_bd (xs.getD (off + i) 0) G
          rw [← hat, ← ei] at hvi hd
          by_cases hik : i < k
          · ((repeat' (first | refine w_a TT rfl rfl rfl sd ?_ | refine w_b ?_ | refine w_c rfl rfl ?_ | refine w_d TT rfl rfl rfl rfl sd ?_ | refine w_e ?_ | refine w_f rfl rfl ?_ | refine w_g ?_ | refine w_h ?_ | refine w_i ?_ | refine w_j ?_ | refine w_k ?_ | refine w_l ?_ | refine w_m rfl ?_ | refine w_n rfl ?_ | refine w_o TM rfl kr ?_ | ((first | refine w_p rfl rfl rfl (fun hc => ?_) (fun hc => ?_) | refine w_q rfl rfl rfl (fun hc => ?_) (fun hc => ?_) | refine w_r rfl (fun hc => ?_) (fun hc => ?_)) <;> ((try simp at hc) <;> try contradiction)))) <;> try (exfalso; omega))
            refine ⟨[], i + 1, hik, w_4, ⟨w_1, ⟨own_ints ?_, trivial⟩, rfl⟩⟩
            rw [ei, hat]; rfl
          · obtain rfl : i = k := by omega
            ((repeat' (first | refine w_a TT rfl rfl rfl sd ?_ | refine w_b ?_ | refine w_c rfl rfl ?_ | refine w_d TT rfl rfl rfl rfl sd ?_ | refine w_e ?_ | refine w_f rfl rfl ?_ | refine w_g ?_ | refine w_h ?_ | refine w_i ?_ | refine w_j ?_ | refine w_k ?_ | refine w_l ?_ | refine w_m rfl ?_ | refine w_n rfl ?_ | refine w_o TM rfl kr ?_ | ((first | refine w_p rfl rfl rfl (fun hc => ?_) (fun hc => ?_) | refine w_q rfl rfl rfl (fun hc => ?_) (fun hc => ?_) | refine w_r rfl (fun hc => ?_) (fun hc => ?_)) <;> ((try simp at hc) <;> try contradiction)))) <;> try (exfalso; omega))
            exact fin rfl w_3 [] (.tup []) [(1, .own 3 cap (.ints (updTo xs off (fun _ v => v.tdiv G) i)))] 2 ⟨rfl, rfl, rfl⟩ rfl ⟨trivial, ⟨rfl, trivial⟩, rfl⟩ rfl
theorem tdiv_abs {x : Int} (h : x ≠ 0) : x.tdiv (x.natAbs : Int) = x.sign := by
  rcases Int.lt_or_le x 0 with c | c
  · rw [show ((x.natAbs : Nat) : Int) = -x by omega, Int.tdiv_neg, Int.tdiv_self h, Int.sign_eq_neg_one_of_neg c]
  · rw [show ((x.natAbs : Nat) : Int) = x by omega, Int.tdiv_self h, Int.sign_eq_one_of_pos (by omega)]
theorem sgn_cases {xs : List Int} {off : Nat} : ∀ n, sgnTo xs off n = 0 ∨ sgnTo xs off n = 1 ∨ sgnTo xs off n = -1
  | 0 => .inl rfl
  | n + 1 => by
    rw [sgnTo]
    split
    · rcases Int.lt_trichotomy (xs.getD (off + n) 0) 0 with c | c | c
      · rw [Int.sign_eq_neg_one_of_neg c]; simp
      · rw [c]; simp
      · rw [Int.sign_eq_one_of_pos c]; simp
    · exact sgn_cases n
theorem sgn_mul {s v : Int} (hs : s = 0 ∨ s = 1 ∨ s = -1) (hv : -400000000 ≤ v ∧ v ≤ 400000000) : -400000000 ≤ s * v ∧ s * v ≤ 400000000 := by
  rcases hs with rfl | rfl | rfl <;> omega
theorem sgn_gcd {xs : List Int} {off : Nat} : ∀ {n : Nat}, sgnTo xs off n = 0 → rowGcd xs off n = 0
  | 0, _ => rfl
  | n + 1, h => by
    rw [sgnTo] at h
    split at h
    · rename_i h0
      have := Int.sign_eq_zero_iff_zero.1 h
      rw [rowGcd, sgn_gcd h0, this]; rfl
    · rename_i h0; exact absurd h h0
set_option maxHeartbeats 2000000 in
theorem d_primS (r c i : Nat) (xs : List Int) (n ca cap : Nat) (hn : n = xs.length) (hx : xs.length = r * c) (hr : r ≤ 24) (hc24 : c ≤ 24) (hi : i < r) (hnum : xs.all numB = true) : Does Tryz.prog 146 [vM r c 1 n ca, vI i] [(1, .own 3 cap (.ints xs))] 2 (SetM 3 cap (primAt xs (i * c) c)) := by
  refine Does.intro TT Tryz.func146 rfl (by kernel_rfl) rfl rfl fun E hE => ?_
  (repeat' (first | refine w_a TT rfl rfl rfl sd ?_ | refine w_b ?_ | refine w_c rfl rfl ?_ | refine w_d TT rfl rfl rfl rfl sd ?_ | refine w_e ?_ | refine w_f rfl rfl ?_ | refine w_g ?_ | refine w_h ?_ | refine w_i ?_ | refine w_j ?_ | refine w_k ?_ | refine w_l ?_ | refine w_m rfl ?_ | refine w_n rfl ?_ | refine w_o TM rfl kr ?_ | ((first | refine w_p rfl rfl rfl (fun hc => ?_) (fun hc => ?_) | refine w_q rfl rfl rfl (fun hc => ?_) (fun hc => ?_) | refine w_r rfl (fun hc => ?_) (fun hc => ?_)) <;> ((try simp at hc) <;> try contradiction))))
  refine w_G hE (fun k : Nat => k ≤ c) (fun k => c - k)
    (fun k => [(1, vI i), (2, .one (.ptr 2 3 0 0)), (4, vI (rowGcd xs (i * c) k)), (5, vI (sgnTo xs (i * c) k)), (6, vI k)]) (fun _ => [(1, .own 3 cap (.ints xs)), (2, .own 26 1 (.lit [.int r, .int c, .sl 1 1 0 n ca]))]) 3 [] 0 (Nat.zero_le _) ⟨w_1, w_2, rfl⟩ ?_
  intro k hk
  have hg := rowGcd_bd (off := i * c) hnum k
  have hg1 := rowGcd_bd (off := i * c) hnum (k + 1)
  have hsg := sgn_cases (xs := xs) (off := i * c) k
  by_cases hkc : k < c
  · have hb := cell_facts hi hkc hr hc24
    have eo : 0 + ((i : Int) * c + k).toNat = i * c + k := by
      have e : ((i : Int) * c + k) = ((i * c + k : Nat) : Int) := by simp
      rw [e]; omega
    have hv := num_getD hnum (0 + ((i : Int) * c + k).toNat)
    have hgs : rowGcd xs (i * c) (k + 1) = gcdOf (rowGcd xs (i * c) k) (xs.getD (0 + ((i : Int) * c + k).toNat) 0) := by
      rw [eo] at hv ⊢
      rw [gcdOf_eq (numB_true.2 (by omega)) (numB_true.2 hv)]; rfl
    have hraw : xs[((i : Int) * c + k).toNat]?.getD 0 = xs.getD (0 + ((i : Int) * c + k).toNat) 0 := by rw [Nat.zero_add, List.getD_eq_getElem?_getD]
    have hq := tdiv_bd (xs.getD (0 + ((i : Int) * c + k).toNat) 0) ((xs.getD (0 + ((i : Int) * c + k).toNat) 0).natAbs : Int)
    have hs1 : sgnTo xs (i * c) (k + 1) = if sgnTo xs (i * c) k = 0 then (xs.getD (0 + ((i : Int) * c + k).toNat) 0).sign else sgnTo xs (i * c) k := by rw [eo]; rfl
    ((repeat' (first | refine w_a TT rfl rfl rfl sd ?_ | refine w_b ?_ | refine w_c rfl rfl ?_ | refine w_d TT rfl rfl rfl rfl sd ?_ | refine w_e ?_ | refine w_f rfl rfl ?_ | refine w_g ?_ | refine w_h ?_ | (first | refine w_z (d_l1Abs _ (by omega) (by omega)) rfl rfl rfl rfl rfl rfl rfl rfl ft rfl rfl ?_ | refine w_A (d_l1Abs _ (by omega) (by omega)) rfl rfl rfl rfl rfl rfl rfl rfl ft rfl rfl ?_) | (first | refine w_z (d_gcdOf _ _) rfl rfl rfl rfl rfl rfl rfl rfl ft rfl rfl ?_ | refine w_A (d_gcdOf _ _) rfl rfl rfl rfl rfl rfl rfl rfl ft rfl rfl ?_) | refine w_i ?_ | refine w_j ?_ | refine w_k ?_ | refine w_l ?_ | refine w_m rfl ?_ | refine w_n rfl ?_ | refine w_o TM rfl kr ?_ | ((first | refine w_p rfl rfl rfl (fun hc => ?_) (fun hc => ?_) | refine w_q rfl rfl rfl (fun hc => ?_) (fun hc => ?_) | refine w_r rfl (fun hc => ?_) (fun hc => ?_)) <;> ((try simp at hc) <;> try contradiction)))) <;> try (exfalso; omega))
    · refine ⟨[], k + 1, hkc, w_4, ⟨⟨rfl, rfl, congrArg some (congrArg vI hgs.symm), congrArg some (congrArg vI ?_), rfl, trivial⟩, ⟨rfl, rfl, trivial⟩, rfl⟩⟩
      rw [hs1, if_pos (by assumption), tdiv_abs (by omega)]
    · refine ⟨[], k + 1, hkc, w_4, ⟨⟨rfl, rfl, congrArg some (congrArg vI hgs.symm), congrArg some (congrArg vI ?_), rfl, trivial⟩, ⟨rfl, rfl, trivial⟩, rfl⟩⟩
      rw [hs1, if_pos (by assumption), ← hraw, hc]
      simpa using (show sgnTo xs (i * c) k = 0 by assumption)
    · refine ⟨[], k + 1, hkc, w_4, ⟨⟨rfl, rfl, congrArg some (congrArg vI hgs.symm), congrArg some (congrArg vI ?_), rfl, trivial⟩, ⟨rfl, rfl, trivial⟩, rfl⟩⟩
      rw [hs1, if_neg hc]
  · obtain rfl : k = c := by omega
    ((repeat' (first | refine w_a TT rfl rfl rfl sd ?_ | refine w_b ?_ | refine w_c rfl rfl ?_ | refine w_d TT rfl rfl rfl rfl sd ?_ | refine w_e ?_ | refine w_f rfl rfl ?_ | refine w_g ?_ | refine w_h ?_ | refine w_i ?_ | refine w_j ?_ | refine w_k ?_ | refine w_l ?_ | refine w_m rfl ?_ | refine w_n rfl ?_ | refine w_o TM rfl kr ?_ | ((first | refine w_p rfl rfl rfl (fun hc => ?_) (fun hc => ?_) | refine w_q rfl rfl rfl (fun hc => ?_) (fun hc => ?_) | refine w_r rfl (fun hc => ?_) (fun hc => ?_)) <;> ((try simp at hc) <;> try contradiction)))) <;> try (exfalso; omega))
    have hend : ∀ m, m ≤ k → (rowGcd xs (i * k) k = 0 → m = 0) → (m < k → rowGcd xs (i * k) k ≤ 0) → updTo xs (i * k) (fun _ v => v.tdiv (sgnTo xs (i * k) k * rowGcd xs (i * k) k)) m = primAt xs (i * k) k := fun m h1 h2 h3 => by
      rw [primAt]
      split
      · rename_i h0
        rw [h2 h0]; rfl
      · rename_i h0
        obtain rfl : m = k := by
          rcases Nat.lt_or_ge m k with c1 | c1
          · have := h3 c1; omega
          · omega
        rfl
    refine w_G hE (fun m : Nat => m ≤ k ∧ (rowGcd xs (i * k) k = 0 → m = 0)) (fun m => k - m)
      (fun m => [(1, vI i), (2, .one (.ptr 2 3 0 0)), (4, vI (rowGcd xs (i * k) k)), (5, vI (sgnTo xs (i * k) k)), (8, vI m)]) (fun m => [(1, .own 3 cap (.ints (updTo xs (i * k) (fun _ v => v.tdiv (sgnTo xs (i * k) k * rowGcd xs (i * k) k)) m))), (2, .own 26 1 (.lit [.int r, .int k, .sl 1 1 0 n ca]))]) 3 [] 0 ⟨Nat.zero_le _, fun _ => rfl⟩ ⟨w_1, w_2, rfl⟩ ?_
    rintro m ⟨hm, hm0⟩
    have hlen : (updTo xs (i * k) (fun _ v => v.tdiv (sgnTo xs (i * k) k * rowGcd xs (i * k) k)) m).length = xs.length := updTo_len
    by_cases hmk : m < k
    · have hb := cell_facts hi hmk hr hc24
      have eo : 0 + ((i : Int) * k + m).toNat = i * k + m := by
        have e : ((i : Int) * k + m) = ((i * k + m : Nat) : Int) := by simp
        rw [e]; omega
      have hat := updTo_at (xs := xs) (off := i * k) (f := fun _ v => v.tdiv (sgnTo xs (i * k) k * rowGcd xs (i * k) k)) (p := i * k + m) (k := m) (by omega)
      have hv := num_getD hnum (i * k + m)
      rw [← hat, ← eo] at hv
      have hmul := sgn_mul (s := sgnTo xs (i * k) k) hsg hv
      have hd := tdiv_bd (sgnTo xs (i * k) k * (updTo xs (i * k) (fun _ v => v.tdiv (sgnTo xs (i * k) k * rowGcd xs (i * k) k)) m).getD (0 + ((i : Int) * k + m).toNat) 0) (rowGcd xs (i * k) k)
      ((repeat' (first | refine w_a TT rfl rfl rfl sd ?_ | refine w_b ?_ | refine w_c rfl rfl ?_ | refine w_d TT rfl rfl rfl rfl sd ?_ | refine w_e ?_ | refine w_f rfl rfl ?_ | refine w_g ?_ | refine w_h ?_ | refine w_i ?_ | refine w_j ?_ | refine w_k ?_ | refine w_l ?_ | refine w_m rfl ?_ | refine w_n rfl ?_ | ((first | refine w_p rfl rfl rfl (fun hc => ?_) (fun hc => ?_) | refine w_q rfl rfl rfl (fun hc => ?_) (fun hc => ?_) | refine w_r rfl (fun hc => ?_) (fun hc => ?_)) <;> ((try simp at hc) <;> try contradiction)))) <;> try (exfalso; omega))
      · refine awp_held TM [(2, _)] sb rfl (fun ρs => ?_)
        refine w_t TT 0 rfl kr kr kr nh rfl rfl rfl rfl sd ?_
        refine w_t TT 1 rfl kr kr kr nh rfl rfl rfl rfl sd ?_
        refine w_t TT 2 rfl kr kr kr nh rfl rfl rfl rfl sd ?_
        refine w_t TT 3 rfl kr kr kr nh rfl rfl rfl rfl sd ?_
        refine w_t TT 4 rfl kr kr kr nh rfl rfl rfl rfl sd ?_
        refine w_t TT 5 rfl kr kr kr nh rfl rfl rfl rfl sd ?_
        refine w_t TT 6 rfl kr kr kr nh rfl rfl rfl rfl sd ?_
        refine w_t TT 7 rfl kr kr kr nh rfl rfl rfl rfl sd ?_
        refine w_t TT 8 rfl kr kr kr nh rfl rfl rfl rfl sd ?_
        refine w_t TT 9 rfl kr kr kr nh rfl rfl rfl rfl sd ?_
        refine w_t TT 10 rfl kr kr kr nh rfl rfl rfl rfl sd ?_
        refine w_t TT 11 rfl kr kr kr nh rfl rfl rfl rfl sd ?_
        refine w_t TT 12 rfl kr kr kr nh rfl rfl rfl rfl sd ?_
        refine w_t TT 13 rfl kr kr kr nh rfl rfl rfl rfl sd ?_
        refine w_t TT 14 rfl kr kr kr nh rfl rfl rfl rfl sd ?_
        refine w_t TT 15 rfl kr kr kr nh rfl rfl rfl rfl sd ?_
        refine w_t TT 16 rfl kr kr kr nh rfl rfl rfl rfl sd ?_
        first | (refine w_t TT 17 rfl kr kr kr nh rfl rfl rfl rfl sd ?_) | (refine w_w TT 17 rfl kr kr kr nh rfl rfl rfl rfl rfl sd ?_)
        refine w_t TT 20 rfl kr kr kr nh rfl rfl rfl rfl sd ?_
        refine w_u [18] kr rfl ⟨?_, trivial⟩
        first | (refine w_s TT 18 rfl rfl rfl rfl sd sb rfl ?_)
        refine w_t TT 19 rfl kr kr kr nh rfl rfl rfl rfl sd ?_
        refine w_t TT 21 rfl kr kr kr nh rfl rfl rfl rfl sd ?_
        first | (refine w_t TT 22 rfl kr kr kr nh rfl rfl rfl rfl sd ?_) | (refine w_w TT 22 rfl kr kr kr nh rfl rfl rfl rfl rfl sd ?_)
        refine w_u [23] kr rfl ⟨?_, trivial⟩
        first | (refine w_s TT 23 rfl rfl rfl rfl sd sb rfl ?_)
        refine w_v kr ?_
        rotate_left
        all_goals ((repeat' (first | refine w_a TT rfl rfl rfl sd ?_ | refine w_b ?_ | refine w_c rfl rfl ?_ | refine w_d TT rfl rfl rfl rfl sd ?_ | refine w_e ?_ | refine w_f rfl rfl ?_ | refine w_g ?_ | refine w_h ?_ | refine w_i ?_ | refine w_j ?_ | refine w_k ?_ | refine w_l ?_ | refine w_m rfl ?_ | refine w_n rfl ?_ | refine w_o TM rfl kr ?_ | ((first | refine w_p rfl rfl rfl (fun hc => ?_) (fun hc => ?_) | refine w_q rfl rfl rfl (fun hc => ?_) (fun hc => ?_) | refine w_r rfl (fun hc => ?_) (fun hc => ?_)) <;> ((try simp at hc) <;> try contradiction)))) <;> try (exfalso; omega))
        all_goals
          refine ⟨[], m + 1, ⟨by omega, fun h => by omega⟩, w_4, ⟨w_1, ⟨own_ints ?_, rfl, trivial⟩, rfl⟩⟩
          have hs : sgnTo xs (i * k) k = 1 ∨ sgnTo xs (i * k) k = -1 := by
            rcases hsg with h | h
            · have := sgn_gcd h; omega
            · exact h
          rw [eo, hat, tdiv_sgn hs]; rfl
      · exact fin_n rfl w_3 [] (.tup []) [(1, .own 3 cap (.ints (primAt xs (i * k) k)))] 2 ⟨rfl, rfl, rfl⟩ rfl ⟨trivial, ⟨own_ints (hend m hm hm0 fun _ => hc), trivial⟩, rfl⟩ rfl
    · obtain rfl : m = k := by omega
      ((repeat' (first | refine w_a TT rfl rfl rfl sd ?_ | refine w_b ?_ | refine w_c rfl rfl ?_ | refine w_d TT rfl rfl rfl rfl sd ?_ | refine w_e ?_ | refine w_f rfl rfl ?_ | refine w_g ?_ | refine w_h ?_ | refine w_i ?_ | refine w_j ?_ | refine w_k ?_ | refine w_l ?_ | refine w_m rfl ?_ | refine w_n rfl ?_ | refine w_o TM rfl kr ?_ | ((first | refine w_p rfl rfl rfl (fun hc => ?_) (fun hc => ?_) | refine w_q rfl rfl rfl (fun hc => ?_) (fun hc => ?_) | refine w_r rfl (fun hc => ?_) (fun hc => ?_)) <;> ((try simp at hc) <;> try contradiction)))) <;> try (exfalso; omega))
      exact fin_n rfl w_3 [] (.tup []) [(1, .own 3 cap (.ints (primAt xs (i * m) m)))] 2 ⟨rfl, rfl, rfl⟩ rfl ⟨trivial, ⟨own_ints (hend m hm hm0 fun h => absurd h (by omega)), trivial⟩, rfl⟩ rfl
end Go.Proofs.YtfkbjkmlpinoeaaGreat

/-
  CONTRACTS: rows of a matrix, and two rows swapped, of both packages.
-/
namespace Go.Proofs.YtfkbjkmlpinoeaaGreat
open Go.RowKit

def swapTo (xs : List Int) (o1 o2 : Nat) : Nat → List Int
  | 0 => xs
  | k + 1 => ((swapTo xs o1 o2 k).set (o1 + k) (xs.getD (o2 + k) 0)).set (o2 + k) (xs.getD (o1 + k) 0)
theorem swapTo_len {xs : List Int} {o1 o2 : Nat} : ∀ {k : Nat}, (swapTo xs o1 o2 k).length = xs.length
  | 0 => rfl
  | k + 1 => by simp [swapTo, swapTo_len]
theorem swapTo_at {xs : List Int} {o1 o2 p : Nat} : ∀ {k : Nat}, (p < o1 ∨ o1 + k ≤ p) → (p < o2 ∨ o2 + k ≤ p) → (swapTo xs o1 o2 k).getD p 0 = xs.getD p 0
  | 0, _, _ => rfl
  | k + 1, h1, h2 => by
    have := swapTo_at (xs := xs) (o1 := o1) (o2 := o2) (p := p) (k := k) (by omega) (by omega)
    rw [swapTo, List.getD_eq_getElem?_getD, List.getElem?_set_ne (by omega), List.getElem?_set_ne (by omega), ← List.getD_eq_getElem?_getD, this]
theorem mul_nat (i c : Nat) : ((i : Int) * c).toNat = i * c := by
  have e : (i : Int) * c = ((i * c : Nat) : Int) := by simp
  rw [e]; exact Int.toNat_natCast _
def RowS (off n c : Nat) (v : AV) (Hout : List (Nat × Blk)) (n1 : Nat) : Prop := v = vS 1 1 off n c ∧ Hout = [] ∧ n1 = 2
theorem d_rowAt (r c i n ca : Nat) (xs : List Int) (hn : n = xs.length) (hx : xs.length = r * c) (hca : xs.length ≤ ca) (hr : r ≤ 24) (hc24 : c ≤ 24) (hi : i < r) : Does Tryz.prog 48 [vM r c 1 n ca, vI i] [(1, .ro (.ints xs))] 2 (fun v Hout n1 => ∃ cp, RowS (i * c) c cp v Hout n1) := by
  have h1 : i * c + c ≤ r * c := by
    have := Nat.mul_le_mul_right c (show i + 1 ≤ r by omega)
    rw [Nat.add_mul, Nat.one_mul] at this; exact this
  have h2 : i * c ≤ 576 := by have := Nat.mul_le_mul (show i ≤ 24 by omega) hc24; omega
  have e1 : (i : Int) * c = ((i * c : Nat) : Int) := by simp
  have e2 : ((i : Int) + 1) * c = ((i * c + c : Nat) : Int) := by rw [Int.add_mul, e1]; simp
  refine Does.intro TT Tryz.func48 rfl (by kernel_rfl) rfl rfl fun E hE => ?_
  ((repeat' (first | refine w_a TT rfl rfl rfl sd ?_ | refine w_b ?_ | refine w_c rfl rfl ?_ | refine w_d TT rfl rfl rfl rfl sd ?_ | refine w_e ?_ | refine w_f rfl rfl ?_ | refine w_g ?_ | refine w_h ?_ | refine w_i ?_ | refine w_j ?_ | refine w_k ?_ | refine w_l ?_ | refine w_m rfl ?_ | refine w_n rfl ?_ | refine w_o TM rfl kr ?_ | ((first | refine w_p rfl rfl rfl (fun hc => ?_) (fun hc => ?_) | refine w_q rfl rfl rfl (fun hc => ?_) (fun hc => ?_) | refine w_r rfl (fun hc => ?_) (fun hc => ?_)) <;> ((try simp at hc) <;> try contradiction)))) <;> try (exfalso; omega))
  have hoff : slOff 0 ((i : Int) * c).toNat ca = i * c := by
    rw [mul_nat]
    unfold slOff
    split
    · rename_i h0
      have : i * c = 0 ∨ 0 < c := by
        rcases Nat.eq_zero_or_pos c with q | q
        · left; rw [q]; rfl
        · exact .inr q
      omega
    · omega
  have hlen : (((i : Int) + 1) * c).toNat - ((i : Int) * c).toNat = c := by rw [e2, e1]; omega
  refine fin rfl w_3 [] (vS 1 1 (i * c) c (ca - ((i : Int) * c).toNat)) [] 2 ⟨_, rfl, rfl, rfl⟩ ?_ ⟨trivial, trivial, rfl⟩ rfl
  show AV.one (.sl 1 1 (slOff 0 ((i : Int) * c).toNat ca) ((((i : Int) + 1) * c).toNat - ((i : Int) * c).toNat) (ca - ((i : Int) * c).toNat)) = _
  rw [hoff, hlen]; rfl
theorem row_apart {p t c : Nat} (h : p ≠ t) : p * c + c ≤ t * c ∨ t * c + c ≤ p * c := by
  rcases Nat.lt_or_ge p t with q | q
  · left
    have := Nat.mul_le_mul_right c (show p + 1 ≤ t by omega)
    rw [Nat.add_mul, Nat.one_mul] at this; exact this
  · right
    have := Nat.mul_le_mul_right c (show t + 1 ≤ p by omega)
    rw [Nat.add_mul, Nat.one_mul] at this; exact this
theorem row_in {p r c : Nat} (h : p < r) : p * c + c ≤ r * c := by
  have := Nat.mul_le_mul_right c (show p + 1 ≤ r by omega)
  rw [Nat.add_mul, Nat.one_mul] at this; exact this
def DidM (t : TypeId) (cap : Nat) (xs : List Int) (b : Bool) (v : AV) (Hout : List (Nat × Blk)) (n : Nat) : Prop := v = vB b ∧ Hout = [(1, .own t cap (.ints xs))] ∧ n = 2
set_option maxHeartbeats 2000000 in
theorem d_swapI (r c p t n ca cap : Nat) (xs : List Int) (hn : n = xs.length) (hx : xs.length = r * c) (hca : xs.length ≤ ca) (hr : r ≤ 24) (hc24 : c ≤ 24) (hp : p < r) (ht : t < r) (hne : p ≠ t) :
    Does Tryz.prog 111 [vM r c 1 n ca, .agg [.int 0, .int p, .int t, .int 0]] [(1, .own 3 cap (.ints xs))] 2 (DidM 3 cap (swapTo xs (p * c) (t * c) c) true) := by
  have ha := row_apart (c := c) hne
  have h1 := row_in (c := c) hp
  have h2 := row_in (c := c) ht
  have hrc : r * c ≤ 576 := by have := Nat.mul_le_mul hr hc24; omega
  refine Does.intro TT Tryz.func111 rfl (by kernel_rfl) rfl rfl fun E hE => ?_
  ((repeat' (first | refine w_a TT rfl rfl rfl sd ?_ | refine w_b ?_ | refine w_c rfl rfl ?_ | refine w_d TT rfl rfl rfl rfl sd ?_ | refine w_e ?_ | refine w_f rfl rfl ?_ | refine w_g ?_ | refine w_h ?_ | ((refine w_E (d_rowAt r c p n ca xs hn hx hca hr hc24 hp) rfl rfl rfl rfl rfl rfl rfl ft rfl ?_); rintro v Hout n1 ⟨cp1, rfl, rfl, rfl⟩) | ((refine w_E (d_rowAt r c t n ca xs hn hx hca hr hc24 ht) rfl rfl rfl rfl rfl rfl rfl ft rfl ?_); rintro v Hout n1 ⟨cp2, rfl, rfl, rfl⟩) | refine w_i ?_ | refine w_j ?_ | refine w_k ?_ | refine w_l ?_ | refine w_m rfl ?_ | refine w_n rfl ?_ | refine w_o TM rfl kr ?_ | ((first | refine w_p rfl rfl rfl (fun hc => ?_) (fun hc => ?_) | refine w_q rfl rfl rfl (fun hc => ?_) (fun hc => ?_) | refine w_r rfl (fun hc => ?_) (fun hc => ?_)) <;> ((try simp at hc) <;> try contradiction)))) <;> try (exfalso; omega))
  refine w_G hE (fun k : Nat => k ≤ c) (fun k => c - k)
    (fun k => [(3, .one (.ptr 3 4 0 0)), (5, vS 1 1 (p * c) c cp1), (6, vS 1 1 (t * c) c cp2), (18, vI c), (19, vI k)]) (fun k => [(1, .own 3 cap (.ints (swapTo xs (p * c) (t * c) k))), (3, .own 99 1 (.lit [.int 0, .int p, .int t, .int 0]))]) 4 [] 0 (Nat.zero_le _) ⟨w_1, w_2, rfl⟩ ?_
  intro k hk
  have hlen : (swapTo xs (p * c) (t * c) k).length = xs.length := swapTo_len
  by_cases hkc : k < c
  · have e1 := off_nat (off := p * c) (k := k)
    have e2 := off_nat (off := t * c) (k := k)
    have a1 := swapTo_at (xs := xs) (o1 := p * c) (o2 := t * c) (p := p * c + k) (k := k) (by omega) (by omega)
    have a2 := swapTo_at (xs := xs) (o1 := p * c) (o2 := t * c) (p := t * c + k) (k := k) (by omega) (by omega)
    ((repeat' (first | refine w_a TT rfl rfl rfl sd ?_ | refine w_b ?_ | refine w_c rfl rfl ?_ | refine w_d TT rfl rfl rfl rfl sd ?_ | refine w_e ?_ | refine w_f rfl rfl ?_ | refine w_g ?_ | refine w_h ?_ | refine w_i ?_ | refine w_j ?_ | refine w_k ?_ | refine w_l ?_ | refine w_m rfl ?_ | refine w_n rfl ?_ | ((first | refine w_p rfl rfl rfl (fun hc => ?_) (fun hc => ?_) | refine w_q rfl rfl rfl (fun hc => ?_) (fun hc => ?_) | refine w_r rfl (fun hc => ?_) (fun hc => ?_)) <;> ((try simp at hc) <;> try contradiction)))) <;> try (exfalso; omega))
    refine awp_held TM [(3, _)] sb rfl (fun ρs => ?_)
    refine w_t TT 0 rfl kr kr kr nh rfl rfl rfl rfl sd ?_
    refine w_t TT 1 rfl kr kr kr nh rfl rfl rfl rfl sd ?_
    refine w_t TT 2 rfl kr kr kr nh rfl rfl rfl rfl sd ?_
    refine w_t TT 3 rfl kr kr kr nh rfl rfl rfl rfl sd ?_
    refine w_t TT 4 rfl kr kr kr nh rfl rfl rfl rfl sd ?_
    refine w_t TT 5 rfl kr kr kr nh rfl rfl rfl rfl sd ?_
    first | (refine w_t TT 6 rfl kr kr kr nh rfl rfl rfl rfl sd ?_) | (refine w_w TT 6 rfl kr kr kr nh rfl rfl rfl rfl rfl sd ?_)
    refine w_t TT 8 rfl kr kr kr nh rfl rfl rfl rfl sd ?_
    refine w_t TT 9 rfl kr kr kr nh rfl rfl rfl rfl sd ?_
    first | (refine w_t TT 10 rfl kr kr kr nh rfl rfl rfl rfl sd ?_) | (refine w_w TT 10 rfl kr kr kr nh rfl rfl rfl rfl rfl sd ?_)
    refine w_u [7, 11] kr rfl ⟨?_, ?_, trivial⟩
    first | (refine w_s TT 7 rfl rfl rfl rfl sd sb rfl ?_)
    refine w_u [11] kr rfl ⟨?_, trivial⟩
    first | (refine w_s TT 11 rfl rfl rfl rfl sd sb rfl ?_)
    first | (refine w_t TT 12 rfl kr kr kr nh rfl rfl rfl rfl sd ?_) | (refine w_w TT 12 rfl kr kr kr nh rfl rfl rfl rfl rfl sd ?_)
    refine w_u [13] kr rfl ⟨?_, trivial⟩
    first | (refine w_s TT 13 rfl rfl rfl rfl sd sb rfl ?_)
    first | (refine w_t TT 14 rfl kr kr kr nh rfl rfl rfl rfl sd ?_) | (refine w_w TT 14 rfl kr kr kr nh rfl rfl rfl rfl rfl sd ?_)
    refine w_u [15] kr rfl ⟨?_, trivial⟩
    first | (refine w_s TT 15 rfl rfl rfl rfl sd sb rfl ?_)
    refine w_v kr ?_
    rotate_left
    first | (refine w_s TT 11 rfl rfl rfl rfl sd sb rfl ?_)
    refine w_u [7] kr rfl ⟨?_, trivial⟩
    first | (refine w_s TT 7 rfl rfl rfl rfl sd sb rfl ?_)
    first | (refine w_t TT 12 rfl kr kr kr nh rfl rfl rfl rfl sd ?_) | (refine w_w TT 12 rfl kr kr kr nh rfl rfl rfl rfl rfl sd ?_)
    refine w_u [13] kr rfl ⟨?_, trivial⟩
    first | (refine w_s TT 13 rfl rfl rfl rfl sd sb rfl ?_)
    first | (refine w_t TT 14 rfl kr kr kr nh rfl rfl rfl rfl sd ?_) | (refine w_w TT 14 rfl kr kr kr nh rfl rfl rfl rfl rfl sd ?_)
    refine w_u [15] kr rfl ⟨?_, trivial⟩
    first | (refine w_s TT 15 rfl rfl rfl rfl sd sb rfl ?_)
    refine w_v kr ?_
    rotate_left
    all_goals ((repeat' (first | refine w_a TT rfl rfl rfl sd ?_ | refine w_b ?_ | refine w_c rfl rfl ?_ | refine w_d TT rfl rfl rfl rfl sd ?_ | refine w_e ?_ | refine w_f rfl rfl ?_ | refine w_g ?_ | refine w_h ?_ | refine w_i ?_ | refine w_j ?_ | refine w_k ?_ | refine w_l ?_ | refine w_m rfl ?_ | refine w_n rfl ?_ | refine w_o TM rfl kr ?_ | ((first | refine w_p rfl rfl rfl (fun hc => ?_) (fun hc => ?_) | refine w_q rfl rfl rfl (fun hc => ?_) (fun hc => ?_) | refine w_r rfl (fun hc => ?_) (fun hc => ?_)) <;> ((try simp at hc) <;> try contradiction)))) <;> try (exfalso; omega))
    all_goals
      refine ⟨[], k + 1, hkc, w_4, ⟨w_1, ⟨own_ints ?_, rfl, trivial⟩, rfl⟩⟩
      rw [e1, e2, a1, a2]; rfl
  · obtain rfl : k = c := by omega
    ((repeat' (first | refine w_a TT rfl rfl rfl sd ?_ | refine w_b ?_ | refine w_c rfl rfl ?_ | refine w_d TT rfl rfl rfl rfl sd ?_ | refine w_e ?_ | refine w_f rfl rfl ?_ | refine w_g ?_ | refine w_h ?_ | refine w_i ?_ | refine w_j ?_ | refine w_k ?_ | refine w_l ?_ | refine w_m rfl ?_ | refine w_n rfl ?_ | refine w_o TM rfl kr ?_ | ((first | refine w_p rfl rfl rfl (fun hc => ?_) (fun hc => ?_) | refine w_q rfl rfl rfl (fun hc => ?_) (fun hc => ?_) | refine w_r rfl (fun hc => ?_) (fun hc => ?_)) <;> ((try simp at hc) <;> try contradiction)))) <;> try (exfalso; omega))
    exact fin rfl w_3 [] (vB true) [(1, .own 3 cap (.ints (swapTo xs (p * k) (t * k) k)))] 2 ⟨rfl, rfl, rfl⟩ rfl ⟨trivial, ⟨rfl, trivial⟩, rfl⟩ rfl
theorem cell_nat {p k c : Nat} : 0 + ((p : Int) * c + k).toNat = p * c + k := by
  have e : ((p : Int) * c + k) = ((p * c + k : Nat) : Int) := by simp
  rw [e]; omega
set_option maxHeartbeats 2000000 in
theorem d_swapS (r c p t n ca cap : Nat) (xs : List Int) (hn : n = xs.length) (hx : xs.length = r * c) (hr : r ≤ 24) (hc24 : c ≤ 24) (hp : p < r) (ht : t < r) (hne : p ≠ t) :
    Does Tryz.prog 147 [vM r c 1 n ca, .agg [.int 0, .int p, .int t, .int 0]] [(1, .own 3 cap (.ints xs))] 2 (SetM 3 cap (swapTo xs (p * c) (t * c) c)) := by
  have ha := row_apart (c := c) hne
  have h1 := row_in (c := c) hp
  have h2 := row_in (c := c) ht
  refine Does.intro TT Tryz.func147 rfl (by kernel_rfl) rfl rfl fun E hE => ?_
  ((repeat' (first | refine w_a TT rfl rfl rfl sd ?_ | refine w_b ?_ | refine w_c rfl rfl ?_ | refine w_d TT rfl rfl rfl rfl sd ?_ | refine w_e ?_ | refine w_f rfl rfl ?_ | refine w_g ?_ | refine w_h ?_ | refine w_i ?_ | refine w_j ?_ | refine w_k ?_ | refine w_l ?_ | refine w_m rfl ?_ | refine w_n rfl ?_ | refine w_o TM rfl kr ?_ | ((first | refine w_p rfl rfl rfl (fun hc => ?_) (fun hc => ?_) | refine w_q rfl rfl rfl (fun hc => ?_) (fun hc => ?_) | refine w_r rfl (fun hc => ?_) (fun hc => ?_)) <;> ((try simp at hc) <;> try contradiction)))) <;> try (exfalso; omega))
  refine w_G hE (fun k : Nat => k ≤ c) (fun k => c - k)
    (fun k => [(2, .one (.ptr 2 3 0 0)), (3, .one (.ptr 3 4 0 0)), (4, vI k)]) (fun k => [(1, .own 3 cap (.ints (swapTo xs (p * c) (t * c) k))), (2, .own 26 1 (.lit [.int r, .int c, .sl 1 1 0 n ca])), (3, .own 99 1 (.lit [.int 0, .int p, .int t, .int 0]))]) 4 [] 0 (Nat.zero_le _) ⟨w_1, w_2, rfl⟩ ?_
  intro k hk
  have hlen : (swapTo xs (p * c) (t * c) k).length = xs.length := swapTo_len
  by_cases hkc : k < c
  · have b1 := cell_facts hp hkc hr hc24
    have b2 := cell_facts ht hkc hr hc24
    have e1 := cell_nat (p := p) (k := k) (c := c)
    have e2 := cell_nat (p := t) (k := k) (c := c)
    have a1 := swapTo_at (xs := xs) (o1 := p * c) (o2 := t * c) (p := p * c + k) (k := k) (by omega) (by omega)
    have a2 := swapTo_at (xs := xs) (o1 := p * c) (o2 := t * c) (p := t * c + k) (k := k) (by omega) (by omega)
    ((repeat' (first | refine w_a TT rfl rfl rfl sd ?_ | refine w_b ?_ | refine w_c rfl rfl ?_ | refine w_d TT rfl rfl rfl rfl sd ?_ | refine w_e ?_ | refine w_f rfl rfl ?_ | refine w_g ?_ | refine w_h ?_ | refine w_i ?_ | refine w_j ?_ | refine w_k ?_ | refine w_l ?_ | refine w_m rfl ?_ | refine w_n rfl ?_ | refine w_o TM rfl kr ?_ | ((first | refine w_p rfl rfl rfl (fun hc => ?_) (fun hc => ?_) | refine w_q rfl rfl rfl (fun hc => ?_) (fun hc => ?_) | refine w_r rfl (fun hc => ?_) (fun hc => ?_)) <;> ((try simp at hc) <;> try contradiction)))) <;> try (exfalso; omega))
    refine ⟨[], k + 1, hkc, w_4, ⟨w_1, ⟨own_ints ?_, rfl, rfl, trivial⟩, rfl⟩⟩
    rw [e1, e2, a1, a2]; rfl
  · obtain rfl : k = c := by omega
    ((repeat' (first | refine w_a TT rfl rfl rfl sd ?_ | refine w_b ?_ | refine w_c rfl rfl ?_ | refine w_d TT rfl rfl rfl rfl sd ?_ | refine w_e ?_ | refine w_f rfl rfl ?_ | refine w_g ?_ | refine w_h ?_ | refine w_i ?_ | refine w_j ?_ | refine w_k ?_ | refine w_l ?_ | refine w_m rfl ?_ | refine w_n rfl ?_ | refine w_o TM rfl kr ?_ | ((first | refine w_p rfl rfl rfl (fun hc => ?_) (fun hc => ?_) | refine w_q rfl rfl rfl (fun hc => ?_) (fun hc => ?_) | refine w_r rfl (fun hc => ?_) (fun hc => ?_)) <;> ((try simp at hc) <;> try contradiction)))) <;> try (exfalso; omega))
    exact fin_n rfl w_3 [] (.tup []) [(1, .own 3 cap (.ints (swapTo xs (p * k) (t * k) k)))] 2 ⟨rfl, rfl, rfl⟩ rfl ⟨trivial, ⟨rfl, trivial⟩, rfl⟩ rfl
def CopyM (r c : Int) (xs : List Int) (k : Nat) (t : TypeId) (v : AV) (Hout : List (Nat × Blk)) (n1 : Nat) : Prop := ∃ cap, xs.length ≤ cap ∧ v = .agg [.int r, .int c, .sl k 1 0 xs.length cap] ∧ Hout = [(k, .own t cap (.ints xs))] ∧ n1 = k + 1
theorem CopyM.out {r c : Int} {xs : List Int} {k : Nat} {t : TypeId} : ∀ v Hout n1, CopyM r c xs k t v Hout n1 → ∃ b, Hout = [(k, b)] ∧ n1 = k + 1 ∧ b.keys = [] := fun _ _ _ ⟨_, _, _, h2, h3⟩ => ⟨_, h2, h3, by simp [Blk.keys, Elts.keys, Elts.all, ints_keys]⟩
theorem d_copyI (r c : Int) (xs : List Int) (ca : Nat) (hl : xs.length ≤ 1099511627776) : Does Tryz.prog 108 [vM r c 1 xs.length ca] [(1, .ro (.ints xs))] 2 (CopyM r c xs 2 3) := by
  refine Does.intro TT Tryz.func108 rfl (by kernel_rfl) rfl rfl fun E hE => ?_
  ((repeat' (first | refine w_a TT rfl rfl rfl sd ?_ | refine w_b ?_ | refine w_c rfl rfl ?_ | refine w_d TT rfl rfl rfl rfl sd ?_ | refine w_e ?_ | refine w_f rfl rfl ?_ | refine w_g ?_ | refine w_h ?_ | (refine w_x TT rfl rfl rfl rfl rfl sd ?_; intro cap hcap) | refine w_i ?_ | refine w_j ?_ | refine w_k ?_ | refine w_l ?_ | refine w_m rfl ?_ | refine w_n rfl ?_ | refine w_o TM rfl kr ?_ | ((first | refine w_p rfl rfl rfl (fun hc => ?_) (fun hc => ?_) | refine w_q rfl rfl rfl (fun hc => ?_) (fun hc => ?_) | refine w_r rfl (fun hc => ?_) (fun hc => ?_)) <;> ((try simp at hc) <;> try contradiction)))) <;> try (exfalso; omega))
  rw [Nat.zero_add] at hcap
  rw [show 0 + xs.length = xs.length from Nat.zero_add _]
  exact fin rfl w_3 [(2, 5)] (.agg [.int r, .int c, .sl 2 1 0 xs.length cap]) [(2, .own 3 cap (.ints xs))] 3 ⟨cap, hcap, rfl, rfl, rfl⟩ rfl ⟨trivial, ⟨own_ints (by simp), trivial⟩, rfl⟩ rfl
theorem d_copyS (r c : Int) (xs : List Int) (ca : Nat) (hl : xs.length ≤ 1099511627776) : Does Tryz.prog 145 [vM r c 1 xs.length ca] [(1, .ro (.ints xs))] 2 (CopyM r c xs 2 3) := by
  refine Does.intro TT Tryz.func145 rfl (by kernel_rfl) rfl rfl fun E hE => ?_
  ((repeat' (first | refine w_a TT rfl rfl rfl sd ?_ | refine w_b ?_ | refine w_c rfl rfl ?_ | refine w_d TT rfl rfl rfl rfl sd ?_ | refine w_e ?_ | refine w_f rfl rfl ?_ | refine w_g ?_ | refine w_h ?_ | refine w_i ?_ | refine w_j ?_ | refine w_k ?_ | refine w_l ?_ | refine w_m rfl ?_ | refine w_n rfl ?_ | ((first | refine w_p rfl rfl rfl (fun hc => ?_) (fun hc => ?_) | refine w_q rfl rfl rfl (fun hc => ?_) (fun hc => ?_) | refine w_r rfl (fun hc => ?_) (fun hc => ?_)) <;> ((try simp at hc) <;> try contradiction)))) <;> try (exfalso; omega))
  refine awp_held TM [(2, _)] sb rfl (fun ρs => ?_)
  refine w_t TT 0 rfl kr kr kr nh rfl rfl rfl rfl sd ?_
  refine w_t TT 1 rfl kr kr kr nh rfl rfl rfl rfl sd ?_
  refine w_t TT 2 rfl kr kr kr nh rfl rfl rfl rfl sd ?_
  refine w_t TT 3 rfl kr kr kr nh rfl rfl rfl rfl sd ?_
  refine w_t TT 5 rfl kr kr kr nh rfl rfl rfl rfl sd ?_
  refine w_t TT 6 rfl kr kr kr nh rfl rfl rfl rfl sd ?_
  refine w_u [4] kr rfl ⟨?_, trivial⟩
  first | (refine w_s TT 4 rfl rfl rfl rfl sd sb rfl ?_) | (refine w_y TT _ rfl rfl rfl rfl rfl rfl sd sb rfl rfl ?_; intro cap hcap)
  refine w_u [7] kr rfl ⟨?_, trivial⟩
  first | (refine w_s TT 7 rfl rfl rfl rfl sd sb rfl ?_) | (refine w_y TT _ rfl rfl rfl rfl rfl rfl sd sb rfl rfl ?_; intro cap hcap)
  refine w_t TT 8 rfl kr kr kr nh rfl rfl rfl rfl sd ?_
  refine w_u [9] kr rfl ⟨?_, trivial⟩
  first | (refine w_s TT 9 rfl rfl rfl rfl sd sb rfl ?_) | (refine w_y TT _ rfl rfl rfl rfl rfl rfl sd sb rfl rfl ?_; intro cap hcap)
  refine w_v kr ?_
  rotate_left
  all_goals ((repeat' (first | refine w_a TT rfl rfl rfl sd ?_ | refine w_b ?_ | refine w_c rfl rfl ?_ | refine w_d TT rfl rfl rfl rfl sd ?_ | refine w_e ?_ | refine w_f rfl rfl ?_ | refine w_g ?_ | refine w_h ?_ | refine w_i ?_ | refine w_j ?_ | refine w_k ?_ | refine w_l ?_ | refine w_m rfl ?_ | refine w_n rfl ?_ | refine w_o TM rfl kr ?_ | ((first | refine w_p rfl rfl rfl (fun hc => ?_) (fun hc => ?_) | refine w_q rfl rfl rfl (fun hc => ?_) (fun hc => ?_) | refine w_r rfl (fun hc => ?_) (fun hc => ?_)) <;> ((try simp at hc) <;> try contradiction)))) <;> try (exfalso; omega))
  all_goals rw [Nat.zero_add] at hcap
  all_goals rw [show 0 + xs.length = xs.length from Nat.zero_add _]
  all_goals exact fin rfl w_3 [(2, 5)] (.agg [.int r, .int c, .sl 2 1 0 xs.length cap]) [(2, .own 3 cap (.ints xs))] 3 ⟨cap, hcap, rfl, rfl, rfl⟩ rfl ⟨trivial, ⟨own_ints (by simp), trivial⟩, rfl⟩ rfl
end Go.Proofs.YtfkbjkmlpinoeaaGreat
