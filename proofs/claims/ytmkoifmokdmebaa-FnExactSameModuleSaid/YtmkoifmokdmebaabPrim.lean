/-
  CONTRACTS: rows made primitive, of both packages.
-/
import Derived.Test.YtmkoifmokdmebaabMat
import Derived.Test.YtmkoifmokdmebaapEch
set_option linter.unusedVariables false
set_option linter.unusedSimpArgs false
namespace Go.Proofs.Ytmkoifmokdmebaa
open Go.RowKit

theorem off_nat {off k : Nat} : off + ((k : Int)).toNat = off + k := by omega
theorem d_nonZeroF (n : Int) : Does Try.prog 116 [vI n] [] 1 (Ret (vB (decide (n ≠ 0))) 1) := by
  refine Does.intro TT Try.func116 rfl (by kernel_rfl) rfl rfl fun E hE => ?_
  (repeat' (first | (refine awpL_step TT rfl rfl rfl sd ?_) | (refine awpL_nil ?_) | (refine awpL_skip rfl rfl ?_) | (refine awpQ_step TT rfl rfl rfl rfl sd ?_) | (refine awpQ_nil ?_) | (refine awpQ_skip rfl rfl ?_) | (refine awp_seq ?_) | (refine awp_region ?_) | (refine awp_block ?_) | (refine awp_exit ?_) | (refine awp_skip ?_) | (refine awp_ret ?_) | (refine awp_cond_t rfl ?_) | (refine awp_cond_f rfl ?_) | (refine awp_quiet TM rfl (by kernel_rfl) ?_) | ((first | refine awpL_split rfl rfl rfl (fun hc => ?_) (fun hc => ?_) | refine awpQ_split rfl rfl rfl (fun hc => ?_) (fun hc => ?_) | refine awp_cond rfl (fun hc => ?_) (fun hc => ?_)) <;> ((try simp at hc) <;> try contradiction))))
  refine fin_ret rfl (by repeat' (first | exact trivial | exact Nat.zero_lt_one | omega | refine ⟨?_, ?_⟩)) (rfl) rfl
def FirstN (xs : List Int) (off n : Nat) (j : Int) : Prop := ((∀ k, k < n → xs.getD (off + k) 0 = 0) ∧ j = -1) ∨ ∃ k, k < n ∧ j = (k : Int) ∧ xs.getD (off + k) 0 ≠ 0 ∧ ∀ i, i < k → xs.getD (off + i) 0 = 0
def FoundF (xs : List Int) (off n : Nat) (v : AV) (Hout : List (Nat × Blk)) (n1 : Nat) : Prop := ∃ j : Int, v = vI j ∧ Hout = [] ∧ n1 = 2 ∧ FirstN xs off n j
theorem d_indexF (xs : List Int) (off n c : Nat) (hl : off + n ≤ xs.length) (hx : xs.length ≤ 1099511627776) : Does Try.prog 115 [vS 1 1 off n c, .one (.fn 116 [])] [(1, .ro (.ints xs))] 2 (FoundF xs off n) := by
  refine Does.intro TT Try.func115 rfl (by kernel_rfl) rfl rfl fun E hE => ?_
  (repeat' (first | (refine awpL_step TT rfl rfl rfl sd ?_) | (refine awpL_nil ?_) | (refine awpL_skip rfl rfl ?_) | (refine awpQ_step TT rfl rfl rfl rfl sd ?_) | (refine awpQ_nil ?_) | (refine awpQ_skip rfl rfl ?_) | (refine awp_seq ?_) | (refine awp_region ?_) | (refine awp_block ?_) | (refine awp_exit ?_) | (refine awp_skip ?_) | (refine awp_ret ?_) | (refine awp_cond_t rfl ?_) | (refine awp_cond_f rfl ?_) | (refine awp_quiet TM rfl (by kernel_rfl) ?_) | ((first | refine awpL_split rfl rfl rfl (fun hc => ?_) (fun hc => ?_) | refine awpQ_split rfl rfl rfl (fun hc => ?_) (fun hc => ?_) | refine awp_cond rfl (fun hc => ?_) (fun hc => ?_)) <;> ((try simp at hc) <;> try contradiction))))
  refine awp_loop hE (fun k : Nat => k ≤ n ∧ ∀ i, i < k → xs.getD (off + i) 0 = 0) (fun k => n - k)
    (fun k => [(0, vS 1 1 off n c), (1, .one (.fn 116 [])), (7, vI n), (8, vI k)]) (fun _ => [(1, .ro (.ints xs))]) 2 [] 0 ⟨Nat.zero_le _, fun i hi => by omega⟩ ⟨(by repeat' (first | exact trivial | refine ⟨rfl, ?_⟩ | refine ⟨congrArg some (congrArg vI (by first | omega | (simp; done) | (simp; omega))), ?_⟩ | refine ⟨sl_eqA (by first | omega | (simp; done) | (simp; omega)), ?_⟩)), (by repeat' (first | exact trivial | refine ⟨rfl, ?_⟩)), rfl⟩ ?_
  rintro k ⟨h1, h2⟩
  have e := off_nat (off := off) (k := k)
  ((repeat' (first | (refine awpL_step TT rfl rfl rfl sd ?_) | (refine awpL_nil ?_) | (refine awpL_skip rfl rfl ?_) | (refine awpQ_step TT rfl rfl rfl rfl sd ?_) | (refine awpQ_nil ?_) | (refine awpQ_skip rfl rfl ?_) | (refine awp_seq ?_) | (refine awp_region ?_) | (first | refine awpL_ret (d_nonZeroF _) rfl rfl rfl rfl rfl rfl rfl rfl ft rfl rfl ?_ | refine awpQ_ret (d_nonZeroF _) rfl rfl rfl rfl rfl rfl rfl rfl ft rfl rfl ?_ | refine awpHop_ret _ (d_nonZeroF _) rfl rfl rfl rfl rfl rfl rfl rfl rfl ft rfl rfl sb rfl ?_) | (refine awp_block ?_) | (refine awp_exit ?_) | (refine awp_skip ?_) | (refine awp_ret ?_) | (refine awp_cond_t rfl ?_) | (refine awp_cond_f rfl ?_) | (refine awp_quiet TM rfl (by kernel_rfl) ?_) | ((first | refine awpL_split rfl rfl rfl (fun hc => ?_) (fun hc => ?_) | refine awpQ_split rfl rfl rfl (fun hc => ?_) (fun hc => ?_) | refine awp_cond rfl (fun hc => ?_) (fun hc => ?_)) <;> ((try simp at hc) <;> try contradiction)))) <;> try (exfalso; omega))
  · have hz : xs.getD (off + k) 0 ≠ 0 := by rw [List.getD_eq_getElem?_getD]; simpa using hc
    exact fin rfl (by repeat' (first | exact trivial | exact Nat.zero_lt_one | omega | refine ⟨?_, ?_⟩)) [] (vI k) [] 2 ⟨_, rfl, rfl, rfl, .inr ⟨k, by omega, rfl, hz, h2⟩⟩ rfl ⟨trivial, trivial, rfl⟩ rfl
  · have hz : xs.getD (off + k) 0 = 0 := by rw [List.getD_eq_getElem?_getD]; simpa using hc
    refine ⟨[], k + 1, ⟨by omega, fun i hi => ?_⟩, (by first | omega | (dsimp only; omega)), ⟨(by repeat' (first | exact trivial | refine ⟨rfl, ?_⟩ | refine ⟨congrArg some (congrArg vI (by first | omega | (simp; done) | (simp; omega))), ?_⟩ | refine ⟨sl_eqA (by first | omega | (simp; done) | (simp; omega)), ?_⟩)), (by repeat' (first | exact trivial | refine ⟨rfl, ?_⟩)), rfl⟩⟩
    rcases Nat.lt_or_ge i k with q | q
    · exact h2 i q
    · obtain rfl : i = k := by omega
      exact hz
  · obtain rfl : k = n := by omega
    exact fin rfl (by repeat' (first | exact trivial | exact Nat.zero_lt_one | omega | refine ⟨?_, ?_⟩)) [] (vI (-1)) [] 2 ⟨_, rfl, rfl, rfl, .inl ⟨h2, rfl⟩⟩ rfl ⟨trivial, trivial, rfl⟩ rfl
theorem d_firstCell (xs : List Int) (off n c : Nat) (hl : off + n ≤ xs.length) (hx : xs.length ≤ 1099511627776) : Does Try.prog 73 [vS 1 1 off n c] [(1, .ro (.ints xs))] 2 (FoundF xs off n) := by
  refine Does.intro TT Try.func73 rfl (by kernel_rfl) rfl rfl fun E hE => ?_
  (repeat' (first | (refine awpL_step TT rfl rfl rfl sd ?_) | (refine awpL_nil ?_) | (refine awpL_skip rfl rfl ?_) | (refine awpQ_step TT rfl rfl rfl rfl sd ?_) | (refine awpQ_nil ?_) | (refine awpQ_skip rfl rfl ?_) | (refine awp_seq ?_) | (refine awp_region ?_) | ((refine awpL_call (d_indexF xs off n _ hl hx) rfl rfl rfl rfl rfl rfl rfl ft rfl ?_); rintro v Hout n1 ⟨j, rfl, rfl, rfl, hj⟩) | (refine awp_block ?_) | (refine awp_exit ?_) | (refine awp_skip ?_) | (refine awp_ret ?_) | (refine awp_cond_t rfl ?_) | (refine awp_cond_f rfl ?_) | (refine awp_quiet TM rfl (by kernel_rfl) ?_) | ((first | refine awpL_split rfl rfl rfl (fun hc => ?_) (fun hc => ?_) | refine awpQ_split rfl rfl rfl (fun hc => ?_) (fun hc => ?_) | refine awp_cond rfl (fun hc => ?_) (fun hc => ?_)) <;> ((try simp at hc) <;> try contradiction))))
  exact fin rfl (by repeat' (first | exact trivial | exact Nat.zero_lt_one | omega | refine ⟨?_, ?_⟩)) [] (vI j) [] 2 ⟨_, rfl, rfl, rfl, hj⟩ rfl ⟨trivial, trivial, rfl⟩ rfl
set_option maxHeartbeats 1000000 in
theorem d_primI (xs : List Int) (off n c cap : Nat) (hl : off + n ≤ xs.length) (hx : xs.length ≤ 1099511627776) (hn : xs.all numB = true) : Does Try.prog 129 [vS 1 1 off n c] [(1, .own 3 cap (.ints xs))] 2 (SetM 3 cap (primAt xs off n)) := by
  refine Does.intro TT Try.func129 rfl (by kernel_rfl) rfl rfl fun E hE => ?_
  (repeat' (first | (refine awpL_step TT rfl rfl rfl sd ?_) | (refine awpL_nil ?_) | (refine awpL_skip rfl rfl ?_) | (refine awpQ_step TT rfl rfl rfl rfl sd ?_) | (refine awpQ_nil ?_) | (refine awpQ_skip rfl rfl ?_) | (refine awp_seq ?_) | (refine awp_region ?_) | (refine awp_block ?_) | (refine awp_exit ?_) | (refine awp_skip ?_) | (refine awp_ret ?_) | (refine awp_cond_t rfl ?_) | (refine awp_cond_f rfl ?_) | (refine awp_quiet TM rfl (by kernel_rfl) ?_) | ((first | refine awpL_split rfl rfl rfl (fun hc => ?_) (fun hc => ?_) | refine awpQ_split rfl rfl rfl (fun hc => ?_) (fun hc => ?_) | refine awp_cond rfl (fun hc => ?_) (fun hc => ?_)) <;> ((try simp at hc) <;> try contradiction))))
  refine awp_loop hE (fun k : Nat => k ≤ n) (fun k => n - k)
    (fun k => [(0, vS 1 1 off n c), (2, vI (rowGcd xs off k)), (6, vS 1 1 off n c), (7, vI n), (8, vI k)]) (fun _ => [(1, .own 3 cap (.ints xs))]) 2 [] 0 (Nat.zero_le _) ⟨(by repeat' (first | exact trivial | refine ⟨rfl, ?_⟩ | refine ⟨congrArg some (congrArg vI (by first | omega | (simp; done) | (simp; omega))), ?_⟩ | refine ⟨sl_eqA (by first | omega | (simp; done) | (simp; omega)), ?_⟩)), (by repeat' (first | exact trivial | refine ⟨rfl, ?_⟩)), rfl⟩ ?_
  intro k h1
  have e := off_nat (off := off) (k := k)
  have hv := num_getD hn (off + (k : Int).toNat)
  have hg := rowGcd_bd (off := off) hn k
  by_cases hk : k < n
  · have hstep : rowGcd xs off (k + 1) = (Int.gcd (rowGcd xs off k) (xs.getD (off + (k : Int).toNat) 0) : Int) := by rw [e]; rfl
    ((repeat' (first | (refine awpL_step TT rfl rfl rfl sd ?_) | (refine awpL_nil ?_) | (refine awpL_skip rfl rfl ?_) | (refine awpQ_step TT rfl rfl rfl rfl sd ?_) | (refine awpQ_nil ?_) | (refine awpQ_skip rfl rfl ?_) | (refine awp_seq ?_) | (refine awp_region ?_) | (first | refine awpL_ret (d_gcd _ _ (by omega) (by omega)) rfl rfl rfl rfl rfl rfl rfl rfl ft rfl rfl ?_ | refine awpQ_ret (d_gcd _ _ (by omega) (by omega)) rfl rfl rfl rfl rfl rfl rfl rfl ft rfl rfl ?_ | refine awpHop_ret _ (d_gcd _ _ (by omega) (by omega)) rfl rfl rfl rfl rfl rfl rfl rfl rfl ft rfl rfl sb rfl ?_) | (refine awp_block ?_) | (refine awp_exit ?_) | (refine awp_skip ?_) | (refine awp_ret ?_) | (refine awp_cond_t rfl ?_) | (refine awp_cond_f rfl ?_) | (refine awp_quiet TM rfl (by kernel_rfl) ?_) | ((first | refine awpL_split rfl rfl rfl (fun hc => ?_) (fun hc => ?_) | refine awpQ_split rfl rfl rfl (fun hc => ?_) (fun hc => ?_) | refine awp_cond rfl (fun hc => ?_) (fun hc => ?_)) <;> ((try simp at hc) <;> try contradiction)))) <;> try (exfalso; omega))
    exact ⟨[], k + 1, hk, (by first | omega | (dsimp only; omega)), ⟨⟨rfl, congrArg some (congrArg vI hstep.symm), rfl, rfl, rfl, trivial⟩, ⟨rfl, trivial⟩, rfl⟩⟩
  · obtain rfl : k = n := by omega
    ((repeat' (first | (refine awpL_step TT rfl rfl rfl sd ?_) | (refine awpL_nil ?_) | (refine awpL_skip rfl rfl ?_) | (refine awpQ_step TT rfl rfl rfl rfl sd ?_) | (refine awpQ_nil ?_) | (refine awpQ_skip rfl rfl ?_) | (refine awp_seq ?_) | (refine awp_region ?_) | ((refine awpL_call (d_firstCell xs off k _ hl hx) rfl rfl rfl rfl rfl rfl rfl ft rfl ?_); rintro v Hout n1 ⟨j, rfl, rfl, rfl, hj⟩) | (refine awp_block ?_) | (refine awp_exit ?_) | (refine awp_skip ?_) | (refine awp_ret ?_) | (refine awp_cond_t rfl ?_) | (refine awp_cond_f rfl ?_) | (refine awp_quiet TM rfl (by kernel_rfl) ?_) | ((first | refine awpL_split rfl rfl rfl (fun hc => ?_) (fun hc => ?_) | refine awpQ_split rfl rfl rfl (fun hc => ?_) (fun hc => ?_) | refine awp_cond rfl (fun hc => ?_) (fun hc => ?_)) <;> ((try simp at hc) <;> try contradiction)))) <;> try (exfalso; omega))
    · exact fin rfl (by repeat' (first | exact trivial | exact Nat.zero_lt_one | omega | refine ⟨?_, ?_⟩)) [] (.tup []) [(1, .own 3 cap (.ints (primAt xs off k)))] 2 ⟨rfl, rfl, rfl⟩ rfl ⟨trivial, ⟨own_ints (by rw [primAt, if_pos hc]), trivial⟩, rfl⟩ rfl
    · rcases hj with ⟨hj, rfl⟩ | ⟨q, hq, rfl, hz, hf⟩
      · exact absurd (rowGcd_none hj) hc
      · have hs := sgn_first hz hf hq
        have eq := off_nat (off := off) (k := q)
        have hp : primAt xs off k = updTo xs off (fun _ v => v.tdiv (sgnTo xs off k * rowGcd xs off k)) k := by rw [primAt, if_neg hc]
        have hG : (xs.getD (off + q) 0 < 0 → -rowGcd xs off k = sgnTo xs off k * rowGcd xs off k) ∧ (¬xs.getD (off + q) 0 < 0 → rowGcd xs off k = sgnTo xs off k * rowGcd xs off k) := by
          rw [hs]
          refine ⟨fun h => ?_, fun h => ?_⟩
          · rw [Int.sign_eq_neg_one_of_neg h]; omega
          · rw [Int.sign_eq_one_of_pos (by omega)]; omega
        rw [List.getD_eq_getElem?_getD] at hG
        rw [hp]
        generalize hGG : sgnTo xs off k * rowGcd xs off k = G at *
        have hG0 : G ≠ 0 := by
          intro e0
          rcases Int.lt_or_le ((xs[off + q]?).getD 0) 0 with c1 | c1
          · have := hG.1 c1; omega
          · have := hG.2 (by omega); omega
        ((repeat' (first | (refine awpL_step TT rfl rfl rfl sd ?_) | (refine awpL_nil ?_) | (refine awpL_skip rfl rfl ?_) | (refine awpQ_step TT rfl rfl rfl rfl sd ?_) | (refine awpQ_nil ?_) | (refine awpQ_skip rfl rfl ?_) | (refine awp_seq ?_) | (refine awp_region ?_) | (refine awp_block ?_) | (refine awp_exit ?_) | (refine awp_skip ?_) | (refine awp_ret ?_) | (refine awp_cond_t rfl ?_) | (refine awp_cond_f rfl ?_) | (refine awp_quiet TM rfl (by kernel_rfl) ?_) | ((first | refine awpL_split rfl rfl rfl (fun hc => ?_) (fun hc => ?_) | refine awpQ_split rfl rfl rfl (fun hc => ?_) (fun hc => ?_) | refine awp_cond rfl (fun hc => ?_) (fun hc => ?_)) <;> ((try simp at hc) <;> try contradiction)))) <;> try (exfalso; omega))
        all_goals
          refine awp_loop hE (fun i : Nat => i ≤ k) (fun i => k - i)
            (fun i => [(0, vS 1 1 off k c), (2, vI G), (27, vI k), (28, vI i)]) (fun i => [(1, .own 3 cap (.ints (updTo xs off (fun _ v => v.tdiv G) i)))]) 2 [] 0 (Nat.zero_le _) ⟨⟨rfl, congrArg some (congrArg vI (by first | exact hG.1 hc | exact hG.2 (by omega))), rfl, rfl, trivial⟩, ⟨rfl, trivial⟩, rfl⟩ ?_
          intro i hi
          have ei := off_nat (off := off) (k := i)
          have hlen : (updTo xs off (fun _ v => v.tdiv G) i).length = xs.length := updTo_len
          have hat := updTo_at (xs := xs) (off := off) (f := fun _ v => v.tdiv G) (p := off + i) (k := i) (by omega)
          have hvi := num_getD hn (off + i)
          have hd := tdiv_bd (xs.getD (off + i) 0) G
          rw [← hat, ← ei] at hvi hd
          by_cases hik : i < k
          · ((repeat' (first | (refine awpL_step TT rfl rfl rfl sd ?_) | (refine awpL_nil ?_) | (refine awpL_skip rfl rfl ?_) | (refine awpQ_step TT rfl rfl rfl rfl sd ?_) | (refine awpQ_nil ?_) | (refine awpQ_skip rfl rfl ?_) | (refine awp_seq ?_) | (refine awp_region ?_) | (refine awp_block ?_) | (refine awp_exit ?_) | (refine awp_skip ?_) | (refine awp_ret ?_) | (refine awp_cond_t rfl ?_) | (refine awp_cond_f rfl ?_) | (refine awp_quiet TM rfl (by kernel_rfl) ?_) | ((first | refine awpL_split rfl rfl rfl (fun hc => ?_) (fun hc => ?_) | refine awpQ_split rfl rfl rfl (fun hc => ?_) (fun hc => ?_) | refine awp_cond rfl (fun hc => ?_) (fun hc => ?_)) <;> ((try simp at hc) <;> try contradiction)))) <;> try (exfalso; omega))
            refine ⟨[], i + 1, hik, (by first | omega | (dsimp only; omega)), ⟨(by repeat' (first | exact trivial | refine ⟨rfl, ?_⟩ | refine ⟨congrArg some (congrArg vI (by first | omega | (simp; done) | (simp; omega))), ?_⟩ | refine ⟨sl_eqA (by first | omega | (simp; done) | (simp; omega)), ?_⟩)), ⟨own_ints ?_, trivial⟩, rfl⟩⟩
            rw [ei, hat]; rfl
          · obtain rfl : i = k := by omega
            ((repeat' (first | (refine awpL_step TT rfl rfl rfl sd ?_) | (refine awpL_nil ?_) | (refine awpL_skip rfl rfl ?_) | (refine awpQ_step TT rfl rfl rfl rfl sd ?_) | (refine awpQ_nil ?_) | (refine awpQ_skip rfl rfl ?_) | (refine awp_seq ?_) | (refine awp_region ?_) | (refine awp_block ?_) | (refine awp_exit ?_) | (refine awp_skip ?_) | (refine awp_ret ?_) | (refine awp_cond_t rfl ?_) | (refine awp_cond_f rfl ?_) | (refine awp_quiet TM rfl (by kernel_rfl) ?_) | ((first | refine awpL_split rfl rfl rfl (fun hc => ?_) (fun hc => ?_) | refine awpQ_split rfl rfl rfl (fun hc => ?_) (fun hc => ?_) | refine awp_cond rfl (fun hc => ?_) (fun hc => ?_)) <;> ((try simp at hc) <;> try contradiction)))) <;> try (exfalso; omega))
            exact fin rfl (by repeat' (first | exact trivial | exact Nat.zero_lt_one | omega | refine ⟨?_, ?_⟩)) [] (.tup []) [(1, .own 3 cap (.ints (updTo xs off (fun _ v => v.tdiv G) i)))] 2 ⟨rfl, rfl, rfl⟩ rfl ⟨trivial, ⟨rfl, trivial⟩, rfl⟩ rfl
theorem tdiv_abs {x : Int} (h : x ≠ 0) : x.tdiv (x.natAbs : Int) = x.sign := by
  rcases Int.lt_or_le x 0 with c | c
  · rw [show ((x.natAbs : Nat) : Int) = -x by omega, Int.tdiv_neg, Int.tdiv_self h, Int.sign_eq_neg_one_of_neg c]
  · rw [show ((x.natAbs : Nat) : Int) = x by omega, Int.tdiv_self h, Int.sign_eq_one_of_pos (by omega)]
theorem sgn_cases {xs : List Int} {off : Nat} : ∀ n, sgnTo xs off n = 0 ∨ sgnTo xs off n = 1 ∨ sgnTo xs off n = -1
  | 0 => .inl rfl
  | n + 1 => by
    rw [sgnTo]
    split
    · rcases Int.lt_trichotomy (xs.getD (off + n) 0) 0 with c | c | c
      · rw [Int.sign_eq_neg_one_of_neg c]; simp
      · rw [c]; simp
      · rw [Int.sign_eq_one_of_pos c]; simp
    · exact sgn_cases n
theorem sgn_mul {s v : Int} (hs : s = 0 ∨ s = 1 ∨ s = -1) (hv : -400000000 ≤ v ∧ v ≤ 400000000) : -400000000 ≤ s * v ∧ s * v ≤ 400000000 := by
  rcases hs with rfl | rfl | rfl <;> omega
theorem sgn_gcd {xs : List Int} {off : Nat} : ∀ {n : Nat}, sgnTo xs off n = 0 → rowGcd xs off n = 0
  | 0, _ => rfl
  | n + 1, h => by
    rw [sgnTo] at h
    split at h
    · rename_i h0
      have := Int.sign_eq_zero_iff_zero.1 h
      rw [rowGcd, sgn_gcd h0, this]; rfl
    · rename_i h0; exact absurd h h0
set_option maxHeartbeats 2000000 in
theorem d_primS (r c i : Nat) (xs : List Int) (n ca cap : Nat) (hn : n = xs.length) (hx : xs.length = r * c) (hr : r ≤ 24) (hc24 : c ≤ 24) (hi : i < r) (hnum : xs.all numB = true) : Does Try.prog 154 [vM r c 1 n ca, vI i] [(1, .own 3 cap (.ints xs))] 2 (SetM 3 cap (primAt xs (i * c) c)) := by
  refine Does.intro TT Try.func154 rfl (by kernel_rfl) rfl rfl fun E hE => ?_
  (repeat' (first | (refine awpL_step TT rfl rfl rfl sd ?_) | (refine awpL_nil ?_) | (refine awpL_skip rfl rfl ?_) | (refine awpQ_step TT rfl rfl rfl rfl sd ?_) | (refine awpQ_nil ?_) | (refine awpQ_skip rfl rfl ?_) | (refine awp_seq ?_) | (refine awp_region ?_) | (refine awp_block ?_) | (refine awp_exit ?_) | (refine awp_skip ?_) | (refine awp_ret ?_) | (refine awp_cond_t rfl ?_) | (refine awp_cond_f rfl ?_) | (refine awp_quiet TM rfl (by kernel_rfl) ?_) | ((first | refine awpL_split rfl rfl rfl (fun hc => ?_) (fun hc => ?_) | refine awpQ_split rfl rfl rfl (fun hc => ?_) (fun hc => ?_) | refine awp_cond rfl (fun hc => ?_) (fun hc => ?_)) <;> ((try simp at hc) <;> try contradiction))))
  refine awp_loop hE (fun k : Nat => k ≤ c) (fun k => c - k)
    (fun k => [(1, vI i), (2, .one (.ptr 2 3 0 0)), (4, vI (rowGcd xs (i * c) k)), (5, vI (sgnTo xs (i * c) k)), (6, vI k)]) (fun _ => [(1, .own 3 cap (.ints xs)), (2, .own 27 1 (.lit [.int r, .int c, .sl 1 1 0 n ca]))]) 3 [] 0 (Nat.zero_le _) ⟨(by repeat' (first | exact trivial | refine ⟨rfl, ?_⟩ | refine ⟨congrArg some (congrArg vI (by first | omega | (simp; done) | (simp; omega))), ?_⟩ | refine ⟨sl_eqA (by first | omega | (simp; done) | (simp; omega)), ?_⟩)), (by repeat' (first | exact trivial | refine ⟨rfl, ?_⟩)), rfl⟩ ?_
  intro k hk
  have hg := rowGcd_bd (off := i * c) hnum k
  have hg1 := rowGcd_bd (off := i * c) hnum (k + 1)
  have hsg := sgn_cases (xs := xs) (off := i * c) k
  by_cases hkc : k < c
  · have hb := cell_facts hi hkc hr hc24
    have eo : 0 + ((i : Int) * c + k).toNat = i * c + k := by
      have e : ((i : Int) * c + k) = ((i * c + k : Nat) : Int) := by simp
      rw [e]; omega
    have hv := num_getD hnum (0 + ((i : Int) * c + k).toNat)
    have hgs : rowGcd xs (i * c) (k + 1) = gcdOf (rowGcd xs (i * c) k) (xs.getD (0 + ((i : Int) * c + k).toNat) 0) := by
      rw [eo] at hv ⊢
      rw [gcdOf_eq (numB_true.2 (by omega)) (numB_true.2 hv)]; rfl
    have hraw : xs[((i : Int) * c + k).toNat]?.getD 0 = xs.getD (0 + ((i : Int) * c + k).toNat) 0 := by rw [Nat.zero_add, List.getD_eq_getElem?_getD]
    have hq := tdiv_bd (xs.getD (0 + ((i : Int) * c + k).toNat) 0) ((xs.getD (0 + ((i : Int) * c + k).toNat) 0).natAbs : Int)
    have hs1 : sgnTo xs (i * c) (k + 1) = if sgnTo xs (i * c) k = 0 then (xs.getD (0 + ((i : Int) * c + k).toNat) 0).sign else sgnTo xs (i * c) k := by rw [eo]; rfl
    ((repeat' (first | (refine awpL_step TT rfl rfl rfl sd ?_) | (refine awpL_nil ?_) | (refine awpL_skip rfl rfl ?_) | (refine awpQ_step TT rfl rfl rfl rfl sd ?_) | (refine awpQ_nil ?_) | (refine awpQ_skip rfl rfl ?_) | (refine awp_seq ?_) | (refine awp_region ?_) | (first | refine awpL_ret (d_l1Abs _ (by omega) (by omega)) rfl rfl rfl rfl rfl rfl rfl rfl ft rfl rfl ?_ | refine awpQ_ret (d_l1Abs _ (by omega) (by omega)) rfl rfl rfl rfl rfl rfl rfl rfl ft rfl rfl ?_ | refine awpHop_ret _ (d_l1Abs _ (by omega) (by omega)) rfl rfl rfl rfl rfl rfl rfl rfl rfl ft rfl rfl sb rfl ?_) | (first | refine awpL_ret (d_gcdOf _ _) rfl rfl rfl rfl rfl rfl rfl rfl ft rfl rfl ?_ | refine awpQ_ret (d_gcdOf _ _) rfl rfl rfl rfl rfl rfl rfl rfl ft rfl rfl ?_ | refine awpHop_ret _ (d_gcdOf _ _) rfl rfl rfl rfl rfl rfl rfl rfl rfl ft rfl rfl sb rfl ?_) | (refine awp_block ?_) | (refine awp_exit ?_) | (refine awp_skip ?_) | (refine awp_ret ?_) | (refine awp_cond_t rfl ?_) | (refine awp_cond_f rfl ?_) | (refine awp_quiet TM rfl (by kernel_rfl) ?_) | ((first | refine awpL_split rfl rfl rfl (fun hc => ?_) (fun hc => ?_) | refine awpQ_split rfl rfl rfl (fun hc => ?_) (fun hc => ?_) | refine awp_cond rfl (fun hc => ?_) (fun hc => ?_)) <;> ((try simp at hc) <;> try contradiction)))) <;> try (exfalso; omega))
    · refine ⟨[], k + 1, hkc, (by first | omega | (dsimp only; omega)), ⟨⟨rfl, rfl, congrArg some (congrArg vI hgs.symm), congrArg some (congrArg vI ?_), rfl, trivial⟩, ⟨rfl, rfl, trivial⟩, rfl⟩⟩
      rw [hs1, if_pos (by assumption), tdiv_abs (by omega)]
    · refine ⟨[], k + 1, hkc, (by first | omega | (dsimp only; omega)), ⟨⟨rfl, rfl, congrArg some (congrArg vI hgs.symm), congrArg some (congrArg vI ?_), rfl, trivial⟩, ⟨rfl, rfl, trivial⟩, rfl⟩⟩
      rw [hs1, if_pos (by assumption), ← hraw, hc]
      simpa using (show sgnTo xs (i * c) k = 0 by assumption)
    · refine ⟨[], k + 1, hkc, (by first | omega | (dsimp only; omega)), ⟨⟨rfl, rfl, congrArg some (congrArg vI hgs.symm), congrArg some (congrArg vI ?_), rfl, trivial⟩, ⟨rfl, rfl, trivial⟩, rfl⟩⟩
      rw [hs1, if_neg hc]
  · obtain rfl : k = c := by omega
    ((repeat' (first | (refine awpL_step TT rfl rfl rfl sd ?_) | (refine awpL_nil ?_) | (refine awpL_skip rfl rfl ?_) | (refine awpQ_step TT rfl rfl rfl rfl sd ?_) | (refine awpQ_nil ?_) | (refine awpQ_skip rfl rfl ?_) | (refine awp_seq ?_) | (refine awp_region ?_) | (refine awp_block ?_) | (refine awp_exit ?_) | (refine awp_skip ?_) | (refine awp_ret ?_) | (refine awp_cond_t rfl ?_) | (refine awp_cond_f rfl ?_) | (refine awp_quiet TM rfl (by kernel_rfl) ?_) | ((first | refine awpL_split rfl rfl rfl (fun hc => ?_) (fun hc => ?_) | refine awpQ_split rfl rfl rfl (fun hc => ?_) (fun hc => ?_) | refine awp_cond rfl (fun hc => ?_) (fun hc => ?_)) <;> ((try simp at hc) <;> try contradiction)))) <;> try (exfalso; omega))
    have hend : ∀ m, m ≤ k → (rowGcd xs (i * k) k = 0 → m = 0) → (m < k → rowGcd xs (i * k) k ≤ 0) → updTo xs (i * k) (fun _ v => v.tdiv (sgnTo xs (i * k) k * rowGcd xs (i * k) k)) m = primAt xs (i * k) k := fun m h1 h2 h3 => by
      rw [primAt]
      split
      · rename_i h0
        rw [h2 h0]; rfl
      · rename_i h0
        obtain rfl : m = k := by
          rcases Nat.lt_or_ge m k with c1 | c1
          · have := h3 c1; omega
          · omega
        rfl
    refine awp_loop hE (fun m : Nat => m ≤ k ∧ (rowGcd xs (i * k) k = 0 → m = 0)) (fun m => k - m)
      (fun m => [(1, vI i), (2, .one (.ptr 2 3 0 0)), (4, vI (rowGcd xs (i * k) k)), (5, vI (sgnTo xs (i * k) k)), (8, vI m)]) (fun m => [(1, .own 3 cap (.ints (updTo xs (i * k) (fun _ v => v.tdiv (sgnTo xs (i * k) k * rowGcd xs (i * k) k)) m))), (2, .own 27 1 (.lit [.int r, .int k, .sl 1 1 0 n ca]))]) 3 [] 0 ⟨Nat.zero_le _, fun _ => rfl⟩ ⟨(by repeat' (first | exact trivial | refine ⟨rfl, ?_⟩ | refine ⟨congrArg some (congrArg vI (by first | omega | (simp; done) | (simp; omega))), ?_⟩ | refine ⟨sl_eqA (by first | omega | (simp; done) | (simp; omega)), ?_⟩)), (by repeat' (first | exact trivial | refine ⟨rfl, ?_⟩)), rfl⟩ ?_
    rintro m ⟨hm, hm0⟩
    have hlen : (updTo xs (i * k) (fun _ v => v.tdiv (sgnTo xs (i * k) k * rowGcd xs (i * k) k)) m).length = xs.length := updTo_len
    by_cases hmk : m < k
    · have hb := cell_facts hi hmk hr hc24
      have eo : 0 + ((i : Int) * k + m).toNat = i * k + m := by
        have e : ((i : Int) * k + m) = ((i * k + m : Nat) : Int) := by simp
        rw [e]; omega
      have hat := updTo_at (xs := xs) (off := i * k) (f := fun _ v => v.tdiv (sgnTo xs (i * k) k * rowGcd xs (i * k) k)) (p := i * k + m) (k := m) (by omega)
      have hv := num_getD hnum (i * k + m)
      rw [← hat, ← eo] at hv
      have hmul := sgn_mul (s := sgnTo xs (i * k) k) hsg hv
      have hd := tdiv_bd (sgnTo xs (i * k) k * (updTo xs (i * k) (fun _ v => v.tdiv (sgnTo xs (i * k) k * rowGcd xs (i * k) k)) m).getD (0 + ((i : Int) * k + m).toNat) 0) (rowGcd xs (i * k) k)
      ((repeat' (first | (refine awpL_step TT rfl rfl rfl sd ?_) | (refine awpL_nil ?_) | (refine awpL_skip rfl rfl ?_) | (refine awpQ_step TT rfl rfl rfl rfl sd ?_) | (refine awpQ_nil ?_) | (refine awpQ_skip rfl rfl ?_) | (refine awp_seq ?_) | (refine awp_region ?_) | (refine awp_block ?_) | (refine awp_exit ?_) | (refine awp_skip ?_) | (refine awp_ret ?_) | (refine awp_cond_t rfl ?_) | (refine awp_cond_f rfl ?_) | ((first | refine awpL_split rfl rfl rfl (fun hc => ?_) (fun hc => ?_) | refine awpQ_split rfl rfl rfl (fun hc => ?_) (fun hc => ?_) | refine awp_cond rfl (fun hc => ?_) (fun hc => ?_)) <;> ((try simp at hc) <;> try contradiction)))) <;> try (exfalso; omega))
      · refine awp_held TM [(2, _)] sb rfl (fun ρs => ?_)
        refine awpH_take TT 0 rfl kr kr kr nh rfl rfl rfl rfl sd ?_
        refine awpH_take TT 1 rfl kr kr kr nh rfl rfl rfl rfl sd ?_
        refine awpH_take TT 2 rfl kr kr kr nh rfl rfl rfl rfl sd ?_
        refine awpH_take TT 3 rfl kr kr kr nh rfl rfl rfl rfl sd ?_
        refine awpH_take TT 4 rfl kr kr kr nh rfl rfl rfl rfl sd ?_
        refine awpH_take TT 5 rfl kr kr kr nh rfl rfl rfl rfl sd ?_
        refine awpH_take TT 6 rfl kr kr kr nh rfl rfl rfl rfl sd ?_
        refine awpH_take TT 7 rfl kr kr kr nh rfl rfl rfl rfl sd ?_
        refine awpH_take TT 8 rfl kr kr kr nh rfl rfl rfl rfl sd ?_
        refine awpH_take TT 9 rfl kr kr kr nh rfl rfl rfl rfl sd ?_
        refine awpH_take TT 10 rfl kr kr kr nh rfl rfl rfl rfl sd ?_
        refine awpH_take TT 11 rfl kr kr kr nh rfl rfl rfl rfl sd ?_
        refine awpH_take TT 12 rfl kr kr kr nh rfl rfl rfl rfl sd ?_
        refine awpH_take TT 13 rfl kr kr kr nh rfl rfl rfl rfl sd ?_
        refine awpH_take TT 14 rfl kr kr kr nh rfl rfl rfl rfl sd ?_
        refine awpH_take TT 15 rfl kr kr kr nh rfl rfl rfl rfl sd ?_
        refine awpH_take TT 16 rfl kr kr kr nh rfl rfl rfl rfl sd ?_
        first | (refine awpH_take TT 17 rfl kr kr kr nh rfl rfl rfl rfl sd ?_) | (refine awpH_idx TT 17 rfl kr kr kr nh rfl rfl rfl rfl rfl sd ?_)
        refine awpH_take TT 20 rfl kr kr kr nh rfl rfl rfl rfl sd ?_
        refine awpH_all [18] kr rfl ⟨?_, trivial⟩
        first | (refine awpHop_step TT 18 rfl rfl rfl rfl sd sb rfl ?_)
        refine awpH_take TT 19 rfl kr kr kr nh rfl rfl rfl rfl sd ?_
        refine awpH_take TT 21 rfl kr kr kr nh rfl rfl rfl rfl sd ?_
        first | (refine awpH_take TT 22 rfl kr kr kr nh rfl rfl rfl rfl sd ?_) | (refine awpH_idx TT 22 rfl kr kr kr nh rfl rfl rfl rfl rfl sd ?_)
        refine awpH_all [23] kr rfl ⟨?_, trivial⟩
        first | (refine awpHop_step TT 23 rfl rfl rfl rfl sd sb rfl ?_)
        refine awpH_done kr ?_
        rotate_left
        all_goals ((repeat' (first | (refine awpL_step TT rfl rfl rfl sd ?_) | (refine awpL_nil ?_) | (refine awpL_skip rfl rfl ?_) | (refine awpQ_step TT rfl rfl rfl rfl sd ?_) | (refine awpQ_nil ?_) | (refine awpQ_skip rfl rfl ?_) | (refine awp_seq ?_) | (refine awp_region ?_) | (refine awp_block ?_) | (refine awp_exit ?_) | (refine awp_skip ?_) | (refine awp_ret ?_) | (refine awp_cond_t rfl ?_) | (refine awp_cond_f rfl ?_) | (refine awp_quiet TM rfl (by kernel_rfl) ?_) | ((first | refine awpL_split rfl rfl rfl (fun hc => ?_) (fun hc => ?_) | refine awpQ_split rfl rfl rfl (fun hc => ?_) (fun hc => ?_) | refine awp_cond rfl (fun hc => ?_) (fun hc => ?_)) <;> ((try simp at hc) <;> try contradiction)))) <;> try (exfalso; omega))
        all_goals
          refine ⟨[], m + 1, ⟨by omega, fun h => by omega⟩, (by first | omega | (dsimp only; omega)), ⟨(by repeat' (first | exact trivial | refine ⟨rfl, ?_⟩ | refine ⟨congrArg some (congrArg vI (by first | omega | (simp; done) | (simp; omega))), ?_⟩ | refine ⟨sl_eqA (by first | omega | (simp; done) | (simp; omega)), ?_⟩)), ⟨own_ints ?_, rfl, trivial⟩, rfl⟩⟩
          have hs : sgnTo xs (i * k) k = 1 ∨ sgnTo xs (i * k) k = -1 := by
            rcases hsg with h | h
            · have := sgn_gcd h; omega
            · exact h
          rw [eo, hat, tdiv_sgn hs]; rfl
      · exact fin_n rfl (by repeat' (first | exact trivial | exact Nat.zero_lt_one | omega | refine ⟨?_, ?_⟩)) [] (.tup []) [(1, .own 3 cap (.ints (primAt xs (i * k) k)))] 2 ⟨rfl, rfl, rfl⟩ rfl ⟨trivial, ⟨own_ints (hend m hm hm0 fun _ => hc), trivial⟩, rfl⟩ rfl
    · obtain rfl : m = k := by omega
      ((repeat' (first | (refine awpL_step TT rfl rfl rfl sd ?_) | (refine awpL_nil ?_) | (refine awpL_skip rfl rfl ?_) | (refine awpQ_step TT rfl rfl rfl rfl sd ?_) | (refine awpQ_nil ?_) | (refine awpQ_skip rfl rfl ?_) | (refine awp_seq ?_) | (refine awp_region ?_) | (refine awp_block ?_) | (refine awp_exit ?_) | (refine awp_skip ?_) | (refine awp_ret ?_) | (refine awp_cond_t rfl ?_) | (refine awp_cond_f rfl ?_) | (refine awp_quiet TM rfl (by kernel_rfl) ?_) | ((first | refine awpL_split rfl rfl rfl (fun hc => ?_) (fun hc => ?_) | refine awpQ_split rfl rfl rfl (fun hc => ?_) (fun hc => ?_) | refine awp_cond rfl (fun hc => ?_) (fun hc => ?_)) <;> ((try simp at hc) <;> try contradiction)))) <;> try (exfalso; omega))
      exact fin_n rfl (by repeat' (first | exact trivial | exact Nat.zero_lt_one | omega | refine ⟨?_, ?_⟩)) [] (.tup []) [(1, .own 3 cap (.ints (primAt xs (i * m) m)))] 2 ⟨rfl, rfl, rfl⟩ rfl ⟨trivial, ⟨own_ints (hend m hm hm0 fun h => absurd h (by omega)), trivial⟩, rfl⟩ rfl
end Go.Proofs.Ytmkoifmokdmebaa
