/-
  CONTRACT: IsPolygon of the program.
-/
import Derived.Test.YtbgeooalhoaemaabPolyS
set_option linter.unusedVariables false
set_option linter.unusedSimpArgs false
namespace Go.Proofs.Ytbgeooalhoaemaa
open Go.RowKit

set_option maxRecDepth 100000 in
set_option maxHeartbeats 4000000 in
theorem d_polyI (ps : List (Int × Int)) (c : Nat) (hl : ps.length ≤ 1099511627776) : Does Try.prog 23 [vQ 1 ps.length c] [(1, .ro (.i2 ps))] 2 (Ret (vB (polyP ps)) 2) := by
  refine Does.intro TT Try.func23 rfl (by kernel_rfl) rfl rfl fun E hE => ?_
  by_cases hlen : 3 ≤ ps.length ∧ ps.length ≤ 8
  · ((repeat' (first | (refine awpL_step TT rfl rfl rfl sd ?_) | (refine awpL_nil ?_) | (refine awpL_skip rfl rfl ?_) | (refine awpQ_step TT rfl rfl rfl rfl sd ?_) | (refine awpQ_nil ?_) | (refine awpQ_skip rfl rfl ?_) | (refine awp_seq ?_) | (refine awp_region ?_) | (refine awp_block ?_) | (refine awp_exit ?_) | (refine awp_skip ?_) | (refine awp_ret ?_) | (refine awp_cond_t rfl ?_) | (refine awp_cond_f rfl ?_) | (refine awp_quiet TM rfl (by kernel_rfl) ?_) | ((first | refine awpL_split rfl rfl rfl (fun hc => ?_) (fun hc => ?_) | refine awpQ_split rfl rfl rfl (fun hc => ?_) (fun hc => ?_) | refine awp_cond rfl (fun hc => ?_) (fun hc => ?_)) <;> ((try simp at hc) <;> try contradiction)))) <;> try (exfalso; omega))
    refine awp_loop hE (fun i : Nat => i ≤ ps.length ∧ ∀ q, q < i → pOk (ptP ps q) = true) (fun i => ps.length - i) (fun i => [(0, vQ 1 ps.length c), (3, vI ps.length), (17, vQ 1 ps.length c), (18, vI ps.length), (19, vI i)]) (fun _ => [(1, .ro (.i2 ps))]) 2 [] 0 ⟨Nat.zero_le _, fun _ h => by omega⟩ ⟨(by repeat' (first | exact trivial | refine ⟨rfl, ?_⟩ | refine ⟨congrArg some (congrArg vI (by first | omega | (simp; done) | (simp; omega))), ?_⟩ | refine ⟨sl_eqA (by first | omega | (simp; done) | (simp; omega)), ?_⟩)), (by repeat' (first | exact trivial | refine ⟨rfl, ?_⟩)), rfl⟩ ?_
    rintro i ⟨hi, hok⟩
    by_cases hil : i < ps.length
    · have hno : pOk (ptP ps i) = false → polyP ps = false := fun h => Bool.eq_false_iff.2 fun hp => by rw [(polyP_no hp).2.1 i hil] at h; cases h
      have e : ptP ps i = ps.getD (0 + (i : Int).toNat) (0, 0) := by simp [ptP]
      have e' : ptP ps i = ps[i]?.getD (0, 0) := by simp [ptP]
      cases hp : pOk (ptP ps i)
      · have hb := hno hp
        have hp' : ¬ (-10 ≤ (ptP ps i).1 ∧ (ptP ps i).1 ≤ 10 ∧ -10 ≤ (ptP ps i).2 ∧ (ptP ps i).2 ≤ 10) := fun h => by rw [pOk_true.2 h] at hp; cases hp
        have hp2 := hp'
        rw [e] at hp'
        rw [e'] at hp2
        ((repeat' (first | (refine awpL_step TT rfl rfl rfl sd ?_) | (refine awpL_nil ?_) | (refine awpL_skip rfl rfl ?_) | (refine awpQ_step TT rfl rfl rfl rfl sd ?_) | (refine awpQ_nil ?_) | (refine awpQ_skip rfl rfl ?_) | (refine awp_seq ?_) | (refine awp_region ?_) | (refine awp_block ?_) | (refine awp_exit ?_) | (refine awp_skip ?_) | (refine awp_ret ?_) | (refine awp_cond_t rfl ?_) | (refine awp_cond_f rfl ?_) | (refine awp_quiet TM rfl (by kernel_rfl) ?_) | ((first | refine awpL_split rfl rfl rfl (fun hc => ?_) (fun hc => ?_) | refine awpQ_split rfl rfl rfl (fun hc => ?_) (fun hc => ?_) | refine awp_cond rfl (fun hc => ?_) (fun hc => ?_)) <;> ((try simp at hc) <;> try contradiction)))) <;> try (exfalso; omega))
        all_goals refine fin_ret rfl (by repeat' (first | exact trivial | exact Nat.zero_lt_one | omega | refine ⟨?_, ?_⟩)) (congrArg vB hb.symm) rfl
      · have hq := pOk_true.1 hp
        have hq2 := hq
        rw [e] at hq
        rw [e'] at hq2
        ((repeat' (first | (refine awpL_step TT rfl rfl rfl sd ?_) | (refine awpL_nil ?_) | (refine awpL_skip rfl rfl ?_) | (refine awpQ_step TT rfl rfl rfl rfl sd ?_) | (refine awpQ_nil ?_) | (refine awpQ_skip rfl rfl ?_) | (refine awp_seq ?_) | (refine awp_region ?_) | (refine awp_block ?_) | (refine awp_exit ?_) | (refine awp_skip ?_) | (refine awp_ret ?_) | (refine awp_cond_t rfl ?_) | (refine awp_cond_f rfl ?_) | (refine awp_quiet TM rfl (by kernel_rfl) ?_) | ((first | refine awpL_split rfl rfl rfl (fun hc => ?_) (fun hc => ?_) | refine awpQ_split rfl rfl rfl (fun hc => ?_) (fun hc => ?_) | refine awp_cond rfl (fun hc => ?_) (fun hc => ?_)) <;> ((try simp at hc) <;> try contradiction)))) <;> try (exfalso; omega))
        all_goals exact ⟨[], i + 1, ⟨hil, allTo_next hok hp⟩, (by first | omega | (dsimp only; omega)), ⟨(by repeat' (first | exact trivial | refine ⟨rfl, ?_⟩ | refine ⟨congrArg some (congrArg vI (by first | omega | (simp; done) | (simp; omega))), ?_⟩ | refine ⟨sl_eqA (by first | omega | (simp; done) | (simp; omega)), ?_⟩)), (by repeat' (first | exact trivial | refine ⟨rfl, ?_⟩)), rfl⟩⟩
    · obtain rfl : i = ps.length := by omega
      ((repeat' (first | (refine awpL_step TT rfl rfl rfl sd ?_) | (refine awpL_nil ?_) | (refine awpL_skip rfl rfl ?_) | (refine awpQ_step TT rfl rfl rfl rfl sd ?_) | (refine awpQ_nil ?_) | (refine awpQ_skip rfl rfl ?_) | (refine awp_seq ?_) | (refine awp_region ?_) | (refine awp_block ?_) | (refine awp_exit ?_) | (refine awp_skip ?_) | (refine awp_ret ?_) | (refine awp_cond_t rfl ?_) | (refine awp_cond_f rfl ?_) | (refine awp_quiet TM rfl (by kernel_rfl) ?_) | ((first | refine awpL_split rfl rfl rfl (fun hc => ?_) (fun hc => ?_) | refine awpQ_split rfl rfl rfl (fun hc => ?_) (fun hc => ?_) | refine awp_cond rfl (fun hc => ?_) (fun hc => ?_)) <;> ((try simp at hc) <;> try contradiction)))) <;> try (exfalso; omega))
      refine awp_loop hE (fun i : Nat => i ≤ ps.length ∧ ∀ q, q < i → ∀ k, k < ps.length → leftP ps q k = true) (fun i => ps.length - i) (fun i => [(0, vQ 1 ps.length c), (3, vI ps.length), (43, vI ps.length), (44, vI i)]) (fun _ => [(1, .ro (.i2 ps))]) 2 [] 0 ⟨Nat.zero_le _, fun _ h => by omega⟩ ⟨(by repeat' (first | exact trivial | refine ⟨rfl, ?_⟩ | refine ⟨congrArg some (congrArg vI (by first | omega | (simp; done) | (simp; omega))), ?_⟩ | refine ⟨sl_eqA (by first | omega | (simp; done) | (simp; omega)), ?_⟩)), (by repeat' (first | exact trivial | refine ⟨rfl, ?_⟩)), rfl⟩ ?_
      rintro i ⟨hi, hsd⟩
      by_cases hil : i < ps.length
      · ((repeat' (first | (refine awpL_step TT rfl rfl rfl sd ?_) | (refine awpL_nil ?_) | (refine awpL_skip rfl rfl ?_) | (refine awpQ_step TT rfl rfl rfl rfl sd ?_) | (refine awpQ_nil ?_) | (refine awpQ_skip rfl rfl ?_) | (refine awp_seq ?_) | (refine awp_region ?_) | (refine awp_block ?_) | (refine awp_exit ?_) | (refine awp_skip ?_) | (refine awp_ret ?_) | (refine awp_cond_t rfl ?_) | (refine awp_cond_f rfl ?_) | (refine awp_quiet TM rfl (by kernel_rfl) ?_) | ((first | refine awpL_split rfl rfl rfl (fun hc => ?_) (fun hc => ?_) | refine awpQ_split rfl rfl rfl (fun hc => ?_) (fun hc => ?_) | refine awp_cond rfl (fun hc => ?_) (fun hc => ?_)) <;> ((try simp at hc) <;> try contradiction)))) <;> try (exfalso; omega))
        refine awp_loop hE (fun k : Nat => k ≤ ps.length ∧ ∀ q, q < k → leftP ps i q = true) (fun k => ps.length - k) (fun k => [(0, vQ 1 ps.length c), (3, vI ps.length), (6, vI i), (7, vI (((i : Int) + 1).tmod (ps.length : Int))), (43, vI ps.length), (44, vI i), (52, vI ps.length), (53, vI k)]) (fun _ => [(1, .ro (.i2 ps))]) 2 [] 0 ⟨Nat.zero_le _, fun _ h => by omega⟩ ⟨(by repeat' (first | exact trivial | refine ⟨rfl, ?_⟩ | refine ⟨congrArg some (congrArg vI (by first | omega | (simp; done) | (simp; omega))), ?_⟩ | refine ⟨sl_eqA (by first | omega | (simp; done) | (simp; omega)), ?_⟩)), (by repeat' (first | exact trivial | refine ⟨rfl, ?_⟩)), rfl⟩ ?_
        rintro k ⟨hk, hlf⟩
        by_cases hkl : k < ps.length
        · have hjl : (i + 1) % ps.length < ps.length := Nat.mod_lt _ (by omega)
          have hjI : ((i : Int) + 1) % (ps.length : Int) = ((i + 1) % ps.length : Nat) := by simp
          have hjT : ((i : Int) + 1).tmod (ps.length : Int) = ((i + 1) % ps.length : Nat) := by rw [Int.tmod_eq_emod_of_nonneg (by omega), hjI]
          have o1 := hok i hil
          have o2 := hok _ hjl
          have o3 := hok k hkl
          have hno : leftP ps i k = false → polyP ps = false := fun h => Bool.eq_false_iff.2 fun hp => by rw [(polyP_no hp).2.2 i hil k hkl] at h; cases h
          have g1 : ps.getD (0 + (i : Int).toNat) (0, 0) = ptP ps i := by simp [ptP]
          have g3 : ps.getD (0 + (k : Int).toNat) (0, 0) = ptP ps k := by simp [ptP]
          have g2 : ps.getD (0 + (((i : Int) + 1).tmod (ps.length : Int)).toNat) (0, 0) = ptP ps ((i + 1) % ps.length) := by rw [hjT, Nat.zero_add, Int.toNat_natCast]; rfl
          have ht := d_turnI (ps.getD (0 + (i : Int).toNat) (0, 0)) (ps.getD (0 + (((i : Int) + 1).tmod (ps.length : Int)).toNat) (0, 0)) (ps.getD (0 + (k : Int).toNat) (0, 0)) (by rw [g1]; exact o1) (by rw [g2]; exact o2) (by rw [g3]; exact o3)
          generalize hT : turnP (ps.getD (0 + (i : Int).toNat) (0, 0)) (ps.getD (0 + (((i : Int) + 1).tmod (ps.length : Int)).toNat) (0, 0)) (ps.getD (0 + (k : Int).toNat) (0, 0)) = z at ht
          have hlv : leftP ps i k = decide (k = i ∨ k = (i + 1) % ps.length ∨ 0 < z) := by rw [← hT, g1, g2, g3]; rfl
          generalize (i + 1) % ps.length = j at *
          ((repeat' (first | (refine awpL_step TT rfl rfl rfl sd ?_) | (refine awpL_nil ?_) | (refine awpL_skip rfl rfl ?_) | (refine awpQ_step TT rfl rfl rfl rfl sd ?_) | (refine awpQ_nil ?_) | (refine awpQ_skip rfl rfl ?_) | (refine awp_seq ?_) | (refine awp_region ?_) | ((first | refine awpL_ret (ht) rfl rfl rfl rfl rfl rfl rfl rfl ft rfl rfl ?_ | refine awpQ_ret (ht) rfl rfl rfl rfl rfl rfl rfl rfl ft rfl rfl ?_ | refine awpHop_ret _ (ht) rfl rfl rfl rfl rfl rfl rfl rfl rfl ft rfl rfl sb rfl ?_)) | (refine awp_block ?_) | (refine awp_exit ?_) | (refine awp_skip ?_) | (refine awp_ret ?_) | (refine awp_cond_t rfl ?_) | (refine awp_cond_f rfl ?_) | (refine awp_quiet TM rfl (by kernel_rfl) ?_) | ((first | refine awpL_split rfl rfl rfl (fun hc => ?_) (fun hc => ?_) | refine awpQ_split rfl rfl rfl (fun hc => ?_) (fun hc => ?_) | refine awp_cond rfl (fun hc => ?_) (fun hc => ?_)) <;> ((try simp at hc) <;> try contradiction)))) <;> try (exfalso; omega))
          all_goals first
            | refine fin_ret rfl (by repeat' (first | exact trivial | exact Nat.zero_lt_one | omega | refine ⟨?_, ?_⟩)) (congrArg vB (hno (by rw [hlv]; exact decide_eq_false (by omega))).symm) rfl
            | exact ⟨[], k + 1, ⟨hkl, allTo_next hlf (by rw [hlv]; exact decide_eq_true (by omega))⟩, (by first | omega | (dsimp only; omega)), ⟨(by repeat' (first | exact trivial | refine ⟨rfl, ?_⟩ | refine ⟨congrArg some (congrArg vI (by first | omega | (simp; done) | (simp; omega))), ?_⟩ | refine ⟨sl_eqA (by first | omega | (simp; done) | (simp; omega)), ?_⟩)), (by repeat' (first | exact trivial | refine ⟨rfl, ?_⟩)), rfl⟩⟩
        · obtain rfl : k = ps.length := by omega
          ((repeat' (first | (refine awpL_step TT rfl rfl rfl sd ?_) | (refine awpL_nil ?_) | (refine awpL_skip rfl rfl ?_) | (refine awpQ_step TT rfl rfl rfl rfl sd ?_) | (refine awpQ_nil ?_) | (refine awpQ_skip rfl rfl ?_) | (refine awp_seq ?_) | (refine awp_region ?_) | (refine awp_block ?_) | (refine awp_exit ?_) | (refine awp_skip ?_) | (refine awp_ret ?_) | (refine awp_cond_t rfl ?_) | (refine awp_cond_f rfl ?_) | (refine awp_quiet TM rfl (by kernel_rfl) ?_) | ((first | refine awpL_split rfl rfl rfl (fun hc => ?_) (fun hc => ?_) | refine awpQ_split rfl rfl rfl (fun hc => ?_) (fun hc => ?_) | refine awp_cond rfl (fun hc => ?_) (fun hc => ?_)) <;> ((try simp at hc) <;> try contradiction)))) <;> try (exfalso; omega))
          exact ⟨[], i + 1, ⟨hil, allTo_next (f := fun q => decide (∀ k, k < ps.length → leftP ps q k = true)) (fun q hq => decide_eq_true (hsd q hq)) (decide_eq_true hlf) |> fun h q hq => of_decide_eq_true (h q hq)⟩, (by first | omega | (dsimp only; omega)), ⟨(by repeat' (first | exact trivial | refine ⟨rfl, ?_⟩ | refine ⟨congrArg some (congrArg vI (by first | omega | (simp; done) | (simp; omega))), ?_⟩ | refine ⟨sl_eqA (by first | omega | (simp; done) | (simp; omega)), ?_⟩)), (by repeat' (first | exact trivial | refine ⟨rfl, ?_⟩)), rfl⟩⟩
      · obtain rfl : i = ps.length := by omega
        have hb : polyP ps = true := polyP_yes hlen hok hsd
        ((repeat' (first | (refine awpL_step TT rfl rfl rfl sd ?_) | (refine awpL_nil ?_) | (refine awpL_skip rfl rfl ?_) | (refine awpQ_step TT rfl rfl rfl rfl sd ?_) | (refine awpQ_nil ?_) | (refine awpQ_skip rfl rfl ?_) | (refine awp_seq ?_) | (refine awp_region ?_) | (refine awp_block ?_) | (refine awp_exit ?_) | (refine awp_skip ?_) | (refine awp_ret ?_) | (refine awp_cond_t rfl ?_) | (refine awp_cond_f rfl ?_) | (refine awp_quiet TM rfl (by kernel_rfl) ?_) | ((first | refine awpL_split rfl rfl rfl (fun hc => ?_) (fun hc => ?_) | refine awpQ_split rfl rfl rfl (fun hc => ?_) (fun hc => ?_) | refine awp_cond rfl (fun hc => ?_) (fun hc => ?_)) <;> ((try simp at hc) <;> try contradiction)))) <;> try (exfalso; omega))
        all_goals refine fin_ret rfl (by repeat' (first | exact trivial | exact Nat.zero_lt_one | omega | refine ⟨?_, ?_⟩)) (congrArg vB hb.symm) rfl
  · have hb : polyP ps = false := Bool.eq_false_iff.2 fun hp => hlen (polyP_no hp).1
    ((repeat' (first | (refine awpL_step TT rfl rfl rfl sd ?_) | (refine awpL_nil ?_) | (refine awpL_skip rfl rfl ?_) | (refine awpQ_step TT rfl rfl rfl rfl sd ?_) | (refine awpQ_nil ?_) | (refine awpQ_skip rfl rfl ?_) | (refine awp_seq ?_) | (refine awp_region ?_) | (refine awp_block ?_) | (refine awp_exit ?_) | (refine awp_skip ?_) | (refine awp_ret ?_) | (refine awp_cond_t rfl ?_) | (refine awp_cond_f rfl ?_) | (refine awp_quiet TM rfl (by kernel_rfl) ?_) | ((first | refine awpL_split rfl rfl rfl (fun hc => ?_) (fun hc => ?_) | refine awpQ_split rfl rfl rfl (fun hc => ?_) (fun hc => ?_) | refine awp_cond rfl (fun hc => ?_) (fun hc => ?_)) <;> ((try simp at hc) <;> try contradiction)))) <;> try (exfalso; omega))
    all_goals refine fin_ret rfl (by repeat' (first | exact trivial | exact Nat.zero_lt_one | omega | refine ⟨?_, ?_⟩)) (congrArg vB hb.symm) rfl
end Go.Proofs.Ytbgeooalhoaemaa
