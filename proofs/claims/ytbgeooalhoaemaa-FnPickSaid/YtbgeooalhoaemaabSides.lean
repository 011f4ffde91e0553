/-
  CONTRACTS: the sides of a polygon, of both packages.
-/
import Derived.Test.YtbgeooalhoaemaapDil
import Derived.Test.YtbgeooalhoaemaabPolyI
import Derived.Test.YtbgeooalhoaemaabRows
import Derived.Test.YtbgeooalhoaemaaAm8
set_option linter.unusedVariables false
set_option linter.unusedSimpArgs false
namespace Go.Proofs.Ytbgeooalhoaemaa
open Go.RowKit

def SidesR (t : TypeId) (ps : List (Int × Int)) (b : Bool) (k : Nat) (v : AV) (Hout : List (Nat × Blk)) (n1 : Nat) : Prop := match b with
  | true => ∃ c d, (sidesA ps ps.length).length ≤ c ∧ (sidesB ps ps.length).length ≤ d ∧ v = .tup [.agg [.int ps.length, .int 2, .sl k 1 0 (sidesA ps ps.length).length c], .one (.sl (k + 1) 1 0 (sidesB ps ps.length).length d), .one (.bool true)] ∧ Hout = [(k, .own t c (.ints (sidesA ps ps.length))), (k + 1, .own t d (.ints (sidesB ps ps.length)))] ∧ n1 = k + 2
  | false => v = .tup [.agg zeroM, .one (.sl k 1 0 0 0), .one (.bool false)] ∧ Hout = [(k, .own t 0 (.ints []))] ∧ n1 = k + 1
theorem pt_next {ps : List (Int × Int)} {i : Nat} (hi : i < ps.length) : ps.getD (0 + (((i : Int) + 1).tmod (ps.length : Int)).toNat) (0, 0) = nxP ps i := by
  have hjI : ((i : Int) + 1) % (ps.length : Int) = ((i + 1) % ps.length : Nat) := by simp
  have hjT : ((i : Int) + 1).tmod (ps.length : Int) = ((i + 1) % ps.length : Nat) := by rw [Int.tmod_eq_emod_of_nonneg (by omega), hjI]
  rw [hjT, Nat.zero_add, Int.toNat_natCast]; rfl
theorem tm_bd {ps : List (Int × Int)} {i : Nat} (hi : i < ps.length) : 0 ≤ ((i : Int) + 1).tmod (ps.length : Int) ∧ ((i : Int) + 1).tmod (ps.length : Int) < ps.length := by
  have hjI : ((i : Int) + 1) % (ps.length : Int) = ((i + 1) % ps.length : Nat) := by simp
  have hjT : ((i : Int) + 1).tmod (ps.length : Int) = ((i + 1) % ps.length : Nat) := by rw [Int.tmod_eq_emod_of_nonneg (by omega), hjI]
  have : (i + 1) % ps.length < ps.length := Nat.mod_lt _ (by omega)
  omega
set_option maxRecDepth 100000 in
set_option maxHeartbeats 4000000 in
theorem d_sidesS (ps : List (Int × Int)) (c : Nat) (hl : ps.length ≤ 1099511627776) : Does Try.prog 37 [vQ 1 ps.length c] [(1, .ro (.i2 ps))] 2 (SidesR 3 ps (polyP ps) 2) := by
  refine Does.intro TT Try.func37 rfl (by kernel_rfl) rfl rfl fun E hE => ?_
  have hp := d_polyS ps c hl
  unfold SidesR
  cases hb : polyP ps
  all_goals rw [hb] at hp
  all_goals ((repeat' (first | (refine awpL_step TT rfl rfl rfl sd ?_) | (refine awpL_nil ?_) | (refine awpL_skip rfl rfl ?_) | (refine awpQ_step TT rfl rfl rfl rfl sd ?_) | (refine awpQ_nil ?_) | (refine awpQ_skip rfl rfl ?_) | (refine awp_seq ?_) | (refine awp_region ?_) | (first | refine awpL_ret (hp) rfl rfl rfl rfl rfl rfl rfl rfl ft rfl rfl ?_ | refine awpQ_ret (hp) rfl rfl rfl rfl rfl rfl rfl rfl ft rfl rfl ?_ | refine awpHop_ret _ (hp) rfl rfl rfl rfl rfl rfl rfl rfl rfl ft rfl rfl sb rfl ?_) | (refine awp_block ?_) | (refine awp_exit ?_) | (refine awp_skip ?_) | (refine awp_ret ?_) | (refine awp_cond_t rfl ?_) | (refine awp_cond_f rfl ?_) | (refine awp_quiet TM rfl (by kernel_rfl) ?_) | ((first | refine awpL_split rfl rfl rfl (fun hc => ?_) (fun hc => ?_) | refine awpQ_split rfl rfl rfl (fun hc => ?_) (fun hc => ?_) | refine awp_cond rfl (fun hc => ?_) (fun hc => ?_)) <;> ((try simp at hc) <;> try contradiction)))) <;> try (exfalso; omega))
  · exact fin rfl (by repeat' (first | exact trivial | exact Nat.zero_lt_one | omega | refine ⟨?_, ?_⟩)) [(2, 3)] (.tup [.agg zeroM, .one (.sl 2 1 0 0 0), .one (.bool false)]) [(2, .own 3 0 (.ints []))] 3 (⟨rfl, rfl, rfl⟩) rfl ⟨trivial, ⟨own_ints rfl, trivial⟩, rfl⟩ rfl
  · refine awp_nil (k := 3) (f := 2) (sz := 1) (e0 := .ints []) (et := 3) rfl rfl rfl rfl (fun _ h => by cases h) ?_
    refine awp_loop hE (fun x : Nat × Nat × Nat => x.1 ≤ ps.length ∧ (sidesA ps x.1).length ≤ x.2.1 ∧ (sidesB ps x.1).length ≤ x.2.2) (fun x => ps.length - x.1)
      (fun x => [(0, vQ 1 ps.length c), (2, .one (.ptr 2 3 0 0)), (5, .one (.ptr 3 3 0 0)), (6, vS 5 1 0 (sidesB ps x.1).length x.2.2), (7, vI x.1)])
      (fun x => [(1, .ro (.i2 ps)), (2, .own 27 1 (.lit zeroM)), (3, .own 27 1 (.lit [.int ps.length, .int 2, .sl 4 1 0 (sidesA ps x.1).length x.2.1])), (4, .own 3 x.2.1 (.ints (sidesA ps x.1))), (5, .own 3 x.2.2 (.ints (sidesB ps x.1)))]) 6 [(4, 5), (5, 4)] (0, 0, 0) ⟨Nat.zero_le _, Nat.le_refl _, Nat.le_refl _⟩ ⟨(by repeat' (first | exact trivial | refine ⟨rfl, ?_⟩ | refine ⟨congrArg some (congrArg vI (by first | omega | (simp; done) | (simp; omega))), ?_⟩ | refine ⟨sl_eqA (by first | omega | (simp; done) | (simp; omega)), ?_⟩)), (by repeat' (first | exact trivial | refine ⟨rfl, ?_⟩)), rfl⟩ ?_
    rintro ⟨i, c1, c2⟩ ⟨hi, hc1, hc2⟩
    dsimp only at hi hc1 hc2
    have lA := sidesA_len (ps := ps) (n := i)
    have lB := sidesB_len (ps := ps) (n := i)
    have h8 := (polyP_no hb).1
    by_cases hil : i < ps.length
    · have lA1 := sidesA_len (ps := ps) (n := i + 1)
      have lB1 := sidesB_len (ps := ps) (n := i + 1)
      have e1 : ps.getD (0 + (i : Int).toNat) (0, 0) = ptP ps i := by simp [ptP]
      have e2 := pt_next hil
      have ht := tm_bd hil
      obtain ⟨b1, b2, b3, b4, b5⟩ := sd_bd hb hil
      have o1 := pOk_true.1 b4
      have o2 := pOk_true.1 b5
      rw [← e1] at o1
      rw [← e2] at o2
      have dX : (ps.getD (0 + (((i : Int) + 1).tmod (ps.length : Int)).toNat) (0, 0)).2 - (ps.getD (0 + (i : Int).toNat) (0, 0)).2 = sdX ps i := by rw [e1, e2]; rfl
      have dY : (ps.getD (0 + (i : Int).toNat) (0, 0)).1 - (ps.getD (0 + (((i : Int) + 1).tmod (ps.length : Int)).toNat) (0, 0)).1 = sdY ps i := by rw [e1, e2]; rfl
      have m1 := mul_bd (A := 20) (B := 10) (a := (ps.getD (0 + (((i : Int) + 1).tmod (ps.length : Int)).toNat) (0, 0)).2 - (ps.getD (0 + (i : Int).toNat) (0, 0)).2) (b := (ps.getD (0 + (i : Int).toNat) (0, 0)).1) (by omega) (by omega) (by omega) (by omega)
      have m2 := mul_bd (A := 20) (B := 10) (a := (ps.getD (0 + (i : Int).toNat) (0, 0)).1 - (ps.getD (0 + (((i : Int) + 1).tmod (ps.length : Int)).toNat) (0, 0)).1) (b := (ps.getD (0 + (i : Int).toNat) (0, 0)).2) (by omega) (by omega) (by omega) (by omega)
      ((repeat' (first | (refine awpL_step TT rfl rfl rfl sd ?_) | (refine awpL_nil ?_) | (refine awpL_skip rfl rfl ?_) | (refine awpQ_step TT rfl rfl rfl rfl sd ?_) | (refine awpQ_nil ?_) | (refine awpQ_skip rfl rfl ?_) | (refine awp_seq ?_) | (refine awp_region ?_) | (first | (refine awpL_append TT rfl rfl rfl rfl rfl sd ?_; intro cap hcap) | (refine awpHop_append TT _ rfl rfl rfl rfl rfl rfl sd sb rfl rfl ?_; intro cap hcap)) | (refine awp_block ?_) | (refine awp_exit ?_) | (refine awp_skip ?_) | (refine awp_ret ?_) | (refine awp_cond_t rfl ?_) | (refine awp_cond_f rfl ?_) | (refine awp_quiet TM rfl (by kernel_rfl) ?_) | ((first | refine awpL_split rfl rfl rfl (fun hc => ?_) (fun hc => ?_) | refine awpQ_split rfl rfl rfl (fun hc => ?_) (fun hc => ?_) | refine awp_cond rfl (fun hc => ?_) (fun hc => ?_)) <;> ((try simp at hc) <;> try contradiction)))) <;> try (exfalso; omega))
      refine awp_held TM [(1, _)] sb rfl (fun ρs => ?_)
      refine awpH_take TT 0 rfl kr kr kr nh rfl rfl rfl rfl sd ?_
      refine awpH_take TT 1 rfl kr kr kr nh rfl rfl rfl rfl sd ?_
      refine awpH_take TT 2 rfl kr kr kr nh rfl rfl rfl rfl sd ?_
      refine awpH_take TT 3 rfl kr kr kr nh rfl rfl rfl rfl sd ?_
      first | (refine awpH_take TT 4 rfl kr kr kr nh rfl rfl rfl rfl sd ?_) | (refine awpH_idx TT 4 rfl kr kr kr nh rfl rfl rfl rfl rfl sd ?_)
      refine awpH_take TT 5 rfl kr kr kr nh rfl rfl rfl rfl sd ?_
      refine awpH_take TT 6 rfl kr kr kr nh rfl rfl rfl rfl sd ?_
      refine awpH_take TT 7 rfl kr kr kr nh rfl rfl rfl rfl sd ?_
      refine awpH_take TT 8 rfl kr kr kr nh rfl rfl rfl rfl sd ?_
      refine awpH_take TT 9 rfl kr kr kr nh rfl rfl rfl rfl sd ?_
      refine awpH_take TT 10 rfl kr kr kr nh rfl rfl rfl rfl sd ?_
      first | (refine awpH_take TT 11 rfl kr kr kr nh rfl rfl rfl rfl sd ?_) | (refine awpH_idx TT 11 rfl kr kr kr nh rfl rfl rfl rfl rfl sd ?_)
      refine awpH_take TT 12 rfl kr kr kr nh rfl rfl rfl rfl sd ?_
      refine awpH_take TT 13 rfl kr kr kr nh rfl rfl rfl rfl sd ?_
      refine awpH_take TT 14 rfl kr kr kr nh rfl rfl rfl rfl sd ?_
      refine awpH_take TT 15 rfl kr kr kr nh rfl rfl rfl rfl sd ?_
      refine awpH_all [16] kr rfl ⟨?_, trivial⟩
      first | (refine awpHop_step TT 16 rfl rfl rfl rfl sd sb rfl ?_) | (first | (refine awpL_append TT rfl rfl rfl rfl rfl sd ?_; intro cap hcap) | (refine awpHop_append TT _ rfl rfl rfl rfl rfl rfl sd sb rfl rfl ?_; intro cap hcap))
      refine awpH_all [17] kr rfl ⟨?_, trivial⟩
      first | (refine awpHop_step TT 17 rfl rfl rfl rfl sd sb rfl ?_) | (first | (refine awpL_append TT rfl rfl rfl rfl rfl sd ?_; intro cap hcap) | (refine awpHop_append TT _ rfl rfl rfl rfl rfl rfl sd sb rfl rfl ?_; intro cap hcap))
      refine awpH_take TT 18 rfl kr kr kr nh rfl rfl rfl rfl sd ?_
      refine awpH_done kr ?_
      rotate_left
      all_goals ((repeat' (first | (refine awpL_step TT rfl rfl rfl sd ?_) | (refine awpL_nil ?_) | (refine awpL_skip rfl rfl ?_) | (refine awpQ_step TT rfl rfl rfl rfl sd ?_) | (refine awpQ_nil ?_) | (refine awpQ_skip rfl rfl ?_) | (refine awp_seq ?_) | (refine awp_region ?_) | (refine awp_block ?_) | (refine awp_exit ?_) | (refine awp_skip ?_) | (refine awp_ret ?_) | (refine awp_cond_t rfl ?_) | (refine awp_cond_f rfl ?_) | (refine awp_quiet TM rfl (by kernel_rfl) ?_) | ((first | refine awpL_split rfl rfl rfl (fun hc => ?_) (fun hc => ?_) | refine awpQ_split rfl rfl rfl (fun hc => ?_) (fun hc => ?_) | refine awp_cond rfl (fun hc => ?_) (fun hc => ?_)) <;> ((try simp at hc) <;> try contradiction)))) <;> try (exfalso; omega))
      all_goals rename_i cap1 hcap1
      all_goals refine ⟨[(4, 7), (5, 9)], (i + 1, cap1, cap), ⟨hil, ?_, ?_⟩, (by first | omega | (dsimp only; omega)), ⟨(by repeat' (first | exact trivial | refine ⟨rfl, ?_⟩ | refine ⟨congrArg some (congrArg vI (by first | omega | (simp; done) | (simp; omega))), ?_⟩ | refine ⟨sl_eqA (by first | omega | (simp; done) | (simp; omega)), ?_⟩)), ⟨rfl, rfl, own_lit3R ?_, own_ints ?_, own_ints ?_, trivial⟩, rfl⟩⟩
      all_goals dsimp only at *
      all_goals first
        | omega
        | (rw [dX, dY]; rfl)
        | (rw [dX, dY, e1]; rfl)
    · obtain rfl : i = ps.length := by omega
      ((repeat' (first | (refine awpL_step TT rfl rfl rfl sd ?_) | (refine awpL_nil ?_) | (refine awpL_skip rfl rfl ?_) | (refine awpQ_step TT rfl rfl rfl rfl sd ?_) | (refine awpQ_nil ?_) | (refine awpQ_skip rfl rfl ?_) | (refine awp_seq ?_) | (refine awp_region ?_) | (refine awp_block ?_) | (refine awp_exit ?_) | (refine awp_skip ?_) | (refine awp_ret ?_) | (refine awp_cond_t rfl ?_) | (refine awp_cond_f rfl ?_) | (refine awp_quiet TM rfl (by kernel_rfl) ?_) | ((first | refine awpL_split rfl rfl rfl (fun hc => ?_) (fun hc => ?_) | refine awpQ_split rfl rfl rfl (fun hc => ?_) (fun hc => ?_) | refine awp_cond rfl (fun hc => ?_) (fun hc => ?_)) <;> ((try simp at hc) <;> try contradiction)))) <;> try (exfalso; omega))
      exact fin rfl (by repeat' (first | exact trivial | exact Nat.zero_lt_one | omega | refine ⟨?_, ?_⟩)) [(2, 4), (3, 5)] (.tup [.agg [.int ps.length, .int 2, .sl 2 1 0 (sidesA ps ps.length).length c1], .one (.sl 3 1 0 (sidesB ps ps.length).length c2), .one (.bool true)]) [(2, .own 3 c1 (.ints (sidesA ps ps.length))), (3, .own 3 c2 (.ints (sidesB ps ps.length)))] 4 ⟨c1, c2, hc1, hc2, rfl, rfl, rfl⟩ rfl ⟨trivial, ⟨rfl, rfl, trivial⟩, rfl⟩ rfl
set_option maxRecDepth 100000 in
set_option maxHeartbeats 4000000 in
theorem d_sidesI (ps : List (Int × Int)) (c : Nat) (hl : ps.length ≤ 1099511627776) : Does Try.prog 38 [vQ 1 ps.length c] [(1, .ro (.i2 ps))] 2 (SidesR 3 ps (polyP ps) 2) := by
  refine Does.intro TT Try.func38 rfl (by kernel_rfl) rfl rfl fun E hE => ?_
  have hp := d_polyI ps c hl
  unfold SidesR
  cases hb : polyP ps
  all_goals rw [hb] at hp
  all_goals ((repeat' (first | (refine awpL_step TT rfl rfl rfl sd ?_) | (refine awpL_nil ?_) | (refine awpL_skip rfl rfl ?_) | (refine awpQ_step TT rfl rfl rfl rfl sd ?_) | (refine awpQ_nil ?_) | (refine awpQ_skip rfl rfl ?_) | (refine awp_seq ?_) | (refine awp_region ?_) | (first | refine awpL_ret (hp) rfl rfl rfl rfl rfl rfl rfl rfl ft rfl rfl ?_ | refine awpQ_ret (hp) rfl rfl rfl rfl rfl rfl rfl rfl ft rfl rfl ?_ | refine awpHop_ret _ (hp) rfl rfl rfl rfl rfl rfl rfl rfl rfl ft rfl rfl sb rfl ?_) | (refine awp_block ?_) | (refine awp_exit ?_) | (refine awp_skip ?_) | (refine awp_ret ?_) | (refine awp_cond_t rfl ?_) | (refine awp_cond_f rfl ?_) | (refine awp_quiet TM rfl (by kernel_rfl) ?_) | ((first | refine awpL_split rfl rfl rfl (fun hc => ?_) (fun hc => ?_) | refine awpQ_split rfl rfl rfl (fun hc => ?_) (fun hc => ?_) | refine awp_cond rfl (fun hc => ?_) (fun hc => ?_)) <;> ((try simp at hc) <;> try contradiction)))) <;> try (exfalso; omega))
  · exact fin rfl (by repeat' (first | exact trivial | exact Nat.zero_lt_one | omega | refine ⟨?_, ?_⟩)) [(2, 3)] (.tup [.agg zeroM, .one (.sl 2 1 0 0 0), .one (.bool false)]) [(2, .own 3 0 (.ints []))] 3 (⟨rfl, rfl, rfl⟩) rfl ⟨trivial, ⟨own_ints rfl, trivial⟩, rfl⟩ rfl
  · refine awp_loop hE (fun x : Nat × Nat × Nat × List Row => x.1 ≤ ps.length ∧ (sidesB ps x.1).length ≤ x.2.1 ∧ x.2.2.2.length = x.1 ∧ cellsOf x.2.2.2 = sidesA ps x.1) (fun x => ps.length - x.1)
      (fun x => [(0, vQ 1 ps.length c), (2, .one (.ptr 2 3 0 0)), (5, vS 4 1 0 x.2.2.2.length x.2.2.1), (6, vS 3 1 0 (sidesB ps x.1).length x.2.1), (18, vQ 1 ps.length c), (19, vI ps.length), (20, vI x.1)])
      (fun x => [(1, .ro (.i2 ps)), (2, .own 27 1 (.lit zeroM)), (3, .own 3 x.2.1 (.ints (sidesB ps x.1))), (4, .own 22 x.2.2.1 (.rows false true x.2.2.2))]) 5 [(3, 4), (4, 3)] (0, 0, 0, []) ⟨Nat.zero_le _, Nat.le_refl _, rfl, rfl⟩ ⟨(by repeat' (first | exact trivial | refine ⟨rfl, ?_⟩ | refine ⟨congrArg some (congrArg vI (by first | omega | (simp; done) | (simp; omega))), ?_⟩ | refine ⟨sl_eqA (by first | omega | (simp; done) | (simp; omega)), ?_⟩)), (by repeat' (first | exact trivial | refine ⟨rfl, ?_⟩)), rfl⟩ ?_
    rintro ⟨i, c1, c2, l⟩ ⟨hi, hc1, hll, hcl⟩
    dsimp only at hi hc1 hll hcl ⊢
    have lA := sidesA_len (ps := ps) (n := i)
    have lB := sidesB_len (ps := ps) (n := i)
    have h8 := (polyP_no hb).1
    by_cases hil : i < ps.length
    · have lA1 := sidesA_len (ps := ps) (n := i + 1)
      have lB1 := sidesB_len (ps := ps) (n := i + 1)
      have e1 : ps.getD (0 + (i : Int).toNat) (0, 0) = ptP ps i := by simp [ptP]
      have e2 := pt_next hil
      have ht := tm_bd hil
      obtain ⟨b1, b2, b3, b4, b5⟩ := sd_bd hb hil
      have o1 := pOk_true.1 b4
      have o2 := pOk_true.1 b5
      rw [← e1] at o1
      rw [← e2] at o2
      have dX : (ps.getD (0 + (((i : Int) + 1).tmod (ps.length : Int)).toNat) (0, 0)).2 - (ps.getD (0 + (i : Int).toNat) (0, 0)).2 = sdX ps i := by rw [e1, e2]; rfl
      have dY : -((ps.getD (0 + (((i : Int) + 1).tmod (ps.length : Int)).toNat) (0, 0)).1 - (ps.getD (0 + (i : Int).toNat) (0, 0)).1) = sdY ps i := by rw [e1, e2]; unfold sdY; omega
      have m1 := mul_bd (A := 20) (B := 10) (a := (ps.getD (0 + (((i : Int) + 1).tmod (ps.length : Int)).toNat) (0, 0)).2 - (ps.getD (0 + (i : Int).toNat) (0, 0)).2) (b := (ps.getD (0 + (i : Int).toNat) (0, 0)).1) (by omega) (by omega) (by omega) (by omega)
      have m2 := mul_bd (A := 20) (B := 10) (a := -((ps.getD (0 + (((i : Int) + 1).tmod (ps.length : Int)).toNat) (0, 0)).1 - (ps.getD (0 + (i : Int).toNat) (0, 0)).1)) (b := (ps.getD (0 + (i : Int).toNat) (0, 0)).2) (by omega) (by omega) (by omega) (by omega)
      have m1' : -(20 * 10) ≤ ([(ps.getD (0 + (((i : Int) + 1).tmod (ps.length : Int)).toNat) (0, 0)).2 - (ps.getD (0 + (i : Int).toNat) (0, 0)).2, -((ps.getD (0 + (((i : Int) + 1).tmod (ps.length : Int)).toNat) (0, 0)).1 - (ps.getD (0 + (i : Int).toNat) (0, 0)).1)] : List Int).getD (0 + Int.toNat 0) 0 * (ps.getD (0 + (i : Int).toNat) (0, 0)).1 ∧ ([(ps.getD (0 + (((i : Int) + 1).tmod (ps.length : Int)).toNat) (0, 0)).2 - (ps.getD (0 + (i : Int).toNat) (0, 0)).2, -((ps.getD (0 + (((i : Int) + 1).tmod (ps.length : Int)).toNat) (0, 0)).1 - (ps.getD (0 + (i : Int).toNat) (0, 0)).1)] : List Int).getD (0 + Int.toNat 0) 0 * (ps.getD (0 + (i : Int).toNat) (0, 0)).1 ≤ 20 * 10 := m1
      have m2' : -(20 * 10) ≤ ([(ps.getD (0 + (((i : Int) + 1).tmod (ps.length : Int)).toNat) (0, 0)).2 - (ps.getD (0 + (i : Int).toNat) (0, 0)).2, -((ps.getD (0 + (((i : Int) + 1).tmod (ps.length : Int)).toNat) (0, 0)).1 - (ps.getD (0 + (i : Int).toNat) (0, 0)).1)] : List Int).getD (0 + Int.toNat 1) 0 * (ps.getD (0 + (i : Int).toNat) (0, 0)).2 ∧ ([(ps.getD (0 + (((i : Int) + 1).tmod (ps.length : Int)).toNat) (0, 0)).2 - (ps.getD (0 + (i : Int).toNat) (0, 0)).2, -((ps.getD (0 + (((i : Int) + 1).tmod (ps.length : Int)).toNat) (0, 0)).1 - (ps.getD (0 + (i : Int).toNat) (0, 0)).1)] : List Int).getD (0 + Int.toNat 1) 0 * (ps.getD (0 + (i : Int).toNat) (0, 0)).2 ≤ 20 * 10 := m2
      ((repeat' (first | (refine awpL_step TT rfl rfl rfl sd ?_) | (refine awpL_nil ?_) | (refine awpL_skip rfl rfl ?_) | (refine awpQ_step TT rfl rfl rfl rfl sd ?_) | (refine awpQ_nil ?_) | (refine awpQ_skip rfl rfl ?_) | (refine awp_seq ?_) | (refine awp_region ?_) | (refine awp_block ?_) | (refine awp_exit ?_) | (refine awp_skip ?_) | (refine awp_ret ?_) | (refine awp_cond_t rfl ?_) | (refine awp_cond_f rfl ?_) | (refine awp_quiet TM rfl (by kernel_rfl) ?_) | ((first | refine awpL_split rfl rfl rfl (fun hc => ?_) (fun hc => ?_) | refine awpQ_split rfl rfl rfl (fun hc => ?_) (fun hc => ?_) | refine awp_cond rfl (fun hc => ?_) (fun hc => ?_)) <;> ((try simp at hc) <;> try contradiction)))) <;> try (exfalso; omega))
      ((first | refine awpL_ghost (Ghost.reveal 7 rfl) ?_ | refine awp_ghost (Ghost.reveal 7 rfl) ?_ | refine awpH_ghost (Ghost.reveal 7 rfl) ?_ | refine awpHop_ghost (Ghost.reveal 7 rfl) ?_); rintro _ _ ⟨av, rfl, rfl⟩)
      ((repeat' (first | (refine awpL_step TT rfl rfl rfl sd ?_) | (refine awpL_nil ?_) | (refine awpL_skip rfl rfl ?_) | (refine awpQ_step TT rfl rfl rfl rfl sd ?_) | (refine awpQ_nil ?_) | (refine awpQ_skip rfl rfl ?_) | (refine awp_seq ?_) | (refine awp_region ?_) | (first | (refine awpL_append TT rfl rfl rfl rfl rfl sd ?_; intro cap hcap) | (refine awpHop_append TT _ rfl rfl rfl rfl rfl rfl sd sb rfl rfl ?_; intro cap hcap)) | (refine awp_block ?_) | (refine awp_exit ?_) | (refine awp_skip ?_) | (refine awp_ret ?_) | (refine awp_cond_t rfl ?_) | (refine awp_cond_f rfl ?_) | (refine awp_quiet TM rfl (by kernel_rfl) ?_) | ((first | refine awpL_split rfl rfl rfl (fun hc => ?_) (fun hc => ?_) | refine awpQ_split rfl rfl rfl (fun hc => ?_) (fun hc => ?_) | refine awp_cond rfl (fun hc => ?_) (fun hc => ?_)) <;> ((try simp at hc) <;> try contradiction)))) <;> try (exfalso; omega))
      refine awp_held TM [(5, _), (7, _)] sb rfl (fun ρs => ?_)
      refine awpH_take TT 0 rfl kr kr kr nh rfl rfl rfl rfl sd ?_
      refine awpH_take TT 1 rfl kr kr kr nh rfl rfl rfl rfl sd ?_
      first | (refine awpH_take TT 2 rfl kr kr kr nh rfl rfl rfl rfl sd ?_) | (refine awpH_idx TT 2 rfl kr kr kr nh rfl rfl rfl rfl rfl sd ?_)
      refine awpH_take TT 3 rfl kr kr kr nh rfl rfl rfl rfl sd ?_
      refine awpH_take TT 4 rfl kr kr kr nh rfl rfl rfl rfl sd ?_
      refine awpH_take TT 5 rfl kr kr kr nh rfl rfl rfl rfl sd ?_
      refine awpH_take TT 6 rfl kr kr kr nh rfl rfl rfl rfl sd ?_
      refine awpH_take TT 7 rfl kr kr kr nh rfl rfl rfl rfl sd ?_
      first | (refine awpH_take TT 8 rfl kr kr kr nh rfl rfl rfl rfl sd ?_) | (refine awpH_idx TT 8 rfl kr kr kr nh rfl rfl rfl rfl rfl sd ?_)
      refine awpH_take TT 9 rfl kr kr kr nh rfl rfl rfl rfl sd ?_
      refine awpH_take TT 10 rfl kr kr kr nh rfl rfl rfl rfl sd ?_
      refine awpH_take TT 11 rfl kr kr kr nh rfl rfl rfl rfl sd ?_
      refine awpH_take TT 12 rfl kr kr kr nh rfl rfl rfl rfl sd ?_
      refine awpH_take TT 13 rfl kr kr kr nh rfl rfl rfl rfl sd ?_
      refine awpH_all [14] kr rfl ⟨?_, trivial⟩
      first | (refine awpHop_step TT 14 rfl rfl rfl rfl sd sb rfl ?_) | (first | (refine awpL_append TT rfl rfl rfl rfl rfl sd ?_; intro cap hcap) | (refine awpHop_append TT _ rfl rfl rfl rfl rfl rfl sd sb rfl rfl ?_; intro cap hcap))
      refine awpH_all [15] kr rfl ⟨?_, trivial⟩
      first | (refine awpHop_step TT 15 rfl rfl rfl rfl sd sb rfl ?_) | (first | (refine awpL_append TT rfl rfl rfl rfl rfl sd ?_; intro cap hcap) | (refine awpHop_append TT _ rfl rfl rfl rfl rfl rfl sd sb rfl rfl ?_; intro cap hcap))
      refine awpH_take TT 16 rfl kr kr kr nh rfl rfl rfl rfl sd ?_
      refine awpH_done kr ?_
      rotate_left
      all_goals ((repeat' (first | (refine awpL_step TT rfl rfl rfl sd ?_) | (refine awpL_nil ?_) | (refine awpL_skip rfl rfl ?_) | (refine awpQ_step TT rfl rfl rfl rfl sd ?_) | (refine awpQ_nil ?_) | (refine awpQ_skip rfl rfl ?_) | (refine awp_seq ?_) | (refine awp_region ?_) | (refine awp_block ?_) | (refine awp_exit ?_) | (refine awp_skip ?_) | (refine awp_ret ?_) | (refine awp_cond_t rfl ?_) | (refine awp_cond_f rfl ?_) | (refine awp_quiet TM rfl (by kernel_rfl) ?_) | ((first | refine awpL_split rfl rfl rfl (fun hc => ?_) (fun hc => ?_) | refine awpQ_split rfl rfl rfl (fun hc => ?_) (fun hc => ?_) | refine awp_cond rfl (fun hc => ?_) (fun hc => ?_)) <;> ((try simp at hc) <;> try contradiction)))) <;> try (exfalso; omega))
      all_goals rename_i cap1 hcap1
      all_goals
        refine ⟨[(3, 11), (4, 9)], (i + 1, cap, cap1, l ++ [⟨av, 2, [(ps.getD (0 + (((i : Int) + 1).tmod (ps.length : Int)).toNat) (0, 0)).2 - (ps.getD (0 + (i : Int).toNat) (0, 0)).2, -((ps.getD (0 + (((i : Int) + 1).tmod (ps.length : Int)).toNat) (0, 0)).1 - (ps.getD (0 + (i : Int).toNat) (0, 0)).1)], []⟩]), ⟨hil, ?_, ?_, ?_⟩, (by first | omega | (dsimp only; omega)), ⟨(by repeat' (first | exact trivial | refine ⟨rfl, ?_⟩ | refine ⟨congrArg some (congrArg vI (by first | omega | (simp; done) | (simp; omega))), ?_⟩ | refine ⟨sl_eqA (by first | omega | (simp; done) | (simp; omega)), ?_⟩)), ⟨rfl, rfl, own_ints ?_, rfl, trivial⟩, rfl⟩⟩
        · dsimp only at *; omega
        · simp [hll]
        · dsimp only
          rw [dX, dY, cellsOf, List.flatMap_append, ← cellsOf, hcl]; rfl
        · dsimp only
          rw [dX, dY, e1]; rfl
    · obtain rfl : i = ps.length := by omega
      have hf := d_fromRows l 2 c2 (by omega) (by rw [hcl]; omega)
      rw [hcl] at hf
      ((repeat' (first | (refine awpL_step TT rfl rfl rfl sd ?_) | (refine awpL_nil ?_) | (refine awpL_skip rfl rfl ?_) | (refine awpQ_step TT rfl rfl rfl rfl sd ?_) | (refine awpQ_nil ?_) | (refine awpQ_skip rfl rfl ?_) | (refine awp_seq ?_) | (refine awp_region ?_) | ((first | refine awpL_one (hf) rfl rfl rfl rfl rfl rfl rfl ft rfl rfl (FromR.out) ?_ | refine awpHop_one _ (hf) rfl rfl rfl rfl rfl rfl rfl rfl ft rfl rfl (FromR.out) sb rfl rfl ?_); rintro v b ⟨c3, hc3, rfl, he, -⟩; cases he) | (refine awp_block ?_) | (refine awp_exit ?_) | (refine awp_skip ?_) | (refine awp_ret ?_) | (refine awp_cond_t rfl ?_) | (refine awp_cond_f rfl ?_) | (refine awp_quiet TM rfl (by kernel_rfl) ?_) | ((first | refine awpL_split rfl rfl rfl (fun hc => ?_) (fun hc => ?_) | refine awpQ_split rfl rfl rfl (fun hc => ?_) (fun hc => ?_) | refine awp_cond rfl (fun hc => ?_) (fun hc => ?_)) <;> ((try simp at hc) <;> try contradiction)))) <;> try (exfalso; omega))
      exact fin rfl (by repeat' (first | exact trivial | exact Nat.zero_lt_one | omega | refine ⟨?_, ?_⟩)) [(2, 5), (3, 3)] (.tup [.agg [.int l.length, .int 2, .sl 2 1 0 (sidesA ps ps.length).length c3], .one (.sl 3 1 0 (sidesB ps ps.length).length c1), .one (.bool true)]) [(2, .own 3 c3 (.ints (sidesA ps ps.length))), (3, .own 3 c1 (.ints (sidesB ps ps.length)))] 4 ⟨c3, c1, hc3, hc1, by rw [hll], rfl, rfl⟩ rfl ⟨trivial, ⟨rfl, rfl, trivial⟩, rfl⟩ rfl
end Go.Proofs.Ytbgeooalhoaemaa
