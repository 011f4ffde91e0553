/-
  CONTRACTS: drawn cones and bodies.
-/
import Derived.Test.YtbgeooalhoaemaabDrawM
set_option linter.unusedVariables false
set_option linter.unusedSimpArgs false
namespace Go.Proofs.Ytbgeooalhoaemaa
open Go.RowKit

theorem row_inB {p r c : Nat} (h : p < r) : p * c + c ≤ r * c := by
  have := Nat.mul_le_mul_right c (show p + 1 ≤ r by omega)
  rw [Nat.add_mul, Nat.one_mul] at this; exact this
/-- a drawn matrix with k columns -/
def DrewK (t tc : TypeId) (nb c : Nat) (v : AV) (Hout : List (Nat × Blk)) (n1 : Nat) : Prop := ∃ k : Nat, (1 ≤ k ∧ k ≤ 3) ∧ DrewM t tc nb c k v Hout n1
set_option maxHeartbeats 4000000 in
theorem d_l27Cone (bs : List Int) (c i : Nat) (h : Int) (hl : bs.length ≤ 1048576) : Does Try.prog 92 [vC] [(1, .ro (.bytes bs)), (2, .own 98 1 (.lit (curL c bs.length i h)))] 3 (DrewK 3 98 bs.length c) := by
  refine Does.intro TT Try.func92 rfl (by kernel_rfl) rfl rfl fun E hE => ?_
  ((repeat' (first | (refine awpL_step TT rfl rfl rfl sd ?_) | (refine awpL_nil ?_) | (refine awpL_skip rfl rfl ?_) | (refine awpQ_step TT rfl rfl rfl rfl sd ?_) | (refine awpQ_nil ?_) | (refine awpQ_skip rfl rfl ?_) | (refine awp_seq ?_) | (refine awp_region ?_) | ((refine awpL_call (d_l1Below bs c _ _ 3 hl) rfl rfl rfl rfl rfl rfl rfl ft rfl ?_); rintro v Hout n1 ⟨r0, i0, h0, ⟨hr1, hr2⟩, rfl, rfl, rfl⟩; replace hr2 := hr2 (by omega); obtain ⟨m0, rfl⟩ := Int.eq_ofNat_of_zero_le hr1) | ((refine awpL_call (d_l1Below bs c _ _ 4 hl) rfl rfl rfl rfl rfl rfl rfl ft rfl ?_); rintro v Hout n1 ⟨r1, i1, h1, ⟨hs1, hs2⟩, rfl, rfl, rfl⟩; replace hs2 := hs2 (by omega); obtain ⟨m1, rfl⟩ := Int.eq_ofNat_of_zero_le hs1; have hdr := fun i h => d_l3Draw bs c i (1 + m1) (1 + m0) h 2 (by omega) (by omega) (by omega) hl; rw [show ((1 + m1 : Nat) : Int) = 1 + (m1 : Int) by omega, show ((1 + m0 : Nat) : Int) = 1 + (m0 : Int) by omega] at hdr) | ((refine awpL_call (hdr _ _) rfl rfl rfl rfl rfl rfl rfl ft rfl ?_); rintro v Hout n1 ⟨zs, i2, h2, hz, hzb, rfl, rfl, rfl⟩) | (refine awp_block ?_) | (refine awp_exit ?_) | (refine awp_skip ?_) | (refine awp_ret ?_) | (refine awp_cond_t rfl ?_) | (refine awp_cond_f rfl ?_) | ((first | refine awpL_split rfl rfl rfl (fun hc => ?_) (fun hc => ?_) | refine awpQ_split rfl rfl rfl (fun hc => ?_) (fun hc => ?_) | refine awp_cond rfl (fun hc => ?_) (fun hc => ?_)) <;> ((try simp at hc) <;> try contradiction)))) <;> try (exfalso; omega))
  obtain ⟨a, ha⟩ : ∃ a, a = 1 + m1 := ⟨_, rfl⟩
  obtain ⟨n, hn⟩ : ∃ n, n = 1 + m0 := ⟨_, rfl⟩
  have hnI : 1 + (m0 : Int) = n := by omega
  rw [← ha, ← hn] at hz ⊢
  rw [hnI]
  refine awp_loop hE (fun x : Nat × List Int × Nat × Int => x.1 ≤ a ∧ x.2.1.length = a * n ∧ ∀ p, -(2 + (x.1 : Int)) ≤ x.2.1.getD p 0 ∧ x.2.1.getD p 0 ≤ 2 + (x.1 : Int)) (fun x => a - x.1)
    (fun x => [(0, vC), (2, .one (.ptr 3 3 0 0)), (3, vI n), (4, .one (.ptr 5 3 0 0)), (5, vI x.1)]) (fun x => [(1, .ro (.bytes bs)), (2, .own 98 1 (.lit (curL c bs.length x.2.2.1 x.2.2.2))), (3, .own 27 1 (.lit zeroM)), (4, .own 3 (a * n) (.ints x.2.1)), (5, .own 27 1 (.lit [.int a, .int n, .sl 4 1 0 (a * n) (a * n)]))]) 6 [] (0, zs, i2, h2) ⟨Nat.zero_le _, hz, fun p => by have := hzb p; dsimp only; omega⟩ ⟨(by repeat' (first | exact trivial | refine ⟨rfl, ?_⟩ | refine ⟨congrArg some (congrArg vI (by first | omega | (simp; done) | (simp; omega))), ?_⟩ | refine ⟨sl_eqA (by first | omega | (simp; done) | (simp; omega)), ?_⟩)), (by repeat' (first | exact trivial | refine ⟨rfl, ?_⟩)), rfl⟩ ?_
  rintro ⟨k, ws, i3, h3⟩ ⟨hk, hw, hwb⟩
  dsimp only at hk hw hwb ⊢
  have han : a * n ≤ 4 * 3 := Nat.mul_le_mul (by omega) (by omega)
  have hsp := fun i h => d_l3Spoil bs c i (a * n) (a * n) h a n ws hw.symm (by omega) (by omega) (by omega) hl
  have ek : (k : Int) * n = ((k * n : Nat) : Int) := by simp
  by_cases hka : k < a
  · have hkn := row_inB (c := n) hka
    have hv := hwb (0 + ((k : Int) * n).toNat)
    ((repeat' (first | (refine awpL_step TT rfl rfl rfl sd ?_) | (refine awpL_nil ?_) | (refine awpL_skip rfl rfl ?_) | (refine awpQ_step TT rfl rfl rfl rfl sd ?_) | (refine awpQ_nil ?_) | (refine awpQ_skip rfl rfl ?_) | (refine awp_seq ?_) | (refine awp_region ?_) | ((refine awpL_call (d_l1Once bs c _ _ 2 hl) rfl rfl rfl rfl rfl rfl rfl ft rfl ?_); rintro v Hout n1 ⟨b0, i4, h4, rfl, rfl, rfl⟩; cases b0) | ((refine awpL_call (hsp _ _) rfl rfl rfl rfl rfl rfl rfl ft rfl ?_); rintro v Hout n1 ⟨r5, zs5, cap5, i5, h5, hz5, hc5, hd5⟩; rcases hd5 with ⟨rfl, rfl, rfl⟩ | ⟨rfl, rfl, rfl⟩) | (refine awp_block ?_) | (refine awp_exit ?_) | (refine awp_skip ?_) | (refine awp_ret ?_) | (refine awp_cond_t rfl ?_) | (refine awp_cond_f rfl ?_) | ((first | refine awpL_split rfl rfl rfl (fun hc => ?_) (fun hc => ?_) | refine awpQ_split rfl rfl rfl (fun hc => ?_) (fun hc => ?_) | refine awp_cond rfl (fun hc => ?_) (fun hc => ?_)) <;> ((try simp at hc) <;> try contradiction)))) <;> try (exfalso; omega))
    · exact fin rfl (by repeat' (first | exact trivial | exact Nat.zero_lt_one | omega | refine ⟨?_, ?_⟩)) [(3, 4)] (.agg [.int r5, .int n, .sl 3 1 0 zs5.length cap5]) [(2, .own 98 1 (.lit (curL c bs.length i5 h5))), (3, .own 3 cap5 (.ints zs5))] 4 ⟨n, by omega, r5, zs5, cap5, i5, h5, hz5, hc5, rfl, rfl, rfl⟩ rfl ⟨trivial, ⟨rfl, rfl, trivial⟩, rfl⟩ rfl
    · exact fin rfl (by repeat' (first | exact trivial | exact Nat.zero_lt_one | omega | refine ⟨?_, ?_⟩)) [(3, 6)] (.agg [.int r5, .int n, .sl 3 1 0 zs5.length cap5]) [(2, .own 98 1 (.lit (curL c bs.length i5 h5))), (3, .own 3 cap5 (.ints zs5))] 4 ⟨n, by omega, r5, zs5, cap5, i5, h5, hz5, hc5, rfl, rfl, rfl⟩ rfl ⟨trivial, ⟨rfl, rfl, trivial⟩, rfl⟩ rfl
    · refine awp_held TM [(5, _)] sb rfl (fun ρs => ?_)
      refine awpH_take TT 0 rfl kr kr kr nh rfl rfl rfl rfl sd ?_
      refine awpH_take TT 1 rfl kr kr kr nh rfl rfl rfl rfl sd ?_
      refine awpH_take TT 2 rfl kr kr kr nh rfl rfl rfl rfl sd ?_
      refine awpH_take TT 3 rfl kr kr kr nh rfl rfl rfl rfl sd ?_
      refine awpH_take TT 4 rfl kr kr kr nh rfl rfl rfl rfl sd ?_
      refine awpH_take TT 5 rfl kr kr kr nh rfl rfl rfl rfl sd ?_
      refine awpH_take TT 6 rfl kr kr kr nh rfl rfl rfl rfl sd ?_
      refine awpH_take TT 7 rfl kr kr kr nh rfl rfl rfl rfl sd ?_
      refine awpH_take TT 8 rfl kr kr kr nh rfl rfl rfl rfl sd ?_
      refine awpH_take TT 9 rfl kr kr kr nh rfl rfl rfl rfl sd ?_
      first | (refine awpH_take TT 10 rfl kr kr kr nh rfl rfl rfl rfl sd ?_) | (refine awpH_idx TT 10 rfl kr kr kr nh rfl rfl rfl rfl rfl sd ?_)
      refine awpH_all [11] kr rfl ⟨?_, trivial⟩
      first | (refine awpHop_step TT 11 rfl rfl rfl rfl sd sb rfl ?_) | (first | refine awpL_ret (d_l1Abs _ (by omega) (by omega)) rfl rfl rfl rfl rfl rfl rfl rfl ft rfl rfl ?_ | refine awpQ_ret (d_l1Abs _ (by omega) (by omega)) rfl rfl rfl rfl rfl rfl rfl rfl ft rfl rfl ?_ | refine awpHop_ret _ (d_l1Abs _ (by omega) (by omega)) rfl rfl rfl rfl rfl rfl rfl rfl rfl ft rfl rfl sb rfl ?_)
      refine awpH_all [12] kr rfl ⟨?_, trivial⟩
      first | (refine awpHop_step TT 12 rfl rfl rfl rfl sd sb rfl ?_) | (first | refine awpL_ret (d_l1Abs _ (by omega) (by omega)) rfl rfl rfl rfl rfl rfl rfl rfl ft rfl rfl ?_ | refine awpQ_ret (d_l1Abs _ (by omega) (by omega)) rfl rfl rfl rfl rfl rfl rfl rfl ft rfl rfl ?_ | refine awpHop_ret _ (d_l1Abs _ (by omega) (by omega)) rfl rfl rfl rfl rfl rfl rfl rfl rfl ft rfl rfl sb rfl ?_)
      refine awpH_take TT 13 rfl kr kr kr nh rfl rfl rfl rfl sd ?_
      first | (refine awpH_take TT 14 rfl kr kr kr nh rfl rfl rfl rfl sd ?_) | (refine awpH_idx TT 14 rfl kr kr kr nh rfl rfl rfl rfl rfl sd ?_)
      refine awpH_all [15] kr rfl ⟨?_, trivial⟩
      first | (refine awpHop_step TT 15 rfl rfl rfl rfl sd sb rfl ?_) | (first | refine awpL_ret (d_l1Abs _ (by omega) (by omega)) rfl rfl rfl rfl rfl rfl rfl rfl ft rfl rfl ?_ | refine awpQ_ret (d_l1Abs _ (by omega) (by omega)) rfl rfl rfl rfl rfl rfl rfl rfl ft rfl rfl ?_ | refine awpHop_ret _ (d_l1Abs _ (by omega) (by omega)) rfl rfl rfl rfl rfl rfl rfl rfl rfl ft rfl rfl sb rfl ?_)
      refine awpH_done kr ?_
      rotate_left
      all_goals ((repeat' (first | (refine awpL_step TT rfl rfl rfl sd ?_) | (refine awpL_nil ?_) | (refine awpL_skip rfl rfl ?_) | (refine awpQ_step TT rfl rfl rfl rfl sd ?_) | (refine awpQ_nil ?_) | (refine awpQ_skip rfl rfl ?_) | (refine awp_seq ?_) | (refine awp_region ?_) | (refine awp_block ?_) | (refine awp_exit ?_) | (refine awp_skip ?_) | (refine awp_ret ?_) | (refine awp_cond_t rfl ?_) | (refine awp_cond_f rfl ?_) | ((first | refine awpL_split rfl rfl rfl (fun hc => ?_) (fun hc => ?_) | refine awpQ_split rfl rfl rfl (fun hc => ?_) (fun hc => ?_) | refine awp_cond rfl (fun hc => ?_) (fun hc => ?_)) <;> ((try simp at hc) <;> try contradiction)))) <;> try (exfalso; omega))
      all_goals exact ⟨[], (k + 1, _, i4, h4), ⟨hka, by dsimp only; rw [List.length_set]; exact hw, fun p => by
        dsimp only
        have hp := hwb p
        rw [List.getD_eq_getElem?_getD, List.getElem?_set]
        split
        · split
          · simp only [Option.getD_some]; omega
          · simp only [Option.getD_none]; omega
        · rw [← List.getD_eq_getElem?_getD]; omega⟩, (by first | omega | (dsimp only; omega)), ⟨(by repeat' (first | exact trivial | refine ⟨rfl, ?_⟩ | refine ⟨congrArg some (congrArg vI (by first | omega | (simp; done) | (simp; omega))), ?_⟩ | refine ⟨sl_eqA (by first | omega | (simp; done) | (simp; omega)), ?_⟩)), ⟨rfl, rfl, rfl, own_ints rfl, rfl, trivial⟩, rfl⟩⟩
  · obtain rfl : k = a := by omega
    ((repeat' (first | (refine awpL_step TT rfl rfl rfl sd ?_) | (refine awpL_nil ?_) | (refine awpL_skip rfl rfl ?_) | (refine awpQ_step TT rfl rfl rfl rfl sd ?_) | (refine awpQ_nil ?_) | (refine awpQ_skip rfl rfl ?_) | (refine awp_seq ?_) | (refine awp_region ?_) | ((refine awpL_call (hsp _ _) rfl rfl rfl rfl rfl rfl rfl ft rfl ?_); rintro v Hout n1 ⟨r5, zs5, cap5, i5, h5, hz5, hc5, hd5⟩; rcases hd5 with ⟨rfl, rfl, rfl⟩ | ⟨rfl, rfl, rfl⟩) | (refine awp_block ?_) | (refine awp_exit ?_) | (refine awp_skip ?_) | (refine awp_ret ?_) | (refine awp_cond_t rfl ?_) | (refine awp_cond_f rfl ?_) | ((first | refine awpL_split rfl rfl rfl (fun hc => ?_) (fun hc => ?_) | refine awpQ_split rfl rfl rfl (fun hc => ?_) (fun hc => ?_) | refine awp_cond rfl (fun hc => ?_) (fun hc => ?_)) <;> ((try simp at hc) <;> try contradiction)))) <;> try (exfalso; omega))
    · exact fin rfl (by repeat' (first | exact trivial | exact Nat.zero_lt_one | omega | refine ⟨?_, ?_⟩)) [(3, 4)] (.agg [.int r5, .int n, .sl 3 1 0 zs5.length cap5]) [(2, .own 98 1 (.lit (curL c bs.length i5 h5))), (3, .own 3 cap5 (.ints zs5))] 4 ⟨n, by omega, r5, zs5, cap5, i5, h5, hz5, hc5, rfl, rfl, rfl⟩ rfl ⟨trivial, ⟨rfl, rfl, trivial⟩, rfl⟩ rfl
    · exact fin rfl (by repeat' (first | exact trivial | exact Nat.zero_lt_one | omega | refine ⟨?_, ?_⟩)) [(3, 6)] (.agg [.int r5, .int n, .sl 3 1 0 zs5.length cap5]) [(2, .own 98 1 (.lit (curL c bs.length i5 h5))), (3, .own 3 cap5 (.ints zs5))] 4 ⟨n, by omega, r5, zs5, cap5, i5, h5, hz5, hc5, rfl, rfl, rfl⟩ rfl ⟨trivial, ⟨rfl, rfl, trivial⟩, rfl⟩ rfl
/-- a drawn body -/
def DrewBd (t tc : TypeId) (nb c : Nat) (v : AV) (Hout : List (Nat × Blk)) (n1 : Nat) : Prop :=
  ∃ (k : Nat) (r : Int) (zs bs : List Int) (cap cb i : Nat) (h : Int), (1 ≤ k ∧ k ≤ 3) ∧ zs.length ≤ 1000 ∧ zs.length ≤ cap ∧ bs.length ≤ 40 ∧ bs.length ≤ cb ∧ v = .tup [.agg [.int r, .int k, .sl 3 1 0 zs.length cap], .one (.sl 4 1 0 bs.length cb)] ∧ Hout = [(2, .own tc 1 (.lit (curL c nb i h))), (3, .own t cap (.ints zs)), (4, .own t cb (.ints bs))] ∧ n1 = 5
set_option maxHeartbeats 4000000 in
theorem d_l29Body (bs : List Int) (c i : Nat) (h : Int) (hl : bs.length ≤ 1048576) : Does Try.prog 80 [vC] [(1, .ro (.bytes bs)), (2, .own 98 1 (.lit (curL c bs.length i h)))] 3 (DrewBd 3 98 bs.length c) := by
  refine Does.intro TT Try.func80 rfl (by kernel_rfl) rfl rfl fun E hE => ?_
  ((repeat' (first | (refine awpL_step TT rfl rfl rfl sd ?_) | (refine awpL_nil ?_) | (refine awpL_skip rfl rfl ?_) | (refine awpQ_step TT rfl rfl rfl rfl sd ?_) | (refine awpQ_nil ?_) | (refine awpQ_skip rfl rfl ?_) | (refine awp_seq ?_) | (refine awp_region ?_) | ((refine awpL_call (d_l27Cone bs c _ _ hl) rfl rfl rfl rfl rfl rfl rfl ft rfl ?_); rintro v Hout n1 ⟨k, hk, r, zs, capz, i1, h1, hz, hcapz, rfl, rfl, rfl⟩) | (refine awp_block ?_) | (refine awp_exit ?_) | (refine awp_skip ?_) | (refine awp_ret ?_) | (refine awp_cond_t rfl ?_) | (refine awp_cond_f rfl ?_) | ((first | refine awpL_split rfl rfl rfl (fun hc => ?_) (fun hc => ?_) | refine awpQ_split rfl rfl rfl (fun hc => ?_) (fun hc => ?_) | refine awp_cond rfl (fun hc => ?_) (fun hc => ?_)) <;> ((try simp at hc) <;> try contradiction)))) <;> try (exfalso; omega))
  refine awp_loop hE (fun x : Nat × List Int × Nat × Nat × Int => x.2.1.length = x.1 ∧ x.1 ≤ x.2.2.1 ∧ x.1 ≤ 30 ∧ ((x.1 : Int) ≤ r ∨ x.1 = 0)) (fun x => 30 - x.1)
    (fun x => [(0, vC), (2, .one (.ptr 3 3 0 0)), (4, .one (.ptr 5 3 0 0)), (5, vS 6 1 0 x.1 x.2.2.1), (6, vI x.1)]) (fun x => [(1, .ro (.bytes bs)), (2, .own 98 1 (.lit (curL c bs.length x.2.2.2.1 x.2.2.2.2))), (3, .own 27 1 (.lit zeroM)), (4, .own 3 capz (.ints zs)), (5, .own 27 1 (.lit [.int r, .int k, .sl 4 1 0 zs.length capz])), (6, .own 3 x.2.2.1 (.ints x.2.1))]) 7 [] (0, [], 0, i1, h1) ⟨rfl, Nat.le_refl _, Nat.zero_le 30, .inr rfl⟩ ⟨(by repeat' (first | exact trivial | refine ⟨rfl, ?_⟩ | refine ⟨congrArg some (congrArg vI (by first | omega | (simp; done) | (simp; omega))), ?_⟩ | refine ⟨sl_eqA (by first | omega | (simp; done) | (simp; omega)), ?_⟩)), (by repeat' (first | exact trivial | refine ⟨rfl, ?_⟩)), rfl⟩ ?_
  rintro ⟨m, ws, cw, i2, h2⟩ ⟨hw, hcw, hm, hmr⟩
  dsimp only at hw hcw hm hmr ⊢
  ((repeat' (first | (refine awpL_step TT rfl rfl rfl sd ?_) | (refine awpL_nil ?_) | (refine awpL_skip rfl rfl ?_) | (refine awpQ_step TT rfl rfl rfl rfl sd ?_) | (refine awpQ_nil ?_) | (refine awpQ_skip rfl rfl ?_) | (refine awp_seq ?_) | (refine awp_region ?_) | ((refine awpL_call (d_l1Num bs c _ _ 8 (by omega) hl) rfl rfl rfl rfl rfl rfl rfl ft rfl ?_); rintro v Hout n1 ⟨r3, i3, h3, hr3, rfl, rfl, rfl⟩) | (first | (refine awpL_append TT rfl rfl rfl rfl rfl sd ?_; intro cap hcap) | (refine awpHop_append TT _ rfl rfl rfl rfl rfl rfl sd sb rfl rfl ?_; intro cap hcap)) | (refine awp_block ?_) | (refine awp_exit ?_) | (refine awp_skip ?_) | (refine awp_ret ?_) | (refine awp_cond_t rfl ?_) | (refine awp_cond_f rfl ?_) | ((first | refine awpL_split rfl rfl rfl (fun hc => ?_) (fun hc => ?_) | refine awpQ_split rfl rfl rfl (fun hc => ?_) (fun hc => ?_) | refine awp_cond rfl (fun hc => ?_) (fun hc => ?_)) <;> ((try simp at hc) <;> try contradiction)))) <;> try (exfalso; omega))
  · exact ⟨[(6, 8)], (m + 1, ws ++ [r3], cap, i3, h3), ⟨by simp [hw], by dsimp only; omega, by dsimp only; omega, .inl (by dsimp only; omega)⟩, (by first | omega | (dsimp only; omega)), ⟨(by repeat' (first | exact trivial | refine ⟨rfl, ?_⟩ | refine ⟨congrArg some (congrArg vI (by first | omega | (simp; done) | (simp; omega))), ?_⟩ | refine ⟨sl_eqA (by first | omega | (simp; done) | (simp; omega)), ?_⟩)), ⟨rfl, rfl, rfl, rfl, rfl, own_ints (by simp), trivial⟩, rfl⟩⟩
  · subst hw
    exact fin rfl (by repeat' (first | exact trivial | exact Nat.zero_lt_one | omega | refine ⟨?_, ?_⟩)) [(3, 4), (4, 6)] (.tup [.agg [.int r, .int k, .sl 3 1 0 zs.length capz], .one (.sl 4 1 0 ws.length cw)]) [(2, .own 98 1 (.lit (curL c bs.length i2 h2))), (3, .own 3 capz (.ints zs)), (4, .own 3 cw (.ints ws))] 5 ⟨k, r, zs, ws, capz, cw, i2, h2, hk, hz, hcapz, by omega, hcw, rfl, rfl, rfl⟩ rfl ⟨trivial, ⟨rfl, rfl, rfl, trivial⟩, rfl⟩ rfl
  · subst hw
    exact fin rfl (by repeat' (first | exact trivial | exact Nat.zero_lt_one | omega | refine ⟨?_, ?_⟩)) [(3, 4), (4, 6)] (.tup [.agg [.int r, .int k, .sl 3 1 0 zs.length capz], .one (.sl 4 1 0 ws.length cw)]) [(2, .own 98 1 (.lit (curL c bs.length i2 h2))), (3, .own 3 capz (.ints zs)), (4, .own 3 cw (.ints ws))] 5 ⟨k, r, zs, ws, capz, cw, i2, h2, hk, hz, hcapz, by omega, hcw, rfl, rfl, rfl⟩ rfl ⟨trivial, ⟨rfl, rfl, rfl, trivial⟩, rfl⟩ rfl
/-- what is drawn for BestPoint -/
def DrewBest (t : TypeId) (v : AV) (Hout : List (Nat × Blk)) (n1 : Nat) : Prop :=
  ∃ (k : Nat) (r s : Int) (zs bs cs : List Int) (cap cb cc : Nat), (1 ≤ k ∧ k ≤ 3) ∧ zs.length ≤ 1000 ∧ bs.length ≤ 40 ∧ cs.length = k ∧ zs.length ≤ cap ∧ bs.length ≤ cb ∧ cs.length ≤ cc ∧ (0 ≤ s ∧ s < 4) ∧ v = .tup [.agg [.int r, .int k, .sl 2 1 0 zs.length cap], .one (.sl 3 1 0 bs.length cb), .one (.sl 4 1 0 cs.length cc), .one (.int s)] ∧ Hout = [(2, .own t cap (.ints zs)), (3, .own t cb (.ints bs)), (4, .own t cc (.ints cs))] ∧ n1 = 5
set_option maxHeartbeats 4000000 in
theorem d_drawBest (bs : List Int) (c : Nat) (hl : bs.length ≤ 1048576) : Does Try.prog 52 [vS 1 1 0 bs.length c] [(1, .ro (.bytes bs))] 2 (DrewBest 3) := by
  refine Does.intro TT Try.func52 rfl (by kernel_rfl) rfl rfl fun E hE => ?_
  ((repeat' (first | (refine awpL_step TT rfl rfl rfl sd ?_) | (refine awpL_nil ?_) | (refine awpL_skip rfl rfl ?_) | (refine awpQ_step TT rfl rfl rfl rfl sd ?_) | (refine awpQ_nil ?_) | (refine awpQ_skip rfl rfl ?_) | (refine awp_seq ?_) | (refine awp_region ?_) | ((refine awpL_call (d_l1New bs c hl) rfl rfl rfl rfl rfl rfl rfl ft rfl ?_); rintro v Hout n1 ⟨i0, h0, rfl, rfl, rfl⟩) | ((refine awpL_call (d_l29Body bs c _ _ hl) rfl rfl rfl rfl rfl rfl rfl ft rfl ?_); rintro v Hout n1 ⟨k, r, zs, ws, capz, cw, i2, h2, hk, hz, hcapz, hw, hcw, rfl, rfl, rfl⟩) | (refine awp_block ?_) | (refine awp_exit ?_) | (refine awp_skip ?_) | (refine awp_ret ?_) | (refine awp_cond_t rfl ?_) | (refine awp_cond_f rfl ?_) | ((first | refine awpL_split rfl rfl rfl (fun hc => ?_) (fun hc => ?_) | refine awpQ_split rfl rfl rfl (fun hc => ?_) (fun hc => ?_) | refine awp_cond rfl (fun hc => ?_) (fun hc => ?_)) <;> ((try simp at hc) <;> try contradiction)))) <;> try (exfalso; omega))
  refine awp_held TM [(6, _)] sb rfl (fun ρs => ?_)
  refine awpH_take TT 0 rfl kr kr kr nh rfl rfl rfl rfl sd ?_
  refine awpH_take TT 1 rfl kr kr kr nh rfl rfl rfl rfl sd ?_
  refine awpH_take TT 2 rfl kr kr kr nh rfl rfl rfl rfl sd ?_
  refine awpH_take TT 3 rfl kr kr kr nh rfl rfl rfl rfl sd ?_
  refine awpH_take TT 4 rfl kr kr kr nh rfl rfl rfl rfl sd ?_
  refine awpH_take TT 6 rfl kr kr kr nh rfl rfl rfl rfl sd ?_
  refine awpH_all [5] kr rfl ⟨?_, trivial⟩
  first | (refine awpHop_step TT 5 rfl rfl rfl rfl sd sb rfl ?_) | (refine awpHop_call _ (d_l18Vector bs c _ k _ (by omega) hl) rfl rfl rfl rfl rfl rfl rfl rfl ft rfl rfl ?_; rintro v Hout n1 ⟨cs, cc, i3, h3, hcl, hcc, hcb, rfl, rfl, rfl⟩; refine ⟨sb, ?_⟩) | (refine awpHop_call _ (d_l1Below bs c _ _ 4 hl) rfl rfl rfl rfl rfl rfl rfl rfl ft rfl rfl ?_; rintro v Hout n1 ⟨s, i4, h4, ⟨hs1, hs2⟩, rfl, rfl, rfl⟩; refine ⟨sb, ?_⟩; replace hs2 := hs2 (by omega))
  refine awpH_all [7] kr rfl ⟨?_, trivial⟩
  first | (refine awpHop_step TT 7 rfl rfl rfl rfl sd sb rfl ?_) | (refine awpHop_call _ (d_l18Vector bs c _ k _ (by omega) hl) rfl rfl rfl rfl rfl rfl rfl rfl ft rfl rfl ?_; rintro v Hout n1 ⟨cs, cc, i3, h3, hcl, hcc, hcb, rfl, rfl, rfl⟩; refine ⟨sb, ?_⟩) | (refine awpHop_call _ (d_l1Below bs c _ _ 4 hl) rfl rfl rfl rfl rfl rfl rfl rfl ft rfl rfl ?_; rintro v Hout n1 ⟨s, i4, h4, ⟨hs1, hs2⟩, rfl, rfl, rfl⟩; refine ⟨sb, ?_⟩; replace hs2 := hs2 (by omega))
  refine awpH_all [8] kr rfl ⟨?_, trivial⟩
  first | (refine awpHop_step TT 8 rfl rfl rfl rfl sd sb rfl ?_) | (refine awpHop_call _ (d_l18Vector bs c _ k _ (by omega) hl) rfl rfl rfl rfl rfl rfl rfl rfl ft rfl rfl ?_; rintro v Hout n1 ⟨cs, cc, i3, h3, hcl, hcc, hcb, rfl, rfl, rfl⟩; refine ⟨sb, ?_⟩) | (refine awpHop_call _ (d_l1Below bs c _ _ 4 hl) rfl rfl rfl rfl rfl rfl rfl rfl ft rfl rfl ?_; rintro v Hout n1 ⟨s, i4, h4, ⟨hs1, hs2⟩, rfl, rfl, rfl⟩; refine ⟨sb, ?_⟩; replace hs2 := hs2 (by omega))
  refine awpH_take TT 9 rfl kr kr kr nh rfl rfl rfl rfl sd ?_
  refine awpH_take TT 10 rfl kr kr kr nh rfl rfl rfl rfl sd ?_
  refine awpH_take TT 11 rfl kr kr kr nh rfl rfl rfl rfl sd ?_
  refine awpH_done kr ?_
  rotate_left
  all_goals ((repeat' (first | (refine awpL_step TT rfl rfl rfl sd ?_) | (refine awpL_nil ?_) | (refine awpL_skip rfl rfl ?_) | (refine awpQ_step TT rfl rfl rfl rfl sd ?_) | (refine awpQ_nil ?_) | (refine awpQ_skip rfl rfl ?_) | (refine awp_seq ?_) | (refine awp_region ?_) | (refine awp_block ?_) | (refine awp_exit ?_) | (refine awp_skip ?_) | (refine awp_ret ?_) | (refine awp_cond_t rfl ?_) | (refine awp_cond_f rfl ?_) | ((first | refine awpL_split rfl rfl rfl (fun hc => ?_) (fun hc => ?_) | refine awpQ_split rfl rfl rfl (fun hc => ?_) (fun hc => ?_) | refine awp_cond rfl (fun hc => ?_) (fun hc => ?_)) <;> ((try simp at hc) <;> try contradiction)))) <;> try (exfalso; omega))
  all_goals
    subst hcl
    exact fin rfl (by repeat' (first | exact trivial | exact Nat.zero_lt_one | omega | refine ⟨?_, ?_⟩)) [(2, 4), (3, 5), (4, 7)] (.tup [.agg [.int r, .int cs.length, .sl 2 1 0 zs.length capz], .one (.sl 3 1 0 ws.length cw), .one (.sl 4 1 0 cs.length cc), .one (.int s)]) [(2, .own 3 capz (.ints zs)), (3, .own 3 cw (.ints ws)), (4, .own 3 cc (.ints cs))] 5 ⟨_, r, s, zs, ws, cs, capz, cw, cc, hk, hz, hw, rfl, hcapz, hcw, hcc, ⟨hs1, hs2⟩, rfl, rfl, rfl⟩ rfl ⟨trivial, ⟨rfl, rfl, rfl, trivial⟩, rfl⟩ rfl
end Go.Proofs.Ytbgeooalhoaemaa
