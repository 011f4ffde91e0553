/-
  CONTRACTS: the program's Smith form.
-/
import Derived.Test.YtmkoifmokdmebaabSmC
set_option linter.unusedVariables false
set_option linter.unusedSimpArgs false
namespace Go.Proofs.Ytmkoifmokdmebaa
open Go.RowKit

def SmR (t : TypeId) (r c : Int) (o : Option S3) (v : AV) (Hout : List (Nat × Blk)) (n1 : Nat) : Prop := match o with
  | none => v = .tup [.agg zeroM, .agg zeroM, .agg zeroM, .one (.bool false)] ∧ Hout = [] ∧ n1 = 2
  | some s => ∃ cx cu cv, s.1.length ≤ cx ∧ v = .tup [.agg [.int r, .int c, .sl 2 1 0 s.1.length cx], .agg [.int r, .int r, .sl 3 1 0 s.2.1.length cu], .agg [.int c, .int c, .sl 4 1 0 s.2.2.length cv], .one (.bool true)] ∧ Hout = [(2, .own t cx (.ints s.1)), (3, .own t cu (.ints s.2.1)), (4, .own t cv (.ints s.2.2))] ∧ n1 = 5
theorem sTo_next {r c n : Nat} {s x : S3} (h : sTo r c s n = some x) : sTo r c s (n + 1) = dgS r c n x := by rw [sTo, h]; rfl
theorem own_work {tw : TypeId} {kx ku kv a b nx nx' cx cu cv : Nat} {bad : Bool} {m : Nat → Nat} (h : nx = nx') : some (Blk.own tw 1 (.lit (workL (m kx) (m ku) (m kv) a b nx cx cu cv bad))) = some ((Blk.own tw 1 (.lit (workL kx ku kv a b nx' cx cu cv bad))).ren m) := by subst h; rfl
def hS (tm tw t : TypeId) (a b nx ca cx cu cv : Nat) (s : S3) : Bool → List (Nat × Blk)
  | false => [(2, .own tw 1 (.lit (workL 3 4 5 a b (a * b) cx cu cv false))), (3, .own t cx (.ints s.1)), (4, .own t cu (.ints s.2.1)), (5, .own t cv (.ints s.2.2)), (6, .own tm 1 (.lit [.int a, .int b, .sl 1 1 0 nx ca])), (7, .own tm 1 (.lit zeroM)), (8, .own tm 1 (.lit zeroM)), (9, .own tm 1 (.lit zeroM))]
  | true => [(2, .own tw 1 (.lit (workL 3 4 5 a b (a * b) cx cu cv true))), (6, .own tm 1 (.lit [.int a, .int b, .sl 1 1 0 nx ca])), (7, .own tm 1 (.lit zeroM)), (8, .own tm 1 (.lit zeroM)), (9, .own tm 1 (.lit zeroM))]
abbrev fS (t : Int) : List (Nat × AV) := [(1, .one (.ptr 6 3 0 0)), (2, .one (.ptr 7 3 0 0)), (3, .one (.ptr 8 3 0 0)), (4, .one (.ptr 9 3 0 0)), (6, vW), (7, vI t)]
set_option maxRecDepth 100000 in
set_option maxHeartbeats 16000000 in
theorem d_smithI (r c : Int) (xs : List Int) (ca : Nat) (hl : xs.length ≤ 1099511627776) : Does Try.prog 118 [vM r c 1 xs.length ca] [(1, .ro (.ints xs))] 2 (SmR 3 r c (smO r c xs)) := by
  refine Does.intro TT Try.func118 rfl (by kernel_rfl) rfl rfl fun E hE => ?_
  cases hm : isM r c xs
  · have hR : smO r c xs = none := by simp [smO, hm]
    rw [hR]
    ((repeat' (first | (refine awpL_step TT rfl rfl rfl sd ?_) | (refine awpL_nil ?_) | (refine awpL_skip rfl rfl ?_) | (refine awpQ_step TT rfl rfl rfl rfl sd ?_) | (refine awpQ_nil ?_) | (refine awpQ_skip rfl rfl ?_) | (refine awp_seq ?_) | (refine awp_region ?_) | ((first | refine awpL_ret (d_isMatI _ _ _ _ hl) rfl rfl rfl rfl rfl rfl rfl rfl ft rfl rfl ?_ | refine awpQ_ret (d_isMatI _ _ _ _ hl) rfl rfl rfl rfl rfl rfl rfl rfl ft rfl rfl ?_ | refine awpHop_ret _ (d_isMatI _ _ _ _ hl) rfl rfl rfl rfl rfl rfl rfl rfl rfl ft rfl rfl sb rfl ?_) <;> simp only [hm]) | (refine awp_block ?_) | (refine awp_exit ?_) | (refine awp_skip ?_) | (refine awp_ret ?_) | (refine awp_cond_t rfl ?_) | (refine awp_cond_f rfl ?_) | (refine awp_quiet TM rfl (by kernel_rfl) ?_) | ((first | refine awpL_split rfl rfl rfl (fun hc => ?_) (fun hc => ?_) | refine awpQ_split rfl rfl rfl (fun hc => ?_) (fun hc => ?_) | refine awp_cond rfl (fun hc => ?_) (fun hc => ?_)) <;> ((try simp at hc) <;> try contradiction)))) <;> try (exfalso; omega))
    all_goals exact fin rfl (by repeat' (first | exact trivial | exact Nat.zero_lt_one | omega | refine ⟨?_, ?_⟩)) [] (.tup [.agg zeroM, .agg zeroM, .agg zeroM, .one (.bool false)]) [] 2 ⟨rfl, rfl, rfl⟩ rfl ⟨trivial, trivial, rfl⟩ rfl
  · obtain ⟨a, b, rfl, rfl, ha, hb, hx, hnum⟩ := isM_dimsH hm
    have hR : smO a b xs = sTo a b (xs, idTo a a, idTo b b) (min a b) := by simp [smO, hm]
    rw [hR]
    have o0 : OK3 a b (xs, idTo a a, idTo b b) := ⟨hx, idTo_len, idTo_len, hnum, id_num, id_num⟩
    generalize hs0 : (xs, idTo a a, idTo b b) = s0 at o0
    ((repeat' (first | (refine awpL_step TT rfl rfl rfl sd ?_) | (refine awpL_nil ?_) | (refine awpL_skip rfl rfl ?_) | (refine awpQ_step TT rfl rfl rfl rfl sd ?_) | (refine awpQ_nil ?_) | (refine awpQ_skip rfl rfl ?_) | (refine awp_seq ?_) | (refine awp_region ?_) | ((first | refine awpL_ret (d_isMatI _ _ _ _ hl) rfl rfl rfl rfl rfl rfl rfl rfl ft rfl rfl ?_ | refine awpQ_ret (d_isMatI _ _ _ _ hl) rfl rfl rfl rfl rfl rfl rfl rfl ft rfl rfl ?_ | refine awpHop_ret _ (d_isMatI _ _ _ _ hl) rfl rfl rfl rfl rfl rfl rfl rfl rfl ft rfl rfl sb rfl ?_) <;> simp only [hm]) | ((refine awpL_call (d_newWork a b xs _ ha hb hl) rfl rfl rfl rfl rfl rfl rfl ft rfl ?_); rintro v Hout n1 ⟨cx0, hcx0, rfl, rfl, rfl⟩) | (refine awp_block ?_) | (refine awp_exit ?_) | (refine awp_skip ?_) | (refine awp_ret ?_) | (refine awp_cond_t rfl ?_) | (refine awp_cond_f rfl ?_) | (refine awp_quiet TM rfl (by kernel_rfl) ?_) | ((first | refine awpL_split rfl rfl rfl (fun hc => ?_) (fun hc => ?_) | refine awpQ_split rfl rfl rfl (fun hc => ?_) (fun hc => ?_) | refine awp_cond rfl (fun hc => ?_) (fun hc => ?_)) <;> ((try simp at hc) <;> try contradiction)))) <;> try (exfalso; omega))
    refine awp_loop hE (fun x : Nat × S3 × Bool × Nat × Nat => x.1 ≤ min a b ∧ (x.2.2.1 = false ∧ sTo a b s0 x.1 = some x.2.1 ∧ x.2.1.1.length ≤ x.2.2.2.1 ∨ x.2.2.1 = true ∧ sTo a b s0 (min a b) = none)) (fun x => min a b - x.1)
      (fun x => fS x.1) (fun x => hS 27 111 3 a b xs.length ca x.2.2.2.1 (a * a) x.2.2.2.2 x.2.1 x.2.2.1) 10 [(2, 9), (3, 6), (4, 7), (5, 8), (6, 2), (7, 3), (8, 4), (9, 5)] (0, s0, false, cx0, b * b) ⟨Nat.zero_le _, .inl ⟨rfl, rfl, by rw [← hs0]; exact hcx0⟩⟩ ⟨(by repeat' (first | exact trivial | refine ⟨rfl, ?_⟩ | refine ⟨congrArg some (congrArg vI (by first | omega | (simp; done) | (simp; omega))), ?_⟩ | refine ⟨sl_eqA (by first | omega | (simp; done) | (simp; omega)), ?_⟩)), ⟨own_work hx, own_ints (by rw [← hs0]), own_ints (by rw [← hs0]), own_ints (by rw [← hs0]), rfl, rfl, rfl, rfl, trivial⟩, rfl⟩ ?_
    rintro ⟨t, s, bad, cx, cv⟩ ⟨ht, hinv⟩
    dsimp only at ht hinv ⊢
    rcases hinv with ⟨rfl, hT, hcx⟩ | ⟨rfl, hN⟩
    · have o1 := sTo_ok o0 ht hT
      have k1 := o1.x
      have k2 := o1.u
      have k3 := o1.v
      dsimp only [hS]
      by_cases hgo : t < a ∧ t < b
      · obtain ⟨hta, htb⟩ := hgo
        have hlf := d_lpI a b t cx (a * a) cv s.1 o1.x o1.nx ha hb (by omega) (by omega)
        have hkn : ¬ ((if b < a then (b : Int) else (a : Int)) ≤ t) := by split <;> omega
        cases hlp : lp s.1 a b t with
        | none =>
          rw [hlp, Option.isSome_none] at hlf
          have hE' : sTo a b s0 (min a b) = some s := by
            have := sTo_stop hT hlp (min a b - t) (by omega)
            rwa [show t + (min a b - t) = min a b by omega] at this
          rw [hE']
          ((repeat' (first | (refine awpL_step TT rfl rfl rfl sd ?_) | (refine awpL_nil ?_) | (refine awpL_skip rfl rfl ?_) | (refine awpQ_step TT rfl rfl rfl rfl sd ?_) | (refine awpQ_nil ?_) | (refine awpQ_skip rfl rfl ?_) | (refine awp_seq ?_) | (refine awp_region ?_) | (first | refine awpL_ret (hlf) rfl rfl rfl rfl rfl rfl rfl rfl ft rfl rfl ?_ | refine awpQ_ret (hlf) rfl rfl rfl rfl rfl rfl rfl rfl ft rfl rfl ?_ | refine awpHop_ret _ (hlf) rfl rfl rfl rfl rfl rfl rfl rfl rfl ft rfl rfl sb rfl ?_) | (refine awp_block ?_) | (refine awp_exit ?_) | (refine awp_skip ?_) | (refine awp_ret ?_) | (refine awp_cond_t rfl ?_) | (refine awp_cond_f rfl ?_) | (refine awp_quiet TM rfl (by kernel_rfl) ?_) | ((first | refine awpL_split rfl rfl rfl (fun hc => ?_) (fun hc => ?_) | refine awpQ_split rfl rfl rfl (fun hc => ?_) (fun hc => ?_) | refine awp_cond rfl (fun hc => ?_) (fun hc => ?_)) <;> ((try simp at hc) <;> try contradiction)))) <;> try (exfalso; omega))
          refine awp_held TM [(2, _)] sb rfl (fun ρs => ?_)
          refine awpH_take TT 0 rfl kr kr kr nh rfl rfl rfl rfl sd ?_
          refine awpH_take TT 1 rfl kr kr kr nh rfl rfl rfl rfl sd ?_
          refine awpH_take TT 2 rfl kr kr kr nh rfl rfl rfl rfl sd ?_
          refine awpH_take TT 3 rfl kr kr kr nh rfl rfl rfl rfl sd ?_
          refine awpH_take TT 4 rfl kr kr kr nh rfl rfl rfl rfl sd ?_
          refine awpH_take TT 5 rfl kr kr kr nh rfl rfl rfl rfl sd ?_
          refine awpH_take TT 6 rfl kr kr kr nh rfl rfl rfl rfl sd ?_
          refine awpH_take TT 7 rfl kr kr kr nh rfl rfl rfl rfl sd ?_
          refine awpH_take TT 8 rfl kr kr kr nh rfl rfl rfl rfl sd ?_
          refine awpH_take TT 9 rfl kr kr kr nh rfl rfl rfl rfl sd ?_
          refine awpH_take TT 10 rfl kr kr kr nh rfl rfl rfl rfl sd ?_
          refine awpH_take TT 11 rfl kr kr kr nh rfl rfl rfl rfl sd ?_
          refine awpH_all [12] kr rfl ⟨?_, trivial⟩
          first | (refine awpHop_step TT 12 rfl rfl rfl rfl sd sb rfl ?_)
          refine awpH_all [13] kr rfl ⟨?_, trivial⟩
          first | (refine awpHop_step TT 13 rfl rfl rfl rfl sd sb rfl ?_)
          refine awpH_all [14] kr rfl ⟨?_, trivial⟩
          first | (refine awpHop_step TT 14 rfl rfl rfl rfl sd sb rfl ?_)
          refine awpH_take TT 15 rfl kr kr kr nh rfl rfl rfl rfl sd ?_
          refine awpH_done kr ?_
          rotate_left
          ((repeat' (first | (refine awpL_step TT rfl rfl rfl sd ?_) | (refine awpL_nil ?_) | (refine awpL_skip rfl rfl ?_) | (refine awpQ_step TT rfl rfl rfl rfl sd ?_) | (refine awpQ_nil ?_) | (refine awpQ_skip rfl rfl ?_) | (refine awp_seq ?_) | (refine awp_region ?_) | (refine awp_block ?_) | (refine awp_exit ?_) | (refine awp_skip ?_) | (refine awp_ret ?_) | (refine awp_cond_t rfl ?_) | (refine awp_cond_f rfl ?_) | (refine awp_quiet TM rfl (by kernel_rfl) ?_) | ((first | refine awpL_split rfl rfl rfl (fun hc => ?_) (fun hc => ?_) | refine awpQ_split rfl rfl rfl (fun hc => ?_) (fun hc => ?_) | refine awp_cond rfl (fun hc => ?_) (fun hc => ?_)) <;> ((try simp at hc) <;> try contradiction)))) <;> try (exfalso; omega))
          all_goals exact fin rfl (by repeat' (first | exact trivial | exact Nat.zero_lt_one | omega | refine ⟨?_, ?_⟩)) [(2, 3), (3, 4), (4, 5)] (.tup [.agg [.int a, .int b, .sl 2 1 0 (a * b) cx], .agg [.int a, .int a, .sl 3 1 0 (a * a) (a * a)], .agg [.int b, .int b, .sl 4 1 0 (b * b) cv], .one (.bool true)]) [(2, .own 3 cx (.ints s.1)), (3, .own 3 (a * a) (.ints s.2.1)), (4, .own 3 cv (.ints s.2.2))] 5 ⟨cx, a * a, cv, hcx, by rw [k1, k2, k3], rfl, rfl⟩ rfl ⟨trivial, ⟨rfl, rfl, rfl, trivial⟩, rfl⟩ rfl
        | some p =>
          rw [hlp, Option.isSome_some] at hlf
          have hRbad : itS a b t s = none → sTo a b s0 (min a b) = none := fun h => none_le (f := sTo a b s0) (fun n h m => sTo_none h m) (n := t + 1) (by omega) ((sTo_next hT).trans (by rw [dgS, h]; rfl))
          have hRgood := fun x (h : itS a b t s = some x) => (sTo_next hT).trans (show dgS a b t s = some (ng3 a b t x) by rw [dgS, h]; rfl)
          generalize hRR : itS a b t s = R at hRbad hRgood
          ((repeat' (first | (refine awpL_step TT rfl rfl rfl sd ?_) | (refine awpL_nil ?_) | (refine awpL_skip rfl rfl ?_) | (refine awpQ_step TT rfl rfl rfl rfl sd ?_) | (refine awpQ_nil ?_) | (refine awpQ_skip rfl rfl ?_) | (refine awp_seq ?_) | (refine awp_region ?_) | (first | refine awpL_ret (hlf) rfl rfl rfl rfl rfl rfl rfl rfl ft rfl rfl ?_ | refine awpQ_ret (hlf) rfl rfl rfl rfl rfl rfl rfl rfl ft rfl rfl ?_ | refine awpHop_ret _ (hlf) rfl rfl rfl rfl rfl rfl rfl rfl rfl ft rfl rfl sb rfl ?_) | (refine awp_block ?_) | (refine awp_exit ?_) | (refine awp_skip ?_) | (refine awp_ret ?_) | (refine awp_cond_t rfl ?_) | (refine awp_cond_f rfl ?_) | (refine awp_quiet TM rfl (by kernel_rfl) ?_) | ((first | refine awpL_split rfl rfl rfl (fun hc => ?_) (fun hc => ?_) | refine awpQ_split rfl rfl rfl (fun hc => ?_) (fun hc => ?_) | refine awp_cond rfl (fun hc => ?_) (fun hc => ?_)) <;> ((try simp at hc) <;> try contradiction)))) <;> try (exfalso; omega))
          refine awp_loop hE (fun x : S3 × Bool × Nat × Nat => x.2.1 = false ∧ OK3 a b x.1 ∧ (∃ p, lp x.1.1 a b t = some p) ∧ itS a b t x.1 = R ∧ x.1.1.length ≤ x.2.2.1 ∨ x.2.1 = true ∧ R = none) (fun x => if x.2.1 = true then 0 else muS a b t x.1 + 1)
            (fun _ => fS t) (fun x => hS 27 111 3 a b xs.length ca x.2.2.1 (a * a) x.2.2.2 x.1 x.2.1) 10 [] (s, false, cx, cv) (.inl ⟨rfl, o1, ⟨p, hlp⟩, hRR, hcx⟩) ⟨(by repeat' (first | exact trivial | refine ⟨rfl, ?_⟩ | refine ⟨congrArg some (congrArg vI (by first | omega | (simp; done) | (simp; omega))), ?_⟩ | refine ⟨sl_eqA (by first | omega | (simp; done) | (simp; omega)), ?_⟩)), (by repeat' (first | exact trivial | refine ⟨rfl, ?_⟩)), rfl⟩ ?_
          clear hlf hlp hRR hcx k1 k2 k3 o1 p hT
          rintro ⟨s, bad, cx, cv⟩ hinv
          dsimp only at hinv ⊢
          rcases hinv with ⟨rfl, o1, ⟨⟨p, q⟩, hlp⟩, hRR, hcx⟩ | ⟨rfl, hRn⟩
          · have hrd := d_round a b t cx (a * a) cv p q s o1 ha hb hta htb hlp hcx (Nat.le_refl _)
            dsimp only [hS]
            cases hrr : rndP a b t (p, q) s with
            | none =>
              have hRn : R = none := hRR.symm.trans (itS_bad hlp hrr)
              rw [hrr] at hrd
              ((repeat' (first | (refine awpL_step TT rfl rfl rfl sd ?_) | (refine awpL_nil ?_) | (refine awpL_skip rfl rfl ?_) | (refine awpQ_step TT rfl rfl rfl rfl sd ?_) | (refine awpQ_nil ?_) | (refine awpQ_skip rfl rfl ?_) | (refine awp_seq ?_) | (refine awp_region ?_) | ((refine awpL_call (hrd) rfl rfl rfl rfl rfl rfl rfl ft rfl ?_); rintro v Hout n1 ⟨rfl, g, cx1, cv1, rfl, rfl⟩; cases g) | (refine awp_block ?_) | (refine awp_exit ?_) | (refine awp_skip ?_) | (refine awp_ret ?_) | (refine awp_cond_t rfl ?_) | (refine awp_cond_f rfl ?_) | (refine awp_quiet TM rfl (by kernel_rfl) ?_) | ((first | refine awpL_split rfl rfl rfl (fun hc => ?_) (fun hc => ?_) | refine awpQ_split rfl rfl rfl (fun hc => ?_) (fun hc => ?_) | refine awp_cond rfl (fun hc => ?_) (fun hc => ?_)) <;> ((try simp at hc) <;> try contradiction)))) <;> try (exfalso; omega))
              all_goals first
                | exact ⟨[(3, 10), (5, 11)], (s, true, cx1, cv1), .inr ⟨rfl, hRn⟩, by simp, ⟨(by repeat' (first | exact trivial | refine ⟨rfl, ?_⟩ | refine ⟨congrArg some (congrArg vI (by first | omega | (simp; done) | (simp; omega))), ?_⟩ | refine ⟨sl_eqA (by first | omega | (simp; done) | (simp; omega)), ?_⟩)), (by repeat' (first | exact trivial | refine ⟨rfl, ?_⟩)), rfl⟩⟩
                | exact ⟨[(3, 10), (5, 11)], (t + 1, s, true, cx1, cv1), ⟨by dsimp only; omega, .inr ⟨rfl, hRbad hRn⟩⟩, (by first | omega | (dsimp only; omega)), ⟨(by repeat' (first | exact trivial | refine ⟨rfl, ?_⟩ | refine ⟨congrArg some (congrArg vI (by first | omega | (simp; done) | (simp; omega))), ?_⟩ | refine ⟨sl_eqA (by first | omega | (simp; done) | (simp; omega)), ?_⟩)), (by repeat' (first | exact trivial | refine ⟨rfl, ?_⟩)), rfl⟩⟩
            | some y =>
              obtain ⟨y, g⟩ := y
              rw [hrr] at hrd
              cases g
              · have hRs : R = some y := hRR.symm.trans (itS_done hlp hrr)
                have o2 := (rndP_cells o1 hta htb hlp hrr).1
                have hNx := hRgood y hRs
                have hd := fun cp => d_atN a b t t (a * b) cp y.1 o2.x.symm o2.x ha hb hta htb
                have w1 : y.1[t * b + t]?.getD 0 = y.1.getD (t * b + t) 0 := by simp
                have q1 := o2.x
                have q2 := o2.u
                by_cases hng : y.1.getD (t * b + t) 0 < 0
                · have hne := fun cx cv h => d_rowsNeg a b t (a * b) cx (a * a) cv y.1 y.2.1 o2.row q1.symm ha hb hta h (by omega)
                  have hg : ng3 a b t y = (negX y.1 b t, negX y.2.1 a t, y.2.2) := if_pos hng
                  rw [hg] at hNx
                  have hlen : (negX y.1 b t).length = y.1.length := updTo_len
                  ((repeat' (first | (refine awpL_step TT rfl rfl rfl sd ?_) | (refine awpL_nil ?_) | (refine awpL_skip rfl rfl ?_) | (refine awpQ_step TT rfl rfl rfl rfl sd ?_) | (refine awpQ_nil ?_) | (refine awpQ_skip rfl rfl ?_) | (refine awp_seq ?_) | (refine awp_region ?_) | ((refine awpL_call (hrd) rfl rfl rfl rfl rfl rfl rfl ft rfl ?_); rintro v Hout n1 ⟨rfl, cx1, cv1, hcx1, rfl, rfl⟩) | (first | refine awpL_ret (hd _) rfl rfl rfl rfl rfl rfl rfl rfl ft rfl rfl ?_ | refine awpQ_ret (hd _) rfl rfl rfl rfl rfl rfl rfl rfl ft rfl rfl ?_ | refine awpHop_ret _ (hd _) rfl rfl rfl rfl rfl rfl rfl rfl rfl ft rfl rfl sb rfl ?_) | (refine awpL_callM [(3, 10), (5, 11)] (hne _ _ hcx1) rfl rfl rfl rfl rfl rfl rfl ft rfl ?_; rintro v Hout n1 ⟨rfl, rfl, rfl⟩) | (refine awp_block ?_) | (refine awp_exit ?_) | (refine awp_skip ?_) | (refine awp_ret ?_) | (refine awp_cond_t rfl ?_) | (refine awp_cond_f rfl ?_) | (refine awp_quiet TM rfl (by kernel_rfl) ?_) | ((first | refine awpL_split rfl rfl rfl (fun hc => ?_) (fun hc => ?_) | refine awpQ_split rfl rfl rfl (fun hc => ?_) (fun hc => ?_) | refine awp_cond rfl (fun hc => ?_) (fun hc => ?_)) <;> ((try simp at hc) <;> try contradiction)))) <;> try (exfalso; omega))
                  rename_i cx1 cv1 hcx1 _
                  all_goals exact ⟨[(3, 10), (5, 11)], (t + 1, (negX y.1 b t, negX y.2.1 a t, y.2.2), false, cx1, cv1), ⟨by dsimp only; omega, .inl ⟨rfl, hNx, by dsimp only; omega⟩⟩, (by first | omega | (dsimp only; omega)), ⟨(by repeat' (first | exact trivial | refine ⟨rfl, ?_⟩ | refine ⟨congrArg some (congrArg vI (by first | omega | (simp; done) | (simp; omega))), ?_⟩ | refine ⟨sl_eqA (by first | omega | (simp; done) | (simp; omega)), ?_⟩)), (by repeat' (first | exact trivial | refine ⟨rfl, ?_⟩)), rfl⟩⟩
                · have hg : ng3 a b t y = y := if_neg hng
                  rw [hg] at hNx
                  ((repeat' (first | (refine awpL_step TT rfl rfl rfl sd ?_) | (refine awpL_nil ?_) | (refine awpL_skip rfl rfl ?_) | (refine awpQ_step TT rfl rfl rfl rfl sd ?_) | (refine awpQ_nil ?_) | (refine awpQ_skip rfl rfl ?_) | (refine awp_seq ?_) | (refine awp_region ?_) | ((refine awpL_call (hrd) rfl rfl rfl rfl rfl rfl rfl ft rfl ?_); rintro v Hout n1 ⟨rfl, cx1, cv1, hcx1, rfl, rfl⟩) | (first | refine awpL_ret (hd _) rfl rfl rfl rfl rfl rfl rfl rfl ft rfl rfl ?_ | refine awpQ_ret (hd _) rfl rfl rfl rfl rfl rfl rfl rfl ft rfl rfl ?_ | refine awpHop_ret _ (hd _) rfl rfl rfl rfl rfl rfl rfl rfl rfl ft rfl rfl sb rfl ?_) | (refine awp_block ?_) | (refine awp_exit ?_) | (refine awp_skip ?_) | (refine awp_ret ?_) | (refine awp_cond_t rfl ?_) | (refine awp_cond_f rfl ?_) | (refine awp_quiet TM rfl (by kernel_rfl) ?_) | ((first | refine awpL_split rfl rfl rfl (fun hc => ?_) (fun hc => ?_) | refine awpQ_split rfl rfl rfl (fun hc => ?_) (fun hc => ?_) | refine awp_cond rfl (fun hc => ?_) (fun hc => ?_)) <;> ((try simp at hc) <;> try contradiction)))) <;> try (exfalso; omega))
                  all_goals exact ⟨[(3, 10), (5, 11)], (t + 1, y, false, cx1, cv1), ⟨by dsimp only; omega, .inl ⟨rfl, hNx, by dsimp only; omega⟩⟩, (by first | omega | (dsimp only; omega)), ⟨(by repeat' (first | exact trivial | refine ⟨rfl, ?_⟩ | refine ⟨congrArg some (congrArg vI (by first | omega | (simp; done) | (simp; omega))), ?_⟩ | refine ⟨sl_eqA (by first | omega | (simp; done) | (simp; omega)), ?_⟩)), (by repeat' (first | exact trivial | refine ⟨rfl, ?_⟩)), rfl⟩⟩
              · obtain ⟨e1, e2, e3, e4⟩ := itS_more o1 hta htb hlp hrr
                ((repeat' (first | (refine awpL_step TT rfl rfl rfl sd ?_) | (refine awpL_nil ?_) | (refine awpL_skip rfl rfl ?_) | (refine awpQ_step TT rfl rfl rfl rfl sd ?_) | (refine awpQ_nil ?_) | (refine awpQ_skip rfl rfl ?_) | (refine awp_seq ?_) | (refine awp_region ?_) | ((refine awpL_call (hrd) rfl rfl rfl rfl rfl rfl rfl ft rfl ?_); rintro v Hout n1 ⟨rfl, cx1, cv1, hcx1, rfl, rfl⟩) | (refine awp_block ?_) | (refine awp_exit ?_) | (refine awp_skip ?_) | (refine awp_ret ?_) | (refine awp_cond_t rfl ?_) | (refine awp_cond_f rfl ?_) | (refine awp_quiet TM rfl (by kernel_rfl) ?_) | ((first | refine awpL_split rfl rfl rfl (fun hc => ?_) (fun hc => ?_) | refine awpQ_split rfl rfl rfl (fun hc => ?_) (fun hc => ?_) | refine awp_cond rfl (fun hc => ?_) (fun hc => ?_)) <;> ((try simp at hc) <;> try contradiction)))) <;> try (exfalso; omega))
                all_goals exact ⟨[(3, 10), (5, 11)], (y, false, cx1, cv1), .inl ⟨rfl, e4, e3, e1.symm.trans hRR, hcx1⟩, by (dsimp only; simpa using e2), ⟨(by repeat' (first | exact trivial | refine ⟨rfl, ?_⟩ | refine ⟨congrArg some (congrArg vI (by first | omega | (simp; done) | (simp; omega))), ?_⟩ | refine ⟨sl_eqA (by first | omega | (simp; done) | (simp; omega)), ?_⟩)), (by repeat' (first | exact trivial | refine ⟨rfl, ?_⟩)), rfl⟩⟩
          · dsimp only [hS]
            ((repeat' (first | (refine awpL_step TT rfl rfl rfl sd ?_) | (refine awpL_nil ?_) | (refine awpL_skip rfl rfl ?_) | (refine awpQ_step TT rfl rfl rfl rfl sd ?_) | (refine awpQ_nil ?_) | (refine awpQ_skip rfl rfl ?_) | (refine awp_seq ?_) | (refine awp_region ?_) | (refine awp_block ?_) | (refine awp_exit ?_) | (refine awp_skip ?_) | (refine awp_ret ?_) | (refine awp_cond_t rfl ?_) | (refine awp_cond_f rfl ?_) | (refine awp_quiet TM rfl (by kernel_rfl) ?_) | ((first | refine awpL_split rfl rfl rfl (fun hc => ?_) (fun hc => ?_) | refine awpQ_split rfl rfl rfl (fun hc => ?_) (fun hc => ?_) | refine awp_cond rfl (fun hc => ?_) (fun hc => ?_)) <;> ((try simp at hc) <;> try contradiction)))) <;> try (exfalso; omega))
            all_goals exact ⟨[], (t + 1, s, true, cx, cv), ⟨by dsimp only; omega, .inr ⟨rfl, hRbad hRn⟩⟩, (by first | omega | (dsimp only; omega)), ⟨(by repeat' (first | exact trivial | refine ⟨rfl, ?_⟩ | refine ⟨congrArg some (congrArg vI (by first | omega | (simp; done) | (simp; omega))), ?_⟩ | refine ⟨sl_eqA (by first | omega | (simp; done) | (simp; omega)), ?_⟩)), (by repeat' (first | exact trivial | refine ⟨rfl, ?_⟩)), rfl⟩⟩
      · have htm : t = min a b := by omega
        have hkn : ¬ ((t : Int) < if b < a then (b : Int) else (a : Int)) := by split <;> omega
        rw [← htm, hT]
        ((repeat' (first | (refine awpL_step TT rfl rfl rfl sd ?_) | (refine awpL_nil ?_) | (refine awpL_skip rfl rfl ?_) | (refine awpQ_step TT rfl rfl rfl rfl sd ?_) | (refine awpQ_nil ?_) | (refine awpQ_skip rfl rfl ?_) | (refine awp_seq ?_) | (refine awp_region ?_) | (refine awp_block ?_) | (refine awp_exit ?_) | (refine awp_skip ?_) | (refine awp_ret ?_) | (refine awp_cond_t rfl ?_) | (refine awp_cond_f rfl ?_) | (refine awp_quiet TM rfl (by kernel_rfl) ?_) | ((first | refine awpL_split rfl rfl rfl (fun hc => ?_) (fun hc => ?_) | refine awpQ_split rfl rfl rfl (fun hc => ?_) (fun hc => ?_) | refine awp_cond rfl (fun hc => ?_) (fun hc => ?_)) <;> ((try simp at hc) <;> try contradiction)))) <;> try (exfalso; omega))
        refine awp_held TM [(2, _)] sb rfl (fun ρs => ?_)
        refine awpH_take TT 0 rfl kr kr kr nh rfl rfl rfl rfl sd ?_
        refine awpH_take TT 1 rfl kr kr kr nh rfl rfl rfl rfl sd ?_
        refine awpH_take TT 2 rfl kr kr kr nh rfl rfl rfl rfl sd ?_
        refine awpH_take TT 3 rfl kr kr kr nh rfl rfl rfl rfl sd ?_
        refine awpH_take TT 4 rfl kr kr kr nh rfl rfl rfl rfl sd ?_
        refine awpH_take TT 5 rfl kr kr kr nh rfl rfl rfl rfl sd ?_
        refine awpH_take TT 6 rfl kr kr kr nh rfl rfl rfl rfl sd ?_
        refine awpH_take TT 7 rfl kr kr kr nh rfl rfl rfl rfl sd ?_
        refine awpH_take TT 8 rfl kr kr kr nh rfl rfl rfl rfl sd ?_
        refine awpH_take TT 9 rfl kr kr kr nh rfl rfl rfl rfl sd ?_
        refine awpH_take TT 10 rfl kr kr kr nh rfl rfl rfl rfl sd ?_
        refine awpH_take TT 11 rfl kr kr kr nh rfl rfl rfl rfl sd ?_
        refine awpH_all [12] kr rfl ⟨?_, trivial⟩
        first | (refine awpHop_step TT 12 rfl rfl rfl rfl sd sb rfl ?_)
        refine awpH_all [13] kr rfl ⟨?_, trivial⟩
        first | (refine awpHop_step TT 13 rfl rfl rfl rfl sd sb rfl ?_)
        refine awpH_all [14] kr rfl ⟨?_, trivial⟩
        first | (refine awpHop_step TT 14 rfl rfl rfl rfl sd sb rfl ?_)
        refine awpH_take TT 15 rfl kr kr kr nh rfl rfl rfl rfl sd ?_
        refine awpH_done kr ?_
        rotate_left
        ((repeat' (first | (refine awpL_step TT rfl rfl rfl sd ?_) | (refine awpL_nil ?_) | (refine awpL_skip rfl rfl ?_) | (refine awpQ_step TT rfl rfl rfl rfl sd ?_) | (refine awpQ_nil ?_) | (refine awpQ_skip rfl rfl ?_) | (refine awp_seq ?_) | (refine awp_region ?_) | (refine awp_block ?_) | (refine awp_exit ?_) | (refine awp_skip ?_) | (refine awp_ret ?_) | (refine awp_cond_t rfl ?_) | (refine awp_cond_f rfl ?_) | (refine awp_quiet TM rfl (by kernel_rfl) ?_) | ((first | refine awpL_split rfl rfl rfl (fun hc => ?_) (fun hc => ?_) | refine awpQ_split rfl rfl rfl (fun hc => ?_) (fun hc => ?_) | refine awp_cond rfl (fun hc => ?_) (fun hc => ?_)) <;> ((try simp at hc) <;> try contradiction)))) <;> try (exfalso; omega))
        all_goals exact fin rfl (by repeat' (first | exact trivial | exact Nat.zero_lt_one | omega | refine ⟨?_, ?_⟩)) [(2, 3), (3, 4), (4, 5)] (.tup [.agg [.int a, .int b, .sl 2 1 0 (a * b) cx], .agg [.int a, .int a, .sl 3 1 0 (a * a) (a * a)], .agg [.int b, .int b, .sl 4 1 0 (b * b) cv], .one (.bool true)]) [(2, .own 3 cx (.ints s.1)), (3, .own 3 (a * a) (.ints s.2.1)), (4, .own 3 cv (.ints s.2.2))] 5 ⟨cx, a * a, cv, hcx, by rw [k1, k2, k3], rfl, rfl⟩ rfl ⟨trivial, ⟨rfl, rfl, rfl, trivial⟩, rfl⟩ rfl
    · dsimp only [hS]
      rw [hN]
      ((repeat' (first | (refine awpL_step TT rfl rfl rfl sd ?_) | (refine awpL_nil ?_) | (refine awpL_skip rfl rfl ?_) | (refine awpQ_step TT rfl rfl rfl rfl sd ?_) | (refine awpQ_nil ?_) | (refine awpQ_skip rfl rfl ?_) | (refine awp_seq ?_) | (refine awp_region ?_) | (refine awp_block ?_) | (refine awp_exit ?_) | (refine awp_skip ?_) | (refine awp_ret ?_) | (refine awp_cond_t rfl ?_) | (refine awp_cond_f rfl ?_) | (refine awp_quiet TM rfl (by kernel_rfl) ?_) | ((first | refine awpL_split rfl rfl rfl (fun hc => ?_) (fun hc => ?_) | refine awpQ_split rfl rfl rfl (fun hc => ?_) (fun hc => ?_) | refine awp_cond rfl (fun hc => ?_) (fun hc => ?_)) <;> ((try simp at hc) <;> try contradiction)))) <;> try (exfalso; omega))
      all_goals exact fin rfl (by repeat' (first | exact trivial | exact Nat.zero_lt_one | omega | refine ⟨?_, ?_⟩)) [] (.tup [.agg zeroM, .agg zeroM, .agg zeroM, .one (.bool false)]) [] 2 ⟨rfl, rfl, rfl⟩ rfl ⟨trivial, trivial, rfl⟩ rfl
end Go.Proofs.Ytmkoifmokdmebaa
