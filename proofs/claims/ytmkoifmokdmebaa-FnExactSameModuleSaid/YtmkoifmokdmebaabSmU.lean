/-
  CONTRACTS: SmithForm of the reference.
-/
import Derived.Test.YtmkoifmokdmebaabSmT
import Derived.Test.YtmkoifmokdmebaabSmD
set_option linter.unusedVariables false
set_option linter.unusedSimpArgs false
namespace Go.Proofs.Ytmkoifmokdmebaa
open Go.RowKit

def SmT (t : TypeId) (a b cx : Nat) (o : Option S3) (v : AV) (Hout : List (Nat × Blk)) (n1 : Nat) : Prop := n1 = 4 ∧ match o with
  | some s => v = vB true ∧ Hout = [(1, .own t cx (.ints s.1)), (2, .own t (a * a) (.ints s.2.1)), (3, .own t (b * b) (.ints s.2.2))]
  | none => v = vB false ∧ ∃ xs ys zs : List Int, Hout = [(1, .own t cx (.ints xs)), (2, .own t (a * a) (.ints ys)), (3, .own t (b * b) (.ints zs))]
abbrev fU (t : Int) : List (Nat × AV) := [(3, .one (.ptr 4 3 0 0)), (4, .one (.ptr 5 3 0 0)), (5, .one (.ptr 6 3 0 0)), (7, vI t)]
set_option maxRecDepth 100000 in
set_option maxHeartbeats 16000000 in
theorem d_l13S (a b cx : Nat) (s0 : S3) (o0 : OK3 a b s0) (ha : a ≤ 24) (hb : b ≤ 24) : Does Try.prog 147 [vM a b 1 (a * b) cx, vM a a 2 (a * a) (a * a), vM b b 3 (b * b) (b * b)] [(1, .own 3 cx (.ints s0.1)), (2, .own 3 (a * a) (.ints s0.2.1)), (3, .own 3 (b * b) (.ints s0.2.2))] 4 (SmT 3 a b cx (sTo a b s0 (min a b))) := by
  refine Does.intro TT Try.func147 rfl (by kernel_rfl) rfl rfl fun E hE => ?_
  have hab : a * b ≤ 24 * 24 := Nat.mul_le_mul ha hb
  have haa : a * a ≤ 24 * 24 := Nat.mul_le_mul ha ha
  have hbb : b * b ≤ 24 * 24 := Nat.mul_le_mul hb hb
  ((repeat' (first | (refine awpL_step TT rfl rfl rfl sd ?_) | (refine awpL_nil ?_) | (refine awpL_skip rfl rfl ?_) | (refine awpQ_step TT rfl rfl rfl rfl sd ?_) | (refine awpQ_nil ?_) | (refine awpQ_skip rfl rfl ?_) | (refine awp_seq ?_) | (refine awp_region ?_) | (refine awp_block ?_) | (refine awp_exit ?_) | (refine awp_skip ?_) | (refine awp_ret ?_) | (refine awp_cond_t rfl ?_) | (refine awp_cond_f rfl ?_) | (refine awp_quiet TM rfl (by kernel_rfl) ?_) | ((first | refine awpL_split rfl rfl rfl (fun hc => ?_) (fun hc => ?_) | refine awpQ_split rfl rfl rfl (fun hc => ?_) (fun hc => ?_) | refine awp_cond rfl (fun hc => ?_) (fun hc => ?_)) <;> ((try simp at hc) <;> try contradiction)))) <;> try (exfalso; omega))
  refine awp_loop hE (fun x : Nat × S3 => x.1 ≤ min a b ∧ sTo a b s0 x.1 = some x.2) (fun x => min a b - x.1)
    (fun x => fU x.1) (fun x => hT 27 3 a b (a * b) cx x.2) 7 [] (0, s0) ⟨Nat.zero_le _, rfl⟩ ⟨(by repeat' (first | exact trivial | refine ⟨rfl, ?_⟩ | refine ⟨congrArg some (congrArg vI (by first | omega | (simp; done) | (simp; omega))), ?_⟩ | refine ⟨sl_eqA (by first | omega | (simp; done) | (simp; omega)), ?_⟩)), (by repeat' (first | exact trivial | refine ⟨rfl, ?_⟩)), rfl⟩ ?_
  rintro ⟨t, s⟩ ⟨ht, hTT⟩
  dsimp only at ht hTT ⊢
  by_cases hgo : t < a ∧ t < b
  · obtain ⟨hta, htb⟩ := hgo
    have hkn : ¬ ((if b < a then (b : Int) else (a : Int)) ≤ t) := by split <;> omega
    have o1 := sTo_ok o0 ht hTT
    have hRbad : itS a b t s = none → sTo a b s0 (min a b) = none := fun h => none_le (f := sTo a b s0) (fun n h m => sTo_none h m) (n := t + 1) (by omega) ((sTo_next hTT).trans (by rw [dgS, h]; rfl))
    have hRgood := fun x (h : itS a b t s = some x) => (sTo_next hTT).trans (show dgS a b t s = some (ng3 a b t x) by rw [dgS, h]; rfl)
    generalize hRR : itS a b t s = R at hRbad hRgood
    ((repeat' (first | (refine awpL_step TT rfl rfl rfl sd ?_) | (refine awpL_nil ?_) | (refine awpL_skip rfl rfl ?_) | (refine awpQ_step TT rfl rfl rfl rfl sd ?_) | (refine awpQ_nil ?_) | (refine awpQ_skip rfl rfl ?_) | (refine awp_seq ?_) | (refine awp_region ?_) | (refine awp_block ?_) | (refine awp_exit ?_) | (refine awp_skip ?_) | (refine awp_ret ?_) | (refine awp_cond_t rfl ?_) | (refine awp_cond_f rfl ?_) | (refine awp_quiet TM rfl (by kernel_rfl) ?_) | ((first | refine awpL_split rfl rfl rfl (fun hc => ?_) (fun hc => ?_) | refine awpQ_split rfl rfl rfl (fun hc => ?_) (fun hc => ?_) | refine awp_cond rfl (fun hc => ?_) (fun hc => ?_)) <;> ((try simp at hc) <;> try contradiction)))) <;> try (exfalso; omega))
    refine awp_loop hE (fun x : S3 × Bool => OK3 a b x.1 ∧ (x.2 = false ∧ itS a b t x.1 = R ∧ (lp x.1.1 a b t = none → sTo a b s0 t = some x.1) ∨ x.2 = true ∧ R = some x.1)) (fun x => if x.2 = true then 0 else muS a b t x.1 + 1)
      (fun x => fU t ++ [(8, vB x.2)]) (fun x => hT 27 3 a b (a * b) cx x.1) 7 [] (s, false) ⟨o1, .inl ⟨rfl, hRR, fun _ => hTT⟩⟩ ⟨(by repeat' (first | exact trivial | refine ⟨rfl, ?_⟩ | refine ⟨congrArg some (congrArg vI (by first | omega | (simp; done) | (simp; omega))), ?_⟩ | refine ⟨sl_eqA (by first | omega | (simp; done) | (simp; omega)), ?_⟩)), (by repeat' (first | exact trivial | refine ⟨rfl, ?_⟩)), rfl⟩ ?_
    clear hRR o1 hTT
    rintro ⟨s, g⟩ ⟨o1, hinv⟩
    dsimp only at o1 hinv ⊢
    have k1 := o1.x
    have k2 := o1.u
    have k3 := o1.v
    rcases hinv with ⟨rfl, hRR, hst⟩ | ⟨rfl, hRs⟩
    · have hlf := d_lpS a b t (a * b) cx s.1 k1.symm k1 o1.nx ha hb (by omega) (by omega)
      cases hlp : lp s.1 a b t with
      | none =>
        rw [hlp, show pA none = -1 from rfl, show pB none = -1 from rfl] at hlf
        have hE' : sTo a b s0 (min a b) = some s := by
          have := sTo_stop (hst hlp) hlp (min a b - t) (by omega)
          rwa [show t + (min a b - t) = min a b by omega] at this
        rw [hE']
        ((repeat' (first | (refine awpL_step TT rfl rfl rfl sd ?_) | (refine awpL_nil ?_) | (refine awpL_skip rfl rfl ?_) | (refine awpQ_step TT rfl rfl rfl rfl sd ?_) | (refine awpQ_nil ?_) | (refine awpQ_skip rfl rfl ?_) | (refine awp_seq ?_) | (refine awp_region ?_) | (first | refine awpL_ret (hlf) rfl rfl rfl rfl rfl rfl rfl rfl ft rfl rfl ?_ | refine awpQ_ret (hlf) rfl rfl rfl rfl rfl rfl rfl rfl ft rfl rfl ?_ | refine awpHop_ret _ (hlf) rfl rfl rfl rfl rfl rfl rfl rfl rfl ft rfl rfl sb rfl ?_) | (refine awp_block ?_) | (refine awp_exit ?_) | (refine awp_skip ?_) | (refine awp_ret ?_) | (refine awp_cond_t rfl ?_) | (refine awp_cond_f rfl ?_) | (refine awp_quiet TM rfl (by kernel_rfl) ?_) | ((first | refine awpL_split rfl rfl rfl (fun hc => ?_) (fun hc => ?_) | refine awpQ_split rfl rfl rfl (fun hc => ?_) (fun hc => ?_) | refine awp_cond rfl (fun hc => ?_) (fun hc => ?_)) <;> ((try simp at hc) <;> try contradiction)))) <;> try (exfalso; omega))
        all_goals exact fin rfl (by repeat' (first | exact trivial | exact Nat.zero_lt_one | omega | refine ⟨?_, ?_⟩)) [] (vB true) [(1, .own 3 cx (.ints s.1)), (2, .own 3 (a * a) (.ints s.2.1)), (3, .own 3 (b * b) (.ints s.2.2))] 4 ⟨rfl, rfl, rfl⟩ rfl ⟨trivial, ⟨rfl, rfl, rfl, trivial⟩, rfl⟩ rfl
      | some p =>
        obtain ⟨p, q⟩ := p
        rw [hlp, show pA (some (p, q)) = (p : Int) from rfl, show pB (some (p, q)) = (q : Int) from rfl] at hlf
        obtain ⟨⟨hp, hq⟩, h0, -, -⟩ := lp_some (by omega) (by omega) hlp
        have hpv : (swC a b q t (swR a b p t s)).1.getD (t * b + t) 0 ≠ 0 := by rw [swC_piv (swR_ok o1) hq.2 htb hta, swR_piv o1 hp.2 hta hq.2]; exact h0
        have hsw := fun h => d_opsSwap a b p t (a * b) cx s.1 s.2.1 k1.symm o1.row ha hb hp.2 hta h
        have hne0 : ¬ ((p : Int) < 0) := by omega
        ((repeat' (first | (refine awp_cut 9 hE (fun _ : Unit => True) (fun _ => fU t ++ [(10, vI q)]) (fun _ => hT 27 3 a b (a * b) cx (swR a b p t s)) 7 ?_ ?_) | (refine awpL_step TT rfl rfl rfl sd ?_) | (refine awpL_nil ?_) | (refine awpL_skip rfl rfl ?_) | (refine awpQ_step TT rfl rfl rfl rfl sd ?_) | (refine awpQ_nil ?_) | (refine awpQ_skip rfl rfl ?_) | (refine awp_seq ?_) | (refine awp_region ?_) | (first | refine awpL_ret (hlf) rfl rfl rfl rfl rfl rfl rfl rfl ft rfl rfl ?_ | refine awpQ_ret (hlf) rfl rfl rfl rfl rfl rfl rfl rfl ft rfl rfl ?_ | refine awpHop_ret _ (hlf) rfl rfl rfl rfl rfl rfl rfl rfl rfl ft rfl rfl sb rfl ?_) | ((refine awpL_call (hsw (by omega)) rfl rfl rfl rfl rfl rfl rfl ft rfl ?_); rintro v Hout n1 ⟨rfl, rfl, rfl⟩) | (refine awp_block ?_) | (refine awp_exit ?_) | (refine awp_skip ?_) | (refine awp_ret ?_) | (refine awp_cond_t rfl ?_) | (refine awp_cond_f rfl ?_) | ((first | refine awpL_split rfl rfl rfl (fun hc => ?_) (fun hc => ?_) | refine awpQ_split rfl rfl rfl (fun hc => ?_) (fun hc => ?_) | refine awp_cond rfl (fun hc => ?_) (fun hc => ?_)) <;> ((try simp at hc) <;> try contradiction)))) <;> try (exfalso; omega))
        · have e : swR a b p t s = (swapTo s.1 (p * b) (t * b) b, swapTo s.2.1 (p * a) (t * a) a, s.2.2) := if_neg (by omega)
          rw [e]
          exact ⟨[], (), trivial, ⟨(by repeat' (first | exact trivial | refine ⟨rfl, ?_⟩ | refine ⟨congrArg some (congrArg vI (by first | omega | (simp; done) | (simp; omega))), ?_⟩ | refine ⟨sl_eqA (by first | omega | (simp; done) | (simp; omega)), ?_⟩)), (by repeat' (first | exact trivial | refine ⟨rfl, ?_⟩)), rfl⟩⟩
        · have e : swR a b p t s = s := if_pos (by omega)
          rw [e]
          exact ⟨[], (), trivial, ⟨(by repeat' (first | exact trivial | refine ⟨rfl, ?_⟩ | refine ⟨congrArg some (congrArg vI (by first | omega | (simp; done) | (simp; omega))), ?_⟩ | refine ⟨sl_eqA (by first | omega | (simp; done) | (simp; omega)), ?_⟩)), (by repeat' (first | exact trivial | refine ⟨rfl, ?_⟩)), rfl⟩⟩
        clear hlf hsw
        rintro ⟨⟩ -
        have o2 : OK3 a b (swR a b p t s) := swR_ok o1
        have hw1 := fun h => d_colSW a b q t (a * b) cx cx (swR a b p t s).1 o2.x.symm o2.x ha hb hq.2 htb h (GBs.num o2.nx)
        have hw2 := fun h => d_colSW b b q t (b * b) (b * b) (b * b) (swR a b p t s).2.2 o2.v.symm o2.v hb hb hq.2 htb h (GBs.num o2.nv)
        ((repeat' (first | (refine awp_cut 11 hE (fun _ : Unit => True) (fun _ => fU t) (fun _ => hT 27 3 a b (a * b) cx (swC a b q t (swR a b p t s))) 7 ?_ ?_) | (refine awpL_step TT rfl rfl rfl sd ?_) | (refine awpL_nil ?_) | (refine awpL_skip rfl rfl ?_) | (refine awpQ_step TT rfl rfl rfl rfl sd ?_) | (refine awpQ_nil ?_) | (refine awpQ_skip rfl rfl ?_) | (refine awp_seq ?_) | (refine awp_region ?_) | ((refine awpL_call (hw1 (by omega)) rfl rfl rfl rfl rfl rfl rfl ft rfl ?_); rintro v Hout n1 ⟨rfl, rfl, rfl⟩) | ((refine awpL_call (hw2 (by omega)) rfl rfl rfl rfl rfl rfl rfl ft rfl ?_); rintro v Hout n1 ⟨rfl, rfl, rfl⟩) | (refine awp_block ?_) | (refine awp_exit ?_) | (refine awp_skip ?_) | (refine awp_ret ?_) | (refine awp_cond_t rfl ?_) | (refine awp_cond_f rfl ?_) | ((first | refine awpL_split rfl rfl rfl (fun hc => ?_) (fun hc => ?_) | refine awpQ_split rfl rfl rfl (fun hc => ?_) (fun hc => ?_) | refine awp_cond rfl (fun hc => ?_) (fun hc => ?_)) <;> ((try simp at hc) <;> try contradiction)))) <;> try (exfalso; omega))
        · have e : swC a b q t (swR a b p t s) = (turnM (swapTo (turnM (swR a b p t s).1 a b) (q * a) (t * a) a) b a, (swR a b p t s).2.1, turnM (swapTo (turnM (swR a b p t s).2.2 b b) (q * b) (t * b) b) b b) := if_neg (by omega)
          rw [e]
          exact ⟨[], (), trivial, ⟨(by repeat' (first | exact trivial | refine ⟨rfl, ?_⟩ | refine ⟨congrArg some (congrArg vI (by first | omega | (simp; done) | (simp; omega))), ?_⟩ | refine ⟨sl_eqA (by first | omega | (simp; done) | (simp; omega)), ?_⟩)), (by repeat' (first | exact trivial | refine ⟨rfl, ?_⟩)), rfl⟩⟩
        · have e : swC a b q t (swR a b p t s) = swR a b p t s := if_pos (by omega)
          rw [e]
          exact ⟨[], (), trivial, ⟨(by repeat' (first | exact trivial | refine ⟨rfl, ?_⟩ | refine ⟨congrArg some (congrArg vI (by first | omega | (simp; done) | (simp; omega))), ?_⟩ | refine ⟨sl_eqA (by first | omega | (simp; done) | (simp; omega)), ?_⟩)), (by repeat' (first | exact trivial | refine ⟨rfl, ?_⟩)), rfl⟩⟩
        clear hw1 hw2
        rintro ⟨⟩ -
        have o3 : OK3 a b (swC a b q t (swR a b p t s)) := swC_ok o2
        have hrd := d_roundS a b t (a * b) cx (swC a b q t (swR a b p t s)) o3 ha hb hta htb o3.x.symm hpv
        have hrn : rndS a b t (swC a b q t (swR a b p t s)) = rndP a b t (p, q) s := rfl
        rw [hrn] at hrd
        clear hrn hpv
        generalize swC a b q t (swR a b p t s) = s3 at hrd o3 ⊢
        clear o2
        have hb1 : ∀ (l : List Int) (m c : Nat), m = l.length → l.length ≤ 1099511627776 → Does Try.prog 70 [vS 1 1 0 m c] [(1, .ro (.ints l))] 2 (Ret (vB (decide (badN ∈ l))) 2) := fun l m c hm h => by subst hm; exact d_bads l c h
        cases hrr : rndP a b t (p, q) s with
        | none =>
          have hRn : R = none := hRR.symm.trans (itS_bad hlp hrr)
          rw [hRbad hRn]
          rw [hrr] at hrd
          have hout : ∀ (s4 : S3) (g : Bool), Fin3 a b (none : Option (S3 × Bool)) s4 g → s4.1.length = a * b ∧ s4.2.1.length = a * a ∧ s4.2.2.length = b * b ∧ (badN ∈ s4.1 ∨ badN ∈ s4.2.1 ∨ badN ∈ s4.2.2) := fun s4 g hf => by
            refine ⟨hf.1.x, hf.1.u, hf.1.v, ?_⟩
            have hm := hf.1.m
            exact hm.imp hasB_mem.1 (Or.imp hasB_mem.1 hasB_mem.1)
          ((repeat' (first | (refine awpL_step TT rfl rfl rfl sd ?_) | (refine awpL_nil ?_) | (refine awpL_skip rfl rfl ?_) | (refine awpQ_step TT rfl rfl rfl rfl sd ?_) | (refine awpQ_nil ?_) | (refine awpQ_skip rfl rfl ?_) | (refine awp_seq ?_) | (refine awp_region ?_) | ((refine awpL_call (hrd) rfl rfl rfl rfl rfl rfl rfl ft rfl ?_); rintro v Hout n1 ⟨s4, g, hf, rfl, rfl, rfl⟩; obtain ⟨q1, q2, q3, q4⟩ := hout s4 g hf) | (first | refine awpL_ret (hb1 s4.1 (a * b) _ q1.symm (by omega)) rfl rfl rfl rfl rfl rfl rfl rfl ft rfl rfl ?_ | refine awpQ_ret (hb1 s4.1 (a * b) _ q1.symm (by omega)) rfl rfl rfl rfl rfl rfl rfl rfl ft rfl rfl ?_ | refine awpHop_ret _ (hb1 s4.1 (a * b) _ q1.symm (by omega)) rfl rfl rfl rfl rfl rfl rfl rfl rfl ft rfl rfl sb rfl ?_) | (first | refine awpL_ret (hb1 s4.2.1 (a * a) _ q2.symm (by omega)) rfl rfl rfl rfl rfl rfl rfl rfl ft rfl rfl ?_ | refine awpQ_ret (hb1 s4.2.1 (a * a) _ q2.symm (by omega)) rfl rfl rfl rfl rfl rfl rfl rfl ft rfl rfl ?_ | refine awpHop_ret _ (hb1 s4.2.1 (a * a) _ q2.symm (by omega)) rfl rfl rfl rfl rfl rfl rfl rfl rfl ft rfl rfl sb rfl ?_) | (first | refine awpL_ret (hb1 s4.2.2 (b * b) _ q3.symm (by omega)) rfl rfl rfl rfl rfl rfl rfl rfl ft rfl rfl ?_ | refine awpQ_ret (hb1 s4.2.2 (b * b) _ q3.symm (by omega)) rfl rfl rfl rfl rfl rfl rfl rfl ft rfl rfl ?_ | refine awpHop_ret _ (hb1 s4.2.2 (b * b) _ q3.symm (by omega)) rfl rfl rfl rfl rfl rfl rfl rfl rfl ft rfl rfl sb rfl ?_) | (refine awp_block ?_) | (refine awp_exit ?_) | (refine awp_skip ?_) | (refine awp_ret ?_) | (refine awp_cond_t rfl ?_) | (refine awp_cond_f rfl ?_) | (refine awp_quiet TM rfl (by kernel_rfl) ?_) | ((first | refine awpL_split rfl rfl rfl (fun hc => ?_) (fun hc => ?_) | refine awpQ_split rfl rfl rfl (fun hc => ?_) (fun hc => ?_) | refine awp_cond rfl (fun hc => ?_) (fun hc => ?_)) <;> ((try simp at hc) <;> try contradiction)))) <;> try (exfalso; omega))
          all_goals first
            | (exfalso; rcases ‹_ ∨ _ ∨ _› with h | h | h <;> contradiction)
            | exact fin rfl (by repeat' (first | exact trivial | exact Nat.zero_lt_one | omega | refine ⟨?_, ?_⟩)) [] (vB false) [(1, .own 3 cx (.ints s4.1)), (2, .own 3 (a * a) (.ints s4.2.1)), (3, .own 3 (b * b) (.ints s4.2.2))] 4 ⟨rfl, rfl, _, _, _, rfl⟩ rfl ⟨trivial, ⟨rfl, rfl, rfl, trivial⟩, rfl⟩ rfl
        | some y =>
          obtain ⟨y, again⟩ := y
          obtain ⟨oy, hmo⟩ := rndP_cells o1 hta htb hlp hrr
          rw [hrr] at hrd
          have hrd2 : Does Try.prog 166 [vM a b 1 (a * b) cx, vM a a 2 (a * a) (a * a), vM b b 3 (b * b) (b * b), vI t] [(1, .own 3 cx (.ints s3.1)), (2, .own 3 (a * a) (.ints s3.2.1)), (3, .own 3 (b * b) (.ints s3.2.2))] 4 (fun v Hout n1 => v = vB (!again) ∧ Hout = [(1, .own 3 cx (.ints y.1)), (2, .own 3 (a * a) (.ints y.2.1)), (3, .own 3 (b * b) (.ints y.2.2))] ∧ n1 = 4) := hrd.mono fun v Hout n1 ⟨s4, g, hf, e1, e2, e3⟩ => by
            obtain ⟨he, -⟩ := hf.1.m
            have hg := hf.2 y again rfl
            subst he
            exact ⟨by rw [e1, hg], e2, e3⟩
          have n1 : decide (badN ∈ y.1) = false := decide_eq_false fun h => num_hasB oy.nx (hasB_mem.2 h)
          have n2 : decide (badN ∈ y.2.1) = false := decide_eq_false fun h => num_hasB oy.nu (hasB_mem.2 h)
          have n3 : decide (badN ∈ y.2.2) = false := decide_eq_false fun h => num_hasB oy.nv (hasB_mem.2 h)
          have hc1 := fun c => hb1 y.1 (a * b) c oy.x.symm (by rw [oy.x]; omega)
          have hc2 := fun c => hb1 y.2.1 (a * a) c oy.u.symm (by rw [oy.u]; omega)
          have hc3 := fun c => hb1 y.2.2 (b * b) c oy.v.symm (by rw [oy.v]; omega)
          rw [n1] at hc1
          rw [n2] at hc2
          rw [n3] at hc3
          have l1 := oy.x
          have l2 := oy.u
          have l3 := oy.v
          cases again
          · have hRs : R = some y := hRR.symm.trans (itS_done hlp hrr)
            ((repeat' (first | (refine awpL_step TT rfl rfl rfl sd ?_) | (refine awpL_nil ?_) | (refine awpL_skip rfl rfl ?_) | (refine awpQ_step TT rfl rfl rfl rfl sd ?_) | (refine awpQ_nil ?_) | (refine awpQ_skip rfl rfl ?_) | (refine awp_seq ?_) | (refine awp_region ?_) | ((refine awpL_call (hrd2) rfl rfl rfl rfl rfl rfl rfl ft rfl ?_); rintro v Hout n1 ⟨rfl, rfl, rfl⟩) | (first | refine awpL_ret (hc1 _) rfl rfl rfl rfl rfl rfl rfl rfl ft rfl rfl ?_ | refine awpQ_ret (hc1 _) rfl rfl rfl rfl rfl rfl rfl rfl ft rfl rfl ?_ | refine awpHop_ret _ (hc1 _) rfl rfl rfl rfl rfl rfl rfl rfl rfl ft rfl rfl sb rfl ?_) | (first | refine awpL_ret (hc2 _) rfl rfl rfl rfl rfl rfl rfl rfl ft rfl rfl ?_ | refine awpQ_ret (hc2 _) rfl rfl rfl rfl rfl rfl rfl rfl ft rfl rfl ?_ | refine awpHop_ret _ (hc2 _) rfl rfl rfl rfl rfl rfl rfl rfl rfl ft rfl rfl sb rfl ?_) | (first | refine awpL_ret (hc3 _) rfl rfl rfl rfl rfl rfl rfl rfl ft rfl rfl ?_ | refine awpQ_ret (hc3 _) rfl rfl rfl rfl rfl rfl rfl rfl ft rfl rfl ?_ | refine awpHop_ret _ (hc3 _) rfl rfl rfl rfl rfl rfl rfl rfl rfl ft rfl rfl sb rfl ?_) | (refine awp_block ?_) | (refine awp_exit ?_) | (refine awp_skip ?_) | (refine awp_ret ?_) | (refine awp_cond_t rfl ?_) | (refine awp_cond_f rfl ?_) | (refine awp_quiet TM rfl (by kernel_rfl) ?_) | ((first | refine awpL_split rfl rfl rfl (fun hc => ?_) (fun hc => ?_) | refine awpQ_split rfl rfl rfl (fun hc => ?_) (fun hc => ?_) | refine awp_cond rfl (fun hc => ?_) (fun hc => ?_)) <;> ((try simp at hc) <;> try contradiction)))) <;> try (exfalso; omega))
            all_goals exact ⟨[], (y, true), ⟨oy, .inr ⟨rfl, hRs⟩⟩, by simp, ⟨(by repeat' (first | exact trivial | refine ⟨rfl, ?_⟩ | refine ⟨congrArg some (congrArg vI (by first | omega | (simp; done) | (simp; omega))), ?_⟩ | refine ⟨sl_eqA (by first | omega | (simp; done) | (simp; omega)), ?_⟩)), (by repeat' (first | exact trivial | refine ⟨rfl, ?_⟩)), rfl⟩⟩
          · obtain ⟨⟨p', hp'⟩, hmu⟩ := hmo rfl
            obtain ⟨e1, -, -, -⟩ := itS_more o1 hta htb hlp hrr
            ((repeat' (first | (refine awpL_step TT rfl rfl rfl sd ?_) | (refine awpL_nil ?_) | (refine awpL_skip rfl rfl ?_) | (refine awpQ_step TT rfl rfl rfl rfl sd ?_) | (refine awpQ_nil ?_) | (refine awpQ_skip rfl rfl ?_) | (refine awp_seq ?_) | (refine awp_region ?_) | ((refine awpL_call (hrd2) rfl rfl rfl rfl rfl rfl rfl ft rfl ?_); rintro v Hout n1 ⟨rfl, rfl, rfl⟩) | (first | refine awpL_ret (hc1 _) rfl rfl rfl rfl rfl rfl rfl rfl ft rfl rfl ?_ | refine awpQ_ret (hc1 _) rfl rfl rfl rfl rfl rfl rfl rfl ft rfl rfl ?_ | refine awpHop_ret _ (hc1 _) rfl rfl rfl rfl rfl rfl rfl rfl rfl ft rfl rfl sb rfl ?_) | (first | refine awpL_ret (hc2 _) rfl rfl rfl rfl rfl rfl rfl rfl ft rfl rfl ?_ | refine awpQ_ret (hc2 _) rfl rfl rfl rfl rfl rfl rfl rfl ft rfl rfl ?_ | refine awpHop_ret _ (hc2 _) rfl rfl rfl rfl rfl rfl rfl rfl rfl ft rfl rfl sb rfl ?_) | (first | refine awpL_ret (hc3 _) rfl rfl rfl rfl rfl rfl rfl rfl ft rfl rfl ?_ | refine awpQ_ret (hc3 _) rfl rfl rfl rfl rfl rfl rfl rfl ft rfl rfl ?_ | refine awpHop_ret _ (hc3 _) rfl rfl rfl rfl rfl rfl rfl rfl rfl ft rfl rfl sb rfl ?_) | (refine awp_block ?_) | (refine awp_exit ?_) | (refine awp_skip ?_) | (refine awp_ret ?_) | (refine awp_cond_t rfl ?_) | (refine awp_cond_f rfl ?_) | (refine awp_quiet TM rfl (by kernel_rfl) ?_) | ((first | refine awpL_split rfl rfl rfl (fun hc => ?_) (fun hc => ?_) | refine awpQ_split rfl rfl rfl (fun hc => ?_) (fun hc => ?_) | refine awp_cond rfl (fun hc => ?_) (fun hc => ?_)) <;> ((try simp at hc) <;> try contradiction)))) <;> try (exfalso; omega))
            all_goals exact ⟨[], (y, false), ⟨oy, .inl ⟨rfl, e1.symm.trans hRR, fun h => by rw [hp'] at h; cases h⟩⟩, by (dsimp only; simpa using hmu), ⟨(by repeat' (first | exact trivial | refine ⟨rfl, ?_⟩ | refine ⟨congrArg some (congrArg vI (by first | omega | (simp; done) | (simp; omega))), ?_⟩ | refine ⟨sl_eqA (by first | omega | (simp; done) | (simp; omega)), ?_⟩)), (by repeat' (first | exact trivial | refine ⟨rfl, ?_⟩)), rfl⟩⟩
    · have hNx := hRgood s hRs
      have hd := d_cellH a b t t (a * b) cx s.1 k1.symm k1 ha hb hta htb
      have w1 : s.1[t * b + t]?.getD 0 = s.1.getD (t * b + t) 0 := by simp
      by_cases hng : s.1.getD (t * b + t) 0 < 0
      · have hne := d_opsNeg a b t (a * b) cx s.1 s.2.1 k1.symm o1.row ha hb hta
        have hg : ng3 a b t s = (negX s.1 b t, negX s.2.1 a t, s.2.2) := if_pos hng
        rw [hg] at hNx
        ((repeat' (first | (refine awpL_step TT rfl rfl rfl sd ?_) | (refine awpL_nil ?_) | (refine awpL_skip rfl rfl ?_) | (refine awpQ_step TT rfl rfl rfl rfl sd ?_) | (refine awpQ_nil ?_) | (refine awpQ_skip rfl rfl ?_) | (refine awp_seq ?_) | (refine awp_region ?_) | (first | refine awpL_ret (hd) rfl rfl rfl rfl rfl rfl rfl rfl ft rfl rfl ?_ | refine awpQ_ret (hd) rfl rfl rfl rfl rfl rfl rfl rfl ft rfl rfl ?_ | refine awpHop_ret _ (hd) rfl rfl rfl rfl rfl rfl rfl rfl rfl ft rfl rfl sb rfl ?_) | ((refine awpL_call (hne) rfl rfl rfl rfl rfl rfl rfl ft rfl ?_); rintro v Hout n1 ⟨rfl, rfl, rfl⟩) | (refine awp_block ?_) | (refine awp_exit ?_) | (refine awp_skip ?_) | (refine awp_ret ?_) | (refine awp_cond_t rfl ?_) | (refine awp_cond_f rfl ?_) | (refine awp_quiet TM rfl (by kernel_rfl) ?_) | ((first | refine awpL_split rfl rfl rfl (fun hc => ?_) (fun hc => ?_) | refine awpQ_split rfl rfl rfl (fun hc => ?_) (fun hc => ?_) | refine awp_cond rfl (fun hc => ?_) (fun hc => ?_)) <;> ((try simp at hc) <;> try contradiction)))) <;> try (exfalso; omega))
        all_goals exact ⟨[], (t + 1, (negX s.1 b t, negX s.2.1 a t, s.2.2)), ⟨by dsimp only; omega, hNx⟩, (by first | omega | (dsimp only; omega)), ⟨(by repeat' (first | exact trivial | refine ⟨rfl, ?_⟩ | refine ⟨congrArg some (congrArg vI (by first | omega | (simp; done) | (simp; omega))), ?_⟩ | refine ⟨sl_eqA (by first | omega | (simp; done) | (simp; omega)), ?_⟩)), (by repeat' (first | exact trivial | refine ⟨rfl, ?_⟩)), rfl⟩⟩
      · have hg : ng3 a b t s = s := if_neg hng
        rw [hg] at hNx
        ((repeat' (first | (refine awpL_step TT rfl rfl rfl sd ?_) | (refine awpL_nil ?_) | (refine awpL_skip rfl rfl ?_) | (refine awpQ_step TT rfl rfl rfl rfl sd ?_) | (refine awpQ_nil ?_) | (refine awpQ_skip rfl rfl ?_) | (refine awp_seq ?_) | (refine awp_region ?_) | (first | refine awpL_ret (hd) rfl rfl rfl rfl rfl rfl rfl rfl ft rfl rfl ?_ | refine awpQ_ret (hd) rfl rfl rfl rfl rfl rfl rfl rfl ft rfl rfl ?_ | refine awpHop_ret _ (hd) rfl rfl rfl rfl rfl rfl rfl rfl rfl ft rfl rfl sb rfl ?_) | (refine awp_block ?_) | (refine awp_exit ?_) | (refine awp_skip ?_) | (refine awp_ret ?_) | (refine awp_cond_t rfl ?_) | (refine awp_cond_f rfl ?_) | (refine awp_quiet TM rfl (by kernel_rfl) ?_) | ((first | refine awpL_split rfl rfl rfl (fun hc => ?_) (fun hc => ?_) | refine awpQ_split rfl rfl rfl (fun hc => ?_) (fun hc => ?_) | refine awp_cond rfl (fun hc => ?_) (fun hc => ?_)) <;> ((try simp at hc) <;> try contradiction)))) <;> try (exfalso; omega))
        all_goals exact ⟨[], (t + 1, s), ⟨by dsimp only; omega, hNx⟩, (by first | omega | (dsimp only; omega)), ⟨(by repeat' (first | exact trivial | refine ⟨rfl, ?_⟩ | refine ⟨congrArg some (congrArg vI (by first | omega | (simp; done) | (simp; omega))), ?_⟩ | refine ⟨sl_eqA (by first | omega | (simp; done) | (simp; omega)), ?_⟩)), (by repeat' (first | exact trivial | refine ⟨rfl, ?_⟩)), rfl⟩⟩
  · have htm : t = min a b := by omega
    have hkn : ¬ ((t : Int) < if b < a then (b : Int) else (a : Int)) := by split <;> omega
    rw [← htm, hTT]
    ((repeat' (first | (refine awpL_step TT rfl rfl rfl sd ?_) | (refine awpL_nil ?_) | (refine awpL_skip rfl rfl ?_) | (refine awpQ_step TT rfl rfl rfl rfl sd ?_) | (refine awpQ_nil ?_) | (refine awpQ_skip rfl rfl ?_) | (refine awp_seq ?_) | (refine awp_region ?_) | (refine awp_block ?_) | (refine awp_exit ?_) | (refine awp_skip ?_) | (refine awp_ret ?_) | (refine awp_cond_t rfl ?_) | (refine awp_cond_f rfl ?_) | (refine awp_quiet TM rfl (by kernel_rfl) ?_) | ((first | refine awpL_split rfl rfl rfl (fun hc => ?_) (fun hc => ?_) | refine awpQ_split rfl rfl rfl (fun hc => ?_) (fun hc => ?_) | refine awp_cond rfl (fun hc => ?_) (fun hc => ?_)) <;> ((try simp at hc) <;> try contradiction)))) <;> try (exfalso; omega))
    all_goals exact fin rfl (by repeat' (first | exact trivial | exact Nat.zero_lt_one | omega | refine ⟨?_, ?_⟩)) [] (vB true) [(1, .own 3 cx (.ints s.1)), (2, .own 3 (a * a) (.ints s.2.1)), (3, .own 3 (b * b) (.ints s.2.2))] 4 ⟨rfl, rfl, rfl⟩ rfl ⟨trivial, ⟨rfl, rfl, rfl, trivial⟩, rfl⟩ rfl
set_option maxRecDepth 100000 in
set_option maxHeartbeats 4000000 in
theorem d_smithS (r c : Int) (xs : List Int) (ca : Nat) (hl : xs.length ≤ 1099511627776) : Does Try.prog 117 [vM r c 1 xs.length ca] [(1, .ro (.ints xs))] 2 (SmR 3 r c (smO r c xs)) := by
  refine Does.intro TT Try.func117 rfl (by kernel_rfl) rfl rfl fun E hE => ?_
  cases hm : isM r c xs
  · have hR : smO r c xs = none := by simp [smO, hm]
    rw [hR]
    ((repeat' (first | (refine awpL_step TT rfl rfl rfl sd ?_) | (refine awpL_nil ?_) | (refine awpL_skip rfl rfl ?_) | (refine awpQ_step TT rfl rfl rfl rfl sd ?_) | (refine awpQ_nil ?_) | (refine awpQ_skip rfl rfl ?_) | (refine awp_seq ?_) | (refine awp_region ?_) | ((first | refine awpL_ret (d_isMatS _ _ _ _ hl) rfl rfl rfl rfl rfl rfl rfl rfl ft rfl rfl ?_ | refine awpQ_ret (d_isMatS _ _ _ _ hl) rfl rfl rfl rfl rfl rfl rfl rfl ft rfl rfl ?_ | refine awpHop_ret _ (d_isMatS _ _ _ _ hl) rfl rfl rfl rfl rfl rfl rfl rfl rfl ft rfl rfl sb rfl ?_) <;> simp only [hm]) | (refine awp_block ?_) | (refine awp_exit ?_) | (refine awp_skip ?_) | (refine awp_ret ?_) | (refine awp_cond_t rfl ?_) | (refine awp_cond_f rfl ?_) | (refine awp_quiet TM rfl (by kernel_rfl) ?_) | ((first | refine awpL_split rfl rfl rfl (fun hc => ?_) (fun hc => ?_) | refine awpQ_split rfl rfl rfl (fun hc => ?_) (fun hc => ?_) | refine awp_cond rfl (fun hc => ?_) (fun hc => ?_)) <;> ((try simp at hc) <;> try contradiction)))) <;> try (exfalso; omega))
    all_goals exact fin rfl (by repeat' (first | exact trivial | exact Nat.zero_lt_one | omega | refine ⟨?_, ?_⟩)) [] (.tup [.agg zeroM, .agg zeroM, .agg zeroM, .one (.bool false)]) [] 2 ⟨rfl, rfl, rfl⟩ rfl ⟨trivial, trivial, rfl⟩ rfl
  · obtain ⟨a, b, rfl, rfl, ha, hb, hx, hnum⟩ := isM_dimsH hm
    have hR : smO a b xs = sTo a b (xs, idTo a a, idTo b b) (min a b) := by simp [smO, hm]
    rw [hR]
    have o0 : OK3 a b (xs, idTo a a, idTo b b) := ⟨hx, idTo_len, idTo_len, hnum, id_num, id_num⟩
    have h1 := d_identSN a ha
    have h2 := d_identSN b hb
    have hh := fun cx => d_l13S a b cx (xs, idTo a a, idTo b b) o0 ha hb
    rw [← hx] at hh
    cases hT : sTo a b (xs, idTo a a, idTo b b) (min a b) with
    | none =>
      rw [hT] at hh
      ((repeat' (first | (refine awpL_step TT rfl rfl rfl sd ?_) | (refine awpL_nil ?_) | (refine awpL_skip rfl rfl ?_) | (refine awpQ_step TT rfl rfl rfl rfl sd ?_) | (refine awpQ_nil ?_) | (refine awpQ_skip rfl rfl ?_) | (refine awp_seq ?_) | (refine awp_region ?_) | ((first | refine awpL_ret (d_isMatS _ _ _ _ hl) rfl rfl rfl rfl rfl rfl rfl rfl ft rfl rfl ?_ | refine awpQ_ret (d_isMatS _ _ _ _ hl) rfl rfl rfl rfl rfl rfl rfl rfl ft rfl rfl ?_ | refine awpHop_ret _ (d_isMatS _ _ _ _ hl) rfl rfl rfl rfl rfl rfl rfl rfl rfl ft rfl rfl sb rfl ?_) <;> simp only [hm]) | ((first | refine awpL_one (d_copyS _ _ xs _ hl) rfl rfl rfl rfl rfl rfl rfl ft rfl rfl (CopyM.out) ?_ | refine awpHop_one _ (d_copyS _ _ xs _ hl) rfl rfl rfl rfl rfl rfl rfl rfl ft rfl rfl (CopyM.out) sb rfl rfl ?_); rintro v b ⟨c1, hc1, rfl, he, -⟩; cases he) | ((refine awpL_call (h1) rfl rfl rfl rfl rfl rfl rfl ft rfl ?_); rintro v Hout n1 ⟨rfl, rfl, rfl⟩) | ((refine awpL_call (h2) rfl rfl rfl rfl rfl rfl rfl ft rfl ?_); rintro v Hout n1 ⟨rfl, rfl, rfl⟩) | ((refine awpL_call (hh _) rfl rfl rfl rfl rfl rfl rfl ft rfl ?_); rintro v Hout n1 ⟨rfl, rfl, xs, ys, zs, rfl⟩) | (refine awp_block ?_) | (refine awp_exit ?_) | (refine awp_skip ?_) | (refine awp_ret ?_) | (refine awp_cond_t rfl ?_) | (refine awp_cond_f rfl ?_) | (refine awp_quiet TM rfl (by kernel_rfl) ?_) | ((first | refine awpL_split rfl rfl rfl (fun hc => ?_) (fun hc => ?_) | refine awpQ_split rfl rfl rfl (fun hc => ?_) (fun hc => ?_) | refine awp_cond rfl (fun hc => ?_) (fun hc => ?_)) <;> ((try simp at hc) <;> try contradiction)))) <;> try (exfalso; omega))
      all_goals exact fin rfl (by repeat' (first | exact trivial | exact Nat.zero_lt_one | omega | refine ⟨?_, ?_⟩)) [] (.tup [.agg zeroM, .agg zeroM, .agg zeroM, .one (.bool false)]) [] 2 ⟨rfl, rfl, rfl⟩ rfl ⟨trivial, trivial, rfl⟩ rfl
    | some s =>
      rw [hT] at hh
      have o1 := sTo_ok o0 (Nat.le_refl _) hT
      have l1 : s.1.length = xs.length := o1.x.trans hx.symm
      have l2 := o1.u
      have l3 := o1.v
      ((repeat' (first | (refine awpL_step TT rfl rfl rfl sd ?_) | (refine awpL_nil ?_) | (refine awpL_skip rfl rfl ?_) | (refine awpQ_step TT rfl rfl rfl rfl sd ?_) | (refine awpQ_nil ?_) | (refine awpQ_skip rfl rfl ?_) | (refine awp_seq ?_) | (refine awp_region ?_) | ((first | refine awpL_ret (d_isMatS _ _ _ _ hl) rfl rfl rfl rfl rfl rfl rfl rfl ft rfl rfl ?_ | refine awpQ_ret (d_isMatS _ _ _ _ hl) rfl rfl rfl rfl rfl rfl rfl rfl ft rfl rfl ?_ | refine awpHop_ret _ (d_isMatS _ _ _ _ hl) rfl rfl rfl rfl rfl rfl rfl rfl rfl ft rfl rfl sb rfl ?_) <;> simp only [hm]) | ((first | refine awpL_one (d_copyS _ _ xs _ hl) rfl rfl rfl rfl rfl rfl rfl ft rfl rfl (CopyM.out) ?_ | refine awpHop_one _ (d_copyS _ _ xs _ hl) rfl rfl rfl rfl rfl rfl rfl rfl ft rfl rfl (CopyM.out) sb rfl rfl ?_); rintro v b ⟨c1, hc1, rfl, he, -⟩; cases he) | ((refine awpL_call (h1) rfl rfl rfl rfl rfl rfl rfl ft rfl ?_); rintro v Hout n1 ⟨rfl, rfl, rfl⟩) | ((refine awpL_call (h2) rfl rfl rfl rfl rfl rfl rfl ft rfl ?_); rintro v Hout n1 ⟨rfl, rfl, rfl⟩) | ((refine awpL_call (hh _) rfl rfl rfl rfl rfl rfl rfl ft rfl ?_); rintro v Hout n1 ⟨rfl, rfl, rfl⟩) | (refine awp_block ?_) | (refine awp_exit ?_) | (refine awp_skip ?_) | (refine awp_ret ?_) | (refine awp_cond_t rfl ?_) | (refine awp_cond_f rfl ?_) | (refine awp_quiet TM rfl (by kernel_rfl) ?_) | ((first | refine awpL_split rfl rfl rfl (fun hc => ?_) (fun hc => ?_) | refine awpQ_split rfl rfl rfl (fun hc => ?_) (fun hc => ?_) | refine awp_cond rfl (fun hc => ?_) (fun hc => ?_)) <;> ((try simp at hc) <;> try contradiction)))) <;> try (exfalso; omega))
      refine awp_held TM [(7, _), (9, _), (11, _)] sb rfl (fun ρs => ?_)
      refine awpH_take TT 0 rfl kr kr kr nh rfl rfl rfl rfl sd ?_
      refine awpH_take TT 1 rfl kr kr kr nh rfl rfl rfl rfl sd ?_
      refine awpH_take TT 2 rfl kr kr kr nh rfl rfl rfl rfl sd ?_
      refine awpH_all [3] kr rfl ⟨?_, trivial⟩
      first | (refine awpHop_step TT 3 rfl rfl rfl rfl sd sb rfl ?_)
      refine awpH_all [4] kr rfl ⟨?_, trivial⟩
      first | (refine awpHop_step TT 4 rfl rfl rfl rfl sd sb rfl ?_)
      refine awpH_all [5] kr rfl ⟨?_, trivial⟩
      first | (refine awpHop_step TT 5 rfl rfl rfl rfl sd sb rfl ?_)
      refine awpH_take TT 6 rfl kr kr kr nh rfl rfl rfl rfl sd ?_
      refine awpH_done kr ?_
      rotate_left
      ((repeat' (first | (refine awpL_step TT rfl rfl rfl sd ?_) | (refine awpL_nil ?_) | (refine awpL_skip rfl rfl ?_) | (refine awpQ_step TT rfl rfl rfl rfl sd ?_) | (refine awpQ_nil ?_) | (refine awpQ_skip rfl rfl ?_) | (refine awp_seq ?_) | (refine awp_region ?_) | (refine awp_block ?_) | (refine awp_exit ?_) | (refine awp_skip ?_) | (refine awp_ret ?_) | (refine awp_cond_t rfl ?_) | (refine awp_cond_f rfl ?_) | (refine awp_quiet TM rfl (by kernel_rfl) ?_) | ((first | refine awpL_split rfl rfl rfl (fun hc => ?_) (fun hc => ?_) | refine awpQ_split rfl rfl rfl (fun hc => ?_) (fun hc => ?_) | refine awp_cond rfl (fun hc => ?_) (fun hc => ?_)) <;> ((try simp at hc) <;> try contradiction)))) <;> try (exfalso; omega))
      all_goals exact fin rfl (by repeat' (first | exact trivial | exact Nat.zero_lt_one | omega | refine ⟨?_, ?_⟩)) [(2, 6), (3, 8), (4, 10)] (.tup [.agg [.int a, .int b, .sl 2 1 0 xs.length c1], .agg [.int a, .int a, .sl 3 1 0 (a * a) (a * a)], .agg [.int b, .int b, .sl 4 1 0 (b * b) (b * b)], .one (.bool true)]) [(2, .own 3 c1 (.ints s.1)), (3, .own 3 (a * a) (.ints s.2.1)), (4, .own 3 (b * b) (.ints s.2.2))] 5 ⟨c1, a * a, b * b, by rw [l1]; exact hc1, by rw [l1, l2, l3], rfl, rfl⟩ rfl ⟨trivial, ⟨rfl, rfl, rfl, trivial⟩, rfl⟩ rfl
end Go.Proofs.Ytmkoifmokdmebaa
