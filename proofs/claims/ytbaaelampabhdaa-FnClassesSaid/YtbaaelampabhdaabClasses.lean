/-
  THE LAW FnClasses, walked on described states.
-/
import Derived.Test.YtbaaelampabhdaabForm2
import Derived.Test.YtbaaelampabhdaabFormsLaw
set_option linter.unusedVariables false
set_option linter.unusedSimpArgs false
namespace Go.Proofs.Ytbaaelampabhdaa
open Go.RowKit

theorem okC_facts {f g : F3} (h : okC f g = true) : ∃ d, OkF d f ∧ OkF d g := by
  simp only [okC, Bool.and_eq_true, decide_eq_true_eq] at h
  obtain ⟨⟨⟨h1, h2⟩, h3⟩, h4⟩ := h
  exact ⟨_, ⟨h1, rfl, h4⟩, ⟨h2, h3.symm, h4⟩⟩
theorem OkF.comp_cls {d : Int} {f g : F3} (hf : OkF d f) (hg : OkF d g) : Comp f g (compG f g) ∧ Cls d (compG f g) := by
  obtain ⟨f1, f2, f3, f4⟩ := hf.facts
  obtain ⟨g1, g2, g3, g4⟩ := hg.facts
  rw [hf.comp hg]
  have := compR_ok f3 g3 f2 g2 (by rw [f4, g4])
  rw [f4] at this; exact this
theorem assoc_G {d : Int} {f g h : F3} (hf : OkF d f) (hg : OkF d g) (hh : OkF d h) : compG (compG f g) h = compG f (compG g h) := by
  obtain ⟨f1, f2, f3, f4⟩ := hf.facts
  obtain ⟨g1, g2, g3, g4⟩ := hg.facts
  obtain ⟨h1, h2, h3, h4⟩ := hh.facts
  obtain ⟨c1, k1⟩ := hf.comp_cls hg
  obtain ⟨c2, k2⟩ := (OkF.of_cls k1 hf.dB).comp_cls hh
  obtain ⟨c3, k3⟩ := hg.comp_cls hh
  obtain ⟨c4, k4⟩ := hf.comp_cls (OkF.of_cls k3 hf.dB)
  exact k2.one k4 (Comp.assoc f3 g3 h3 f2 g2 h2 c1 c2 c3 c4)
theorem compV_eq {f g Y : F3} {b : Bool} (h1 : compG f g = Y) (h2 : okC f g = b) : compV f g = .tup [.agg (litF Y), .one (.bool b)] := by simp [compV, h1, h2]
theorem OkF.conj {d : Int} {f : F3} (h : OkF d f) : OkF d (conjF f) := by
  obtain ⟨h1, h2, h3, h4⟩ := h.facts
  have e1 : isFormB f.1 (-f.2.1) f.2.2 = true := by
    obtain ⟨a1, a2, a3, a4, a5, a6, a7⟩ := isFormB_true.1 h1
    exact isFormB_true.2 ⟨a1, a2, a3, a4, by omega, by omega, by rw [Int.neg_mul_neg]; exact a7⟩
  refine ⟨?_, ?_, h.dB⟩
  · have := Prim_gcd.1 (Prim.conj h2)
    rw [Int.gcd_neg] at this
    simp [conjF, primB, e1, this]
  · simp only [conjF, discV, e1, if_true, Int.neg_mul_neg]
    have := h4
    simp only [discF] at this; exact this
theorem comp_conj {d : Int} {f : F3} (h : OkF d f) : compG f (conjF f) = princF d := by
  obtain ⟨h1, h2, h3, h4⟩ := h.facts
  obtain ⟨b, c, ci⟩ := Comp.inv_ex h3 h2
  have hp := cls_princ h.dB
  rw [h.comp h.conj]
  have e : Eqv (1, b, c) (princF d) := princ_one (p' := (princF d).2.1) (q' := (princF d).2.2) (by rw [← ci.disc.2, h4]; exact hp.disc.symm)
  exact compR_eq h3.conj h2.conj (ci.congr (Eqv.refl _) (Eqv.refl _) e) hp.low hp.pos
theorem comp_princ {d : Int} {f G : F3} (h : OkF d f) (e : Eqv f G) (hG : Cls d G) : compG f (princF d) = G := by
  obtain ⟨h1, h2, h3, h4⟩ := h.facts
  have hp := cls_princ h.dB
  rw [h.comp (OkF.of_cls hp h.dB)]
  have c := Comp.id_ex (a := f.1) (b := f.2.1) (c := f.2.2) (p := (princF d).2.1) (q := (princF d).2.2) h3.1 (hp.disc.trans h4.symm)
  exact compR_eq hp.pos hp.prim (c.congr (Eqv.refl _) (Eqv.refl _) e) hG.low hG.pos
theorem comp_comm {d : Int} {f g : F3} (h : OkF d f) (h' : OkF d g) : compG g f = compG f g := by
  obtain ⟨c1, k1⟩ := h.comp_cls h'
  obtain ⟨f1, f2, f3, f4⟩ := h.facts
  rw [h'.comp h]
  exact compR_eq f3 f2 c1.comm k1.low k1.pos
theorem found_step {L : List F3} {X : F3} {i : Nat} (hi : i < L.length) : decide (X ∈ L.take (i + 1)) = (decide (X ∈ L.take i) || decide (L[i] = X)) := by
  rw [Bool.eq_iff_iff, List.take_succ_eq_append_getElem hi]
  simp only [decide_eq_true_eq, Bool.or_eq_true, List.mem_append, List.mem_singleton]
  constructor
  · rintro (h | h)
    · exact .inl h
    · exact .inr h.symm
  · rintro (h | h)
    · exact .inl h
    · exact .inr h.symm
theorem eq3_dec {x y : F3} : decide ([x.1, x.2.1, x.2.2] = [y.1, y.2.1, y.2.2]) = decide (x = y) := by
  obtain ⟨a, b, c⟩ := x
  obtain ⟨p, q, r⟩ := y
  simp
theorem get3_at {L : List F3} {i : Nat} (hi : i < L.length) : L.getD (0 + (i : Int).toNat) (0, 0, 0) = L[i] := by simp [hi]
set_option maxHeartbeats 4000000 in
theorem d_lawClasses (bs : List Int) (c : Nat) : Does Try.prog 15 [vS 1 1 0 bs.length c] [(1, .ro (.bytes bs))] 2 (Ret (vB true) 2) := by
  refine Does.intro TT Try.func15 rfl (by kernel_rfl) rfl rfl fun E hE => ?_
  by_cases hb : (1048576 : Int) < bs.length
  · ((repeat' (first | (refine awpL_step TT rfl rfl rfl (by first | exact trivial | exact Nat.zero_lt_one | omega | (unfold InR; omega) | (show _ < List.length _; omega) | ((repeat' refine ⟨?_, ?_⟩) <;> first | omega | exact Nat.zero_lt_one | (unfold InR; omega) | (show _ < List.length _; omega) | (show _ = List.length _; omega) | (simp [Elts.len]; done) | (simp [Elts.len]; omega)) | (simp [Elts.len]; done) | (simp [Elts.len]; omega)) ?_) | (refine awpL_nil ?_) | (refine awpL_skip rfl rfl ?_) | (refine awpQ_step TT rfl rfl rfl rfl (by first | exact trivial | exact Nat.zero_lt_one | omega | (unfold InR; omega) | (show _ < List.length _; omega) | ((repeat' refine ⟨?_, ?_⟩) <;> first | omega | exact Nat.zero_lt_one | (unfold InR; omega) | (show _ < List.length _; omega) | (show _ = List.length _; omega) | (simp [Elts.len]; done) | (simp [Elts.len]; omega)) | (simp [Elts.len]; done) | (simp [Elts.len]; omega)) ?_) | (refine awpQ_nil ?_) | (refine awpQ_skip rfl rfl ?_) | (refine awp_seq ?_) | (refine awp_region ?_) | ((first | refine awpL_ret (d_big _ _) rfl rfl rfl rfl rfl rfl rfl rfl (by repeat' (first | exact trivial | refine ⟨.inl rfl, ?_⟩ | refine ⟨.inr ⟨rfl, rfl⟩, ?_⟩)) rfl rfl ?_ | refine awpQ_ret (d_big _ _) rfl rfl rfl rfl rfl rfl rfl rfl (by repeat' (first | exact trivial | refine ⟨.inl rfl, ?_⟩ | refine ⟨.inr ⟨rfl, rfl⟩, ?_⟩)) rfl rfl ?_ | refine awpHop_ret _ (d_big _ _) rfl rfl rfl rfl rfl rfl rfl rfl rfl (by repeat' (first | exact trivial | refine ⟨.inl rfl, ?_⟩ | refine ⟨.inr ⟨rfl, rfl⟩, ?_⟩)) rfl rfl (by repeat' (first | exact trivial | refine ⟨rfl, ?_⟩)) rfl ?_) <;> simp only [hb]) | (refine awp_block ?_) | (refine awp_exit ?_) | (refine awp_skip ?_) | (refine awp_ret ?_) | (refine awp_cond_t rfl ?_) | (refine awp_cond_f rfl ?_) | (refine awp_quiet TM rfl (by kernel_rfl) ?_) | ((first | refine awpL_split rfl rfl rfl (fun hc => ?_) (fun hc => ?_) | refine awpQ_split rfl rfl rfl (fun hc => ?_) (fun hc => ?_) | refine awp_cond rfl (fun hc => ?_) (fun hc => ?_)) <;> ((try simp at hc) <;> try contradiction)))) <;> try (exfalso; omega))
    all_goals refine fin_ret rfl (by repeat' (first | exact trivial | exact Nat.zero_lt_one | omega | refine ⟨?_, ?_⟩)) (rfl) rfl
  · have hl : bs.length ≤ 1048576 := by omega
    ((repeat' (first | (refine awpL_step TT rfl rfl rfl (by first | exact trivial | exact Nat.zero_lt_one | omega | (unfold InR; omega) | (show _ < List.length _; omega) | ((repeat' refine ⟨?_, ?_⟩) <;> first | omega | exact Nat.zero_lt_one | (unfold InR; omega) | (show _ < List.length _; omega) | (show _ = List.length _; omega) | (simp [Elts.len]; done) | (simp [Elts.len]; omega)) | (simp [Elts.len]; done) | (simp [Elts.len]; omega)) ?_) | (refine awpL_nil ?_) | (refine awpL_skip rfl rfl ?_) | (refine awpQ_step TT rfl rfl rfl rfl (by first | exact trivial | exact Nat.zero_lt_one | omega | (unfold InR; omega) | (show _ < List.length _; omega) | ((repeat' refine ⟨?_, ?_⟩) <;> first | omega | exact Nat.zero_lt_one | (unfold InR; omega) | (show _ < List.length _; omega) | (show _ = List.length _; omega) | (simp [Elts.len]; done) | (simp [Elts.len]; omega)) | (simp [Elts.len]; done) | (simp [Elts.len]; omega)) ?_) | (refine awpQ_nil ?_) | (refine awpQ_skip rfl rfl ?_) | (refine awp_seq ?_) | (refine awp_region ?_) | ((first | refine awpL_ret (d_big _ _) rfl rfl rfl rfl rfl rfl rfl rfl (by repeat' (first | exact trivial | refine ⟨.inl rfl, ?_⟩ | refine ⟨.inr ⟨rfl, rfl⟩, ?_⟩)) rfl rfl ?_ | refine awpQ_ret (d_big _ _) rfl rfl rfl rfl rfl rfl rfl rfl (by repeat' (first | exact trivial | refine ⟨.inl rfl, ?_⟩ | refine ⟨.inr ⟨rfl, rfl⟩, ?_⟩)) rfl rfl ?_ | refine awpHop_ret _ (d_big _ _) rfl rfl rfl rfl rfl rfl rfl rfl rfl (by repeat' (first | exact trivial | refine ⟨.inl rfl, ?_⟩ | refine ⟨.inr ⟨rfl, rfl⟩, ?_⟩)) rfl rfl (by repeat' (first | exact trivial | refine ⟨rfl, ?_⟩)) rfl ?_) <;> simp only [hb]) | ((refine awpL_call (d_drawComp bs c hl) rfl rfl rfl rfl rfl rfl rfl (by repeat' (first | exact trivial | refine ⟨.inl rfl, ?_⟩ | refine ⟨.inr ⟨rfl, rfl⟩, ?_⟩)) rfl ?_)) | (refine awp_block ?_) | (refine awp_exit ?_) | (refine awp_skip ?_) | (refine awp_ret ?_) | (refine awp_cond_t rfl ?_) | (refine awp_cond_f rfl ?_) | (refine awp_quiet TM rfl (by kernel_rfl) ?_) | ((first | refine awpL_split rfl rfl rfl (fun hc => ?_) (fun hc => ?_) | refine awpQ_split rfl rfl rfl (fun hc => ?_) (fun hc => ?_) | refine awp_cond rfl (fun hc => ?_) (fun hc => ?_)) <;> ((try simp at hc) <;> try contradiction)))) <;> try (exfalso; omega))
    rintro v Hout n1 ⟨f, g, rfl, rfl, rfl⟩
    obtain ⟨D, hD⟩ : ∃ D, discV f.1 f.2.1 f.2.2 = D := ⟨_, rfl⟩
    obtain ⟨N, hN, hu⟩ := upto_any D
    have hlen : (if discB D then allF D N else []).length ≤ 1000 := by
      have := allF_len (d := D) (i := N) (by omega)
      split
      · omega
      · simp
    have hf := d_formsI D N hN hu
    have kc := d_discOfI f.1 f.2.1 f.2.2
    rw [hD] at kc
    have kp := d_princI D
    have kI := fun x y : F3 => d_compI x.1 x.2.1 x.2.2 y.1 y.2.1 y.2.2
    have k1 : Does _ _ _ _ _ (Ret (compV f g) 1) := kI f g
    have k2 : Does _ _ _ _ _ (Ret (compV f g) 1) := d_compS f.1 f.2.1 f.2.2 g.1 g.2.1 g.2.2
    cases ho : okC f g
    · rw [compV_eq (by simp [compG, ho] : compG f g = (0, 0, 0)) ho] at k1 k2
      generalize (if discB D then allF D N else []) = L at *
      ((repeat' (first | (refine awpL_step TT rfl rfl rfl (by first | exact trivial | exact Nat.zero_lt_one | omega | (unfold InR; omega) | (show _ < List.length _; omega) | ((repeat' refine ⟨?_, ?_⟩) <;> first | omega | exact Nat.zero_lt_one | (unfold InR; omega) | (show _ < List.length _; omega) | (show _ = List.length _; omega) | (simp [Elts.len]; done) | (simp [Elts.len]; omega)) | (simp [Elts.len]; done) | (simp [Elts.len]; omega)) ?_) | (refine awpL_nil ?_) | (refine awpL_skip rfl rfl ?_) | (refine awpQ_step TT rfl rfl rfl rfl (by first | exact trivial | exact Nat.zero_lt_one | omega | (unfold InR; omega) | (show _ < List.length _; omega) | ((repeat' refine ⟨?_, ?_⟩) <;> first | omega | exact Nat.zero_lt_one | (unfold InR; omega) | (show _ < List.length _; omega) | (show _ = List.length _; omega) | (simp [Elts.len]; done) | (simp [Elts.len]; omega)) | (simp [Elts.len]; done) | (simp [Elts.len]; omega)) ?_) | (refine awpQ_nil ?_) | (refine awpQ_skip rfl rfl ?_) | (refine awp_seq ?_) | (refine awp_region ?_) | (first | refine awpL_ret (kc) rfl rfl rfl rfl rfl rfl rfl rfl (by repeat' (first | exact trivial | refine ⟨.inl rfl, ?_⟩ | refine ⟨.inr ⟨rfl, rfl⟩, ?_⟩)) rfl rfl ?_ | refine awpQ_ret (kc) rfl rfl rfl rfl rfl rfl rfl rfl (by repeat' (first | exact trivial | refine ⟨.inl rfl, ?_⟩ | refine ⟨.inr ⟨rfl, rfl⟩, ?_⟩)) rfl rfl ?_ | refine awpHop_ret _ (kc) rfl rfl rfl rfl rfl rfl rfl rfl rfl (by repeat' (first | exact trivial | refine ⟨.inl rfl, ?_⟩ | refine ⟨.inr ⟨rfl, rfl⟩, ?_⟩)) rfl rfl (by repeat' (first | exact trivial | refine ⟨rfl, ?_⟩)) rfl ?_) | ((first | refine awpL_one (hf) rfl rfl rfl rfl rfl rfl rfl (by repeat' (first | exact trivial | refine ⟨.inl rfl, ?_⟩ | refine ⟨.inr ⟨rfl, rfl⟩, ?_⟩)) rfl rfl (GotF.out) ?_ | refine awpHop_one _ (hf) rfl rfl rfl rfl rfl rfl rfl rfl (by repeat' (first | exact trivial | refine ⟨.inl rfl, ?_⟩ | refine ⟨.inr ⟨rfl, rfl⟩, ?_⟩)) rfl rfl (GotF.out) (by repeat' (first | exact trivial | refine ⟨rfl, ?_⟩)) rfl rfl ?_); rintro v b ⟨cf, hcf, rfl, he, -⟩; cases he) | (first | refine awpL_ret (kp) rfl rfl rfl rfl rfl rfl rfl rfl (by repeat' (first | exact trivial | refine ⟨.inl rfl, ?_⟩ | refine ⟨.inr ⟨rfl, rfl⟩, ?_⟩)) rfl rfl ?_ | refine awpQ_ret (kp) rfl rfl rfl rfl rfl rfl rfl rfl (by repeat' (first | exact trivial | refine ⟨.inl rfl, ?_⟩ | refine ⟨.inr ⟨rfl, rfl⟩, ?_⟩)) rfl rfl ?_ | refine awpHop_ret _ (kp) rfl rfl rfl rfl rfl rfl rfl rfl rfl (by repeat' (first | exact trivial | refine ⟨.inl rfl, ?_⟩ | refine ⟨.inr ⟨rfl, rfl⟩, ?_⟩)) rfl rfl (by repeat' (first | exact trivial | refine ⟨rfl, ?_⟩)) rfl ?_) | (first | refine awpL_ret (k1) rfl rfl rfl rfl rfl rfl rfl rfl (by repeat' (first | exact trivial | refine ⟨.inl rfl, ?_⟩ | refine ⟨.inr ⟨rfl, rfl⟩, ?_⟩)) rfl rfl ?_ | refine awpQ_ret (k1) rfl rfl rfl rfl rfl rfl rfl rfl (by repeat' (first | exact trivial | refine ⟨.inl rfl, ?_⟩ | refine ⟨.inr ⟨rfl, rfl⟩, ?_⟩)) rfl rfl ?_ | refine awpHop_ret _ (k1) rfl rfl rfl rfl rfl rfl rfl rfl rfl (by repeat' (first | exact trivial | refine ⟨.inl rfl, ?_⟩ | refine ⟨.inr ⟨rfl, rfl⟩, ?_⟩)) rfl rfl (by repeat' (first | exact trivial | refine ⟨rfl, ?_⟩)) rfl ?_) | (first | refine awpL_ret (k2) rfl rfl rfl rfl rfl rfl rfl rfl (by repeat' (first | exact trivial | refine ⟨.inl rfl, ?_⟩ | refine ⟨.inr ⟨rfl, rfl⟩, ?_⟩)) rfl rfl ?_ | refine awpQ_ret (k2) rfl rfl rfl rfl rfl rfl rfl rfl (by repeat' (first | exact trivial | refine ⟨.inl rfl, ?_⟩ | refine ⟨.inr ⟨rfl, rfl⟩, ?_⟩)) rfl rfl ?_ | refine awpHop_ret _ (k2) rfl rfl rfl rfl rfl rfl rfl rfl rfl (by repeat' (first | exact trivial | refine ⟨.inl rfl, ?_⟩ | refine ⟨.inr ⟨rfl, rfl⟩, ?_⟩)) rfl rfl (by repeat' (first | exact trivial | refine ⟨rfl, ?_⟩)) rfl ?_) | (refine awp_block ?_) | (refine awp_exit ?_) | (refine awp_skip ?_) | (refine awp_ret ?_) | (refine awp_cond_t rfl ?_) | (refine awp_cond_f rfl ?_) | (refine awp_quiet TM rfl (by kernel_rfl) ?_) | ((first | refine awpL_split rfl rfl rfl (fun hc => ?_) (fun hc => ?_) | refine awpQ_split rfl rfl rfl (fun hc => ?_) (fun hc => ?_) | refine awp_cond rfl (fun hc => ?_) (fun hc => ?_)) <;> ((try simp at hc) <;> try contradiction)))) <;> try (exfalso; omega))
      all_goals refine fin_ret rfl (by repeat' (first | exact trivial | exact Nat.zero_lt_one | omega | refine ⟨?_, ?_⟩)) (congrArg vB (by simp)) rfl
    · obtain ⟨d, o1, o2⟩ := okC_facts ho
      have hdD : d = D := by rw [← hD]; exact o1.disc.symm
      subst hdD
      obtain ⟨f1, f2, f3, f4⟩ := o1.facts
      have hB := o1.dB
      obtain ⟨M, hM⟩ := red_ex (Small.of f1)
      obtain ⟨E1, C1⟩ := rst_cls hM f4 f2 f3
      obtain ⟨n, hn, hn6⟩ := ordN_ex f.1 f.2.1 f.2.2
      have hok : okO f = true := by simp [okO, o1.prim, hD, hB]
      have hO := hn hok
      rw [hD] at hO
      have hdv := ord_dvd hB f3 f2 f4 (hu hB) hO
      have hmem := fun x => mem_forms hB (hu hB) (f := x)
      have hpp := kp
      rw [show princV d = .tup [.agg (litF (princF d)), .one (.bool true)] by simp [princV, princG, hB]] at hpp
      have pc := cls_princ hB
      have pf := pc.form (discB_true.1 hB).1
      have rP := d_redI (princF d).1 (princF d).2.1 (princF d).2.2 0 (fun _ => ⟨fun i hi => by rw [show i = 0 by omega]; exact good_zero (Small.of pf), fun i hi => by omega, pc.low⟩)
      rw [pf] at rP
      have rF := d_redI f.1 f.2.1 f.2.2 M (fun _ => hM)
      rw [f1] at rF
      have cX := (o1.comp_cls o2).2
      have k3 : Does _ _ _ _ _ (Ret (compV g f) 1) := kI g f
      have k4 : Does _ _ _ _ _ (Ret (compV f (princF d)) 1) := kI f (princF d)
      have k5 : Does _ _ _ _ _ (Ret (compV f (conjF f)) 1) := kI f (conjF f)
      have ko := d_ordI f.1 f.2.1 f.2.2 n hn hn6
      rw [show ordV (f.1, f.2.1, f.2.2) n = .tup [.one (.int n), .one (.bool true)] by
        show ordV f n = _
        simp [ordV, hok]] at ko
      rw [compV_eq (comp_comm o1 o2) (o2.okC o1)] at k3
      rw [compV_eq (comp_princ o1 E1 C1) (o1.okC (OkF.of_cls pc hB))] at k4
      rw [compV_eq (comp_conj o1) (o1.okC o1.conj)] at k5
      obtain ⟨X, hX⟩ : ∃ X, compG f g = X := ⟨_, rfl⟩
      rw [compV_eq hX ho] at k1 k2
      rw [hX] at k3 cX
      rw [if_pos hB] at hf hlen
      obtain ⟨a1, a2, a3, a4, a5, a6, a7⟩ := isFormB_true.1 f1
      have hXL := (hmem X).2 cX
      have hn1 := hO.pos
      have hdv' : ((allF d N).length : Int).tmod n = 0 := by
        obtain ⟨q, hq⟩ := hdv
        rw [hq, Int.natCast_mul, Int.mul_comm]; exact Int.mul_tmod_left _ _
      generalize allF d N = L at *
      ((repeat' (first | (refine awpL_step TT rfl rfl rfl (by first | exact trivial | exact Nat.zero_lt_one | omega | (unfold InR; omega) | (show _ < List.length _; omega) | ((repeat' refine ⟨?_, ?_⟩) <;> first | omega | exact Nat.zero_lt_one | (unfold InR; omega) | (show _ < List.length _; omega) | (show _ = List.length _; omega) | (simp [Elts.len]; done) | (simp [Elts.len]; omega)) | (simp [Elts.len]; done) | (simp [Elts.len]; omega)) ?_) | (refine awpL_nil ?_) | (refine awpL_skip rfl rfl ?_) | (refine awpQ_step TT rfl rfl rfl rfl (by first | exact trivial | exact Nat.zero_lt_one | omega | (unfold InR; omega) | (show _ < List.length _; omega) | ((repeat' refine ⟨?_, ?_⟩) <;> first | omega | exact Nat.zero_lt_one | (unfold InR; omega) | (show _ < List.length _; omega) | (show _ = List.length _; omega) | (simp [Elts.len]; done) | (simp [Elts.len]; omega)) | (simp [Elts.len]; done) | (simp [Elts.len]; omega)) ?_) | (refine awpQ_nil ?_) | (refine awpQ_skip rfl rfl ?_) | (refine awp_seq ?_) | (refine awp_region ?_) | (first | refine awpL_ret (kc) rfl rfl rfl rfl rfl rfl rfl rfl (by repeat' (first | exact trivial | refine ⟨.inl rfl, ?_⟩ | refine ⟨.inr ⟨rfl, rfl⟩, ?_⟩)) rfl rfl ?_ | refine awpQ_ret (kc) rfl rfl rfl rfl rfl rfl rfl rfl (by repeat' (first | exact trivial | refine ⟨.inl rfl, ?_⟩ | refine ⟨.inr ⟨rfl, rfl⟩, ?_⟩)) rfl rfl ?_ | refine awpHop_ret _ (kc) rfl rfl rfl rfl rfl rfl rfl rfl rfl (by repeat' (first | exact trivial | refine ⟨.inl rfl, ?_⟩ | refine ⟨.inr ⟨rfl, rfl⟩, ?_⟩)) rfl rfl (by repeat' (first | exact trivial | refine ⟨rfl, ?_⟩)) rfl ?_) | ((first | refine awpL_one (hf) rfl rfl rfl rfl rfl rfl rfl (by repeat' (first | exact trivial | refine ⟨.inl rfl, ?_⟩ | refine ⟨.inr ⟨rfl, rfl⟩, ?_⟩)) rfl rfl (GotF.out) ?_ | refine awpHop_one _ (hf) rfl rfl rfl rfl rfl rfl rfl rfl (by repeat' (first | exact trivial | refine ⟨.inl rfl, ?_⟩ | refine ⟨.inr ⟨rfl, rfl⟩, ?_⟩)) rfl rfl (GotF.out) (by repeat' (first | exact trivial | refine ⟨rfl, ?_⟩)) rfl rfl ?_); rintro v b ⟨cf, hcf, rfl, he, -⟩; cases he) | (first | refine awpL_ret (hpp) rfl rfl rfl rfl rfl rfl rfl rfl (by repeat' (first | exact trivial | refine ⟨.inl rfl, ?_⟩ | refine ⟨.inr ⟨rfl, rfl⟩, ?_⟩)) rfl rfl ?_ | refine awpQ_ret (hpp) rfl rfl rfl rfl rfl rfl rfl rfl (by repeat' (first | exact trivial | refine ⟨.inl rfl, ?_⟩ | refine ⟨.inr ⟨rfl, rfl⟩, ?_⟩)) rfl rfl ?_ | refine awpHop_ret _ (hpp) rfl rfl rfl rfl rfl rfl rfl rfl rfl (by repeat' (first | exact trivial | refine ⟨.inl rfl, ?_⟩ | refine ⟨.inr ⟨rfl, rfl⟩, ?_⟩)) rfl rfl (by repeat' (first | exact trivial | refine ⟨rfl, ?_⟩)) rfl ?_) | (first | refine awpL_ret (k1) rfl rfl rfl rfl rfl rfl rfl rfl (by repeat' (first | exact trivial | refine ⟨.inl rfl, ?_⟩ | refine ⟨.inr ⟨rfl, rfl⟩, ?_⟩)) rfl rfl ?_ | refine awpQ_ret (k1) rfl rfl rfl rfl rfl rfl rfl rfl (by repeat' (first | exact trivial | refine ⟨.inl rfl, ?_⟩ | refine ⟨.inr ⟨rfl, rfl⟩, ?_⟩)) rfl rfl ?_ | refine awpHop_ret _ (k1) rfl rfl rfl rfl rfl rfl rfl rfl rfl (by repeat' (first | exact trivial | refine ⟨.inl rfl, ?_⟩ | refine ⟨.inr ⟨rfl, rfl⟩, ?_⟩)) rfl rfl (by repeat' (first | exact trivial | refine ⟨rfl, ?_⟩)) rfl ?_) | (first | refine awpL_ret (k2) rfl rfl rfl rfl rfl rfl rfl rfl (by repeat' (first | exact trivial | refine ⟨.inl rfl, ?_⟩ | refine ⟨.inr ⟨rfl, rfl⟩, ?_⟩)) rfl rfl ?_ | refine awpQ_ret (k2) rfl rfl rfl rfl rfl rfl rfl rfl (by repeat' (first | exact trivial | refine ⟨.inl rfl, ?_⟩ | refine ⟨.inr ⟨rfl, rfl⟩, ?_⟩)) rfl rfl ?_ | refine awpHop_ret _ (k2) rfl rfl rfl rfl rfl rfl rfl rfl rfl (by repeat' (first | exact trivial | refine ⟨.inl rfl, ?_⟩ | refine ⟨.inr ⟨rfl, rfl⟩, ?_⟩)) rfl rfl (by repeat' (first | exact trivial | refine ⟨rfl, ?_⟩)) rfl ?_) | (first | refine awpL_ret (k3) rfl rfl rfl rfl rfl rfl rfl rfl (by repeat' (first | exact trivial | refine ⟨.inl rfl, ?_⟩ | refine ⟨.inr ⟨rfl, rfl⟩, ?_⟩)) rfl rfl ?_ | refine awpQ_ret (k3) rfl rfl rfl rfl rfl rfl rfl rfl (by repeat' (first | exact trivial | refine ⟨.inl rfl, ?_⟩ | refine ⟨.inr ⟨rfl, rfl⟩, ?_⟩)) rfl rfl ?_ | refine awpHop_ret _ (k3) rfl rfl rfl rfl rfl rfl rfl rfl rfl (by repeat' (first | exact trivial | refine ⟨.inl rfl, ?_⟩ | refine ⟨.inr ⟨rfl, rfl⟩, ?_⟩)) rfl rfl (by repeat' (first | exact trivial | refine ⟨rfl, ?_⟩)) rfl ?_) | (first | refine awpL_ret (k4) rfl rfl rfl rfl rfl rfl rfl rfl (by repeat' (first | exact trivial | refine ⟨.inl rfl, ?_⟩ | refine ⟨.inr ⟨rfl, rfl⟩, ?_⟩)) rfl rfl ?_ | refine awpQ_ret (k4) rfl rfl rfl rfl rfl rfl rfl rfl (by repeat' (first | exact trivial | refine ⟨.inl rfl, ?_⟩ | refine ⟨.inr ⟨rfl, rfl⟩, ?_⟩)) rfl rfl ?_ | refine awpHop_ret _ (k4) rfl rfl rfl rfl rfl rfl rfl rfl rfl (by repeat' (first | exact trivial | refine ⟨.inl rfl, ?_⟩ | refine ⟨.inr ⟨rfl, rfl⟩, ?_⟩)) rfl rfl (by repeat' (first | exact trivial | refine ⟨rfl, ?_⟩)) rfl ?_) | (first | refine awpL_ret (k5) rfl rfl rfl rfl rfl rfl rfl rfl (by repeat' (first | exact trivial | refine ⟨.inl rfl, ?_⟩ | refine ⟨.inr ⟨rfl, rfl⟩, ?_⟩)) rfl rfl ?_ | refine awpQ_ret (k5) rfl rfl rfl rfl rfl rfl rfl rfl (by repeat' (first | exact trivial | refine ⟨.inl rfl, ?_⟩ | refine ⟨.inr ⟨rfl, rfl⟩, ?_⟩)) rfl rfl ?_ | refine awpHop_ret _ (k5) rfl rfl rfl rfl rfl rfl rfl rfl rfl (by repeat' (first | exact trivial | refine ⟨.inl rfl, ?_⟩ | refine ⟨.inr ⟨rfl, rfl⟩, ?_⟩)) rfl rfl (by repeat' (first | exact trivial | refine ⟨rfl, ?_⟩)) rfl ?_) | (first | refine awpL_ret (ko) rfl rfl rfl rfl rfl rfl rfl rfl (by repeat' (first | exact trivial | refine ⟨.inl rfl, ?_⟩ | refine ⟨.inr ⟨rfl, rfl⟩, ?_⟩)) rfl rfl ?_ | refine awpQ_ret (ko) rfl rfl rfl rfl rfl rfl rfl rfl (by repeat' (first | exact trivial | refine ⟨.inl rfl, ?_⟩ | refine ⟨.inr ⟨rfl, rfl⟩, ?_⟩)) rfl rfl ?_ | refine awpHop_ret _ (ko) rfl rfl rfl rfl rfl rfl rfl rfl rfl (by repeat' (first | exact trivial | refine ⟨.inl rfl, ?_⟩ | refine ⟨.inr ⟨rfl, rfl⟩, ?_⟩)) rfl rfl (by repeat' (first | exact trivial | refine ⟨rfl, ?_⟩)) rfl ?_) | ((refine awpL_call (rF) rfl rfl rfl rfl rfl rfl rfl (by repeat' (first | exact trivial | refine ⟨.inl rfl, ?_⟩ | refine ⟨.inr ⟨rfl, rfl⟩, ?_⟩)) rfl ?_); rintro v Hout n1 ⟨rfl, rfl, rfl⟩) | ((refine awpL_call (rP) rfl rfl rfl rfl rfl rfl rfl (by repeat' (first | exact trivial | refine ⟨.inl rfl, ?_⟩ | refine ⟨.inr ⟨rfl, rfl⟩, ?_⟩)) rfl ?_); rintro v Hout n1 ⟨rfl, rfl, rfl⟩) | (refine awp_block ?_) | (refine awp_exit ?_) | (refine awp_skip ?_) | (refine awp_ret ?_) | (refine awp_cond_t rfl ?_) | (refine awp_cond_f rfl ?_) | (refine awp_quiet TM rfl (by kernel_rfl) ?_) | ((first | refine awpL_split rfl rfl rfl (fun hc => ?_) (fun hc => ?_) | refine awpQ_split rfl rfl rfl (fun hc => ?_) (fun hc => ?_) | refine awp_cond rfl (fun hc => ?_) (fun hc => ?_)) <;> ((try simp at hc) <;> try contradiction)))) <;> try (exfalso; omega))
      refine awp_loop hE (fun p : Nat × Bool => p.1 ≤ L.length ∧ p.2 = decide (X ∈ L.take p.1)) (fun p => L.length - p.1)
        (fun p => [(6, vS3 4 L.length cf), (9, .one (.ptr 6 3 0 0)), (13, .one (.ptr 8 3 0 0)), (14, vB true), (15, .one (.ptr 10 3 0 0)), (18, .one (.ptr 12 3 0 0)), (19, vB true), (20, .one (.ptr 13 3 0 0)), (21, vB true), (22, .one (.ptr 15 3 0 0)), (25, vI n), (26, vB true), (27, vB p.2), (28, vI p.1)])
        (fun _ => [(4, .own 26 cf (.i3 L)), (6, .own 26 1 (.lit (litF X))), (8, .own 26 1 (.lit (litF X))), (10, .own 26 1 (.lit (litF (rst f M).1))), (12, .own 26 1 (.lit (litF (rst f M).1))), (13, .own 26 1 (.lit (litF (princF d)))), (15, .own 26 1 (.lit (litF (princF d))))]) 17 [] (0, false) ⟨Nat.zero_le _, by simp⟩ ⟨(by repeat' (first | exact trivial | refine ⟨rfl, ?_⟩ | refine ⟨congrArg some (congrArg vI (by first | omega | (simp; done) | (simp; omega))), ?_⟩)), (by repeat' (first | exact trivial | refine ⟨rfl, ?_⟩)), rfl⟩ ?_
      rintro ⟨i, b⟩ ⟨hi, hbb⟩
      dsimp only at hi hbb ⊢
      by_cases hiL : i < L.length
      · have hg := get3_at hiL
        have hstep := found_step (X := X) hiL
        rw [← hbb] at hstep
        cases b
        · have he := eq3_dec (x := L.getD (0 + (i : Int).toNat) (0, 0, 0)) (y := X)
          rw [hg] at he
          ((repeat' (first | (refine awpL_step TT rfl rfl rfl (by first | exact trivial | exact Nat.zero_lt_one | omega | (unfold InR; omega) | (show _ < List.length _; omega) | ((repeat' refine ⟨?_, ?_⟩) <;> first | omega | exact Nat.zero_lt_one | (unfold InR; omega) | (show _ < List.length _; omega) | (show _ = List.length _; omega) | (simp [Elts.len]; done) | (simp [Elts.len]; omega)) | (simp [Elts.len]; done) | (simp [Elts.len]; omega)) ?_) | (refine awpL_nil ?_) | (refine awpL_skip rfl rfl ?_) | (refine awpQ_step TT rfl rfl rfl rfl (by first | exact trivial | exact Nat.zero_lt_one | omega | (unfold InR; omega) | (show _ < List.length _; omega) | ((repeat' refine ⟨?_, ?_⟩) <;> first | omega | exact Nat.zero_lt_one | (unfold InR; omega) | (show _ < List.length _; omega) | (show _ = List.length _; omega) | (simp [Elts.len]; done) | (simp [Elts.len]; omega)) | (simp [Elts.len]; done) | (simp [Elts.len]; omega)) ?_) | (refine awpQ_nil ?_) | (refine awpQ_skip rfl rfl ?_) | (refine awp_seq ?_) | (refine awp_region ?_) | (refine awp_block ?_) | (refine awp_exit ?_) | (refine awp_skip ?_) | (refine awp_ret ?_) | (refine awp_cond_t rfl ?_) | (refine awp_cond_f rfl ?_) | (refine awp_quiet TM rfl (by kernel_rfl) ?_) | ((first | refine awpL_split rfl rfl rfl (fun hc => ?_) (fun hc => ?_) | refine awpQ_split rfl rfl rfl (fun hc => ?_) (fun hc => ?_) | refine awp_cond rfl (fun hc => ?_) (fun hc => ?_)) <;> ((try simp at hc) <;> try contradiction)))) <;> try (exfalso; omega))
          exact ⟨[], (i + 1, decide ([L[i].1, L[i].2.1, L[i].2.2] = [X.1, X.2.1, X.2.2])), ⟨hiL, by dsimp only; rw [hstep, he]; rfl⟩, (by first | omega | (dsimp only; omega)), ⟨rfl, rfl, rfl, rfl, rfl, rfl, rfl, rfl, rfl, rfl, rfl, rfl, by rw [← hg]; rfl, rfl, trivial⟩, ⟨rfl, rfl, rfl, rfl, rfl, rfl, rfl, trivial⟩, rfl⟩
        · ((repeat' (first | (refine awpL_step TT rfl rfl rfl (by first | exact trivial | exact Nat.zero_lt_one | omega | (unfold InR; omega) | (show _ < List.length _; omega) | ((repeat' refine ⟨?_, ?_⟩) <;> first | omega | exact Nat.zero_lt_one | (unfold InR; omega) | (show _ < List.length _; omega) | (show _ = List.length _; omega) | (simp [Elts.len]; done) | (simp [Elts.len]; omega)) | (simp [Elts.len]; done) | (simp [Elts.len]; omega)) ?_) | (refine awpL_nil ?_) | (refine awpL_skip rfl rfl ?_) | (refine awpQ_step TT rfl rfl rfl rfl (by first | exact trivial | exact Nat.zero_lt_one | omega | (unfold InR; omega) | (show _ < List.length _; omega) | ((repeat' refine ⟨?_, ?_⟩) <;> first | omega | exact Nat.zero_lt_one | (unfold InR; omega) | (show _ < List.length _; omega) | (show _ = List.length _; omega) | (simp [Elts.len]; done) | (simp [Elts.len]; omega)) | (simp [Elts.len]; done) | (simp [Elts.len]; omega)) ?_) | (refine awpQ_nil ?_) | (refine awpQ_skip rfl rfl ?_) | (refine awp_seq ?_) | (refine awp_region ?_) | (refine awp_block ?_) | (refine awp_exit ?_) | (refine awp_skip ?_) | (refine awp_ret ?_) | (refine awp_cond_t rfl ?_) | (refine awp_cond_f rfl ?_) | (refine awp_quiet TM rfl (by kernel_rfl) ?_) | ((first | refine awpL_split rfl rfl rfl (fun hc => ?_) (fun hc => ?_) | refine awpQ_split rfl rfl rfl (fun hc => ?_) (fun hc => ?_) | refine awp_cond rfl (fun hc => ?_) (fun hc => ?_)) <;> ((try simp at hc) <;> try contradiction)))) <;> try (exfalso; omega))
          exact ⟨[], (i + 1, true), ⟨hiL, by dsimp only; rw [hstep]; rfl⟩, (by first | omega | (dsimp only; omega)), ⟨(by repeat' (first | exact trivial | refine ⟨rfl, ?_⟩ | refine ⟨congrArg some (congrArg vI (by first | omega | (simp; done) | (simp; omega))), ?_⟩)), (by repeat' (first | exact trivial | refine ⟨rfl, ?_⟩)), rfl⟩⟩
      · obtain rfl : i = L.length := by omega
        rw [List.take_length, decide_eq_true hXL] at hbb
        subst hbb
        ((repeat' (first | (refine awpL_step TT rfl rfl rfl (by first | exact trivial | exact Nat.zero_lt_one | omega | (unfold InR; omega) | (show _ < List.length _; omega) | ((repeat' refine ⟨?_, ?_⟩) <;> first | omega | exact Nat.zero_lt_one | (unfold InR; omega) | (show _ < List.length _; omega) | (show _ = List.length _; omega) | (simp [Elts.len]; done) | (simp [Elts.len]; omega)) | (simp [Elts.len]; done) | (simp [Elts.len]; omega)) ?_) | (refine awpL_nil ?_) | (refine awpL_skip rfl rfl ?_) | (refine awpQ_step TT rfl rfl rfl rfl (by first | exact trivial | exact Nat.zero_lt_one | omega | (unfold InR; omega) | (show _ < List.length _; omega) | ((repeat' refine ⟨?_, ?_⟩) <;> first | omega | exact Nat.zero_lt_one | (unfold InR; omega) | (show _ < List.length _; omega) | (show _ = List.length _; omega) | (simp [Elts.len]; done) | (simp [Elts.len]; omega)) | (simp [Elts.len]; done) | (simp [Elts.len]; omega)) ?_) | (refine awpQ_nil ?_) | (refine awpQ_skip rfl rfl ?_) | (refine awp_seq ?_) | (refine awp_region ?_) | (refine awp_block ?_) | (refine awp_exit ?_) | (refine awp_skip ?_) | (refine awp_ret ?_) | (refine awp_cond_t rfl ?_) | (refine awp_cond_f rfl ?_) | (refine awp_quiet TM rfl (by kernel_rfl) ?_) | ((first | refine awpL_split rfl rfl rfl (fun hc => ?_) (fun hc => ?_) | refine awpQ_split rfl rfl rfl (fun hc => ?_) (fun hc => ?_) | refine awp_cond rfl (fun hc => ?_) (fun hc => ?_)) <;> ((try simp at hc) <;> try contradiction)))) <;> try (exfalso; omega))
        all_goals refine fin_ret rfl (by repeat' (first | exact trivial | exact Nat.zero_lt_one | omega | refine ⟨?_, ?_⟩)) (congrArg vB (by simp [hdv'])) rfl
end Go.Proofs.Ytbaaelampabhdaa
