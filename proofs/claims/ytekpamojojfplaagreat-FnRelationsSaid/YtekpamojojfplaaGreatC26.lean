/-
  TEXTS OF THE PROOF, put together: Am10, Am11, bAcc.
-/
import Derived.Test.YtekpamojojfplaaGreatC17
import Derived.Test.YtekpamojojfplaaGreatC25
import Derived.Test.YtekpamojojfplaaGreatC08
import Derived.Test.YtekpamojojfplaaGreatC22
set_option linter.unusedVariables false
set_option linter.unusedSimpArgs false
namespace Go.Proofs.YtekpamojojfplaaGreat
open Go.RowKit
def Row.put (r : Row) (ys : List Int) : Row := ⟨r.a, r.cap, ys, r.ps⟩
def forgetH (H : Nat → Option Blk) : Nat → Option Blk := fun k => match H k with
  | some b => some b.forget
  | none => none
section
variable {E : Env} {ρ : Rho} {H : Nat → Option Blk} {nx : Nat} {w w' : World}
theorem forgetH_at {k : Nat} {b : Blk} (h : forgetH H k = some b) : ∃ b0, H k = some b0 ∧ b = b0.forget := by
  unfold forgetH at h
  split at h
  · cases h; exact ⟨_, ‹_›, rfl⟩
  · cases h
theorem HInv.rowPut (h : HInv E ρ H nx w) {kt : Nat} {t : TypeId} {q : Bool} {l1 l2 : List Row} {r r' : Row} (hkt : H kt = some (.tok t q (l1 ++ r :: l2))) (ha : r'.a = r.a) (hr' : RowOwn w' t q r') {row : Option Nat} (hg : w.grownBy w' row) (hrow : ∀ g, row = some g → ∃ p, r.a = some p ∧ p.1 = g) :
    HInv E ρ (upd (forgetH H) kt (.tok t q (l1 ++ r' :: l2))) nx w' := by
  have hbt := h.blk kt _ hkt
  simp only [BlkOK] at hbt
  obtain ⟨hz, hown, hpw⟩ := hbt
  have hpw2 := List.pairwise_append.1 hpw
  have hpw3 := List.pairwise_cons.1 hpw2.2.1
  have hfarT : ∀ r1, r1 ∈ l1 ∨ r1 ∈ l2 → Apart r1 r := fun r1 hr1 => by
    rcases hr1 with h1 | h1
    · exact hpw2.2.2 r1 h1 r (by simp)
    · exact (hpw3.1 r1 h1).symm
  have hmem : ∀ r1 ∈ l1 ++ r' :: l2, ∃ r0 ∈ l1 ++ r :: l2, r0.a = r1.a := fun r1 hr1 => by
    rcases List.mem_append.1 hr1 with h1 | h1
    · exact ⟨r1, List.mem_append_left _ h1, rfl⟩
    · rcases List.mem_cons.1 h1 with rfl | h1
      · exact ⟨r, by simp, ha.symm⟩
      · exact ⟨r1, List.mem_append_right _ (List.mem_cons_of_mem _ h1), rfl⟩
  have hap : ∀ s, Apart r s → Apart r' s := fun s hs p p' hp hp' => hs p p' (ha ▸ hp) hp'
  have hcase : ∀ k b, upd (forgetH H) kt (.tok t q (l1 ++ r' :: l2)) k = some b → (k = kt ∧ b = .tok t q (l1 ++ r' :: l2)) ∨ (k ≠ kt ∧ ∃ b0, H k = some b0 ∧ b = b0.forget) := fun k b hu => by
    by_cases c : k = kt
    · subst c; rw [upd_same] at hu; cases hu; exact .inl ⟨rfl, rfl⟩
    · rw [upd_ne c] at hu; exact .inr ⟨c, forgetH_at hu⟩
  have hFr : ∀ p, r.a = some p → (Blk.tok t q (l1 ++ r :: l2)).Far p.1 := fun p hp => ⟨r, by simp, p, hp, rfl⟩
  have hrowne : ∀ g, (∀ p, r.a = some p → g ≠ p.1) → some g ≠ row := fun g hne e => by
    obtain ⟨p, hp, hpg⟩ := hrow g e.symm
    exact hne p hp hpg.symm
  refine ⟨h.nil, fun k b hu => ?_, fun k b hu => ?_, fun k k' b b' p p' hu hu' ho hl hne e e' => ?_, fun k b p hu hl hal hn e => ?_, fun k b hu ho hn => ?_, h.keeps.grown hg (fun g e => ?_), h.ent, h.n0, h.pos, fun k b hu x hx => ?_, fun k k' b b' p g hu hu' ho e hf => ?_, fun k k' t1 t2 q1 q2 m1 m2 hu hu' hne r1 hr1 r2 hr2 => ?_, fun k t1 q1 m1 hu r1 hr1 p hp => ?_, fun k k' t1 q1 m1 e p hu hu' hl e1 r1 hr1 p' hp' => ?_⟩
  · rcases hcase k b hu with ⟨rfl, rfl⟩ | ⟨c, b0, hb0, rfl⟩
    · refine ⟨hz, fun r1 hr1 => ?_, ?_⟩
      · rcases List.mem_append.1 hr1 with h1 | h1
        · exact (hown r1 (List.mem_append_left _ h1)).grown hg fun p hp => hrowne p.1 fun p2 hp2 => hfarT r1 (.inl h1) p p2 hp hp2
        · rcases List.mem_cons.1 h1 with rfl | h1
          · exact hr'
          · exact (hown r1 (List.mem_append_right _ (List.mem_cons_of_mem _ h1))).grown hg fun p hp => hrowne p.1 fun p2 hp2 => hfarT r1 (.inr h1) p p2 hp hp2
      · refine List.pairwise_append.2 ⟨hpw2.1, List.pairwise_cons.2 ⟨fun s hs => hap s (hpw3.1 s hs), hpw3.2⟩, fun s hs s' hs' => ?_⟩
        rcases List.mem_cons.1 hs' with rfl | hs'
        · exact (hap s (hfarT s (.inl hs)).symm).symm
        · exact hpw2.2.2 s hs s' (List.mem_cons_of_mem _ hs')
    · have hb1 : BlkOK ρ k w b0.forget := (h.blk k b0 hb0).forget
      refine hb1.grown hg (fun hl p hp => hrowne p.1 fun p2 hp2 => ?_) fun g hf => hrowne g fun p2 hp2 => ?_
      · have hl0 := Blk.forget_live b0 hl
        cases b0 with
        | dead => cases hl
        | ro e0 => exact fun e => h.tr kt k t q _ e0 p hkt hb0 (Blk.live_ro hl0) hp r (by simp) p2 hp2 e
        | own t0 c0 e0 => exact h.far k kt _ _ p p2.1 hb0 hkt rfl hp (hFr p2 hp2)
        | al a0 e0 => cases hl
        | tok t0 q0 m0 =>
          have := h.blk k _ hb0
          simp only [BlkOK] at this
          rw [this.1] at hp; cases hp
      · obtain ⟨t0, q0, m0, rfl⟩ := Blk.forget_Far hf
        obtain ⟨s, hs, p, hp, rfl⟩ := hf
        exact h.tt k kt t0 t q0 q m0 _ hb0 hkt c s hs r (by simp) p p2 hp hp2
  · rcases hcase k b hu with ⟨rfl, rfl⟩ | ⟨c, b0, hb0, rfl⟩
    · exact ⟨(h.key _ _ hkt).1, fun _ hk => by cases hk⟩
    · have hx := h.key k b0 hb0
      exact ⟨hx.1, fun k' hk' => hx.2 k' (Blk.forget_keys b0 k' hk')⟩
  · rcases hcase k b hu with ⟨rfl, rfl⟩ | ⟨c, b0, hb0, rfl⟩
    · rw [hz] at e; cases e
    · rcases hcase k' b' hu' with ⟨rfl, rfl⟩ | ⟨c', b0', hb0', rfl⟩
      · rw [hz] at e'; cases e'
      · exact h.inj k k' b0 b0' p p' hb0 hb0' (by rw [← Blk.forget_own]; exact ho) (Blk.forget_live b0' hl) hne e e'
  · rcases hcase k b hu with ⟨rfl, rfl⟩ | ⟨c, b0, hb0, rfl⟩
    · rw [hz] at e; cases e
    · refine h.new k b0 p hb0 (Blk.forget_live b0 hl) ?_ hn e
      cases b0 with
      | al a0 e0 => cases hl
      | _ => rfl
  · rcases hcase k b hu with ⟨rfl, rfl⟩ | ⟨c, b0, hb0, rfl⟩
    · exact h.old _ _ hkt rfl hn
    · exact h.old k b0 hb0 (by rw [← Blk.forget_own]; exact ho) hn
  · obtain ⟨p, hp, hpg⟩ := hrow g e
    rw [← hpg]; exact h.tw kt t q _ hkt r (by simp) p hp
  · rcases hcase k b hu with ⟨rfl, rfl⟩ | ⟨c, b0, hb0, rfl⟩
    · cases hx
    · rw [Blk.forget_rds] at hx; cases hx
  · rcases hcase k b hu with ⟨rfl, rfl⟩ | ⟨c, b0, hb0, rfl⟩
    · rw [hz] at e; cases e
    · rw [Blk.forget_own] at ho
      rcases hcase k' b' hu' with ⟨rfl, rfl⟩ | ⟨c', b0', hb0', rfl⟩
      · obtain ⟨r1, hr1, p1, hp1, rfl⟩ := hf
        obtain ⟨r0, hr0, e0⟩ := hmem r1 hr1
        exact h.far k _ b0 _ p p1.1 hb0 hkt ho e ⟨r0, hr0, p1, by rw [e0]; exact hp1, rfl⟩
      · obtain ⟨t0, q0, m0, rfl⟩ := Blk.forget_Far hf
        exact h.far k k' b0 _ p g hb0 hb0' ho e hf
  · rcases hcase k _ hu with ⟨rfl, c1⟩ | ⟨c, b0, hb0, c1⟩
    · cases c1
      obtain ⟨r0, hr0, e0⟩ := hmem r1 hr1
      rcases hcase k' _ hu' with ⟨rfl, c2⟩ | ⟨c', b0', hb0', c2⟩
      · exact absurd rfl hne
      · have := forget_tok c2.symm
        subst this
        exact fun p p' hp hp' => h.tt _ k' t t2 q q2 _ m2 hkt hb0' hne r0 hr0 r2 hr2 p p' (by rw [e0]; exact hp) hp'
    · have := forget_tok c1.symm
      subst this
      rcases hcase k' _ hu' with ⟨rfl, c2⟩ | ⟨c', b0', hb0', c2⟩
      · cases c2
        obtain ⟨r0, hr0, e0⟩ := hmem r2 hr2
        exact fun p p' hp hp' => h.tt k _ t1 t q1 q m1 _ hb0 hkt hne r1 hr1 r0 hr0 p p' hp (by rw [e0]; exact hp')
      · have := forget_tok c2.symm
        subst this
        exact h.tt k k' t1 t2 q1 q2 m1 m2 hb0 hb0' hne r1 hr1 r2 hr2
  · rcases hcase k _ hu with ⟨rfl, c1⟩ | ⟨c, b0, hb0, c1⟩
    · cases c1
      obtain ⟨r0, hr0, e0⟩ := hmem r1 hr1
      exact h.tw _ t q _ hkt r0 hr0 p (by rw [e0]; exact hp)
    · have := forget_tok c1.symm
      subst this
      exact h.tw k t1 q1 m1 hb0 r1 hr1 p hp
  · rcases hcase k' _ hu' with ⟨rfl, c2⟩ | ⟨c', b0', hb0', c2⟩
    · cases c2
    · obtain ⟨e0, rfl, h2⟩ := forget_ro c2.symm
      rcases hcase k _ hu with ⟨rfl, c1⟩ | ⟨c, b0, hb0, c1⟩
      · cases c1
        obtain ⟨r0, hr0, e3⟩ := hmem r1 hr1
        exact h.tr _ k' t q _ e0 p hkt hb0' (by omega) e1 r0 hr0 p' (by rw [e3]; exact hp')
      · have := forget_tok c1.symm
        subst this
        exact h.tr k k' t1 q1 m1 e0 p hb0 hb0' (by omega) e1 r1 hr1 p' hp'
theorem HInv.rowIn (h : HInv E ρ H nx w) {kt : Nat} {t : TypeId} {l1 l2 : List Row} {r : Row} (hkt : H kt = some (.tok t false (l1 ++ r :: l2))) :
    HInv (envOf w (fun k => if k = 1 then r.a else none) [(1, .own t r.cap (.ints r.xs))] 2) (fun k => if k = 1 then r.a else none) (lk [(1, .own t r.cap (.ints r.xs))]) 2 w := by
  have hbt := h.blk kt _ hkt
  simp only [BlkOK] at hbt
  have hr := hbt.2.1 r (by simp)
  have hlk : ∀ k b, lk [(1, Blk.own t r.cap (.ints r.xs))] k = some b → k = 1 ∧ b = .own t r.cap (.ints r.xs) := fun k b hb => by
    unfold lk at hb
    cases e : Nat.beq k 1 with
    | true => rw [e] at hb; cases hb; exact ⟨Nat.eq_of_beq_eq_true e, rfl⟩
    | false => rw [e] at hb; cases hb
  have hnoF : ∀ g, ¬ (Blk.own t r.cap (.ints r.xs)).Far g := fun g ⟨x, hx, _⟩ => by cases hx
  refine ⟨rfl, fun k b hb => ?_, fun k b hb => ?_, fun k k' b b' p p' hb hb' _ _ hne => ?_, fun k b p hb _ _ hn => ?_, fun k b hb ho _ => ⟨b, hb, ho⟩, ⟨rfl, rfl, rfl, Nat.le_refl _, fun _ _ _ _ => rfl⟩, fun _ _ => rfl, Nat.le_refl _, Nat.zero_lt_succ _, fun k b hb x hx => ?_, fun k k' b b' p g hb hb' _ _ hf => ?_, fun k k' t1 t2 q1 q2 m1 m2 hb => ?_, fun k t1 q1 m1 hb => ?_, fun k k' t1 q1 m1 e p hb => ?_⟩
  · obtain ⟨rfl, rfl⟩ := hlk k b hb
    have e2 : cells (fun k => if k = 1 then r.a else none) (r.svs false) = cells noRho (r.svs false) := List.map_congr_left fun s hs => noKeys_conc (Row.svs_keys false r s hs) _ noRho
    have e3 : (Elts.ints r.xs).all = r.svs false := rfl
    have e1 : Value.slice (adr (fun k => if k = 1 then r.a else none) 1 0) (Elts.ints r.xs).len r.cap = r.val false := by simp [Row.val, adr, Row.len, Elts.len]
    simp only [BlkOK]
    rw [e1, e3, e2]
    exact hr
  · obtain ⟨rfl, rfl⟩ := hlk k b hb
    exact ⟨Nat.lt_succ_self _, fun k' hk' => by simp [Blk.keys, Elts.keys, Elts.all, ints_keys] at hk'⟩
  · obtain ⟨rfl, _⟩ := hlk k b hb
    obtain ⟨rfl, _⟩ := hlk k' b' hb'
    exact absurd rfl hne
  · obtain ⟨rfl, _⟩ := hlk k b hb
    exact absurd hn (by simp [envOf])
  · obtain ⟨rfl, rfl⟩ := hlk k b hb
    cases hx
  · obtain ⟨rfl, rfl⟩ := hlk k' b' hb'
    exact (hnoF g hf).elim
  · cases (hlk k _ hb).2
  · cases (hlk k _ hb).2
  · cases (hlk k _ hb).2
end
section
variable {P : Program} {E : Env} {N : Nat} {Q : Post} {fr : Nat → Option AV} {H : Nat → Option Blk} {nx : Nat} {l0 rest : List Oper} {σ : St}
theorem OpR.row {o : Oper} {f : FuncId} {r : Row} {t : TypeId} {args : List AV} {v : AV} {ys : List Int} {c : Nat} (hD : Does P f (.one (.sl 1 1 0 r.xs.length c) :: args) [(1, .own t r.cap (.ints r.xs))] 2 (fun v' Hout n1 => v' = v ∧ Hout = [(1, .own t r.cap (.ints ys))] ∧ n1 = 2)) (hcc : c = r.cap)
    {fo : Operand} {xs : Array Operand} {ts : Array TypeId} (ho : o.op = .call ⟨.value fo, xs, ts⟩) (hl : callArgs σ.fr fo xs = some (f, .one (.hd r.a r.xs.length r.cap) :: args)) (hk : args.flatMap AV.keys = []) (hv : v.keys = []) {kt : Nat} {l1 l2 : List Row} (hkt : σ.H kt = some (.tok t false (l1 ++ r :: l2))) :
    OpR P o E N σ (det v (upd (forgetH σ.H) kt (.tok t false (l1 ++ r.put ys :: l2))) σ.nx) := by
  subst hcc
  intro ρ a w hI K Q hK
  obtain ⟨⟨fn, hfn, hnm, hbody⟩, hcalls⟩ := hD
  unfold callArgs at hl
  split at hl
  · rename_i g caps l hg hlv
    simp only [Option.some.injEq, Prod.mk.injEq] at hl
    obtain ⟨rfl, hargs⟩ := hl
    obtain ⟨e1, _⟩ := ev_sound hI.f hI.h.nil hI.h.hb.pos hg
    obtain ⟨e2, _⟩ := evs_sound hI hlv
    have e1' : a.eval fo = .func (.func g) #[] (caps.map fun p => Value.pointer (adr ρ p.1 0)).toArray := e1
    let ρc : Rho := fun k => if k = 1 then r.a else none
    have hconc : (AV.one (.sl 1 1 0 r.xs.length r.cap) :: args).map (AV.conc ρc) = (l ++ caps.map capAV).map (AV.conc ρ) := by
      rw [hargs]
      simp only [List.map_cons]
      rw [List.cons.injEq]
      refine ⟨?_, ?_⟩
      · simp [AV.conc, SV.conc, adr, ρc]
      · refine List.map_congr_left fun u hu => AV.conc_congr fun k hk' => ?_
        have : k ∈ args.flatMap AV.keys := List.mem_flatMap.2 ⟨u, hu, hk'⟩
        rw [hk] at this; cases this
    have hrun : (execOp a.eval o).run P w = .ok (.enter g ((AV.one (.sl 1 1 0 r.xs.length r.cap) :: args).map (AV.conc ρc)).toArray) w := by
      have hxs : xs.map a.eval = (l.map (AV.conc ρ)).toArray := by rw [← e2, ← Array.toList_map, Array.toArray_toList]
      simp only [execOp, ho, resolve, e1', hxs, Deferred.ofValue, Sem.run_bind, Sem.run_pure, Result.andThen_ok, invoke, callFunc]
      rw [hconc]
      have hnm' : fn.name ≠ "runtime.NumGoroutine" := by simpa using hnm
      have hbody' : fn.body ≠ none := fun e => by rw [e] at hbody; cases hbody
      simp [hfn, hnm', hbody', List.map_map]
      intro a b _
      simp [capAV, AV.conc, SV.conc]
    have hc := hcalls ρc w (hI.h.rowIn hkt) (fun u hu k hk' => by
      rcases List.mem_cons.1 hu with rfl | hu
      · simp [AV.keys, SV.keys] at hk'; omega
      · have : k ∈ args.flatMap AV.keys := List.mem_flatMap.2 ⟨u, hu, hk'⟩
        rw [hk] at this; cases this)
    unfold Oper.wp
    rw [hrun, Oper.upon_enter]
    refine hc.mono fun e w' ⟨ρ', v1, Hout, n1, ⟨h1, h2, h3⟩, h4, h5, _, _⟩ => ?_
    subst h1 h2 h3 h4
    have hρ1 : ρ' 1 = r.a := h5.ent 1 (Nat.lt_succ_self _)
    have hb := h5.blk 1 _ rfl
    have hown : RowOwn w' t false (r.put ys) := by
      have e3 : Value.slice (adr ρ' 1 0) (Elts.ints ys).len r.cap = (r.put ys).val false := by simp [Row.val, adr, hρ1, Row.len, Elts.len, Row.put]
      have e4 : cells ρ' ((r.put ys).svs false) = cells noRho ((r.put ys).svs false) := List.map_congr_left fun s hs => noKeys_conc (Row.svs_keys false (r.put ys) s hs) _ noRho
      have e5 : (Elts.ints ys).all = (r.put ys).svs false := rfl
      simp only [BlkOK] at hb
      rw [e3, e5, e4] at hb
      exact hb
    have hkeep := h5.keeps
    have hg2 : w.grownBy w' (r.a.map (·.1)) := ⟨hkeep.os, hkeep.tape, hkeep.output, hkeep.size, fun b hb' hne => hkeep.block b hb' (fun k p hk1 hk2 hp e => ?_) fun ⟨k, t1, q1, m1, hm, _⟩ => ?_⟩
    · have hres := hI.h.rowPut hkt (r' := r.put ys) rfl hown hg2 fun g hg' => by
        cases hra : r.a with
        | none => rw [hra] at hg'; cases hg'
        | some p => rw [hra] at hg'; exact ⟨p, rfl, by simpa using hg'⟩
      have hvc : v1.conc ρ' = v1.conc ρ := AV.conc_congr fun k hk' => by rw [hv] at hk'; cases hk'
      rw [hvc]
      exact hK ρ w' v1 _ σ.nx ⟨rfl, rfl, rfl⟩ hres (fun _ _ => rfl) (Nat.le_refl _) (by simp [hv])
    · have hk3 : k = 1 := by
        obtain ⟨b1, hb1, _⟩ := hk2
        unfold lk at hb1
        cases e3 : Nat.beq k 1 with
        | true => exact Nat.eq_of_beq_eq_true e3
        | false => rw [e3] at hb1; cases hb1
      subst hk3
      have hp' : r.a = some p := hp
      exact hne (by rw [hp']; simp [e])
    · unfold lk at hm
      cases e3 : Nat.beq k 1 with
      | true => rw [e3] at hm; cases hm
      | false => rw [e3] at hm; cases hm
  · cases hl
theorem awpL_callM (m : List (Nat × Nat)) {o : Oper} {f : FuncId} {args : List AV} {Hin : List (Nat × Blk)} {n0 d : Nat} {Out : AV → List (Nat × Blk) → Nat → Prop} (hD : Does P f args Hin n0 Out) {fo : Operand} {xs : Array Operand} {ts : Array TypeId}
    (ho : o.op = .call ⟨.value fo, xs, ts⟩) (hdst : o.dst = some d) {l : List AV} (hl : callArgs fr fo xs = some (f, l)) (ha : l = args.map (AV.ren (mp m))) (hw : wantA l0 fr o = some true) (hd : inFrame N o.dst = true) (hk : leB n0 (args.flatMap AV.keys) = true)
    (hf : FitB H (mp m) Hin) (hok : okCall n0 nx m Hin = true)
    (h : ∀ v Hout n1, Out v Hout n1 → awpL P E N l0 Q rest ⟨upd fr d (v.ren (mq m n0 nx)), afterH H m n0 nx Hin Hout, nx + (n1 - n0)⟩) : awpL P E N l0 Q (o :: rest) ⟨fr, H, nx⟩ :=
  w_H (σ := ⟨fr, H, nx⟩) hw hd (OpR.call hD ho m (ha ▸ hl) hk hf hok) fun _ _ _ ⟨v, Hout, n1, h1, e1, e2, e3⟩ => by subst e1 e2 e3; rw [hdst]; exact h v Hout n1 h1
end
section
variable {E : Env} {H : Nat → Option Blk} {nx : Nat}
theorem Ghost.retell (k kt : Nat) (e' : Elts) {t tt : TypeId} {c : Nat} {q : Bool} {e : Elts} {l : List Row} (hk : H k = some (.own t c e)) (hkt : H kt = some (.tok tt q l)) (e1 : e'.all = e.all) (e2 : e'.len = e.len) (e3 : e'.sz = e.sz) (hs : ∀ x ∈ e'.rds, x.1 = q ∧ x.2 ∈ l) : Ghost E H nx fun H' nx' => H' = upd H k (.own t c e') ∧ nx' = nx := fun ρ w h => by
  refine ⟨_, nx, ρ, ⟨rfl, rfl⟩, ?_, fun _ _ => rfl, Nat.le_refl _⟩
  have hb := h.blk k _ hk
  have hbt := h.blk kt _ hkt
  simp only [BlkOK] at hb hbt
  refine h.change hk ?_ (fun k' hk' => (h.key k _ hk).2 k' ?_) (fun _ => rfl) (fun _ => rfl) (fun _ _ => rfl) (fun _ e => nomatch e) (fun x hx => ?_) (fun k1 b1 p g h1 ho e1 hf => ?_) (fun _ _ _ e => nomatch e)
  · simp only [BlkOK, e1, e2, e3]; exact hb
  · have : k' ∈ keysOf e'.all := hk'
    rw [e1] at this; exact this
  · obtain ⟨f1, f2⟩ := hs x hx
    rw [f1]
    exact (hbt.2.1 x.2 f2).at_
  · obtain ⟨x, hx, h0, p', hp', rfl⟩ := hf
    obtain ⟨f1, f2⟩ := hs x hx
    have hF : (Blk.tok tt q l).Far p'.1 := ⟨x.2, f2, p', hp', rfl⟩
    by_cases c : k1 = k
    · subst c; rw [upd_same] at h1; cases h1
      exact h.far k1 kt _ _ p p'.1 hk hkt rfl e1 hF
    · rw [upd_ne c] at h1
      exact h.far k1 kt b1 _ p p'.1 h1 hkt ho e1 hF
end
end Go.Proofs.YtekpamojojfplaaGreat
namespace Go.Proofs.YtekpamojojfplaaGreat
open Go.RowKit
section
variable {E : Env} {ρ : Rho} {H : Nat → Option Blk} {nx : Nat} {w : World}
end
section
variable {P : Program} {E : Env} {N : Nat} {Q : Post} {fr : Nat → Option AV} {H : Nat → Option Blk} {nx : Nat} {l0 rest : List Oper} {code : Code}
end
end Go.Proofs.YtekpamojojfplaaGreat
namespace Go.Proofs.YtekpamojojfplaaGreat
open Go.RowKit
theorem own_i2A {t : TypeId} {c : Nat} {l l' : List RP} {m : Nat → Nat} (h : l = l') : some (Blk.own t c (.i2 l)) = some ((Blk.own t c (.i2 l')).ren m) := by subst h; rfl
def psX (l : List Row) : List (List RP) := l.map Row.ps
def AccR (tr t : TypeId) (o : Option (List (List RP) × List RP)) (k : Nat) (v : AV) (Hout : List (Nat × Blk)) (n1 : Nat) : Prop := match o with
  | none => v = .tup [.agg [.sl 0 1 0 0 0, .sl 0 2 0 0 0], .one (.bool false)] ∧ Hout = [] ∧ n1 = k
  | some st => ∃ l c1 c2, psX l = st.1 ∧ v = .tup [.agg [.sl k 1 0 l.length c1, .sl (k + 1) 2 0 st.2.length c2], .one (.bool true)] ∧ Hout = [(k, .own tr c1 (.rows true true l)), (k + 1, .own t c2 (.i2 st.2)), (k + 2, .tok t true l)] ∧ n1 = k + 3
set_option maxRecDepth 100000 in
set_option maxHeartbeats 16000000 in
theorem d_accI (n : Nat) (xs : List Int) (ca m : Nat) (hm : m = xs.length) (hx : xs.length = n * n) (hn : n ≤ 24) : Does Tryz.prog 161 [vM n n 1 m ca] [(1, .ro (.ints xs))] 2 (AccR 124 129 (acTo xs n n) 2) := by
 subst hm
 refine Does.intro TT Tryz.func161 rfl (by kernel_rfl) Zz Zz fun E hE => ?_
 ((repeat' (first | refine stx ?_ | (refine stq ?_ ?_ <;> (intro hc; ((try simp at hc) <;> try contradiction))) | fail)) <;> try (exfalso; omega))
 refine awp_nil (k := 4) (f := 0) (sz := 1) (et := 124) (e0 := .rows true true []) Zz Zz Zz Zz (fun _ h => by cases h) ?_
 refine awp_nil (k := 4) (f := 1) (sz := 2) (et := 129) (e0 := .i2 []) Zz Zz Zz Zz (fun _ h => by cases h) ?_
 ((first | refine awpL_ghost (Ghost.newTok 129 true) ?_ | refine awp_ghost (Ghost.newTok 129 true) ?_ | refine awpH_ghost (Ghost.newTok 129 true) ?_ | refine awpHop_ghost (Ghost.newTok 129 true) ?_); rintro _ _ ⟨rfl, rfl⟩)
 refine w_G hE (fun x : Nat × List Row × List RP × Nat × Nat => x.1 ≤ n ∧ acTo xs n x.1 = some (psX x.2.1, x.2.2.1)) (fun x => n - x.1)
  (fun x => [(1, .one (.ptr 2 3 0 0)), (2, .one (.ptr 3 2 0 0)), (4, .one (.ptr 4 2 0 0)), (5, vI x.1)])
  (fun x => [(1, .ro (.ints xs)), (2, .own 26 1 (.lit [.int n, .int n, .sl 1 1 0 xs.length ca])), (3, .own 142 1 (.lit [.sl 0 1 0 0 0, .sl 0 2 0 0 0])), (4, .own 142 1 (.lit [.sl 5 1 0 x.2.1.length x.2.2.2.1, .sl 6 2 0 x.2.2.1.length x.2.2.2.2])), (5, .own 124 x.2.2.2.1 (.rows true true x.2.1)), (6, .own 129 x.2.2.2.2 (.i2 x.2.2.1)), (7, .tok 129 true x.2.1)]) 8 [] (0, [], [], 0, 0) ⟨Nat.zero_le _, rfl⟩ ⟨w_1, w_2, rfl⟩ ?_
 rintro ⟨i, l, sq, c1, c2⟩ ⟨hi, hac⟩
 dsimp only at hi hac
 obtain ⟨len1, len2, len3⟩ := acTo_len hac
 dsimp only at len1 len2 len3
 have hn2 : xs.length ≤ 576 := by rw [hx]; exact Nat.mul_le_mul hn hn
 have hpl : ∀ p, p < i → (l.getD p rowD).ps = (psX l).getD p [] ∧ (l.getD p rowD).ps.length = p := fun p hp => by
  have e : (l.getD p rowD).ps = (psX l).getD p [] := by
   have : p < l.length := by rw [psX, List.length_map] at len1; omega
   rw [getD_in this, getD_in (by rw [psX, List.length_map]; exact this)]; simp [psX]
  exact ⟨e, by rw [e]; exact len3 p hp⟩
 have hll : l.length = i := by rw [psX, List.length_map] at len1; exact len1
 by_cases hin : i < n
 ·have hin2 : ¬ n ≤ i := by omega
  ((repeat' (first | refine stx ?_ | (refine stq ?_ ?_ <;> (intro hc; ((try simp at hc) <;> try contradiction))) | fail)) <;> try (exfalso; omega))
  refine w_G hE (fun x : Nat × List RP × List RP × Nat × Nat => x.1 ≤ i + 1 ∧ (x.1 ≤ i → acRow xs n i (psX l) sq x.1 = some x.2.1 ∧ x.2.2.1 = sq) ∧ (x.1 = i + 1 → acRow xs n i (psX l) sq i = some x.2.1 ∧ acTo xs n (i + 1) = some (psX l ++ [x.2.1], x.2.2.1))) (fun x => i + 1 - x.1)
   (fun x => [(1, .one (.ptr 2 3 0 0)), (2, .one (.ptr 3 2 0 0)), (4, .one (.ptr 4 2 0 0)), (5, vI i), (6, .one (.sl 8 2 0 x.2.1.length x.2.2.2.1)), (7, vI x.1)])
   (fun x => [(1, .ro (.ints xs)), (2, .own 26 1 (.lit [.int n, .int n, .sl 1 1 0 xs.length ca])), (3, .own 142 1 (.lit [.sl 0 1 0 0 0, .sl 0 2 0 0 0])), (4, .own 142 1 (.lit [.sl 5 1 0 l.length c1, .sl 6 2 0 x.2.2.1.length x.2.2.2.2])), (5, .own 124 c1 (.rows true true l)), (7, .tok 129 true l), (6, .own 129 x.2.2.2.2 (.i2 x.2.2.1)), (8, .own 129 x.2.2.2.1 (.i2 x.2.1))]) 9 [] (0, [], sq, 0, c2) ⟨Nat.zero_le _, fun _ => ⟨rfl, rfl⟩, fun h => by omega⟩ ⟨w_1, w_2, rfl⟩ ?_
  rintro ⟨j, row, sqq, cr, cs⟩ ⟨hj, hj1, hj2⟩
  dsimp only at hj hj1 hj2
  by_cases hji : j ≤ i
  ·have hji2 : ¬ i < j := by omega
   obtain ⟨hrow, rfl⟩ := hj1 hji
   have hrl := acRow_len hrow
   have eij : (i : Int) * n = ((i * n : Nat) : Int) := by simp
   have hrin : i * n + n ≤ xs.length := by
    rw [hx]
    have := Nat.mul_le_mul_right n (show i + 1 ≤ n by omega)
    rw [Nat.add_mul, Nat.one_mul] at this; exact this
   have hat := fun ca => d_at n n i j xs ca (by rw [eij]; omega) (by omega) (by rw [eij]; omega) (by omega)
   rw [show (0 + ((i : Int) * n + j).toNat) = i * n + j by rw [eij]; omega] at hat
   obtain ⟨x0, hx0⟩ : ∃ x0, x0 = xs.getD (i * n + j) 0 := ⟨_, rfl⟩
   rw [← hx0] at hat
   obtain ⟨oth, ho⟩ : ∃ oth, oth = if j = i then row else (psX l).getD j [] := ⟨_, rfl⟩
   ((repeat' (first | refine stx ?_ | refine zqc (hat _) ?_ | refine zqc (d_whole _) ?_ | (refine stq ?_ ?_ <;> (intro hc; ((try simp at hc) <;> try contradiction))) | fail)) <;> try (exfalso; omega))
   refine w_G hE (fun k : Nat => k ≤ j) (fun k => j - k)
    (fun k => [(1, .one (.ptr 2 3 0 0)), (2, .one (.ptr 3 2 0 0)), (4, .one (.ptr 4 2 0 0)), (5, vI i), (6, .one (.sl 8 2 0 row.length cr)), (7, vI j), (8, .one (.ptr 9 2 0 0)), (9, vI k)])
    (fun k => [(1, .ro (.ints xs)), (2, .own 26 1 (.lit [.int n, .int n, .sl 1 1 0 xs.length ca])), (3, .own 142 1 (.lit [.sl 0 1 0 0 0, .sl 0 2 0 0 0])), (4, .own 142 1 (.lit [.sl 5 1 0 l.length c1, .sl 6 2 0 sqq.length cs])), (5, .own 124 c1 (.rows true true l)), (7, .tok 129 true l), (6, .own 129 cs (.i2 sqq)), (8, .own 129 cr (.i2 row)), (9, .own 129 1 (.lit [.int (acR x0 row oth sqq k).1, .int (acR x0 row oth sqq k).2]))]) 10 [] 0 (Nat.zero_le _) ⟨w_1, w_2, rfl⟩ ?_
   intro k hk
   by_cases hkj : k < j
   ·have hkj2 : ¬ j ≤ k := by omega
    have e0 : 0 + (k : Int).toNat = k := by omega
    by_cases hii : j = i
    ·rw [if_pos hii] at ho
     have eq : subR (acR x0 row oth sqq k).1 (acR x0 row oth sqq k).2 (mulR (mulR (row.getD (0 + (k : Int).toNat) (0, 0)).1 (row.getD (0 + (k : Int).toNat) (0, 0)).2 (row.getD (0 + (k : Int).toNat) (0, 0)).1 (row.getD (0 + (k : Int).toNat) (0, 0)).2).1 (mulR (row.getD (0 + (k : Int).toNat) (0, 0)).1 (row.getD (0 + (k : Int).toNat) (0, 0)).2 (row.getD (0 + (k : Int).toNat) (0, 0)).1 (row.getD (0 + (k : Int).toNat) (0, 0)).2).2 (sqq.getD (0 + (k : Int).toNat) (0, 0)).1 (sqq.getD (0 + (k : Int).toNat) (0, 0)).2).1 (mulR (mulR (row.getD (0 + (k : Int).toNat) (0, 0)).1 (row.getD (0 + (k : Int).toNat) (0, 0)).2 (row.getD (0 + (k : Int).toNat) (0, 0)).1 (row.getD (0 + (k : Int).toNat) (0, 0)).2).1 (mulR (row.getD (0 + (k : Int).toNat) (0, 0)).1 (row.getD (0 + (k : Int).toNat) (0, 0)).2 (row.getD (0 + (k : Int).toNat) (0, 0)).1 (row.getD (0 + (k : Int).toNat) (0, 0)).2).2 (sqq.getD (0 + (k : Int).toNat) (0, 0)).1 (sqq.getD (0 + (k : Int).toNat) (0, 0)).2).2 = acR x0 row oth sqq (k + 1) := by rw [e0, ho]; rfl
     ((repeat' (first | refine stp ?_ | refine zqc (d_whole _) ?_ | (refine stq ?_ ?_ <;> (intro hc; ((try simp at hc) <;> try contradiction))) | fail)) <;> try (exfalso; omega))
     refine awp_held TM [(8, _), (10, _), (4, _), (6, _)] sb rfl (fun ρs => ?_)
     refine zt1 ?_
     refine zt2 ?_
     refine zt3 ?_
     refine zt4 ?_
     refine zt5 ?_
     refine zt7 ?_
     refine zt8 ?_
     refine zt9 ?_
     refine zt10 ?_
     refine zt11 ?_
     refine w_u [0, 6] kr rfl ⟨?_, ?_, trivial⟩
     first | (refine zho ?_) | refine zqb (d_mulRI _ _ _ _) ?_ | refine zqb (d_subRI _ _ _ _) ?_
     refine w_u [6] kr rfl ⟨?_, trivial⟩
     first | (refine zho ?_) | refine zqb (d_mulRI _ _ _ _) ?_ | refine zqb (d_subRI _ _ _ _) ?_
     refine w_u [12] kr rfl ⟨?_, trivial⟩
     first | (refine zho ?_) | refine zqb (d_mulRI _ _ _ _) ?_ | refine zqb (d_subRI _ _ _ _) ?_
     refine w_u [13] kr rfl ⟨?_, trivial⟩
     first | (refine zho ?_) | refine zqb (d_mulRI _ _ _ _) ?_ | refine zqb (d_subRI _ _ _ _) ?_
     refine w_u [14] kr rfl ⟨?_, trivial⟩
     first | (refine zho ?_) | refine zqb (d_mulRI _ _ _ _) ?_ | refine zqb (d_subRI _ _ _ _) ?_
     refine w_v kr ?_
     rotate_left
     first | (refine zho ?_) | refine zqb (d_mulRI _ _ _ _) ?_ | refine zqb (d_subRI _ _ _ _) ?_
     refine w_u [0, 12] kr rfl ⟨?_, ?_, trivial⟩
     first | (refine zho ?_) | refine zqb (d_mulRI _ _ _ _) ?_ | refine zqb (d_subRI _ _ _ _) ?_
     refine w_u [12] kr rfl ⟨?_, trivial⟩
     first | (refine zho ?_) | refine zqb (d_mulRI _ _ _ _) ?_ | refine zqb (d_subRI _ _ _ _) ?_
     refine w_u [13] kr rfl ⟨?_, trivial⟩
     first | (refine zho ?_) | refine zqb (d_mulRI _ _ _ _) ?_ | refine zqb (d_subRI _ _ _ _) ?_
     refine w_u [14] kr rfl ⟨?_, trivial⟩
     first | (refine zho ?_) | refine zqb (d_mulRI _ _ _ _) ?_ | refine zqb (d_subRI _ _ _ _) ?_
     refine w_v kr ?_
     rotate_left
     first | (refine zho ?_) | refine zqb (d_mulRI _ _ _ _) ?_ | refine zqb (d_subRI _ _ _ _) ?_
     refine w_u [0] kr rfl ⟨?_, trivial⟩
     first | (refine zho ?_) | refine zqb (d_mulRI _ _ _ _) ?_ | refine zqb (d_subRI _ _ _ _) ?_
     refine w_u [13] kr rfl ⟨?_, trivial⟩
     first | (refine zho ?_) | refine zqb (d_mulRI _ _ _ _) ?_ | refine zqb (d_subRI _ _ _ _) ?_
     refine w_u [14] kr rfl ⟨?_, trivial⟩
     first | (refine zho ?_) | refine zqb (d_mulRI _ _ _ _) ?_ | refine zqb (d_subRI _ _ _ _) ?_
     refine w_v kr ?_
     rotate_left
     all_goals ((repeat' (first | refine stx ?_ | (refine stq ?_ ?_ <;> (intro hc; ((try simp at hc) <;> try contradiction))) | fail)) <;> try (exfalso; omega))
     all_goals exact ⟨[], k + 1, hkj, w_4, ⟨w_1, ⟨rfl, rfl, rfl, rfl, rfl, rfl, rfl, rfl, congrArg (fun p : RP => some (Blk.own 129 1 (.lit [.int p.1, .int p.2]))) eq, trivial⟩, rfl⟩⟩
    ·rw [if_neg hii] at ho
     have hjl : j < l.length := by omega
     have hps := hpl j (by omega)
     have ex : (l.getD (0 + (j : Int).toNat) rowD).ps = oth := by rw [show 0 + (j : Int).toNat = j by omega, ho]; exact hps.1
     have exl : (l.getD (0 + (j : Int).toNat) rowD).ps.length = j := by rw [show 0 + (j : Int).toNat = j by omega]; exact hps.2
     have exn : (l[j]?.getD rowD).ps.length = j := by rw [← List.getD_eq_getElem?_getD]; exact hps.2
     ((repeat' (first | refine stp ?_ | refine zqc (d_whole _) ?_ | (refine stq ?_ ?_ <;> (intro hc; ((try simp at hc) <;> try contradiction))) | fail)) <;> try (exfalso; omega))
     refine awp_held TM [(8, _), (10, _), (4, _), (6, _)] sb rfl (fun ρs => ?_)
     refine zt1 ?_
     refine zt2 ?_
     refine zt3 ?_
     refine zt4 ?_
     refine zt5 ?_
     refine zt7 ?_
     refine zt8 ?_
     refine zt9 ?_
     refine zt10 ?_
     refine zt11 ?_
     refine w_u [0, 6] kr rfl ⟨?_, ?_, trivial⟩
     first | (refine zho ?_) | refine zqb (d_mulRI _ _ _ _) ?_ | refine zqb (d_subRI _ _ _ _) ?_
     refine w_u [6] kr rfl ⟨?_, trivial⟩
     first | (refine zho ?_) | refine zqb (d_mulRI _ _ _ _) ?_ | refine zqb (d_subRI _ _ _ _) ?_
     refine w_u [12] kr rfl ⟨?_, trivial⟩
     first | (refine zho ?_) | refine zqb (d_mulRI _ _ _ _) ?_ | refine zqb (d_subRI _ _ _ _) ?_
     refine w_u [13] kr rfl ⟨?_, trivial⟩
     first | (refine zho ?_) | refine zqb (d_mulRI _ _ _ _) ?_ | refine zqb (d_subRI _ _ _ _) ?_
     refine w_u [14] kr rfl ⟨?_, trivial⟩
     first | (refine zho ?_) | refine zqb (d_mulRI _ _ _ _) ?_ | refine zqb (d_subRI _ _ _ _) ?_
     refine w_v kr ?_
     rotate_left
     first | (refine zho ?_) | refine zqb (d_mulRI _ _ _ _) ?_ | refine zqb (d_subRI _ _ _ _) ?_
     refine w_u [0, 12] kr rfl ⟨?_, ?_, trivial⟩
     first | (refine zho ?_) | refine zqb (d_mulRI _ _ _ _) ?_ | refine zqb (d_subRI _ _ _ _) ?_
     refine w_u [12] kr rfl ⟨?_, trivial⟩
     first | (refine zho ?_) | refine zqb (d_mulRI _ _ _ _) ?_ | refine zqb (d_subRI _ _ _ _) ?_
     refine w_u [13] kr rfl ⟨?_, trivial⟩
     first | (refine zho ?_) | refine zqb (d_mulRI _ _ _ _) ?_ | refine zqb (d_subRI _ _ _ _) ?_
     refine w_u [14] kr rfl ⟨?_, trivial⟩
     first | (refine zho ?_) | refine zqb (d_mulRI _ _ _ _) ?_ | refine zqb (d_subRI _ _ _ _) ?_
     refine w_v kr ?_
     rotate_left
     first | (refine zho ?_) | refine zqb (d_mulRI _ _ _ _) ?_ | refine zqb (d_subRI _ _ _ _) ?_
     refine w_u [0] kr rfl ⟨?_, trivial⟩
     first | (refine zho ?_) | refine zqb (d_mulRI _ _ _ _) ?_ | refine zqb (d_subRI _ _ _ _) ?_
     refine w_u [13] kr rfl ⟨?_, trivial⟩
     first | (refine zho ?_) | refine zqb (d_mulRI _ _ _ _) ?_ | refine zqb (d_subRI _ _ _ _) ?_
     refine w_u [14] kr rfl ⟨?_, trivial⟩
     first | (refine zho ?_) | refine zqb (d_mulRI _ _ _ _) ?_ | refine zqb (d_subRI _ _ _ _) ?_
     refine w_v kr ?_
     rotate_left
     all_goals ((repeat' (first | refine stx ?_ | (refine stq ?_ ?_ <;> (intro hc; ((try simp at hc) <;> try contradiction))) | fail)) <;> try (exfalso; omega))
     all_goals exact ⟨[], k + 1, hkj, w_4, ⟨w_1, ⟨rfl, rfl, rfl, rfl, rfl, rfl, rfl, rfl, congrArg (fun p : RP => some (Blk.own 129 1 (.lit [.int p.1, .int p.2]))) (by rw [e0, ex]; rfl), trivial⟩, rfl⟩⟩
   ·obtain rfl : k = j := by omega
    cases hr : ratP (acR x0 row oth sqq k) with
    | false =>
     have hno : acTo xs n n = none := by
      have h1 : acTo xs n (i + 1) = none := by
       rw [acTo, hac, Option.bind_some]
       rcases Nat.lt_or_ge k i with c | c
       ·have h2 : acRow xs n i (psX l) sqq (k + 1) = none := by
         rw [if_neg (by omega)] at ho
         rw [acRow, hrow, Option.bind_some, ← hx0, ← ho, hr]; rfl
        have h3 := acRow_none h2 (i - (k + 1))
        rw [show k + 1 + (i - (k + 1)) = i by omega] at h3
        rw [h3]; rfl
       ·obtain rfl : k = i := by omega
        rw [if_pos rfl] at ho
        rw [hrow, Option.bind_some, ← hx0]
        rw [ho] at hr
        rw [hr]; rfl
      have := acTo_none h1 (n - (i + 1))
      rwa [show i + 1 + (n - (i + 1)) = n by omega] at this
     have hrt := d_ratioI (acR x0 row oth sqq k).1 (acR x0 row oth sqq k).2
     rw [show ratioB (acR x0 row oth sqq k).1 (acR x0 row oth sqq k).2 = false from hr] at hrt
     rw [hno]
     ((repeat' (first | refine stx ?_ | refine zqc (hrt) ?_ | (refine stq ?_ ?_ <;> (intro hc; ((try simp at hc) <;> try contradiction))) | fail)) <;> try (exfalso; omega))
     exact fin rfl w_3 [] (.tup [.agg [.sl 0 1 0 0 0, .sl 0 2 0 0 0], .one (.bool false)]) [] 2 ⟨rfl, rfl, rfl⟩ rfl ⟨trivial, trivial, rfl⟩ rfl
    | true =>
     have hrt := d_ratioI (acR x0 row oth sqq k).1 (acR x0 row oth sqq k).2
     rw [show ratioB (acR x0 row oth sqq k).1 (acR x0 row oth sqq k).2 = true from hr] at hrt
     rcases Nat.lt_or_ge k i with c | c
     ·have e0 : 0 + (k : Int).toNat = k := by omega
      rw [if_neg (by omega)] at ho
      have hnx : acRow xs n i (psX l) sqq (k + 1) = some (row ++ [divP (acR x0 row oth sqq k) (sqq.getD k (0, 0))]) := by
       rw [acRow, hrow, Option.bind_some, ← hx0, ← ho, hr]; rfl
      ((repeat' (first | refine stp ?_ | refine zqc (hrt) ?_ | (refine stq ?_ ?_ <;> (intro hc; ((try simp at hc) <;> try contradiction))) | fail)) <;> try (exfalso; omega))
      refine awp_held TM [(9, _), (4, _), (6, _)] sb rfl (fun ρs => ?_)
      refine zt0 ?_
      refine zt1 ?_
      refine zt2 ?_
      refine zt3 ?_
      refine zt4 ?_
      refine zt5 ?_
      refine zt6 ?_
      refine w_u [7] kr rfl ⟨?_, trivial⟩
      first | (refine zho ?_) | refine zqb (d_divRI _ _ _ _) ?_ | (refine zqy ?_; intro cap hcap)
      refine w_u [8] kr rfl ⟨?_, trivial⟩
      first | (refine zho ?_) | refine zqb (d_divRI _ _ _ _) ?_ | (refine zqy ?_; intro cap hcap)
      refine w_u [9] kr rfl ⟨?_, trivial⟩
      first | (refine zho ?_) | refine zqb (d_divRI _ _ _ _) ?_ | (refine zqy ?_; intro cap hcap)
      refine zt10 ?_
      refine w_v kr ?_
      rotate_left
      all_goals ((repeat' (first | refine stx ?_ | (refine stq ?_ ?_ <;> (intro hc; ((try simp at hc) <;> try contradiction))) | fail)) <;> try (exfalso; omega))
      all_goals exact ⟨[(8, 11)], (k + 1, row ++ [divP (acR x0 row oth sqq k) (sqq.getD k (0, 0))], sqq, cap, cs), ⟨by dsimp only; omega, fun _ => ⟨hnx, rfl⟩, fun h => by dsimp only at h; omega⟩, w_4, ⟨w_1, ⟨rfl, rfl, rfl, rfl, rfl, rfl, rfl, own_i2A (by rw [e0]; rfl), trivial⟩, rfl⟩⟩
     ·obtain rfl : k = i := by omega
      rw [if_pos rfl] at ho
      by_cases hp : 0 < (acR x0 row oth sqq k).1
      ·have hnx : acTo xs n (k + 1) = some (psX l ++ [row], sqq ++ [acR x0 row oth sqq k]) := by
        rw [acTo, hac, Option.bind_some, hrow, Option.bind_some, ← hx0]
        rw [ho] at hr hp
        rw [hr, decide_eq_true hp, ho]; rfl
       have hpn : ¬ (acR x0 row oth sqq k).1 ≤ 0 := by omega
       ((repeat' (first | refine stx ?_ | refine zqc (hrt) ?_ | (refine zqx ?_; intro cap hcap) | (refine stq ?_ ?_ <;> (intro hc; ((try simp at hc) <;> try contradiction))) | fail)) <;> try (exfalso; omega))
       exact ⟨[(6, 11)], (k + 1, row, sqq ++ [acR x0 row oth sqq k], cr, cap), ⟨Nat.le_refl _, fun h => by dsimp only at h; omega, fun _ => ⟨hrow, hnx⟩⟩, w_4, ⟨w_1, ⟨rfl, rfl, rfl, congrArg (fun m => some (Blk.own 142 1 (.lit [.sl 5 1 0 l.length c1, .sl 11 2 0 m cap]))) (by simp), rfl, rfl, rfl, rfl, trivial⟩, rfl⟩⟩
      ·have hno : acTo xs n n = none := by
        have h1 : acTo xs n (k + 1) = none := by
         rw [acTo, hac, Option.bind_some, hrow, Option.bind_some, ← hx0]
         rw [ho] at hp
         rw [decide_eq_false hp, Bool.and_false]; rfl
        have := acTo_none h1 (n - (k + 1))
        rwa [show k + 1 + (n - (k + 1)) = n by omega] at this
       have hpn : (acR x0 row oth sqq k).1 ≤ 0 := by omega
       rw [hno]
       ((repeat' (first | refine stx ?_ | refine zqc (hrt) ?_ | (refine stq ?_ ?_ <;> (intro hc; ((try simp at hc) <;> try contradiction))) | fail)) <;> try (exfalso; omega))
       exact fin rfl w_3 [] (.tup [.agg [.sl 0 1 0 0 0, .sl 0 2 0 0 0], .one (.bool false)]) [] 2 ⟨rfl, rfl, rfl⟩ rfl ⟨trivial, trivial, rfl⟩ rfl
  ·obtain rfl : j = i + 1 := by omega
   obtain ⟨hrow, hnx⟩ := hj2 rfl
   have hjn : ¬ ((i + 1 : Nat) : Int) ≤ i := by omega
   have hjn2 : i < i + 1 := by omega
   ((first | refine awpL_ghost (Ghost.freezeP 8 7 Zz Zz) ?_ | refine awp_ghost (Ghost.freezeP 8 7 Zz Zz) ?_ | refine awpH_ghost (Ghost.freezeP 8 7 Zz Zz) ?_ | refine awpHop_ghost (Ghost.freezeP 8 7 Zz Zz) ?_); rintro _ _ ⟨ar, rfl, rfl⟩)
   ((repeat' (first | refine stx ?_ | (refine zqx ?_; intro cap hcap) | (refine stq ?_ ?_ <;> (intro hc; ((try simp at hc) <;> try contradiction))) | fail)) <;> try (exfalso; omega))
   exact ⟨[(5, 10)], (i + 1, l ++ [⟨ar, cr, [], row⟩], sqq, cap, cs), ⟨hin, by rw [hnx, psX, psX, List.map_append]; rfl⟩, w_4, ⟨w_1, ⟨rfl, rfl, rfl, congrArg (fun m => some (Blk.own 142 1 (.lit [.sl 10 1 0 m cap, .sl 6 2 0 sqq.length cs]))) (by simp), rfl, rfl, rfl, trivial⟩, rfl⟩⟩
 ·obtain rfl : i = n := by omega
  rw [hac]
  ((repeat' (first | refine stx ?_ | (refine stq ?_ ?_ <;> (intro hc; ((try simp at hc) <;> try contradiction))) | fail)) <;> try (exfalso; omega))
  exact fin rfl w_3 [(2, 5), (3, 6), (4, 7)] (.tup [.agg [.sl 2 1 0 l.length c1, .sl 3 2 0 sq.length c2], .one (.bool true)]) [(2, .own 124 c1 (.rows true true l)), (3, .own 129 c2 (.i2 sq)), (4, .tok 129 true l)] 5 ⟨l, c1, c2, rfl, rfl, rfl, rfl⟩ rfl ⟨trivial, ⟨rfl, rfl, rfl, trivial⟩, rfl⟩ rfl
end Go.Proofs.YtekpamojojfplaaGreat
