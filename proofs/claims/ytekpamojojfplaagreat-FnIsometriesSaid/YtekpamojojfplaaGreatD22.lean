/-
  TEXTS OF THE PROOF, put together: Am10, Am11, bSortG, bSortV.
-/
import Derived.Test.YtekpamojojfplaaGreatD12
import Derived.Test.YtekpamojojfplaaGreatD08
import Derived.Shelf.SlSortCmp.WholeK
import Derived.Shelf.SlSortCmp.NoneTotal
import Derived.Test.YtekpamojojfplaaGreatD21
set_option linter.unusedVariables false
set_option linter.unusedSimpArgs false
namespace Go.Proofs.YtekpamojojfplaaGreat
open Go.RowKit
def Row.put (r : Row) (ys : List Int) : Row := ⟨r.a, r.cap, ys, r.ps⟩
def forgetH (H : Nat → Option Blk) : Nat → Option Blk := fun k => match H k with
  | some b => some b.forget
  | none => none
section
variable {E : Env} {ρ : Rho} {H : Nat → Option Blk} {nx : Nat} {w w' : World}
theorem forgetH_at {k : Nat} {b : Blk} (h : forgetH H k = some b) : ∃ b0, H k = some b0 ∧ b = b0.forget := by
  unfold forgetH at h
  split at h
  · cases h; exact ⟨_, ‹_›, rfl⟩
  · cases h
theorem HInv.rowPut (h : HInv E ρ H nx w) {kt : Nat} {t : TypeId} {q : Bool} {l1 l2 : List Row} {r r' : Row} (hkt : H kt = some (.tok t q (l1 ++ r :: l2))) (ha : r'.a = r.a) (hr' : RowOwn w' t q r') {row : Option Nat} (hg : w.grownBy w' row) (hrow : ∀ g, row = some g → ∃ p, r.a = some p ∧ p.1 = g) :
    HInv E ρ (upd (forgetH H) kt (.tok t q (l1 ++ r' :: l2))) nx w' := by
  have hbt := h.blk kt _ hkt
  simp only [BlkOK] at hbt
  obtain ⟨hz, hown, hpw⟩ := hbt
  have hpw2 := List.pairwise_append.1 hpw
  have hpw3 := List.pairwise_cons.1 hpw2.2.1
  have hfarT : ∀ r1, r1 ∈ l1 ∨ r1 ∈ l2 → Apart r1 r := fun r1 hr1 => by
    rcases hr1 with h1 | h1
    · exact hpw2.2.2 r1 h1 r (by simp)
    · exact (hpw3.1 r1 h1).symm
  have hmem : ∀ r1 ∈ l1 ++ r' :: l2, ∃ r0 ∈ l1 ++ r :: l2, r0.a = r1.a := fun r1 hr1 => by
    rcases List.mem_append.1 hr1 with h1 | h1
    · exact ⟨r1, List.mem_append_left _ h1, rfl⟩
    · rcases List.mem_cons.1 h1 with rfl | h1
      · exact ⟨r, by simp, ha.symm⟩
      · exact ⟨r1, List.mem_append_right _ (List.mem_cons_of_mem _ h1), rfl⟩
  have hap : ∀ s, Apart r s → Apart r' s := fun s hs p p' hp hp' => hs p p' (ha ▸ hp) hp'
  have hcase : ∀ k b, upd (forgetH H) kt (.tok t q (l1 ++ r' :: l2)) k = some b → (k = kt ∧ b = .tok t q (l1 ++ r' :: l2)) ∨ (k ≠ kt ∧ ∃ b0, H k = some b0 ∧ b = b0.forget) := fun k b hu => by
    by_cases c : k = kt
    · subst c; rw [upd_same] at hu; cases hu; exact .inl ⟨rfl, rfl⟩
    · rw [upd_ne c] at hu; exact .inr ⟨c, forgetH_at hu⟩
  have hFr : ∀ p, r.a = some p → (Blk.tok t q (l1 ++ r :: l2)).Far p.1 := fun p hp => ⟨r, by simp, p, hp, rfl⟩
  have hrowne : ∀ g, (∀ p, r.a = some p → g ≠ p.1) → some g ≠ row := fun g hne e => by
    obtain ⟨p, hp, hpg⟩ := hrow g e.symm
    exact hne p hp hpg.symm
  refine ⟨h.nil, fun k b hu => ?_, fun k b hu => ?_, fun k k' b b' p p' hu hu' ho hl hne e e' => ?_, fun k b p hu hl hal hn e => ?_, fun k b hu ho hn => ?_, h.keeps.grown hg (fun g e => ?_), h.ent, h.n0, h.pos, fun k b hu x hx => ?_, fun k k' b b' p g hu hu' ho e hf => ?_, fun k k' t1 t2 q1 q2 m1 m2 hu hu' hne r1 hr1 r2 hr2 => ?_, fun k t1 q1 m1 hu r1 hr1 p hp => ?_, fun k k' t1 q1 m1 e p hu hu' hl e1 r1 hr1 p' hp' => ?_⟩
  · rcases hcase k b hu with ⟨rfl, rfl⟩ | ⟨c, b0, hb0, rfl⟩
    · refine ⟨hz, fun r1 hr1 => ?_, ?_⟩
      · rcases List.mem_append.1 hr1 with h1 | h1
        · exact (hown r1 (List.mem_append_left _ h1)).grown hg fun p hp => hrowne p.1 fun p2 hp2 => hfarT r1 (.inl h1) p p2 hp hp2
        · rcases List.mem_cons.1 h1 with rfl | h1
          · exact hr'
          · exact (hown r1 (List.mem_append_right _ (List.mem_cons_of_mem _ h1))).grown hg fun p hp => hrowne p.1 fun p2 hp2 => hfarT r1 (.inr h1) p p2 hp hp2
      · refine List.pairwise_append.2 ⟨hpw2.1, List.pairwise_cons.2 ⟨fun s hs => hap s (hpw3.1 s hs), hpw3.2⟩, fun s hs s' hs' => ?_⟩
        rcases List.mem_cons.1 hs' with rfl | hs'
        · exact (hap s (hfarT s (.inl hs)).symm).symm
        · exact hpw2.2.2 s hs s' (List.mem_cons_of_mem _ hs')
    · have hb1 : BlkOK ρ k w b0.forget := (h.blk k b0 hb0).forget
      refine hb1.grown hg (fun hl p hp => hrowne p.1 fun p2 hp2 => ?_) fun g hf => hrowne g fun p2 hp2 => ?_
      · have hl0 := Blk.forget_live b0 hl
        cases b0 with
        | dead => cases hl
        | ro e0 => exact fun e => h.tr kt k t q _ e0 p hkt hb0 (Blk.live_ro hl0) hp r (by simp) p2 hp2 e
        | own t0 c0 e0 => exact h.far k kt _ _ p p2.1 hb0 hkt rfl hp (hFr p2 hp2)
        | al a0 e0 => cases hl
        | tok t0 q0 m0 =>
          have := h.blk k _ hb0
          simp only [BlkOK] at this
          rw [this.1] at hp; cases hp
      · obtain ⟨t0, q0, m0, rfl⟩ := Blk.forget_Far hf
        obtain ⟨s, hs, p, hp, rfl⟩ := hf
        exact h.tt k kt t0 t q0 q m0 _ hb0 hkt c s hs r (by simp) p p2 hp hp2
  · rcases hcase k b hu with ⟨rfl, rfl⟩ | ⟨c, b0, hb0, rfl⟩
    · exact ⟨(h.key _ _ hkt).1, fun _ hk => by cases hk⟩
    · have hx := h.key k b0 hb0
      exact ⟨hx.1, fun k' hk' => hx.2 k' (Blk.forget_keys b0 k' hk')⟩
  · rcases hcase k b hu with ⟨rfl, rfl⟩ | ⟨c, b0, hb0, rfl⟩
    · rw [hz] at e; cases e
    · rcases hcase k' b' hu' with ⟨rfl, rfl⟩ | ⟨c', b0', hb0', rfl⟩
      · rw [hz] at e'; cases e'
      · exact h.inj k k' b0 b0' p p' hb0 hb0' (by rw [← Blk.forget_own]; exact ho) (Blk.forget_live b0' hl) hne e e'
  · rcases hcase k b hu with ⟨rfl, rfl⟩ | ⟨c, b0, hb0, rfl⟩
    · rw [hz] at e; cases e
    · refine h.new k b0 p hb0 (Blk.forget_live b0 hl) ?_ hn e
      cases b0 with
      | al a0 e0 => cases hl
      | _ => rfl
  · rcases hcase k b hu with ⟨rfl, rfl⟩ | ⟨c, b0, hb0, rfl⟩
    · exact h.old _ _ hkt rfl hn
    · exact h.old k b0 hb0 (by rw [← Blk.forget_own]; exact ho) hn
  · obtain ⟨p, hp, hpg⟩ := hrow g e
    rw [← hpg]; exact h.tw kt t q _ hkt r (by simp) p hp
  · rcases hcase k b hu with ⟨rfl, rfl⟩ | ⟨c, b0, hb0, rfl⟩
    · cases hx
    · rw [Blk.forget_rds] at hx; cases hx
  · rcases hcase k b hu with ⟨rfl, rfl⟩ | ⟨c, b0, hb0, rfl⟩
    · rw [hz] at e; cases e
    · rw [Blk.forget_own] at ho
      rcases hcase k' b' hu' with ⟨rfl, rfl⟩ | ⟨c', b0', hb0', rfl⟩
      · obtain ⟨r1, hr1, p1, hp1, rfl⟩ := hf
        obtain ⟨r0, hr0, e0⟩ := hmem r1 hr1
        exact h.far k _ b0 _ p p1.1 hb0 hkt ho e ⟨r0, hr0, p1, by rw [e0]; exact hp1, rfl⟩
      · obtain ⟨t0, q0, m0, rfl⟩ := Blk.forget_Far hf
        exact h.far k k' b0 _ p g hb0 hb0' ho e hf
  · rcases hcase k _ hu with ⟨rfl, c1⟩ | ⟨c, b0, hb0, c1⟩
    · cases c1
      obtain ⟨r0, hr0, e0⟩ := hmem r1 hr1
      rcases hcase k' _ hu' with ⟨rfl, c2⟩ | ⟨c', b0', hb0', c2⟩
      · exact absurd rfl hne
      · have := forget_tok c2.symm
        subst this
        exact fun p p' hp hp' => h.tt _ k' t t2 q q2 _ m2 hkt hb0' hne r0 hr0 r2 hr2 p p' (by rw [e0]; exact hp) hp'
    · have := forget_tok c1.symm
      subst this
      rcases hcase k' _ hu' with ⟨rfl, c2⟩ | ⟨c', b0', hb0', c2⟩
      · cases c2
        obtain ⟨r0, hr0, e0⟩ := hmem r2 hr2
        exact fun p p' hp hp' => h.tt k _ t1 t q1 q m1 _ hb0 hkt hne r1 hr1 r0 hr0 p p' hp (by rw [e0]; exact hp')
      · have := forget_tok c2.symm
        subst this
        exact h.tt k k' t1 t2 q1 q2 m1 m2 hb0 hb0' hne r1 hr1 r2 hr2
  · rcases hcase k _ hu with ⟨rfl, c1⟩ | ⟨c, b0, hb0, c1⟩
    · cases c1
      obtain ⟨r0, hr0, e0⟩ := hmem r1 hr1
      exact h.tw _ t q _ hkt r0 hr0 p (by rw [e0]; exact hp)
    · have := forget_tok c1.symm
      subst this
      exact h.tw k t1 q1 m1 hb0 r1 hr1 p hp
  · rcases hcase k' _ hu' with ⟨rfl, c2⟩ | ⟨c', b0', hb0', c2⟩
    · cases c2
    · obtain ⟨e0, rfl, h2⟩ := forget_ro c2.symm
      rcases hcase k _ hu with ⟨rfl, c1⟩ | ⟨c, b0, hb0, c1⟩
      · cases c1
        obtain ⟨r0, hr0, e3⟩ := hmem r1 hr1
        exact h.tr _ k' t q _ e0 p hkt hb0' (by omega) e1 r0 hr0 p' (by rw [e3]; exact hp')
      · have := forget_tok c1.symm
        subst this
        exact h.tr k k' t1 q1 m1 e0 p hb0 hb0' (by omega) e1 r1 hr1 p' hp'
theorem HInv.rowIn (h : HInv E ρ H nx w) {kt : Nat} {t : TypeId} {l1 l2 : List Row} {r : Row} (hkt : H kt = some (.tok t false (l1 ++ r :: l2))) :
    HInv (envOf w (fun k => if k = 1 then r.a else none) [(1, .own t r.cap (.ints r.xs))] 2) (fun k => if k = 1 then r.a else none) (lk [(1, .own t r.cap (.ints r.xs))]) 2 w := by
  have hbt := h.blk kt _ hkt
  simp only [BlkOK] at hbt
  have hr := hbt.2.1 r (by simp)
  have hlk : ∀ k b, lk [(1, Blk.own t r.cap (.ints r.xs))] k = some b → k = 1 ∧ b = .own t r.cap (.ints r.xs) := fun k b hb => by
    unfold lk at hb
    cases e : Nat.beq k 1 with
    | true => rw [e] at hb; cases hb; exact ⟨Nat.eq_of_beq_eq_true e, rfl⟩
    | false => rw [e] at hb; cases hb
  have hnoF : ∀ g, ¬ (Blk.own t r.cap (.ints r.xs)).Far g := fun g ⟨x, hx, _⟩ => by cases hx
  refine ⟨rfl, fun k b hb => ?_, fun k b hb => ?_, fun k k' b b' p p' hb hb' _ _ hne => ?_, fun k b p hb _ _ hn => ?_, fun k b hb ho _ => ⟨b, hb, ho⟩, ⟨rfl, rfl, rfl, Nat.le_refl _, fun _ _ _ _ => rfl⟩, fun _ _ => rfl, Nat.le_refl _, Nat.zero_lt_succ _, fun k b hb x hx => ?_, fun k k' b b' p g hb hb' _ _ hf => ?_, fun k k' t1 t2 q1 q2 m1 m2 hb => ?_, fun k t1 q1 m1 hb => ?_, fun k k' t1 q1 m1 e p hb => ?_⟩
  · obtain ⟨rfl, rfl⟩ := hlk k b hb
    have e2 : cells (fun k => if k = 1 then r.a else none) (r.svs false) = cells noRho (r.svs false) := List.map_congr_left fun s hs => noKeys_conc (Row.svs_keys false r s hs) _ noRho
    have e3 : (Elts.ints r.xs).all = r.svs false := rfl
    have e1 : Value.slice (adr (fun k => if k = 1 then r.a else none) 1 0) (Elts.ints r.xs).len r.cap = r.val false := by simp [Row.val, adr, Row.len, Elts.len]
    simp only [BlkOK]
    rw [e1, e3, e2]
    exact hr
  · obtain ⟨rfl, rfl⟩ := hlk k b hb
    exact ⟨Nat.lt_succ_self _, fun k' hk' => by simp [Blk.keys, Elts.keys, Elts.all, ints_keys] at hk'⟩
  · obtain ⟨rfl, _⟩ := hlk k b hb
    obtain ⟨rfl, _⟩ := hlk k' b' hb'
    exact absurd rfl hne
  · obtain ⟨rfl, _⟩ := hlk k b hb
    exact absurd hn (by simp [envOf])
  · obtain ⟨rfl, rfl⟩ := hlk k b hb
    cases hx
  · obtain ⟨rfl, rfl⟩ := hlk k' b' hb'
    exact (hnoF g hf).elim
  · cases (hlk k _ hb).2
  · cases (hlk k _ hb).2
  · cases (hlk k _ hb).2
end
section
variable {P : Program} {E : Env} {N : Nat} {Q : Post} {fr : Nat → Option AV} {H : Nat → Option Blk} {nx : Nat} {l0 rest : List Oper} {σ : St}
theorem OpR.row {o : Oper} {f : FuncId} {r : Row} {t : TypeId} {args : List AV} {v : AV} {ys : List Int} {c : Nat} (hD : Does P f (.one (.sl 1 1 0 r.xs.length c) :: args) [(1, .own t r.cap (.ints r.xs))] 2 (fun v' Hout n1 => v' = v ∧ Hout = [(1, .own t r.cap (.ints ys))] ∧ n1 = 2)) (hcc : c = r.cap)
    {fo : Operand} {xs : Array Operand} {ts : Array TypeId} (ho : o.op = .call ⟨.value fo, xs, ts⟩) (hl : callArgs σ.fr fo xs = some (f, .one (.hd r.a r.xs.length r.cap) :: args)) (hk : args.flatMap AV.keys = []) (hv : v.keys = []) {kt : Nat} {l1 l2 : List Row} (hkt : σ.H kt = some (.tok t false (l1 ++ r :: l2))) :
    OpR P o E N σ (det v (upd (forgetH σ.H) kt (.tok t false (l1 ++ r.put ys :: l2))) σ.nx) := by
  subst hcc
  intro ρ a w hI K Q hK
  obtain ⟨⟨fn, hfn, hnm, hbody⟩, hcalls⟩ := hD
  unfold callArgs at hl
  split at hl
  · rename_i g caps l hg hlv
    simp only [Option.some.injEq, Prod.mk.injEq] at hl
    obtain ⟨rfl, hargs⟩ := hl
    obtain ⟨e1, _⟩ := ev_sound hI.f hI.h.nil hI.h.hb.pos hg
    obtain ⟨e2, _⟩ := evs_sound hI hlv
    have e1' : a.eval fo = .func (.func g) #[] (caps.map fun p => Value.pointer (adr ρ p.1 0)).toArray := e1
    let ρc : Rho := fun k => if k = 1 then r.a else none
    have hconc : (AV.one (.sl 1 1 0 r.xs.length r.cap) :: args).map (AV.conc ρc) = (l ++ caps.map capAV).map (AV.conc ρ) := by
      rw [hargs]
      simp only [List.map_cons]
      rw [List.cons.injEq]
      refine ⟨?_, ?_⟩
      · simp [AV.conc, SV.conc, adr, ρc]
      · refine List.map_congr_left fun u hu => AV.conc_congr fun k hk' => ?_
        have : k ∈ args.flatMap AV.keys := List.mem_flatMap.2 ⟨u, hu, hk'⟩
        rw [hk] at this; cases this
    have hrun : (execOp a.eval o).run P w = .ok (.enter g ((AV.one (.sl 1 1 0 r.xs.length r.cap) :: args).map (AV.conc ρc)).toArray) w := by
      have hxs : xs.map a.eval = (l.map (AV.conc ρ)).toArray := by rw [← e2, ← Array.toList_map, Array.toArray_toList]
      simp only [execOp, ho, resolve, e1', hxs, Deferred.ofValue, Sem.run_bind, Sem.run_pure, Result.andThen_ok, invoke, callFunc]
      rw [hconc]
      have hnm' : fn.name ≠ "runtime.NumGoroutine" := by simpa using hnm
      have hbody' : fn.body ≠ none := fun e => by rw [e] at hbody; cases hbody
      simp [hfn, hnm', hbody', List.map_map]
      intro a b _
      simp [capAV, AV.conc, SV.conc]
    have hc := hcalls ρc w (hI.h.rowIn hkt) (fun u hu k hk' => by
      rcases List.mem_cons.1 hu with rfl | hu
      · simp [AV.keys, SV.keys] at hk'; omega
      · have : k ∈ args.flatMap AV.keys := List.mem_flatMap.2 ⟨u, hu, hk'⟩
        rw [hk] at this; cases this)
    unfold Oper.wp
    rw [hrun, Oper.upon_enter]
    refine hc.mono fun e w' ⟨ρ', v1, Hout, n1, ⟨h1, h2, h3⟩, h4, h5, _, _⟩ => ?_
    subst h1 h2 h3 h4
    have hρ1 : ρ' 1 = r.a := h5.ent 1 (Nat.lt_succ_self _)
    have hb := h5.blk 1 _ rfl
    have hown : RowOwn w' t false (r.put ys) := by
      have e3 : Value.slice (adr ρ' 1 0) (Elts.ints ys).len r.cap = (r.put ys).val false := by simp [Row.val, adr, hρ1, Row.len, Elts.len, Row.put]
      have e4 : cells ρ' ((r.put ys).svs false) = cells noRho ((r.put ys).svs false) := List.map_congr_left fun s hs => noKeys_conc (Row.svs_keys false (r.put ys) s hs) _ noRho
      have e5 : (Elts.ints ys).all = (r.put ys).svs false := rfl
      simp only [BlkOK] at hb
      rw [e3, e5, e4] at hb
      exact hb
    have hkeep := h5.keeps
    have hg2 : w.grownBy w' (r.a.map (·.1)) := ⟨hkeep.os, hkeep.tape, hkeep.output, hkeep.size, fun b hb' hne => hkeep.block b hb' (fun k p hk1 hk2 hp e => ?_) fun ⟨k, t1, q1, m1, hm, _⟩ => ?_⟩
    · have hres := hI.h.rowPut hkt (r' := r.put ys) rfl hown hg2 fun g hg' => by
        cases hra : r.a with
        | none => rw [hra] at hg'; cases hg'
        | some p => rw [hra] at hg'; exact ⟨p, rfl, by simpa using hg'⟩
      have hvc : v1.conc ρ' = v1.conc ρ := AV.conc_congr fun k hk' => by rw [hv] at hk'; cases hk'
      rw [hvc]
      exact hK ρ w' v1 _ σ.nx ⟨rfl, rfl, rfl⟩ hres (fun _ _ => rfl) (Nat.le_refl _) (by simp [hv])
    · have hk3 : k = 1 := by
        obtain ⟨b1, hb1, _⟩ := hk2
        unfold lk at hb1
        cases e3 : Nat.beq k 1 with
        | true => exact Nat.eq_of_beq_eq_true e3
        | false => rw [e3] at hb1; cases hb1
      subst hk3
      have hp' : r.a = some p := hp
      exact hne (by rw [hp']; simp [e])
    · unfold lk at hm
      cases e3 : Nat.beq k 1 with
      | true => rw [e3] at hm; cases hm
      | false => rw [e3] at hm; cases hm
  · cases hl
theorem awpL_row {o : Oper} {f : FuncId} {t : TypeId} {args : List AV} {v : AV} {ys : List Int} {c d : Nat} (kt : Nat) (l1 l2 : List Row) (r : Row) (hD : Does P f (.one (.sl 1 1 0 r.xs.length c) :: args) [(1, .own t r.cap (.ints r.xs))] 2 (fun v' Hout n1 => v' = v ∧ Hout = [(1, .own t r.cap (.ints ys))] ∧ n1 = 2)) (hcc : c = r.cap)
    {fo : Operand} {xs : Array Operand} {ts : Array TypeId} (ho : o.op = .call ⟨.value fo, xs, ts⟩) (hdst : o.dst = some d) (hl : callArgs fr fo xs = some (f, .one (.hd r.a r.xs.length r.cap) :: args)) (hw : wantA l0 fr o = some true) (hd : inFrame N o.dst = true) (hk : args.flatMap AV.keys = []) (hv : v.keys = []) (hkt : H kt = some (.tok t false (l1 ++ r :: l2)))
    (h : awpL P E N l0 Q rest ⟨upd fr d v, upd (forgetH H) kt (.tok t false (l1 ++ r.put ys :: l2)), nx⟩) : awpL P E N l0 Q (o :: rest) ⟨fr, H, nx⟩ :=
  w_H (σ := ⟨fr, H, nx⟩) hw hd (OpR.row (σ := ⟨fr, H, nx⟩) hD hcc ho hl hk hv hkt) fun _ _ _ ⟨e1, e2, e3⟩ => by subst e1 e2 e3; rw [hdst]; exact h
theorem awpL_callM (m : List (Nat × Nat)) {o : Oper} {f : FuncId} {args : List AV} {Hin : List (Nat × Blk)} {n0 d : Nat} {Out : AV → List (Nat × Blk) → Nat → Prop} (hD : Does P f args Hin n0 Out) {fo : Operand} {xs : Array Operand} {ts : Array TypeId}
    (ho : o.op = .call ⟨.value fo, xs, ts⟩) (hdst : o.dst = some d) {l : List AV} (hl : callArgs fr fo xs = some (f, l)) (ha : l = args.map (AV.ren (mp m))) (hw : wantA l0 fr o = some true) (hd : inFrame N o.dst = true) (hk : leB n0 (args.flatMap AV.keys) = true)
    (hf : FitB H (mp m) Hin) (hok : okCall n0 nx m Hin = true)
    (h : ∀ v Hout n1, Out v Hout n1 → awpL P E N l0 Q rest ⟨upd fr d (v.ren (mq m n0 nx)), afterH H m n0 nx Hin Hout, nx + (n1 - n0)⟩) : awpL P E N l0 Q (o :: rest) ⟨fr, H, nx⟩ :=
  w_H (σ := ⟨fr, H, nx⟩) hw hd (OpR.call hD ho m (ha ▸ hl) hk hf hok) fun _ _ _ ⟨v, Hout, n1, h1, e1, e2, e3⟩ => by subst e1 e2 e3; rw [hdst]; exact h v Hout n1 h1
end
section
variable {E : Env} {H : Nat → Option Blk} {nx : Nat}
theorem Ghost.retell (k kt : Nat) (e' : Elts) {t tt : TypeId} {c : Nat} {q : Bool} {e : Elts} {l : List Row} (hk : H k = some (.own t c e)) (hkt : H kt = some (.tok tt q l)) (e1 : e'.all = e.all) (e2 : e'.len = e.len) (e3 : e'.sz = e.sz) (hs : ∀ x ∈ e'.rds, x.1 = q ∧ x.2 ∈ l) : Ghost E H nx fun H' nx' => H' = upd H k (.own t c e') ∧ nx' = nx := fun ρ w h => by
  refine ⟨_, nx, ρ, ⟨rfl, rfl⟩, ?_, fun _ _ => rfl, Nat.le_refl _⟩
  have hb := h.blk k _ hk
  have hbt := h.blk kt _ hkt
  simp only [BlkOK] at hb hbt
  refine h.change hk ?_ (fun k' hk' => (h.key k _ hk).2 k' ?_) (fun _ => rfl) (fun _ => rfl) (fun _ _ => rfl) (fun _ e => nomatch e) (fun x hx => ?_) (fun k1 b1 p g h1 ho e1 hf => ?_) (fun _ _ _ e => nomatch e)
  · simp only [BlkOK, e1, e2, e3]; exact hb
  · have : k' ∈ keysOf e'.all := hk'
    rw [e1] at this; exact this
  · obtain ⟨f1, f2⟩ := hs x hx
    rw [f1]
    exact (hbt.2.1 x.2 f2).at_
  · obtain ⟨x, hx, h0, p', hp', rfl⟩ := hf
    obtain ⟨f1, f2⟩ := hs x hx
    have hF : (Blk.tok tt q l).Far p'.1 := ⟨x.2, f2, p', hp', rfl⟩
    by_cases c : k1 = k
    · subst c; rw [upd_same] at h1; cases h1
      exact h.far k1 kt _ _ p p'.1 hk hkt rfl e1 hF
    · rw [upd_ne c] at h1
      exact h.far k1 kt b1 _ p p'.1 h1 hkt ho e1 hF
end
end Go.Proofs.YtekpamojojfplaaGreat
namespace Go.Proofs.YtekpamojojfplaaGreat
open Go.RowKit
section
variable {E : Env} {ρ : Rho} {H : Nat → Option Blk} {nx : Nat} {w : World}
theorem HInv.wake (h : HInv E ρ H nx w) {kt : Nat} {t : TypeId} {l1 l2 : List Row} {r : Row} (hkt : H kt = some (.tok t false (l1 ++ r :: l2))) :
    HInv E (setR ρ nx r.a) (upd (upd (forgetH H) kt (.tok t false (l1 ++ l2))) nx (.own t r.cap (.ints r.xs))) (nx + 1) w := by
  have hbt := h.blk kt _ hkt
  simp only [BlkOK] at hbt
  obtain ⟨hz, hown, hpw⟩ := hbt
  have hr := hown r (by simp)
  have hpw2 := List.pairwise_append.1 hpw
  have hpw3 := List.pairwise_cons.1 hpw2.2.1
  have h0 := h.rowPut (r' := r) hkt rfl hr (row := none) ⟨rfl, rfl, rfl, Nat.le_refl _, fun _ _ _ => rfl⟩ (fun _ e => by cases e)
  have h1 := h0.part (k := kt) (l' := l1 ++ l2) upd_same (fun s hs => by
    rcases List.mem_append.1 hs with hs | hs
    · exact List.mem_append_left _ hs
    · exact List.mem_append_right _ (List.mem_cons_of_mem _ hs)) (fun hp => by
    have q2 := List.pairwise_append.1 hp
    exact List.pairwise_append.2 ⟨q2.1, (List.pairwise_cons.1 q2.2.1).2, fun a ha b hb => q2.2.2 a ha b (List.mem_cons_of_mem _ hb)⟩)
  have e1 : upd (upd (forgetH H) kt (.tok t false (l1 ++ r :: l2))) kt (.tok t false (l1 ++ l2)) = upd (forgetH H) kt (.tok t false (l1 ++ l2)) := by
    funext x
    by_cases c : x = kt
    · subst c; rw [upd_same, upd_same]
    · rw [upd_ne c, upd_ne c, upd_ne c]
  rw [e1] at h1
  have hF : ∀ q, r.a = some q → (Blk.tok t false (l1 ++ r :: l2)).Far q.1 := fun q hq => ⟨r, by simp, q, hq, rfl⟩
  have hcase : ∀ k b, upd (forgetH H) kt (.tok t false (l1 ++ l2)) k = some b → (k = kt ∧ b = .tok t false (l1 ++ l2)) ∨ (k ≠ kt ∧ ∃ b0, H k = some b0 ∧ b = b0.forget) := fun k b hu => by
    by_cases c : k = kt
    · subst c; rw [upd_same] at hu; cases hu; exact .inl ⟨rfl, rfl⟩
    · rw [upd_ne c] at hu; exact .inr ⟨c, forgetH_at hu⟩
  have hlive : ∀ q k b p, r.a = some q → upd (forgetH H) kt (.tok t false (l1 ++ l2)) k = some b → b.live = true → ρ k = some p → p.1 ≠ q.1 := fun q k b p hq hu hl hp => by
    rcases hcase k b hu with ⟨rfl, rfl⟩ | ⟨c, b0, hb0, rfl⟩
    · rw [hz] at hp; cases hp
    · have hl0 := Blk.forget_live b0 hl
      cases b0 with
      | dead => cases hl
      | ro e0 => exact h.tr kt k t _ _ e0 p hkt hb0 (Blk.live_ro hl0) hp r (by simp) q hq
      | own t0 c0 e0 => exact h.far k kt _ _ p q.1 hb0 hkt rfl hp (hF q hq)
      | al a0 e0 => cases hl
      | tok t0 q0 m0 =>
        have := h.blk k _ hb0
        simp only [BlkOK] at this
        rw [this.1] at hp; cases hp
  have hfar : ∀ q k b g, r.a = some q → upd (forgetH H) kt (.tok t false (l1 ++ l2)) k = some b → b.Far g → q.1 ≠ g := fun q k b g hq hu hf => by
    rcases hcase k b hu with ⟨rfl, rfl⟩ | ⟨c, b0, hb0, rfl⟩
    · obtain ⟨s, hs, p, hp, rfl⟩ := hf
      rcases List.mem_append.1 hs with hs | hs
      · exact fun e => hpw2.2.2 s hs r (by simp) p q hp hq e.symm
      · exact hpw3.1 s hs q p hq hp
    · obtain ⟨t0, q0, m0, rfl⟩ := Blk.forget_Far hf
      obtain ⟨s, hs, p, hp, rfl⟩ := hf
      exact fun e => h.tt k kt t0 t q0 false m0 _ hb0 hkt c s hs r (by simp) p q hp hq e.symm
  have hnoF : ∀ g, ¬ (Blk.own t r.cap (.ints r.xs)).Far g := fun g ⟨x, hx, _⟩ => by cases hx
  refine h1.add (row := none) ⟨rfl, rfl, rfl, Nat.le_refl _, fun _ _ _ => rfl⟩ (fun _ e => by cases e) (fun _ _ _ _ _ _ e => by cases e) (fun _ _ _ _ _ e => by cases e) (fun q hq hl => ?_) (fun x hx => by cases hx) (fun _ _ _ g _ _ _ hf => (hnoF g hf).elim) (fun _ _ _ e => by cases e) ?_ (fun k hk => by simp [Blk.keys, Elts.keys, Elts.all, ints_keys] at hk)
  · refine ⟨fun _ => h.tw kt t false _ hkt r (by simp) q hq, fun _ k b p hk hl hp => hlive q k b p hq hk hl hp, fun k b p hk ho hp => hlive q k b p hq hk (by cases b <;> first | rfl | cases ho) hp, fun _ k t' q' l hk s hs p hp => hfar q k _ p.1 hq hk ⟨s, hs, p, hp, rfl⟩, fun _ => ⟨fun k b g hk hf => hfar q k b g hq hk hf, fun g hf => (hnoF g hf).elim⟩⟩
  · have e2 : cells (setR ρ nx r.a) (r.svs false) = cells noRho (r.svs false) := List.map_congr_left fun s hs => noKeys_conc (Row.svs_keys false r s hs) _ noRho
    have e3 : (Elts.ints r.xs).all = r.svs false := rfl
    have e4 : Value.slice (adr (setR ρ nx r.a) nx 0) (Elts.ints r.xs).len r.cap = r.val false := by simp [Row.val, adr, setR_same, Row.len, Elts.len]
    simp only [BlkOK]
    rw [e4, e3, e2]
    exact hr
end
section
variable {P : Program} {E : Env} {N : Nat} {Q : Post} {fr : Nat → Option AV} {H : Nat → Option Blk} {nx : Nat} {l0 rest : List Oper} {code : Code}
theorem Inv.wake {ρ : Rho} {a : Act} {w : World} (hI : Inv E N ρ ⟨fr, H, nx⟩ a w) {s k kt sz m cp : Nat} {t : TypeId} {l1 l2 : List Row} {r : Row} {e : Elts} (hs : fr s = some (.one (.sl k sz 0 m cp))) (hk : H k = some (.al r.a e)) (hkt : H kt = some (.tok t false (l1 ++ r :: l2))) :
    ∃ ρ', Inv E N ρ' ⟨upd fr s (.one (.sl nx sz 0 m cp)), upd (upd (forgetH H) kt (.tok t false (l1 ++ l2))) nx (.own t r.cap (.ints r.xs)), nx + 1⟩ a w := by
  refine ⟨setR ρ nx r.a, ?_, hI.h.wake hkt⟩
  have hb := hI.h.blk k _ hk
  simp only [BlkOK] at hb
  have hf := hI.f.mono (ρ' := setR ρ nx r.a) (nx' := nx + 1) (fun q hq => setR_ne (Nat.ne_of_lt hq)) (Nat.le_succ _)
  refine ⟨hf.defers, hf.size, fun x v hv => ?_, fun x v hv q hq => ?_⟩ <;> dsimp only at hv ⊢
  · by_cases c : x = s
    · subst c
      rw [upd_same] at hv
      cases hv
      rw [hI.f.val _ _ hs]
      simp only [AV.conc, SV.conc, adr, setR_same, Nat.zero_mul, hb.1]
    · rw [upd_ne c] at hv; exact hf.val x v hv
  · by_cases c : x = s
    · subst c
      rw [upd_same] at hv
      cases hv
      simp [AV.keys, SV.keys] at hq
      omega
    · rw [upd_ne c] at hv; exact hf.key x v hv q hq
end
end Go.Proofs.YtekpamojojfplaaGreat
namespace Go.Proofs.YtekpamojojfplaaGreat
open Go.RowKit Go.Sort Go.Lib Go.Shelf
def encR (r : Row) : Value := r.val false
section
variable {α : Type} [Inhabited α] {enc : α → Value} {w : World} {g n : Nat} {os : Array Obj} {cur : Array Value} {e : TypeId} {fr : Nat × Nat}
theorem heap_put (d : Array α) (hb : w.heap[g]? = some (.cells cur e fr)) : (sortWorld enc w g 0 n d os).heap[g]? = some (.cells (putCells enc 0 d cur) e fr) := by
  have hg : g < w.heap.size := (Array.getElem?_eq_some_iff.1 hb).1
  unfold sortWorld
  rw [heap_grow_old _ _ (by simpa using hg)]
  simp [putRow, mapBlock, Sort.ahead, Array.getElem?_modify, hb, onCells]
theorem grown_put (d : Array α) : w.grownBy (sortWorld enc w g 0 n d os) (some g) := by
  unfold sortWorld
  refine ⟨rfl, rfl, rfl, by simp, fun k hk hne => ?_⟩
  rw [heap_grow_old _ _ (by simpa using hk)]
  have : g ≠ k := fun e => hne (by rw [e])
  simp [putRow, mapBlock, Sort.ahead, Array.getElem?_modify, this]
theorem take_put (d : Array α) (h : d.size ≤ cur.size) (m : Nat) (hm : m ≤ d.size) : (putCells enc 0 d cur).toList.take m = (d.toList.take m).map enc := by
  apply List.ext_getElem?
  intro j
  by_cases hj : j < m
  · rw [List.getElem?_take_of_lt hj, Array.getElem?_toList, List.getElem?_map, List.getElem?_take_of_lt hj]
    simp [putCells, show j < d.size by omega, show j < cur.size by omega]
  · rw [List.getElem?_take_eq_none (by omega), List.getElem?_eq_none (by simp; omega)]
theorem holds_blk (d : Array α) (hb : w.heap[g]? = some (.cells cur e (0, 0))) (ht : cur.toList.take d.size = d.toList.map enc) : Holds enc w g 0 d := by
  intro j hj
  refine ⟨?_, by simp [World.frozen?, hb]⟩
  have h1 : (cur.toList.take d.size)[j]? = (d.toList.map enc)[j]? := by rw [ht]
  rw [List.getElem?_take_of_lt hj] at h1
  simp only [World.cell?, hb, Nat.zero_add]
  simp only [Option.isSome_none, Bool.false_eq_true, if_false]
  rw [← Array.getElem?_toList, h1]
  simp [hj]
end
def ReadsR (P : Program) (g : Nat) (f : List Int → List Int → Value) : Prop := ∀ (W : World) (x y : Row), RowAt W false x → RowAt W false y → x.xs.length ≤ 1000000 → y.xs.length ≤ 1000000 →
  Calls P g #[encR x, encR y] W fun e w' => e = .returned (f x.xs y.xs) ∧ ∃ q, w' = W.drewN q
end Go.Proofs.YtekpamojojfplaaGreat
namespace Go.Proofs.YtekpamojojfplaaGreat
open Go.RowKit Go.Sort Go.Lib Go.Shelf
def encV (x : Row × Int) : List Value := [encR x.1, .int .i64 x.2]
theorem vflat_len {α : Type} {f : α → List Value} {m : Nat} (hf : ∀ x, (f x).length = m) : ∀ (l : List α), (l.flatMap f).length = l.length * m
  | [] => by simp
  | x :: l => by rw [List.flatMap_cons, List.length_append, hf, vflat_len hf l, List.length_cons, Nat.succ_mul]; omega
theorem vflat_get {α : Type} {f : α → List Value} {m : Nat} (hf : ∀ x, (f x).length = m) :
    ∀ (l : List α) (i j : Nat) (h : i < l.length), j < m → (l.flatMap f)[i * m + j]? = (f l[i])[j]?
  | [], _, _, h, _ => by simp at h
  | x :: l, 0, j, _, hj => by
    rw [List.flatMap_cons, List.getElem?_append_left (by rw [hf]; omega)]; simp
  | x :: l, i + 1, j, h, hj => by
    rw [List.flatMap_cons, List.getElem?_append_right (by rw [hf, Nat.succ_mul]; omega), hf, show (i + 1) * m + j - m = i * m + j by rw [Nat.succ_mul]; omega]
    exact vflat_get hf l i j (by simpa using h) hj
theorem flatK_list {α : Type} [Inhabited α] {f : α → List Value} (hf : ∀ x, (f x).length = 2) (d : Array α) : (flatK f 2 d).toList = d.toList.flatMap f := by
  apply List.ext_getElem?
  intro t
  by_cases ht : t < d.size * 2
  · have h1 : t / 2 < d.toList.length := by rw [Array.length_toList]; omega
    have e := vflat_get hf d.toList (t / 2) (t % 2) h1 (by omega)
    rw [show t / 2 * 2 + t % 2 = t by omega] at e
    have g := get_flatK f 2 d t ht
    have hs : t < (flatK f 2 d).size := by rw [size_flatK]; exact ht
    rw [getElem!_pos (flatK f 2 d) t hs, getElem!_pos d (t / 2) (by omega)] at g
    have h2 : t % 2 < (f d[t / 2]).length := by rw [hf]; omega
    rw [e, Array.getElem?_toList, Array.getElem?_eq_getElem hs, g]
    rw [getElem!_pos (f d[t / 2]) (t % 2) h2, ← List.getElem?_eq_getElem h2]
    simp
  · rw [List.getElem?_eq_none (by rw [Array.length_toList, size_flatK]; omega), List.getElem?_eq_none (by rw [vflat_len hf, Array.length_toList]; omega)]
theorem flat_vals (l : List (Row × Int)) (ρ : Rho) : cells ρ (Elts.vals true l).all = l.flatMap encV := by
  simp only [Elts.all, cells, List.map_flatMap]
  rfl
theorem keys_vals (l : List (Row × Int)) : (Elts.vals true l).keys = [] := vals_keys
theorem vals_over {E : Env} {ρ : Rho} {t t' : TypeId} {cap : Nat} {l l' : List (Row × Int)} {lt : List Row} {w w' : World} {g : Nat} (h : HInv E ρ (lk [(1, .own t cap (.vals true l)), (2, .tok t' false lt)]) 3 w)
    (hp : ρ 1 = some (g, 0)) (hg : w.grownBy w' (some g)) (hb : w'.ownsRow 0 t 2 (.slice (some ⟨g, 0, none⟩) l'.length cap) l'.length (l'.flatMap encV)) (hs : ∀ r ∈ l', r ∈ l) :
    HInv E ρ (lk [(1, .own t cap (.vals true l')), (2, .tok t' false lt)]) 3 w' := by
  have h1 := h.over (k := 1) (e' := .vals true l') rfl hp hg (by
    simp only [BlkOK, flat_vals]
    simpa [adr, hp, Elts.sz, Elts.len] using hb) (by rw [keys_vals]; simp) (fun x hx => by
      obtain ⟨r, hr, rfl⟩ := List.mem_map.1 hx
      exact h.rows 1 _ rfl _ (List.mem_map.2 ⟨r, hs r hr, rfl⟩)) fun k1 b1 p g' hk ho hp' hf => by
        obtain ⟨x, hx, hl, hq⟩ := hf
        obtain ⟨r, hr, rfl⟩ := List.mem_map.1 hx
        exact h.far k1 1 b1 _ p g' hk rfl ho hp' ⟨_, List.mem_map.2 ⟨r, hs r hr, rfl⟩, hl, hq⟩
  refine cast ?_ h1
  congr 1
  funext k
  by_cases e : k = 1
  · subst e; rfl
  · rw [upd_ne e]
    simp only [lk, nbeq_ne e, cond_false]
theorem vals_sealed {E : Env} {ρ' : Rho} {t t' : TypeId} {cap : Nat} {l' : List (Row × Int)} {lt : List Row} {w : World} (h : HInv E ρ' (lk [(1, .own t cap (.vals true l')), (2, .tok t' false lt)]) 3 w) (hs : ∀ r ∈ l', r.1 ∈ lt) :
    Sealed E (lk [(1, .own t cap (.vals true l')), (2, .tok t' false lt)]) :=
  BackedL.sealed h ⟨.inr ⟨2, t', lt, rfl, hs⟩, trivial, trivial⟩
theorem vals_told {E : Env} {ρ : Rho} {t t' : TypeId} {cap : Nat} {l : List (Row × Int)} {lt : List Row} {w : World} (h : HInv E ρ (lk [(1, .own t cap (.vals false l)), (2, .tok t' false lt)]) 3 w) (hs : ∀ r ∈ l, r.1 ∈ lt) : HInv E ρ (lk [(1, .own t cap (.vals true l)), (2, .tok t' false lt)]) 3 w := by
  have h1 := h.tell (k := 1) (kt := 2) (e' := .vals true l) Zz Zz Zz fun x hx => by
    obtain ⟨r, hr, rfl⟩ := List.mem_map.1 hx
    exact ⟨rfl, hs r hr⟩
  refine cast ?_ h1
  congr 1
  funext k
  by_cases e : k = 1
  · subst e; rfl
  · rw [upd_ne e]
    simp only [lk, nbeq_ne e, cond_false]
def Vx (x : Row × Int) : List Int × Int := (x.1.xs, x.2)
def VB (x : Row × Int) : Prop := x.1.xs.length ≤ 1000000 ∧ -4000000000000000000 ≤ x.2 ∧ x.2 ≤ 4000000000000000000
def ReadsV (P : Program) (g : Nat) (f : List Int × Int → List Int × Int → Int) : Prop := ∀ (W : World) (x y : Row × Int), RowAt W false x.1 → RowAt W false y.1 → VB x → VB y →
  Calls P g #[.agg (encV x).toArray, .agg (encV y).toArray] W fun e w' => e = .returned (.int .i64 (f (Vx x) (Vx y))) ∧ ∃ q os', w' = Sort.grow (W.drewN q) os'
theorem vals_at {ρ : Rho} {t : TypeId} {cap : Nat} {l : List (Row × Int)} {w : World} (h : BlkOK ρ 1 w (.own t cap (.vals true l))) (hl : l ≠ []) :
    ∃ g cur, ρ 1 = some (g, 0) ∧ w.heap[g]? = some (.cells cur t (0, 0)) ∧ l.length ≤ cap ∧ cap ≤ maxLen ∧ cur.size = cap * 2 ∧ cur.toList.take (l.length * 2) = l.flatMap encV := by
  simp only [BlkOK, flat_vals] at h
  rcases h.2 with ⟨_, h0⟩ | ⟨g, cap', cur, hv, _, hb, h1, h2, h3, h4⟩
  · exact absurd (List.eq_nil_of_length_eq_zero h0) hl
  · cases hp : ρ 1 with
    | none => simp [adr, hp] at hv
    | some p =>
      simp [adr, hp] at hv
      obtain ⟨⟨rfl, e2⟩, _, rfl⟩ := hv
      refine ⟨p.1, cur, ?_, hb, h1, h2, h3, ?_⟩
      · rw [show p = (p.1, p.2) from rfl, e2]
      · simpa [Elts.sz, Elts.len] using h4
def SortedV (t : TypeId) (cap : Nat) (t' : TypeId) (l : List (Row × Int)) (lt : List Row) (cf : List Int × Int → List Int × Int → Int) (v : AV) (Hout : List (Nat × Blk)) (n : Nat) : Prop :=
  ∃ l' : List (Row × Int), l'.Perm l ∧ (l'.Pairwise fun x y => ¬ cf (Vx y) (Vx x) < 0) ∧ v = .tup [] ∧ Hout = [(1, .own t cap (.vals true l')), (2, .tok t' false lt)] ∧ n = 3
theorem d_sortVals (g : Nat) (cf : List Int × Int → List Int × Int → Int) (hO : SWO (ltOf cf)) (eg : ∀ args w, (callFunc g args).run Tryz.prog w = .ok (.enter g args) w) (hcmp : ReadsV Tryz.prog g cf)
    (l : List (Row × Int)) (lt : List Row) (t t' : TypeId) (cap : Nat) (hl : l.length ≤ 1000000) (hr : ∀ r ∈ l, VB r) (hlt : ∀ r ∈ l, r.1 ∈ lt) :
    Does Tryz.prog 139 [.one (.sl 1 2 0 l.length cap), .one (.fn g [])] [(1, .own t cap (.vals false l)), (2, .tok t' false lt)] 3 (SortedV t cap t' l lt cf) := by
  refine ⟨?_, fun ρ w hH0 hk => ?_⟩
  · exact ⟨_, Tryz.func139, by kernel_rfl, by kernel_rfl⟩
  have hH := vals_told hH0 hlt
  clear hH0
  by_cases h0 : l = []
  · subst h0
    refine Calls.mono (AnyF.slices_SortFunc_none { Tryz.l6k with } (adr ρ 1 (0 * 2)) cap _ w) fun e w' ⟨he, hw⟩ => ?_
    subst hw
    exact ⟨ρ, .tup [], _, 3, ⟨[], List.Perm.refl _, List.Pairwise.nil, rfl, rfl, rfl⟩, he, hH, (by intro k hk; cases hk), vals_sealed hH (by simp)⟩
  · obtain ⟨b, cur, hp, hb, h1, h2, h3, h4⟩ := vals_at (hH.blk 1 _ rfl) h0
    let α := {r : Row × Int // r ∈ l}
    obtain ⟨r0, hr0⟩ := List.exists_mem_of_ne_nil l h0
    haveI : Inhabited α := ⟨⟨r0, hr0⟩⟩
    let enc : α → List Value := fun r => encV r.1
    have hk2 : ∀ x : α, (enc x).length = 2 := fun _ => rfl
    let d : Array α := l.attach.toArray
    have hds : d.size = l.length := by show l.attach.toArray.size = _; rw [List.size_toArray]; exact List.length_attach
    have hdl : (flatK enc 2 d).toList = l.flatMap encV := by
      rw [flatK_list hk2]
      show l.attach.toArray.toList.flatMap (fun r : α => encV r.1) = _
      rw [show (fun r : α => encV r.1) = fun r => encV (Subtype.val r) from rfl, ← List.flatMap_map Subtype.val encV, List.attach_map_subtype_val]
    have hrow : ∀ x ∈ l, RowAt w false x.1 := fun x hx => hH.rows 1 _ rfl _ (List.mem_map.2 ⟨x, hx, rfl⟩)
    have hfar : ∀ x ∈ l, ∀ p, x.1.a = some p → 0 < x.1.len false → p.1 ≠ b := fun x hx p hp' hl' e => hH.far 1 1 _ _ (b, 0) p.1 Zz Zz Zz hp ⟨_, List.mem_map.2 ⟨x, hx, rfl⟩, hl', p, hp', rfl⟩ e.symm
    have hs := AnyQ.slices_SortFunc (P := Tryz.prog) (ρ := Tryz.l6k_ren) (α := α) Tryz.l6k 2 Tryz.isAgg94 Tryz.sizeOf94 enc hk2 (fun x v hv => by simp only [enc, encV, List.mem_cons, List.not_mem_nil, or_false] at hv; rcases hv with rfl | rfl <;> rfl) (fun x y => cf (Vx x.1) (Vx y.1)) ⟨fun x => hO.irrefl (Vx x.1), fun x y z => hO.trans (Vx x.1) (Vx y.1) (Vx z.1), fun x y z => hO.ntrans (Vx x.1) (Vx y.1) (Vx z.1)⟩ g #[] b 0 cap d w eg
      (fun m os dk hdk x y => by
        exact hcmp _ x.1 y.1 ((hrow _ x.2).grown (grown_put (enc := id) (flatK enc 2 dk)) fun p hp' hl' e => hfar _ x.2 p hp' hl' (by injection e)) ((hrow _ y.2).grown (grown_put (enc := id) (flatK enc 2 dk)) fun p hp' hl' e => hfar _ y.2 p hp' hl' (by injection e)) (hr _ x.2) (hr _ y.2))
      (holds_blk (enc := id) (flatK enc 2 d) hb (by rw [size_flatK, hds, h4, hdl, List.map_id])) (Array.getElem?_eq_some_iff.1 hb).1 (by omega)
    have hargs : ([AV.one (.sl 1 2 0 l.length cap), AV.one (.fn g [])].map (AV.conc ρ)).toArray = #[.slice (some ⟨b, 0, none⟩) d.size cap, .func (.func g) #[] #[]] := by
      rw [hds]; simp [AV.conc, SV.conc, adr, hp]
    rw [hargs]
    refine Calls.mono hs fun e w' ⟨he, d', n, os, hperm, hsort, hw⟩ => ?_
    obtain ⟨p1, p2, p3⟩ := hperm
    have e1 : d'.extract 0 d.size = d' := by rw [← p1, Array.extract_size]
    have e2 : d.extract 0 d.size = d := Array.extract_size
    rw [e1, e2] at p3
    have hl' : (d'.toList.map Subtype.val).length = l.length := by simp [p1, hds]
    have hperm' : (d'.toList.map Subtype.val).Perm l := by
      have := p3.map Subtype.val
      rw [show d.toList = l.attach from rfl, List.attach_map_subtype_val] at this
      exact this
    have hfl : (flatK enc 2 d').toList = (d'.toList.map Subtype.val).flatMap encV := by
      rw [flatK_list hk2, List.flatMap_map]
    have hsz' : (flatK enc 2 d').size = l.length * 2 := by rw [size_flatK, p1, hds]
    have hw' : w' = sortWorld id w b 0 n (flatK enc 2 d') os := hw
    have hown : w'.ownsRow 0 t 2 (.slice (some ⟨b, 0, none⟩) (d'.toList.map Subtype.val).length cap) (d'.toList.map Subtype.val).length ((d'.toList.map Subtype.val).flatMap encV) := by
      refine ⟨by rw [vflat_len (f := encV) (m := 2) (fun _ => rfl)], .inr ⟨b, cap, _, rfl, Nat.zero_le _, by rw [hw']; exact heap_put (flatK enc 2 d') hb, by omega, h2, by simp [putCells, h3], ?_⟩⟩
      rw [hl', take_put (flatK enc 2 d') (by rw [hsz', h3]; omega) (l.length * 2) (by omega), List.take_of_length_le (by rw [Array.length_toList]; omega), List.map_id, hfl]
    have hH2 := vals_over hH hp (w' := w') (by rw [hw']; exact grown_put (enc := id) (flatK enc 2 d')) hown fun r hr => hperm'.mem_iff.1 hr
    refine ⟨ρ, .tup [], _, 3, ⟨_, hperm', ?_, rfl, rfl, rfl⟩, he, hH2, (by intro k hk; cases hk), vals_sealed hH2 fun r hr => hlt r (hperm'.mem_iff.1 hr)⟩
    rw [List.pairwise_map, List.pairwise_iff_getElem]
    intro i j hi hj hij
    have := hsort i j (Nat.zero_le _) hij (by rw [← p1]; simpa using hj)
    simp only [Array.length_toList] at hi hj
    simp only [getElem!_pos d' i hi, getElem!_pos d' j hj, ltOf, decide_eq_false_iff_not] at this
    simpa using this
end Go.Proofs.YtekpamojojfplaaGreat
