/-
  TEXTS OF THE PROOF, put together: Lay1, Am10, Am11, bSortW, bCmpW.
-/
import Derived.Shelf.SlSortCmp.Whole1
import Derived.Test.YtfkbjkmlpinoeaaGreatProg
import Derived.Test.YtfkbjkmlpinoeaaGreatR17
import Derived.Test.YtfkbjkmlpinoeaaGreatR08
import Derived.Shelf.SlSortCmp.NoneTotal
import Derived.Test.YtfkbjkmlpinoeaaGreatR19
import Derived.Shelf.RegionOpenPlain
set_option linter.unusedVariables false
set_option linter.unusedSimpArgs false
namespace Go.Proofs.YtfkbjkmlpinoeaaGreat
open Go.Shelf Go.Proofs
def Tryz.l6_ren : Go.Shelf.Ren := ⟨fun | 6 => 50 | 15 => 97 | 14 => 96 | 28 => 137 | 29 => 138 | 20 => 129 | 21 => 130 | 22 => 131 | 23 => 132 | 24 => 133 | 25 => 134 | 26 => 135 | 27 => 136 | 46 => 158 | 47 => 159 | 48 => 160 | 49 => 161 | 50 => 162 | 57 => 177 | n => n, fun | 22 => 37 | 24 => 24 | 25 => 61 | 3 => 3 | 39 => 93 | 0 => 0 | 53 => 120 | 55 => 122 | 4 => 4 | 46 => 114 | 45 => 113 | 50 => 30 | 5 => 5 | 9 => 9 | 66 => 137 | 70 => 141 | 76 => 150 | 77 => 151 | n => n, fun | n => n⟩
theorem Tryz.l6 : Go.Proofs.SlLaysF.n6 Tryz.prog Tryz.l6_ren := {
  mixed := by kernel_rfl
  f6 := ⟨Tryz.f50.name, by decide, Tryz.func50.trans (congrArg some (by kernel_rfl))⟩
  f14 := ⟨Tryz.f96.name, by decide, Tryz.func96.trans (congrArg some (by kernel_rfl))⟩
  f15 := Tryz.func97.trans (congrArg some (by kernel_rfl))
  f20 := ⟨Tryz.f129.name, by decide, Tryz.func129.trans (congrArg some (by kernel_rfl))⟩
  f21 := ⟨Tryz.f130.name, by decide, Tryz.func130.trans (congrArg some (by kernel_rfl))⟩
  f22 := ⟨Tryz.f131.name, by decide, Tryz.func131.trans (congrArg some (by kernel_rfl))⟩
  f23 := ⟨Tryz.f132.name, by decide, Tryz.func132.trans (congrArg some (by kernel_rfl))⟩
  f24 := ⟨Tryz.f133.name, by decide, Tryz.func133.trans (congrArg some (by kernel_rfl))⟩
  f25 := ⟨Tryz.f134.name, by decide, Tryz.func134.trans (congrArg some (by kernel_rfl))⟩
  f26 := ⟨Tryz.f135.name, by decide, Tryz.func135.trans (congrArg some (by kernel_rfl))⟩
  f27 := ⟨Tryz.f136.name, by decide, Tryz.func136.trans (congrArg some (by kernel_rfl))⟩
  f28 := Tryz.func137.trans (congrArg some (by kernel_rfl))
  f29 := Tryz.func138.trans (congrArg some (by kernel_rfl))
  f46 := ⟨Tryz.f158.name, by decide, Tryz.func158.trans (congrArg some (by kernel_rfl))⟩
  f47 := Tryz.func159.trans (congrArg some (by kernel_rfl))
  f48 := Tryz.func160.trans (congrArg some (by kernel_rfl))
  f49 := ⟨Tryz.f161.name, by decide, Tryz.func161.trans (congrArg some (by kernel_rfl))⟩
  f50 := ⟨Tryz.f162.name, by decide, Tryz.func162.trans (congrArg some (by kernel_rfl))⟩
  f57 := ⟨Tryz.f177.name, by decide, Tryz.func177.trans (congrArg some (by kernel_rfl))⟩
  t0 := Tryz.underlying0
  a0 := Tryz.isAgg0
  z0 := Tryz.sizeOf0
  v0 := Tryz.zeroValue0
  t3 := Tryz.underlying3
  a3 := Tryz.isAgg3
  z3 := Tryz.sizeOf3
  v3 := Tryz.zeroValue3
  t4 := Tryz.underlying4
  a4 := Tryz.isAgg4
  z4 := Tryz.sizeOf4
  v4 := Tryz.zeroValue4
  t5 := Tryz.underlying5
  a5 := Tryz.isAgg5
  z5 := Tryz.sizeOf5
  v5 := Tryz.zeroValue5
  t9 := Tryz.underlying9
  a9 := Tryz.isAgg9
  z9 := Tryz.sizeOf9
  v9 := Tryz.zeroValue9
  t22 := Tryz.underlying37
  a22 := Tryz.isAgg37
  z22 := Tryz.sizeOf37
  v22 := Tryz.zeroValue37
  a24 := Tryz.isAgg24
  z24 := Tryz.sizeOf24
  t25 := Tryz.underlying61
  a25 := Tryz.isAgg61
  z25 := Tryz.sizeOf61
  v25 := Tryz.zeroValue61
  t39 := Tryz.underlying93
  a39 := Tryz.isAgg93
  z39 := Tryz.sizeOf93
  v39 := Tryz.zeroValue93
  t45 := Tryz.underlying113
  a45 := Tryz.isAgg113
  z45 := Tryz.sizeOf113
  v45 := Tryz.zeroValue113
  t46 := Tryz.underlying114
  a46 := Tryz.isAgg114
  z46 := Tryz.sizeOf114
  v46 := Tryz.zeroValue114
  t50 := Tryz.underlying30
  a50 := Tryz.isAgg30
  z50 := Tryz.sizeOf30
  v50 := Tryz.zeroValue30
  t53 := Tryz.underlying120
  a53 := Tryz.isAgg120
  z53 := Tryz.sizeOf120
  v53 := Tryz.zeroValue120
  t55 := Tryz.underlying122
  a55 := Tryz.isAgg122
  z55 := Tryz.sizeOf122
  v55 := Tryz.zeroValue122
  t66 := Tryz.underlying137
  a66 := Tryz.isAgg137
  z66 := Tryz.sizeOf137
  v66 := Tryz.zeroValue137
  t70 := Tryz.underlying141
  a70 := Tryz.isAgg141
  z70 := Tryz.sizeOf141
  v70 := Tryz.zeroValue141
  t76 := Tryz.underlying150
  a76 := Tryz.isAgg150
  z76 := Tryz.sizeOf150
  v76 := Tryz.zeroValue150
  t77 := Tryz.underlying151
  a77 := Tryz.isAgg151
  z77 := Tryz.sizeOf151
  v77 := Tryz.zeroValue151 }
end Go.Proofs.YtfkbjkmlpinoeaaGreat
namespace Go.Proofs.YtfkbjkmlpinoeaaGreat
open Go.RowKit
def Row.put (r : Row) (ys : List Int) : Row := ⟨r.a, r.cap, ys, r.ps⟩
def forgetH (H : Nat → Option Blk) : Nat → Option Blk := fun k => match H k with
  | some b => some b.forget
  | none => none
section
variable {E : Env} {ρ : Rho} {H : Nat → Option Blk} {nx : Nat} {w w' : World}
theorem forgetH_at {k : Nat} {b : Blk} (h : forgetH H k = some b) : ∃ b0, H k = some b0 ∧ b = b0.forget := by
  unfold forgetH at h
  split at h
  · cases h; exact ⟨_, ‹_›, rfl⟩
  · cases h
theorem HInv.rowPut (h : HInv E ρ H nx w) {kt : Nat} {t : TypeId} {q : Bool} {l1 l2 : List Row} {r r' : Row} (hkt : H kt = some (.tok t q (l1 ++ r :: l2))) (ha : r'.a = r.a) (hr' : RowOwn w' t q r') {row : Option Nat} (hg : w.grownBy w' row) (hrow : ∀ g, row = some g → ∃ p, r.a = some p ∧ p.1 = g) :
    HInv E ρ (upd (forgetH H) kt (.tok t q (l1 ++ r' :: l2))) nx w' := by
  have hbt := h.blk kt _ hkt
  simp only [BlkOK] at hbt
  obtain ⟨hz, hown, hpw⟩ := hbt
  have hpw2 := List.pairwise_append.1 hpw
  have hpw3 := List.pairwise_cons.1 hpw2.2.1
  have hfarT : ∀ r1, r1 ∈ l1 ∨ r1 ∈ l2 → Apart r1 r := fun r1 hr1 => by
    rcases hr1 with h1 | h1
    · exact hpw2.2.2 r1 h1 r (by simp)
    · exact (hpw3.1 r1 h1).symm
  have hmem : ∀ r1 ∈ l1 ++ r' :: l2, ∃ r0 ∈ l1 ++ r :: l2, r0.a = r1.a := fun r1 hr1 => by
    rcases List.mem_append.1 hr1 with h1 | h1
    · exact ⟨r1, List.mem_append_left _ h1, rfl⟩
    · rcases List.mem_cons.1 h1 with rfl | h1
      · exact ⟨r, by simp, ha.symm⟩
      · exact ⟨r1, List.mem_append_right _ (List.mem_cons_of_mem _ h1), rfl⟩
  have hap : ∀ s, Apart r s → Apart r' s := fun s hs p p' hp hp' => hs p p' (ha ▸ hp) hp'
  have hcase : ∀ k b, upd (forgetH H) kt (.tok t q (l1 ++ r' :: l2)) k = some b → (k = kt ∧ b = .tok t q (l1 ++ r' :: l2)) ∨ (k ≠ kt ∧ ∃ b0, H k = some b0 ∧ b = b0.forget) := fun k b hu => by
    by_cases c : k = kt
    · subst c; rw [upd_same] at hu; cases hu; exact .inl ⟨rfl, rfl⟩
    · rw [upd_ne c] at hu; exact .inr ⟨c, forgetH_at hu⟩
  have hFr : ∀ p, r.a = some p → (Blk.tok t q (l1 ++ r :: l2)).Far p.1 := fun p hp => ⟨r, by simp, p, hp, rfl⟩
  have hrowne : ∀ g, (∀ p, r.a = some p → g ≠ p.1) → some g ≠ row := fun g hne e => by
    obtain ⟨p, hp, hpg⟩ := hrow g e.symm
    exact hne p hp hpg.symm
  refine ⟨h.nil, fun k b hu => ?_, fun k b hu => ?_, fun k k' b b' p p' hu hu' ho hl hne e e' => ?_, fun k b p hu hl hal hn e => ?_, fun k b hu ho hn => ?_, h.keeps.grown hg (fun g e => ?_), h.ent, h.n0, h.pos, fun k b hu x hx => ?_, fun k k' b b' p g hu hu' ho e hf => ?_, fun k k' t1 t2 q1 q2 m1 m2 hu hu' hne r1 hr1 r2 hr2 => ?_, fun k t1 q1 m1 hu r1 hr1 p hp => ?_, fun k k' t1 q1 m1 e p hu hu' hl e1 r1 hr1 p' hp' => ?_⟩
  · rcases hcase k b hu with ⟨rfl, rfl⟩ | ⟨c, b0, hb0, rfl⟩
    · refine ⟨hz, fun r1 hr1 => ?_, ?_⟩
      · rcases List.mem_append.1 hr1 with h1 | h1
        · exact (hown r1 (List.mem_append_left _ h1)).grown hg fun p hp => hrowne p.1 fun p2 hp2 => hfarT r1 (.inl h1) p p2 hp hp2
        · rcases List.mem_cons.1 h1 with rfl | h1
          · exact hr'
          · exact (hown r1 (List.mem_append_right _ (List.mem_cons_of_mem _ h1))).grown hg fun p hp => hrowne p.1 fun p2 hp2 => hfarT r1 (.inr h1) p p2 hp hp2
      · refine List.pairwise_append.2 ⟨hpw2.1, List.pairwise_cons.2 ⟨fun s hs => hap s (hpw3.1 s hs), hpw3.2⟩, fun s hs s' hs' => ?_⟩
        rcases List.mem_cons.1 hs' with rfl | hs'
        · exact (hap s (hfarT s (.inl hs)).symm).symm
        · exact hpw2.2.2 s hs s' (List.mem_cons_of_mem _ hs')
    · have hb1 : BlkOK ρ k w b0.forget := (h.blk k b0 hb0).forget
      refine hb1.grown hg (fun hl p hp => hrowne p.1 fun p2 hp2 => ?_) fun g hf => hrowne g fun p2 hp2 => ?_
      · have hl0 := Blk.forget_live b0 hl
        cases b0 with
        | dead => cases hl
        | ro e0 => exact fun e => h.tr kt k t q _ e0 p hkt hb0 (Blk.live_ro hl0) hp r (by simp) p2 hp2 e
        | own t0 c0 e0 => exact h.far k kt _ _ p p2.1 hb0 hkt rfl hp (hFr p2 hp2)
        | al a0 e0 => cases hl
        | tok t0 q0 m0 =>
          have := h.blk k _ hb0
          simp only [BlkOK] at this
          rw [this.1] at hp; cases hp
      · obtain ⟨t0, q0, m0, rfl⟩ := Blk.forget_Far hf
        obtain ⟨s, hs, p, hp, rfl⟩ := hf
        exact h.tt k kt t0 t q0 q m0 _ hb0 hkt c s hs r (by simp) p p2 hp hp2
  · rcases hcase k b hu with ⟨rfl, rfl⟩ | ⟨c, b0, hb0, rfl⟩
    · exact ⟨(h.key _ _ hkt).1, fun _ hk => by cases hk⟩
    · have hx := h.key k b0 hb0
      exact ⟨hx.1, fun k' hk' => hx.2 k' (Blk.forget_keys b0 k' hk')⟩
  · rcases hcase k b hu with ⟨rfl, rfl⟩ | ⟨c, b0, hb0, rfl⟩
    · rw [hz] at e; cases e
    · rcases hcase k' b' hu' with ⟨rfl, rfl⟩ | ⟨c', b0', hb0', rfl⟩
      · rw [hz] at e'; cases e'
      · exact h.inj k k' b0 b0' p p' hb0 hb0' (by rw [← Blk.forget_own]; exact ho) (Blk.forget_live b0' hl) hne e e'
  · rcases hcase k b hu with ⟨rfl, rfl⟩ | ⟨c, b0, hb0, rfl⟩
    · rw [hz] at e; cases e
    · refine h.new k b0 p hb0 (Blk.forget_live b0 hl) ?_ hn e
      cases b0 with
      | al a0 e0 => cases hl
      | _ => rfl
  · rcases hcase k b hu with ⟨rfl, rfl⟩ | ⟨c, b0, hb0, rfl⟩
    · exact h.old _ _ hkt rfl hn
    · exact h.old k b0 hb0 (by rw [← Blk.forget_own]; exact ho) hn
  · obtain ⟨p, hp, hpg⟩ := hrow g e
    rw [← hpg]; exact h.tw kt t q _ hkt r (by simp) p hp
  · rcases hcase k b hu with ⟨rfl, rfl⟩ | ⟨c, b0, hb0, rfl⟩
    · cases hx
    · rw [Blk.forget_rds] at hx; cases hx
  · rcases hcase k b hu with ⟨rfl, rfl⟩ | ⟨c, b0, hb0, rfl⟩
    · rw [hz] at e; cases e
    · rw [Blk.forget_own] at ho
      rcases hcase k' b' hu' with ⟨rfl, rfl⟩ | ⟨c', b0', hb0', rfl⟩
      · obtain ⟨r1, hr1, p1, hp1, rfl⟩ := hf
        obtain ⟨r0, hr0, e0⟩ := hmem r1 hr1
        exact h.far k _ b0 _ p p1.1 hb0 hkt ho e ⟨r0, hr0, p1, by rw [e0]; exact hp1, rfl⟩
      · obtain ⟨t0, q0, m0, rfl⟩ := Blk.forget_Far hf
        exact h.far k k' b0 _ p g hb0 hb0' ho e hf
  · rcases hcase k _ hu with ⟨rfl, c1⟩ | ⟨c, b0, hb0, c1⟩
    · cases c1
      obtain ⟨r0, hr0, e0⟩ := hmem r1 hr1
      rcases hcase k' _ hu' with ⟨rfl, c2⟩ | ⟨c', b0', hb0', c2⟩
      · exact absurd rfl hne
      · have := forget_tok c2.symm
        subst this
        exact fun p p' hp hp' => h.tt _ k' t t2 q q2 _ m2 hkt hb0' hne r0 hr0 r2 hr2 p p' (by rw [e0]; exact hp) hp'
    · have := forget_tok c1.symm
      subst this
      rcases hcase k' _ hu' with ⟨rfl, c2⟩ | ⟨c', b0', hb0', c2⟩
      · cases c2
        obtain ⟨r0, hr0, e0⟩ := hmem r2 hr2
        exact fun p p' hp hp' => h.tt k _ t1 t q1 q m1 _ hb0 hkt hne r1 hr1 r0 hr0 p p' hp (by rw [e0]; exact hp')
      · have := forget_tok c2.symm
        subst this
        exact h.tt k k' t1 t2 q1 q2 m1 m2 hb0 hb0' hne r1 hr1 r2 hr2
  · rcases hcase k _ hu with ⟨rfl, c1⟩ | ⟨c, b0, hb0, c1⟩
    · cases c1
      obtain ⟨r0, hr0, e0⟩ := hmem r1 hr1
      exact h.tw _ t q _ hkt r0 hr0 p (by rw [e0]; exact hp)
    · have := forget_tok c1.symm
      subst this
      exact h.tw k t1 q1 m1 hb0 r1 hr1 p hp
  · rcases hcase k' _ hu' with ⟨rfl, c2⟩ | ⟨c', b0', hb0', c2⟩
    · cases c2
    · obtain ⟨e0, rfl, h2⟩ := forget_ro c2.symm
      rcases hcase k _ hu with ⟨rfl, c1⟩ | ⟨c, b0, hb0, c1⟩
      · cases c1
        obtain ⟨r0, hr0, e3⟩ := hmem r1 hr1
        exact h.tr _ k' t q _ e0 p hkt hb0' (by omega) e1 r0 hr0 p' (by rw [e3]; exact hp')
      · have := forget_tok c1.symm
        subst this
        exact h.tr k k' t1 q1 m1 e0 p hb0 hb0' (by omega) e1 r1 hr1 p' hp'
theorem HInv.rowIn (h : HInv E ρ H nx w) {kt : Nat} {t : TypeId} {l1 l2 : List Row} {r : Row} (hkt : H kt = some (.tok t false (l1 ++ r :: l2))) :
    HInv (envOf w (fun k => if k = 1 then r.a else none) [(1, .own t r.cap (.ints r.xs))] 2) (fun k => if k = 1 then r.a else none) (lk [(1, .own t r.cap (.ints r.xs))]) 2 w := by
  have hbt := h.blk kt _ hkt
  simp only [BlkOK] at hbt
  have hr := hbt.2.1 r (by simp)
  have hlk : ∀ k b, lk [(1, Blk.own t r.cap (.ints r.xs))] k = some b → k = 1 ∧ b = .own t r.cap (.ints r.xs) := fun k b hb => by
    unfold lk at hb
    cases e : Nat.beq k 1 with
    | true => rw [e] at hb; cases hb; exact ⟨Nat.eq_of_beq_eq_true e, rfl⟩
    | false => rw [e] at hb; cases hb
  have hnoF : ∀ g, ¬ (Blk.own t r.cap (.ints r.xs)).Far g := fun g ⟨x, hx, _⟩ => by cases hx
  refine ⟨rfl, fun k b hb => ?_, fun k b hb => ?_, fun k k' b b' p p' hb hb' _ _ hne => ?_, fun k b p hb _ _ hn => ?_, fun k b hb ho _ => ⟨b, hb, ho⟩, ⟨rfl, rfl, rfl, Nat.le_refl _, fun _ _ _ _ => rfl⟩, fun _ _ => rfl, Nat.le_refl _, Nat.zero_lt_succ _, fun k b hb x hx => ?_, fun k k' b b' p g hb hb' _ _ hf => ?_, fun k k' t1 t2 q1 q2 m1 m2 hb => ?_, fun k t1 q1 m1 hb => ?_, fun k k' t1 q1 m1 e p hb => ?_⟩
  · obtain ⟨rfl, rfl⟩ := hlk k b hb
    have e2 : cells (fun k => if k = 1 then r.a else none) (r.svs false) = cells noRho (r.svs false) := List.map_congr_left fun s hs => noKeys_conc (Row.svs_keys false r s hs) _ noRho
    have e3 : (Elts.ints r.xs).all = r.svs false := rfl
    have e1 : Value.slice (adr (fun k => if k = 1 then r.a else none) 1 0) (Elts.ints r.xs).len r.cap = r.val false := by simp [Row.val, adr, Row.len, Elts.len]
    simp only [BlkOK]
    rw [e1, e3, e2]
    exact hr
  · obtain ⟨rfl, rfl⟩ := hlk k b hb
    exact ⟨Nat.lt_succ_self _, fun k' hk' => by simp [Blk.keys, Elts.keys, Elts.all, ints_keys] at hk'⟩
  · obtain ⟨rfl, _⟩ := hlk k b hb
    obtain ⟨rfl, _⟩ := hlk k' b' hb'
    exact absurd rfl hne
  · obtain ⟨rfl, _⟩ := hlk k b hb
    exact absurd hn (by simp [envOf])
  · obtain ⟨rfl, rfl⟩ := hlk k b hb
    cases hx
  · obtain ⟨rfl, rfl⟩ := hlk k' b' hb'
    exact (hnoF g hf).elim
  · cases (hlk k _ hb).2
  · cases (hlk k _ hb).2
  · cases (hlk k _ hb).2
end
section
variable {P : Program} {E : Env} {N : Nat} {Q : Post} {fr : Nat → Option AV} {H : Nat → Option Blk} {nx : Nat} {l0 rest : List Oper} {σ : St}
theorem OpR.row {o : Oper} {f : FuncId} {r : Row} {t : TypeId} {args : List AV} {v : AV} {ys : List Int} {c : Nat} (hD : Does P f (.one (.sl 1 1 0 r.xs.length c) :: args) [(1, .own t r.cap (.ints r.xs))] 2 (fun v' Hout n1 => v' = v ∧ Hout = [(1, .own t r.cap (.ints ys))] ∧ n1 = 2)) (hcc : c = r.cap)
    {fo : Operand} {xs : Array Operand} {ts : Array TypeId} (ho : o.op = .call ⟨.value fo, xs, ts⟩) (hl : callArgs σ.fr fo xs = some (f, .one (.hd r.a r.xs.length r.cap) :: args)) (hk : args.flatMap AV.keys = []) (hv : v.keys = []) {kt : Nat} {l1 l2 : List Row} (hkt : σ.H kt = some (.tok t false (l1 ++ r :: l2))) :
    OpR P o E N σ (det v (upd (forgetH σ.H) kt (.tok t false (l1 ++ r.put ys :: l2))) σ.nx) := by
  subst hcc
  intro ρ a w hI K Q hK
  obtain ⟨⟨fn, hfn, hnm, hbody⟩, hcalls⟩ := hD
  unfold callArgs at hl
  split at hl
  · rename_i g caps l hg hlv
    simp only [Option.some.injEq, Prod.mk.injEq] at hl
    obtain ⟨rfl, hargs⟩ := hl
    obtain ⟨e1, _⟩ := ev_sound hI.f hI.h.nil hI.h.hb.pos hg
    obtain ⟨e2, _⟩ := evs_sound hI hlv
    have e1' : a.eval fo = .func (.func g) #[] (caps.map fun p => Value.pointer (adr ρ p.1 0)).toArray := e1
    let ρc : Rho := fun k => if k = 1 then r.a else none
    have hconc : (AV.one (.sl 1 1 0 r.xs.length r.cap) :: args).map (AV.conc ρc) = (l ++ caps.map capAV).map (AV.conc ρ) := by
      rw [hargs]
      simp only [List.map_cons]
      rw [List.cons.injEq]
      refine ⟨?_, ?_⟩
      · simp [AV.conc, SV.conc, adr, ρc]
      · refine List.map_congr_left fun u hu => AV.conc_congr fun k hk' => ?_
        have : k ∈ args.flatMap AV.keys := List.mem_flatMap.2 ⟨u, hu, hk'⟩
        rw [hk] at this; cases this
    have hrun : (execOp a.eval o).run P w = .ok (.enter g ((AV.one (.sl 1 1 0 r.xs.length r.cap) :: args).map (AV.conc ρc)).toArray) w := by
      have hxs : xs.map a.eval = (l.map (AV.conc ρ)).toArray := by rw [← e2, ← Array.toList_map, Array.toArray_toList]
      simp only [execOp, ho, resolve, e1', hxs, Deferred.ofValue, Sem.run_bind, Sem.run_pure, Result.andThen_ok, invoke, callFunc]
      rw [hconc]
      have hnm' : fn.name ≠ "runtime.NumGoroutine" := by simpa using hnm
      have hbody' : fn.body ≠ none := fun e => by rw [e] at hbody; cases hbody
      simp [hfn, hnm', hbody', List.map_map]
      intro a b _
      simp [capAV, AV.conc, SV.conc]
    have hc := hcalls ρc w (hI.h.rowIn hkt) (fun u hu k hk' => by
      rcases List.mem_cons.1 hu with rfl | hu
      · simp [AV.keys, SV.keys] at hk'; omega
      · have : k ∈ args.flatMap AV.keys := List.mem_flatMap.2 ⟨u, hu, hk'⟩
        rw [hk] at this; cases this)
    unfold Oper.wp
    rw [hrun, Oper.upon_enter]
    refine hc.mono fun e w' ⟨ρ', v1, Hout, n1, ⟨h1, h2, h3⟩, h4, h5, _, _⟩ => ?_
    subst h1 h2 h3 h4
    have hρ1 : ρ' 1 = r.a := h5.ent 1 (Nat.lt_succ_self _)
    have hb := h5.blk 1 _ rfl
    have hown : RowOwn w' t false (r.put ys) := by
      have e3 : Value.slice (adr ρ' 1 0) (Elts.ints ys).len r.cap = (r.put ys).val false := by simp [Row.val, adr, hρ1, Row.len, Elts.len, Row.put]
      have e4 : cells ρ' ((r.put ys).svs false) = cells noRho ((r.put ys).svs false) := List.map_congr_left fun s hs => noKeys_conc (Row.svs_keys false (r.put ys) s hs) _ noRho
      have e5 : (Elts.ints ys).all = (r.put ys).svs false := rfl
      simp only [BlkOK] at hb
      rw [e3, e5, e4] at hb
      exact hb
    have hkeep := h5.keeps
    have hg2 : w.grownBy w' (r.a.map (·.1)) := ⟨hkeep.os, hkeep.tape, hkeep.output, hkeep.size, fun b hb' hne => hkeep.block b hb' (fun k p hk1 hk2 hp e => ?_) fun ⟨k, t1, q1, m1, hm, _⟩ => ?_⟩
    · have hres := hI.h.rowPut hkt (r' := r.put ys) rfl hown hg2 fun g hg' => by
        cases hra : r.a with
        | none => rw [hra] at hg'; cases hg'
        | some p => rw [hra] at hg'; exact ⟨p, rfl, by simpa using hg'⟩
      have hvc : v1.conc ρ' = v1.conc ρ := AV.conc_congr fun k hk' => by rw [hv] at hk'; cases hk'
      rw [hvc]
      exact hK ρ w' v1 _ σ.nx ⟨rfl, rfl, rfl⟩ hres (fun _ _ => rfl) (Nat.le_refl _) (by simp [hv])
    · have hk3 : k = 1 := by
        obtain ⟨b1, hb1, _⟩ := hk2
        unfold lk at hb1
        cases e3 : Nat.beq k 1 with
        | true => exact Nat.eq_of_beq_eq_true e3
        | false => rw [e3] at hb1; cases hb1
      subst hk3
      have hp' : r.a = some p := hp
      exact hne (by rw [hp']; simp [e])
    · unfold lk at hm
      cases e3 : Nat.beq k 1 with
      | true => rw [e3] at hm; cases hm
      | false => rw [e3] at hm; cases hm
  · cases hl
theorem awpL_callM (m : List (Nat × Nat)) {o : Oper} {f : FuncId} {args : List AV} {Hin : List (Nat × Blk)} {n0 d : Nat} {Out : AV → List (Nat × Blk) → Nat → Prop} (hD : Does P f args Hin n0 Out) {fo : Operand} {xs : Array Operand} {ts : Array TypeId}
    (ho : o.op = .call ⟨.value fo, xs, ts⟩) (hdst : o.dst = some d) {l : List AV} (hl : callArgs fr fo xs = some (f, l)) (ha : l = args.map (AV.ren (mp m))) (hw : wantA l0 fr o = some true) (hd : inFrame N o.dst = true) (hk : leB n0 (args.flatMap AV.keys) = true)
    (hf : FitB H (mp m) Hin) (hok : okCall n0 nx m Hin = true)
    (h : ∀ v Hout n1, Out v Hout n1 → awpL P E N l0 Q rest ⟨upd fr d (v.ren (mq m n0 nx)), afterH H m n0 nx Hin Hout, nx + (n1 - n0)⟩) : awpL P E N l0 Q (o :: rest) ⟨fr, H, nx⟩ :=
  w_H (σ := ⟨fr, H, nx⟩) hw hd (OpR.call hD ho m (ha ▸ hl) hk hf hok) fun _ _ _ ⟨v, Hout, n1, h1, e1, e2, e3⟩ => by subst e1 e2 e3; rw [hdst]; exact h v Hout n1 h1
end
section
variable {E : Env} {H : Nat → Option Blk} {nx : Nat}
end
end Go.Proofs.YtfkbjkmlpinoeaaGreat
namespace Go.Proofs.YtfkbjkmlpinoeaaGreat
open Go.RowKit
section
variable {E : Env} {ρ : Rho} {H : Nat → Option Blk} {nx : Nat} {w : World}
end
section
variable {P : Program} {E : Env} {N : Nat} {Q : Post} {fr : Nat → Option AV} {H : Nat → Option Blk} {nx : Nat} {l0 rest : List Oper} {code : Code}
end
end Go.Proofs.YtfkbjkmlpinoeaaGreat
namespace Go.Proofs.YtfkbjkmlpinoeaaGreat
open Go.RowKit Go.Sort Go.Lib Go.Shelf
def encR (r : Row) : Value := r.val false
theorem encR_one : OneCell encR := fun _ => rfl
section
variable {α : Type} [Inhabited α] {enc : α → Value} {w : World} {g n : Nat} {os : Array Obj} {cur : Array Value} {e : TypeId} {fr : Nat × Nat}
theorem heap_put (d : Array α) (hb : w.heap[g]? = some (.cells cur e fr)) : (sortWorld enc w g 0 n d os).heap[g]? = some (.cells (putCells enc 0 d cur) e fr) := by
  have hg : g < w.heap.size := (Array.getElem?_eq_some_iff.1 hb).1
  unfold sortWorld
  rw [heap_grow_old _ _ (by simpa using hg)]
  simp [putRow, mapBlock, Sort.ahead, Array.getElem?_modify, hb, onCells]
theorem grown_put (d : Array α) : w.grownBy (sortWorld enc w g 0 n d os) (some g) := by
  unfold sortWorld
  refine ⟨rfl, rfl, rfl, by simp, fun k hk hne => ?_⟩
  rw [heap_grow_old _ _ (by simpa using hk)]
  have : g ≠ k := fun e => hne (by rw [e])
  simp [putRow, mapBlock, Sort.ahead, Array.getElem?_modify, this]
theorem take_put (d : Array α) (h : d.size ≤ cur.size) (m : Nat) (hm : m ≤ d.size) : (putCells enc 0 d cur).toList.take m = (d.toList.take m).map enc := by
  apply List.ext_getElem?
  intro j
  by_cases hj : j < m
  · rw [List.getElem?_take_of_lt hj, Array.getElem?_toList, List.getElem?_map, List.getElem?_take_of_lt hj]
    simp [putCells, show j < d.size by omega, show j < cur.size by omega]
  · rw [List.getElem?_take_eq_none (by omega), List.getElem?_eq_none (by simp; omega)]
theorem holds_blk (d : Array α) (hb : w.heap[g]? = some (.cells cur e (0, 0))) (ht : cur.toList.take d.size = d.toList.map enc) : Holds enc w g 0 d := by
  intro j hj
  refine ⟨?_, by simp [World.frozen?, hb]⟩
  have h1 : (cur.toList.take d.size)[j]? = (d.toList.map enc)[j]? := by rw [ht]
  rw [List.getElem?_take_of_lt hj] at h1
  simp only [World.cell?, hb, Nat.zero_add]
  simp only [Option.isSome_none, Bool.false_eq_true, if_false]
  rw [← Array.getElem?_toList, h1]
  simp [hj]
end
theorem flat_hd (l : List Row) (ρ : Rho) : cells ρ (Elts.rows false true l).all = l.map encR := by
  simp only [Elts.all, cells, List.map_flatMap]
  induction l with
  | nil => rfl
  | cons r l ih => rw [List.flatMap_cons, ih]; rfl
theorem keys_hd (l : List Row) : (Elts.rows false true l).keys = [] := by
  simp only [Elts.keys, Elts.all, keysOf]
  induction l with
  | nil => rfl
  | cons r l ih => rw [List.flatMap_cons, List.flatMap_append, ih]; rfl
theorem rows_over {E : Env} {ρ : Rho} {t t' : TypeId} {cap : Nat} {l l' lt : List Row} {w w' : World} {g : Nat} (h : HInv E ρ (lk [(1, .own t cap (.rows false true l)), (2, .tok t' false lt)]) 3 w)
    (hp : ρ 1 = some (g, 0)) (hg : w.grownBy w' (some g)) (hb : w'.ownsRow 0 t 1 (.slice (some ⟨g, 0, none⟩) l'.length cap) l'.length (l'.map encR)) (hs : ∀ r ∈ l', r ∈ l) :
    HInv E ρ (lk [(1, .own t cap (.rows false true l')), (2, .tok t' false lt)]) 3 w' := by
  have h1 := h.over (k := 1) (e' := .rows false true l') rfl hp hg (by
    simp only [BlkOK, flat_hd]
    simpa [adr, hp, Elts.sz, Elts.len] using hb) (by rw [keys_hd]; simp) (fun x hx => by
      obtain ⟨r, hr, rfl⟩ := List.mem_map.1 hx
      exact h.rows 1 _ rfl _ (List.mem_map.2 ⟨r, hs r hr, rfl⟩)) fun k1 b1 p g' hk ho hp' hf => by
        obtain ⟨x, hx, hl, hq⟩ := hf
        obtain ⟨r, hr, rfl⟩ := List.mem_map.1 hx
        exact h.far k1 1 b1 _ p g' hk rfl ho hp' ⟨_, List.mem_map.2 ⟨r, hs r hr, rfl⟩, hl, hq⟩
  refine cast ?_ h1
  congr 1
  funext k
  by_cases e : k = 1
  · subst e; rfl
  · rw [upd_ne e]
    simp only [lk, nbeq_ne e, cond_false]
theorem rows_sealed {E : Env} {ρ' : Rho} {t t' : TypeId} {cap : Nat} {l' lt : List Row} {w : World} (h : HInv E ρ' (lk [(1, .own t cap (.rows false true l')), (2, .tok t' false lt)]) 3 w) (hs : ∀ r ∈ l', r ∈ lt) :
    Sealed E (lk [(1, .own t cap (.rows false true l')), (2, .tok t' false lt)]) :=
  BackedL.sealed h ⟨.inr ⟨2, t', lt, rfl, hs⟩, trivial, trivial⟩
theorem rows_told {E : Env} {ρ : Rho} {t t' : TypeId} {cap : Nat} {l : List Row} {w : World} (h : HInv E ρ (lk [(1, .own t cap (.rows false false l)), (2, .tok t' false l)]) 3 w) : HInv E ρ (lk [(1, .own t cap (.rows false true l)), (2, .tok t' false l)]) 3 w := by
  have h1 := h.tell (k := 1) (kt := 2) (e' := .rows false true l) Zz Zz Zz fun x hx => by
    obtain ⟨r, hr, rfl⟩ := List.mem_map.1 hx
    exact ⟨rfl, hr⟩
  refine cast ?_ h1
  congr 1
  funext k
  by_cases e : k = 1
  · subst e; rfl
  · rw [upd_ne e]
    simp only [lk, nbeq_ne e, cond_false]
def ReadsR (P : Program) (g : Nat) (f : List Int → List Int → Value) : Prop := ∀ (W : World) (x y : Row), RowAt W false x → RowAt W false y → x.xs.length ≤ 1000000 → y.xs.length ≤ 1000000 →
  Calls P g #[encR x, encR y] W fun e w' => e = .returned (f x.xs y.xs) ∧ ∃ q, w' = W.drewN q
theorem rows_at {ρ : Rho} {t : TypeId} {cap : Nat} {l : List Row} {w : World} (h : BlkOK ρ 1 w (.own t cap (.rows false true l))) (hl : l ≠ []) :
    ∃ g cur, ρ 1 = some (g, 0) ∧ w.heap[g]? = some (.cells cur t (0, 0)) ∧ l.length ≤ cap ∧ cap ≤ maxLen ∧ cur.size = cap * 1 ∧ cur.toList.take l.length = l.map encR := by
  simp only [BlkOK, flat_hd] at h
  rcases h.2 with ⟨_, h0⟩ | ⟨g, cap', cur, hv, _, hb, h1, h2, h3, h4⟩
  · exact absurd (List.eq_nil_of_length_eq_zero h0) hl
  · cases hp : ρ 1 with
    | none => simp [adr, hp] at hv
    | some p =>
      simp [adr, hp] at hv
      obtain ⟨⟨rfl, e2⟩, _, rfl⟩ := hv
      refine ⟨p.1, cur, ?_, hb, h1, h2, h3, ?_⟩
      · rw [show p = (p.1, p.2) from rfl, e2]
      · simpa [Elts.sz, Elts.len] using h4
def SortedR (t : TypeId) (cap : Nat) (t' : TypeId) (l : List Row) (cf : List Int → List Int → Int) (v : AV) (Hout : List (Nat × Blk)) (n : Nat) : Prop :=
  ∃ l' : List Row, l'.Perm l ∧ (l'.Pairwise fun x y => ¬ cf y.xs x.xs < 0) ∧ v = .tup [] ∧ Hout = [(1, .own t cap (.rows false true l')), (2, .tok t' false l)] ∧ n = 3
theorem d_sortRows (g : Nat) (cf : List Int → List Int → Int) (hO : SWO (ltOf cf)) (eg : ∀ args w, (callFunc g args).run Tryz.prog w = .ok (.enter g args) w) (hcmp : ReadsR Tryz.prog g fun x y => .int .i64 (cf x y))
    (l : List Row) (t t' : TypeId) (cap : Nat) (hl : l.length ≤ 1000000) (hr : ∀ r ∈ l, r.xs.length ≤ 1000000) :
    Does Tryz.prog 50 [vS 1 1 0 l.length cap, .one (.fn g [])] [(1, .own t cap (.rows false false l)), (2, .tok t' false l)] 3 (SortedR t cap t' l cf) := by
  refine ⟨?_, fun ρ w hH0 hk => ?_⟩
  · exact ⟨_, Tryz.func50, by kernel_rfl, by kernel_rfl⟩
  have hH := rows_told hH0
  clear hH0
  by_cases h0 : l = []
  · subst h0
    refine Calls.mono (AnyF.slices_SortFunc_none { Tryz.l6 with } (adr ρ 1 (0 * 1)) cap _ w) fun e w' ⟨he, hw⟩ => ?_
    subst hw
    exact ⟨ρ, .tup [], _, 3, ⟨[], List.Perm.refl _, List.Pairwise.nil, rfl, rfl, rfl⟩, he, hH, (by intro k hk; cases hk), rows_sealed hH (by simp)⟩
  · obtain ⟨b, cur, hp, hb, h1, h2, h3, h4⟩ := rows_at (hH.blk 1 _ rfl) h0
    let α := {r : Row // r ∈ l}
    obtain ⟨r0, hr0⟩ := List.exists_mem_of_ne_nil l h0
    haveI : Inhabited α := ⟨⟨r0, hr0⟩⟩
    let enc : α → Value := fun r => encR r.1
    let d : Array α := l.attach.toArray
    have hds : d.size = l.length := by show l.attach.toArray.size = _; rw [List.size_toArray]; exact List.length_attach
    have hdl : d.toList.map enc = l.map encR := by
      simp only [d, enc]
      rw [show (fun r : α => encR r.1) = encR ∘ Subtype.val from rfl, ← List.map_map, List.attach_map_subtype_val]
    have hrow : ∀ x ∈ l, RowAt w false x := fun x hx => hH.rows 1 _ rfl _ (List.mem_map.2 ⟨x, hx, rfl⟩)
    have hfar : ∀ x ∈ l, ∀ p, x.a = some p → 0 < x.len false → p.1 ≠ b := fun x hx p hp' hl' e => hH.far 1 1 _ _ (b, 0) p.1 Zz Zz Zz hp ⟨_, List.mem_map.2 ⟨x, hx, rfl⟩, hl', p, hp', rfl⟩ e.symm
    have hs := Any.slices_SortFunc (P := Tryz.prog) (ρ := Tryz.l6_ren) (α := α) Tryz.l6 enc (fun _ => rfl) (fun x y => cf x.1.xs y.1.xs) ⟨fun x => hO.irrefl x.1.xs, fun x y z => hO.trans x.1.xs y.1.xs z.1.xs, fun x y z => hO.ntrans x.1.xs y.1.xs z.1.xs⟩ g #[] b 0 cap d w eg
      (fun m os dk hdk x y => by
        refine Calls.mono (hcmp _ x.1 y.1 ((hrow _ x.2).grown (grown_put dk) fun p hp' hl' e => hfar _ x.2 p hp' hl' (by injection e)) ((hrow _ y.2).grown (grown_put dk) fun p hp' hl' e => hfar _ y.2 p hp' hl' (by injection e)) (hr _ x.2) (hr _ y.2)) fun e w' ⟨he, q, hq⟩ => ⟨he, q, #[], by rw [hq, grow_empty]⟩)
      (holds_blk d hb (by rw [hds, h4, hdl])) (Array.getElem?_eq_some_iff.1 hb).1 (by omega)
    have hargs : ([vS 1 1 0 l.length cap, AV.one (.fn g [])].map (AV.conc ρ)).toArray = #[.slice (some ⟨b, 0, none⟩) d.size cap, .func (.func g) #[] #[]] := by
      rw [hds]; simp [vS, AV.conc, SV.conc, adr, hp]
    rw [hargs]
    refine Calls.mono hs fun e w' ⟨he, d', n, os, hperm, hsort, hw⟩ => ?_
    obtain ⟨p1, p2, p3⟩ := hperm
    have e1 : d'.extract 0 d.size = d' := by rw [← p1, Array.extract_size]
    have e2 : d.extract 0 d.size = d := Array.extract_size
    rw [e1, e2] at p3
    have hl' : (d'.toList.map Subtype.val).length = l.length := by simp [p1, hds]
    have hperm' : (d'.toList.map Subtype.val).Perm l := by
      have := p3.map Subtype.val
      simpa [d] using this
    have hown : w'.ownsRow 0 t 1 (.slice (some ⟨b, 0, none⟩) (d'.toList.map Subtype.val).length cap) (d'.toList.map Subtype.val).length ((d'.toList.map Subtype.val).map encR) := by
      refine ⟨by simp, .inr ⟨b, cap, _, rfl, Nat.zero_le _, by rw [hw]; exact heap_put d' hb, by omega, h2, by simp [putCells, h3], ?_⟩⟩
      rw [Nat.mul_one, hl', take_put d' (by omega) l.length (by omega), List.take_of_length_le (by simp; omega), List.map_map]
      rfl
    have hH2 := rows_over hH hp (w' := w') (by rw [hw]; exact grown_put d') hown fun r hr => hperm'.mem_iff.1 hr
    refine ⟨ρ, .tup [], _, 3, ⟨_, hperm', ?_, rfl, rfl, rfl⟩, he, hH2, (by intro k hk; cases hk), rows_sealed hH2 fun r hr => hperm'.mem_iff.1 hr⟩
    rw [List.pairwise_map, List.pairwise_iff_getElem]
    intro i j hi hj hij
    have := hsort i j (Nat.zero_le _) hij (by rw [← p1]; simpa using hj)
    simp only [Array.length_toList] at hi hj
    simp only [getElem!_pos d' i hi, getElem!_pos d' j hj, ltOf, decide_eq_false_iff_not] at this
    simpa using this
end Go.Proofs.YtfkbjkmlpinoeaaGreat
namespace Go.Proofs.YtfkbjkmlpinoeaaGreat
open Go.RowKit Go.Sort Go.Lib Go.Shelf
theorem RowAt.cellAt {w : World} {r : Row} (h : RowAt w false r) {k : Nat} (hk : k < r.xs.length) : ∃ b o, r.val false = .slice (some ⟨b, o, none⟩) r.xs.length r.cap ∧ w.cell? ⟨b, o + k, none⟩ = some (.int .i64 r.xs[k]) := by
  unfold RowAt at h
  cases hp : r.a with
  | none => rw [hp] at h; simp only [Row.len] at h; omega
  | some p =>
    rw [hp] at h
    refine ⟨p.1, p.2, by simp [Row.val, hp, Row.len], ?_⟩
    exact h.2 k (.int r.xs[k]) (by simp [Row.svs, hk])
theorem val_len (r : Row) : r.val false = .slice (r.a.map fun p => ⟨p.1, p.2, none⟩) r.xs.length r.cap := rfl
set_option maxHeartbeats 400000 in
theorem isNaN_any (n : Int) (w : World) : Calls Tryz.prog 139 #[.int .i64 n] w fun e w' => e = .returned (.bool false) ∧ w = w' := by
  go_enter Tryz.func139, Tryz.ntmps139
  go_wp2
  go_ret
  exact ⟨ret_bool (by simp), rfl⟩
def cmpI (a b : Int) : Int := if a < b then -1 else if b < a then 1 else 0
set_option maxHeartbeats 1000000 in
theorem cmpInt_any (a b : Int) (w : World) : Calls Tryz.prog 98 #[.int .i64 a, .int .i64 b] w fun e w' => e = .returned (.int .i64 (cmpI a b)) ∧ w = w' := by
  go_enter Tryz.func98, Tryz.ntmps98
  go_wp2_with (go_at_call 139; refine (isNaN_any _ _).mono ?_; rintro e w' ⟨rfl, rfl⟩)
  all_goals go_ret
  all_goals exact ⟨ret_int (by unfold cmpI; first | (rw [if_pos ‹_›]; done) | (rw [if_neg ‹_›, if_pos ‹_›]; done) | (rw [if_neg (by omega), if_pos (by omega)]; done) | (rw [if_neg (by omega), if_neg (by omega)])), rfl⟩
theorem cmpI_neg {a b : Int} (h : a < b) : cmpI a b = -1 := by simp [cmpI, h]
theorem cmpI_pos {a b : Int} (h : b < a) : cmpI a b = 1 := by unfold cmpI; rw [if_neg (by omega), if_pos h]
theorem cmpI_eq (a : Int) : cmpI a a = 0 := by simp [cmpI]
theorem cmpL_drop : ∀ {k : Nat} {s t : List Int}, k ≤ s.length → k ≤ t.length → s.take k = t.take k → cmpL s t = cmpL (s.drop k) (t.drop k)
  | 0, _, _, _, _, _ => by simp
  | k + 1, [], _, h, _, _ => by simp at h
  | k + 1, _ :: _, [], _, h, _ => by simp at h
  | k + 1, a :: s, b :: t, h1, h2, h => by
    simp only [List.take_succ_cons, List.cons.injEq] at h
    obtain ⟨rfl, h⟩ := h
    rw [cmpL, if_neg (by omega), if_neg (by omega), List.drop_succ_cons, List.drop_succ_cons]
    exact cmpL_drop (by simpa using h1) (by simpa using h2) h
theorem cmpL_at {k : Nat} {s t : List Int} (h1 : k < s.length) (h2 : k < t.length) (h : s.take k = t.take k) (hne : s[k] ≠ t[k]) : cmpL s t = if s[k] < t[k] then -1 else 1 := by
  rw [cmpL_drop (by omega) (by omega) h, List.drop_eq_getElem_cons h1, List.drop_eq_getElem_cons h2, cmpL]
  split
  · rfl
  · rw [if_pos (by omega)]
theorem cmpL_longer {s t : List Int} (h1 : t.length < s.length) (h : s.take t.length = t) : cmpL s t = 1 := by
  rw [cmpL_drop (k := t.length) (by omega) (Nat.le_refl _) (by rw [h]; simp), List.drop_of_length_le (Nat.le_refl t.length)]
  cases hd : s.drop t.length with
  | nil =>
    have := congrArg List.length hd
    rw [List.length_drop] at this
    simp at this; omega
  | cons a l => rfl
theorem cmpL_end {s t : List Int} (h1 : s.length ≤ t.length) (h : s = t.take s.length) : cmpL s t = if s.length < t.length then -1 else 0 := by
  rw [cmpL_drop (k := s.length) (Nat.le_refl _) h1 (by rw [← h]; simp), List.drop_of_length_le (Nat.le_refl _)]
  split
  · rename_i hlt
    rw [List.drop_eq_getElem_cons hlt]; simp [cmpL]
  · rw [List.drop_of_length_le (by omega)]; rfl
set_option maxHeartbeats 4000000 in
theorem cmpR_any (x y : Row) (w : World) (hx : RowAt w false x) (hy : RowAt w false y) (lx : x.xs.length ≤ 1000000) (ly : y.xs.length ≤ 1000000) :
    Calls Tryz.prog 52 #[encR x, encR y] w fun e w' => e = .returned (.int .i64 (cmpL x.xs y.xs)) ∧ w = w' := by
  have HX : Aside (∀ k (hk : k < x.xs.length), ∃ b o, x.val false = .slice (some ⟨b, o, none⟩) x.xs.length x.cap ∧ w.cell? ⟨b, o + k, none⟩ = some (.int .i64 x.xs[k])) := fun k hk => hx.cellAt hk
  have HY : Aside (∀ k (hk : k < y.xs.length), ∃ b o, y.val false = .slice (some ⟨b, o, none⟩) y.xs.length y.cap ∧ w.cell? ⟨b, o + k, none⟩ = some (.int .i64 y.xs[k])) := fun k hk => hy.cellAt hk
  clear hx hy
  simp only [encR]
  rw [val_len] at HX
  rw [val_len] at HY
  rw [val_len, val_len]
  generalize x.a.map (fun p => (⟨p.1, p.2, none⟩ : Addr)) = A at *
  generalize y.a.map (fun p => (⟨p.1, p.2, none⟩ : Addr)) = B at *
  generalize x.xs = xs at *
  generalize y.xs = ys at *
  generalize x.cap = cx at *
  generalize y.cap = cy at *
  go_enter Tryz.func52, Tryz.ntmps52
  go_wp2
  go_loopw [11] (fun i wr => ∃ k : Nat, k ≤ xs.length ∧ k ≤ ys.length ∧ i = .int .i64 k ∧ Hid (xs.take k = ys.take k) ∧ wr = w) (fun i _ => xs.length - (intOf i).toNat)
  case atStart => exact ⟨0, Nat.zero_le _, Nat.zero_le _, rfl, rfl, rfl⟩
  case round =>
    obtain ⟨k, hk, hk', rfl, he, rfl⟩ := hrel
    by_cases h1 : k < xs.length
    · obtain ⟨b, o, e1, c1⟩ := HX.out k h1
      injection e1 with e1 _ _
      subst e1
      by_cases h2 : k < ys.length
      · obtain ⟨b', o', e2, c2⟩ := HY.out k h2
        injection e2 with e2 _ _
        subst e2
        have K : Aside (xs.take k = ys.take k) := he
        clear he
        have E1 : Aside (cmpL xs ys = if xs[k] < ys[k] then -1 else if ys[k] < xs[k] then 1 else cmpL xs ys) := by
          show _ = _
          by_cases e : xs[k] = ys[k]
          · rw [if_neg (by omega), if_neg (by omega)]
          · have := cmpL_at h1 h2 K.out e
            rw [this]
            split
            · rfl
            · rw [if_pos (by omega)]
        have E2 : Aside (xs[k] = ys[k] → xs.take (k + 1) = ys.take (k + 1)) := by
          show _ → _
          intro e
          rw [List.take_succ_eq_append_getElem h1, List.take_succ_eq_append_getElem h2, K.out, e]
        generalize xs[k] = a at *
        generalize ys[k] = b at *
        rcases Int.lt_trichotomy a b with hab | rfl | hab
        · have hc := cmpI_neg hab
          go_wp2_with (go_at_call 98; refine (cmpInt_any _ _ _).mono ?_; rintro e w' ⟨rfl, rfl⟩; rw [hc])
          go_ret
          refine ⟨ret_int ?_, rfl⟩
          rw [E1.out, if_pos hab]
        · have hc := cmpI_eq a
          go_wp2_with (go_at_call 98; refine (cmpInt_any _ _ _).mono ?_; rintro e w' ⟨rfl, rfl⟩; rw [hc])
          go_roundw
          case rel => exact ⟨k + 1, h1, h2, by go_num, E2.out trivial, by first | rfl | trivial⟩
          case measure => simp [intOf]; omega
        · have hc := cmpI_pos hab
          go_wp2_with (go_at_call 98; refine (cmpInt_any _ _ _).mono ?_; rintro e w' ⟨rfl, rfl⟩; rw [hc])
          go_ret
          refine ⟨ret_int ?_, rfl⟩
          rw [E1.out, if_neg (by omega), if_pos hab]
      · have hk2 : k = ys.length := by omega
        have R : Aside (cmpL xs ys = 1) := by
          refine cmpL_longer (by omega) ?_
          have := he.out
          rw [hk2, List.take_of_length_le (Nat.le_refl ys.length)] at this
          exact this
        clear he
        subst hk2
        go_wp2
        go_ret
        exact ⟨ret_int R.out.symm, rfl⟩
    · have hk2 : k = xs.length := by omega
      have R : Aside (cmpL xs ys = if xs.length < ys.length then -1 else 0) := by
        refine cmpL_end (by omega) ?_
        have := he.out
        rw [hk2, List.take_of_length_le (Nat.le_refl xs.length)] at this
        exact this
      clear he
      by_cases hlt : xs.length < ys.length
      · go_wp2
        go_ret
        refine ⟨ret_int ?_, rfl⟩
        rw [R.out, if_pos hlt]
      · go_wp2
        go_ret
        refine ⟨ret_int ?_, rfl⟩
        rw [R.out, if_neg hlt]
set_option maxHeartbeats 4000000 in
theorem eqR_any (x y : Row) (w : World) (hx : RowAt w false x) (hy : RowAt w false y) (lx : x.xs.length ≤ 1000000) (ly : y.xs.length ≤ 1000000) :
    Calls Tryz.prog 55 #[encR x, encR y] w fun e w' => e = .returned (.bool (decide (x.xs = y.xs))) ∧ ∃ q, w' = w.drewN q := by
  have HX : Aside (∀ k (hk : k < x.xs.length), ∃ b o, x.val false = .slice (some ⟨b, o, none⟩) x.xs.length x.cap ∧ w.cell? ⟨b, o + k, none⟩ = some (.int .i64 x.xs[k]))   := fun k hk => hx.cellAt hk
  have HY : Aside (∀ k (hk : k < y.xs.length), ∃ b o, y.val false = .slice (some ⟨b, o, none⟩) y.xs.length y.cap ∧ w.cell? ⟨b, o + k, none⟩ = some (.int .i64 y.xs[k])) := fun k hk => hy.cellAt hk
  clear hx hy
  simp only [encR]
  rw [val_len] at HX
  rw [val_len] at HY
  rw [val_len, val_len]
  generalize x.a.map (fun p => (⟨p.1, p.2, none⟩ : Addr)) = A at *
  generalize y.a.map (fun p => (⟨p.1, p.2, none⟩ : Addr)) = B at *
  generalize x.xs = xs at *
  generalize y.xs = ys at *
  generalize x.cap = cx at *
  generalize y.cap = cy at *
  by_cases hl : xs.length = ys.length
  · have hl1 : ((xs.length : Int) != (ys.length : Int)) = false := by rw [hl]; simp
    have hl2 : ((xs.length : Int) != (xs.length : Int)) = false := by simp
    have HL := Lib.hid hl
    have mixed : Tryz.prog.follows Departure.mixedOrders = true := by kernel_rfl
    clear hl
    go_enter Tryz.func55, Tryz.ntmps55
    go_wp2
    go_loopw [13] (fun i wr => ∃ k q : Nat, k ≤ xs.length ∧ i = .int .i64 k ∧ Hid (xs.take k = ys.take k) ∧ wr = w.drewN q) (fun i _ => xs.length - (intOf i).toNat)
    case atStart => exact ⟨0, 0, Nat.zero_le _, rfl, rfl, rfl⟩
    case round =>
      obtain ⟨k, q, hk, rfl, he, rfl⟩ := hrel
      by_cases hlt : k < xs.length
      · have hlt' : k < ys.length := by have := HL.out; omega
        obtain ⟨b, o, e1, c1⟩ := HX.out k hlt
        injection e1 with e1 _ _
        subst e1
        obtain ⟨b', o', e2, c2⟩ := HY.out k hlt'
        injection e2 with e2 _ _
        subst e2
        have K : Aside (xs.take k = ys.take k) := he.out
        clear he
        have E2 : Aside (xs[k] = ys[k] → xs.take (k + 1) = ys.take (k + 1)) := by
          show _ → _
          intro e
          rw [List.take_succ_eq_append_getElem hlt, List.take_succ_eq_append_getElem hlt', K.out, e]
        have E3 : Aside (xs[k] ≠ ys[k] → xs ≠ ys) := by
          show _ → _
          intro e e'
          subst e'
          exact e rfl
        generalize xs[k] = x at *
        generalize ys[k] = y at *
        by_cases hv : x = y
        · subst hv
          go_wp2_with fail
          go_region_o
          go_wp2
          go_roundw
          case rel => exact ⟨k + 1, q + 1, hlt, by go_num, E2.out trivial, by first | rfl | trivial⟩
          case measure => simp [intOf]; omega
        · go_wp2_with fail
          go_region_o
          go_wp2
          go_ret
          exact ⟨ret_bool (by simp [E3.out hv]), q + 1, rfl⟩
      · go_wp2
        go_ret
        have h1 : k = xs.length := by omega
        have h2 : xs = ys := by
          have := he.out
          rw [h1, List.take_of_length_le (Nat.le_refl _), List.take_of_length_le (by rw [HL.out]; exact Nat.le_refl _)] at this
          exact this
        exact ⟨ret_bool (by simp [h2]), q, rfl⟩
  · have hl1 : ((xs.length : Int) != (ys.length : Int)) = true := by simp; omega
    have hne : xs ≠ ys := fun e => hl (by subst e; rfl)
    have HN := Lib.hid hne
    clear hne hl
    go_enter Tryz.func55, Tryz.ntmps55
    go_wp2
    go_ret
    exact ⟨ret_bool (by simp [HN.out]), 0, rfl⟩
set_option maxHeartbeats 1000000 in
theorem rays1_reads : ReadsR Tryz.prog 51 fun x y => .int .i64 (cmpL x y) := by
  intro w x y hx hy lx ly
  have hc := cmpR_any x y w hx hy lx ly
  go_enter Tryz.func51, Tryz.ntmps51
  go_wp2_with (go_at_call 52; refine hc.mono ?_; rintro e w' ⟨rfl, rfl⟩)
  go_ret
  exact ⟨rfl, 0, rfl⟩
set_option maxHeartbeats 1000000 in
theorem rays2_reads : ReadsR Tryz.prog 54 fun x y => .bool (decide (x = y)) := by
  intro w x y hx hy lx ly
  have hc := eqR_any x y w hx hy lx ly
  go_enter Tryz.func54, Tryz.ntmps54
  go_wp2_with (go_at_call 55; refine hc.mono ?_; rintro e w' ⟨rfl, q, rfl⟩)
  go_ret
  exact ⟨rfl, q, rfl⟩
end Go.Proofs.YtfkbjkmlpinoeaaGreat
