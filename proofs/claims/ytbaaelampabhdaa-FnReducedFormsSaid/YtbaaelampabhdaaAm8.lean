/-
  THE ABSTRACT MACHINE, eighth part: calls of any kind inside regions that draw their order; a nil slice in a box seen as an owned block of nothing. Own text; over any program.
-/
import Derived.Test.YtbaaelampabhdaaAm7
set_option linter.unusedVariables false
set_option linter.unusedSimpArgs false
namespace Go.Proofs.Ytbaaelampabhdaa
open Go.RowKit

section
variable {P : Program} {E : Env} {N : Nat} {Q : Post} {fr : Nat → Option AV} {H : Nat → Option Blk} {nx : Nat}
variable {l0 : List Oper} {ρs : Rho} {nxs : Nat} {hs : List (Nat × Blk)} {fuel : Nat} {listed : Array Bool}
theorem awpHop_call (i : Nat) {o : Oper} {f : FuncId} {args : List AV} {Hin : List (Nat × Blk)} {n0 d : Nat} {Out : AV → List (Nat × Blk) → Nat → Prop} (hD : Does P f args Hin n0 Out) {fo : Operand} {xs : Array Operand} {ts : Array TypeId}
    (hi : nth l0 i = some o) (ho : o.op = .call ⟨.value fo, xs, ts⟩) (hdst : o.dst = some d) {l : List AV} (hl : callArgs fr fo xs = some (f, l)) (ha : l = args.map (AV.ren (mp (matchM args l)))) (hw : wantA l0 fr o = some true) (hd : inFrame N o.dst = true) (hk : leB n0 (args.flatMap AV.keys) = true)
    (hf : FitB H (mp (matchM args l)) Hin) (hok : okCall n0 nx (matchM args l) Hin = true) (hkb : keysB nxs hs = true)
    (h : ∀ v Hout n1, Out v Hout n1 → SubB (afterH H (matchM args l) n0 nx Hin Hout) hs ∧ awpH P E N l0 Q ρs nxs hs fuel (listed.setIfInBounds i true) ⟨upd fr d (v.ren (mq (matchM args l) n0 nx)), afterH H (matchM args l) n0 nx Hin Hout, nx + (n1 - n0)⟩) :
    awpHop P E N l0 Q ρs nxs hs fuel listed i ⟨fr, H, nx⟩ :=
  awpHop_op i hi hw hd hkb (OpR.call hD ho (matchM args l) (ha ▸ hl) hk hf hok) fun _ _ _ ⟨v, Hout, n1, h1, e1, e2, e3⟩ => by subst e1 e2 e3; rw [hdst]; exact h v Hout n1 h1
end

theorem set_cells {ρ ρ' : Rho} {l : List SV} {f : Nat} {v v' : SV} (hf : l[f]? = some v) (hv : v'.conc ρ' = v.conc ρ) (hr : ∀ k ∈ keysOf l, ρ' k = ρ k) : cells ρ' (l.set f v') = cells ρ l := by
  apply List.ext_getElem?
  intro i
  simp only [cells, List.getElem?_map, List.getElem?_set]
  by_cases c : f = i
  · subst c
    have hlt : f < l.length := (List.getElem?_eq_some_iff.1 hf).1
    rw [if_pos rfl, if_pos hlt, hf]
    simp [hv]
  · rw [if_neg c]
    cases h : l[i]? with
    | none => rfl
    | some u =>
      simp only [Option.map_some]
      rw [SV.conc_congr fun k hk => hr k (List.mem_flatMap.2 ⟨u, List.mem_of_getElem? h, hk⟩)]
theorem set_keys {l : List SV} {f n : Nat} {v' : SV} (h : ∀ k ∈ keysOf l, k < n) (hv : ∀ k ∈ v'.keys, k < n + 1) : ∀ k ∈ keysOf (l.set f v'), k < n + 1 := fun k hk => by
  obtain ⟨u, hu, hk'⟩ := List.mem_flatMap.1 hk
  rcases List.mem_or_eq_of_mem_set hu with q | rfl
  · exact Nat.lt_succ_of_lt (h k (List.mem_flatMap.2 ⟨u, q, hk'⟩))
  · exact hv k hk'
section
variable {P : Program} {E : Env} {N : Nat} {Q : Post} {fr : Nat → Option AV} {H : Nat → Option Blk} {nx : Nat} {code : Code}
theorem awp_nil {k c f sz : Nat} {t et : TypeId} {l : List SV} {e0 : Elts} (hk : H k = some (.own t c (.lit l))) (hf : nth l f = some (.sl 0 sz 0 0 0)) (he : e0.len = 0) (hz : Nat.beq e0.sz sz = true) (hl : ∀ s, e0 ≠ .lit s)
    (h : awp P E N code Q ⟨fr, upd (upd H nx (.own et 0 e0)) k (.own t c (.lit (l.set f (.sl nx sz 0 0 0)))), nx + 1⟩) : awp P E N code Q ⟨fr, H, nx⟩ := by
  unfold awp at *
  intro ρ a w hI
  have hpos : 0 < nx := Nat.lt_of_lt_of_le hI.h.pos hI.h.n0
  rw [nth_eq] at hf
  have hkn : k < nx := (hI.h.key k _ hk).1
  let ρ' : Rho := fun x => if x = nx then none else ρ x
  have hag : ∀ x, x < nx → ρ' x = ρ x := fun x hx => by
    show (if x = nx then none else ρ x) = ρ x
    rw [if_neg (by omega)]
  have hnx : ρ' nx = none := if_pos rfl
  have hk0 : ∀ x ∈ keysOf l, x < nx := (hI.h.key k _ hk).2
  have hall : e0.all = [] := List.eq_nil_of_length_eq_zero (by rw [Elts.all_len, he, Nat.zero_mul])
  have conc : (SV.sl nx sz 0 0 0).conc ρ' = (SV.sl 0 sz 0 0 0).conc ρ := by simp [SV.conc, adr, hnx, hI.h.nil]
  have cases_ : ∀ x b, upd (upd H nx (.own et 0 e0)) k (.own t c (.lit (l.set f (.sl nx sz 0 0 0)))) x = some b → (x = k ∧ b = .own t c (.lit (l.set f (.sl nx sz 0 0 0)))) ∨ (x ≠ k ∧ x = nx ∧ b = .own et 0 e0) ∨ (x ≠ k ∧ x ≠ nx ∧ H x = some b) := fun x b hb => by
    by_cases c1 : x = k
    · subst c1; rw [upd_same] at hb; cases hb; exact .inl ⟨rfl, rfl⟩
    · rw [upd_ne c1] at hb
      by_cases c2 : x = nx
      · subst c2; rw [upd_same] at hb; cases hb; exact .inr (.inl ⟨c1, rfl, rfl⟩)
      · rw [upd_ne c2] at hb; exact .inr (.inr ⟨c1, c2, hb⟩)
  have old : ∀ x b, upd (upd H nx (.own et 0 e0)) k (.own t c (.lit (l.set f (.sl nx sz 0 0 0)))) x = some b → x = nx ∨ ∃ b0, H x = some b0 ∧ b0.isOwn = b.isOwn ∧ b0.live = b.live := fun x b hb => by
    rcases cases_ x b hb with ⟨rfl, rfl⟩ | ⟨_, rfl, rfl⟩ | ⟨_, _, h1⟩
    · exact .inr ⟨_, hk, rfl, rfl⟩
    · exact .inl rfl
    · exact .inr ⟨b, h1, rfl, rfl⟩
  refine h ρ' a w ⟨hI.f.mono (fun x hx => hag x hx) (Nat.le_succ _), ?_⟩
  refine ⟨by rw [hag 0 hpos]; exact hI.h.nil, fun x b hb => ?_, fun x b hb => ?_, fun x x' b b' p p' hb hb' ho hli hne hp hp' => ?_, fun x b p hb hli hge hp => ?_, fun x b hb ho hlt => ?_, hI.h.keeps, fun x hx => ?_, Nat.le_succ_of_le hI.h.n0, hI.h.pos⟩
  · rcases cases_ x b hb with ⟨rfl, rfl⟩ | ⟨_, rfl, rfl⟩ | ⟨_, c2, h1⟩
    · have h2 := hI.h.blk x _ hk
      simp only [BlkOK] at h2 ⊢
      have e1 : adr ρ' x 0 = adr ρ x 0 := adr_congr (hag x hkn)
      have e2 : cells ρ' (Elts.lit (l.set f (.sl nx sz 0 0 0))).all = cells ρ (Elts.lit l).all := set_cells hf conc fun q hq => hag q (hk0 q hq)
      have e3 : (Elts.lit (l.set f (.sl nx sz 0 0 0))).sz = (Elts.lit l).sz := by simp [Elts.sz]
      rw [e1, e2, e3]
      exact h2
    · simp only [BlkOK]
      rw [he, hall]
      exact ⟨by simp [cells], .inl ⟨by simp [adr, hnx], rfl⟩⟩
    · have hx := hI.h.key x b h1
      exact (hI.h.blk x b h1).congr (hag x hx.1) fun q hq => hag q (hx.2 q hq)
  · rcases cases_ x b hb with ⟨rfl, rfl⟩ | ⟨_, rfl, rfl⟩ | ⟨_, c2, h1⟩
    · exact ⟨Nat.lt_succ_of_lt hkn, set_keys hk0 fun q hq => by simp [SV.keys] at hq; omega⟩
    · exact ⟨Nat.lt_succ_self _, fun q hq => by simp [Blk.keys, Elts.keys, hall, keysOf] at hq⟩
    · have hx := hI.h.key x b h1
      exact ⟨Nat.lt_succ_of_lt hx.1, fun q hq => Nat.lt_succ_of_lt (hx.2 q hq)⟩
  · rcases old x b hb with rfl | ⟨b0, h1, h2, h3⟩
    · rw [hnx] at hp; cases hp
    · rcases old x' b' hb' with rfl | ⟨b1, h4, h5, h6⟩
      · rw [hnx] at hp'; cases hp'
      · have l1 := (hI.h.key x b0 h1).1
        have l2 := (hI.h.key x' b1 h4).1
        rw [hag x l1] at hp
        rw [hag x' l2] at hp'
        exact hI.h.inj x x' b0 b1 p p' h1 h4 (h2.trans ho) (h6.trans hli) hne hp hp'
  · rcases old x b hb with rfl | ⟨b0, h1, h2, h3⟩
    · rw [hnx] at hp; cases hp
    · rw [hag x (hI.h.key x b0 h1).1] at hp
      exact hI.h.new x b0 p h1 (h3.trans hli) hge hp
  · rcases old x b hb with rfl | ⟨b0, h1, h2, h3⟩
    · have q : E.n0 ≤ x := hI.h.n0; omega
    · exact hI.h.old x b0 h1 (h2.trans ho) hlt
  · have q : E.n0 ≤ nx := hI.h.n0
    rw [hag x (by omega)]; exact hI.h.ent x hx
end
end Go.Proofs.Ytbaaelampabhdaa
