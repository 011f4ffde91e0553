/-
  TEXTS OF THE PROOF, put together: Am8.
-/
import Derived.Test.YtfkbjkmlpinoeaaGreatM07
set_option linter.unusedVariables false
set_option linter.unusedSimpArgs false
namespace Go.Proofs.YtfkbjkmlpinoeaaGreat
open Go.RowKit

section
variable {P : Program} {E : Env} {N : Nat} {Q : Post} {fr : Nat → Option AV} {H : Nat → Option Blk} {nx : Nat}
variable {l0 : List Oper} {ρs : Rho} {nxs : Nat} {hs : List (Nat × Blk)} {fuel : Nat} {listed : Array Bool}
theorem w_F (i : Nat) {o : Oper} {f : FuncId} {args : List AV} {Hin : List (Nat × Blk)} {n0 d : Nat} {Out : AV → List (Nat × Blk) → Nat → Prop} (hD : Does P f args Hin n0 Out) {fo : Operand} {xs : Array Operand} {ts : Array TypeId}
    (hi : nth l0 i = some o) (ho : o.op = .call ⟨.value fo, xs, ts⟩) (hdst : o.dst = some d) {l : List AV} (hl : callArgs fr fo xs = some (f, l)) (ha : l = args.map (AV.ren (mp (matchM args l)))) (hw : wantA l0 fr o = some true) (hd : inFrame N o.dst = true) (hk : leB n0 (args.flatMap AV.keys) = true)
    (hf : FitB H (mp (matchM args l)) Hin) (hok : okCall n0 nx (matchM args l) Hin = true) (hkb : keysB nxs hs = true)
    (h : ∀ v Hout n1, Out v Hout n1 → SubB (afterH H (matchM args l) n0 nx Hin Hout) hs ∧ awpH P E N l0 Q ρs nxs hs fuel (listed.setIfInBounds i true) ⟨upd fr d (v.ren (mq (matchM args l) n0 nx)), afterH H (matchM args l) n0 nx Hin Hout, nx + (n1 - n0)⟩) :
    awpHop P E N l0 Q ρs nxs hs fuel listed i ⟨fr, H, nx⟩ :=
  awpHop_op i hi hw hd hkb (OpR.call hD ho (matchM args l) (ha ▸ hl) hk hf hok) fun _ _ _ ⟨v, Hout, n1, h1, e1, e2, e3⟩ => by subst e1 e2 e3; rw [hdst]; exact h v Hout n1 h1
end

theorem set_cells {ρ ρ' : Rho} {l : List SV} {f : Nat} {v v' : SV} (hf : l[f]? = some v) (hv : v'.conc ρ' = v.conc ρ) (hr : ∀ k ∈ keysOf l, ρ' k = ρ k) : cells ρ' (l.set f v') = cells ρ l := by
  apply List.ext_getElem?
  intro i
  simp only [cells, List.getElem?_map, List.getElem?_set]
  by_cases c : f = i
  · subst c
    have hlt : f < l.length := (List.getElem?_eq_some_iff.1 hf).1
    rw [if_pos rfl, if_pos hlt, hf]
    simp [hv]
  · rw [if_neg c]
    cases h : l[i]? with
    | none => rfl
    | some u =>
      simp only [Option.map_some]
      rw [SV.conc_congr fun k hk => hr k (List.mem_flatMap.2 ⟨u, List.mem_of_getElem? h, hk⟩)]
theorem set_keys {l : List SV} {f n : Nat} {v' : SV} (h : ∀ k ∈ keysOf l, k < n) (hv : ∀ k ∈ v'.keys, k < n + 1) : ∀ k ∈ keysOf (l.set f v'), k < n + 1 := fun k hk => by
  obtain ⟨u, hu, hk'⟩ := List.mem_flatMap.1 hk
  rcases List.mem_or_eq_of_mem_set hu with q | rfl
  · exact Nat.lt_succ_of_lt (h k (List.mem_flatMap.2 ⟨u, q, hk'⟩))
  · exact hv k hk'
/-- A nil slice in a box is an owned block of nothing. -/
theorem HInv.nilBox {E : Env} {ρ : Rho} {H : Nat → Option Blk} {nx : Nat} {w : World} {k c f sz : Nat} {t et : TypeId} {l : List SV} {e0 : Elts} (h : HInv E ρ H nx w) (hk : H k = some (.own t c (.lit l))) (hf : nth l f = some (.sl 0 sz 0 0 0)) (he : e0.len = 0) (hz : Nat.beq e0.sz sz = true) :
    HInv E (setR ρ nx none) (upd (upd H nx (.own et 0 e0)) k (.own t c (.lit (l.set f (.sl nx sz 0 0 0))))) (nx + 1) w := by
  rw [nth_eq] at hf
  have hkn : k < nx := (h.key k _ hk).1
  have hk0 : ∀ x ∈ keysOf l, x < nx := (h.key k _ hk).2
  have hall : e0.all = [] := List.eq_nil_of_length_eq_zero (by rw [Elts.all_len, he, Nat.zero_mul])
  have hr0 : e0.rds = [] := Elts.rds_nil he
  have hnx : setR ρ nx none nx = none := setR_same
  have hag : ∀ x, x < nx → setR ρ nx none x = ρ x := fun x hx => setR_ne (Nat.ne_of_lt hx)
  have conc : (SV.sl nx sz 0 0 0).conc (setR ρ nx none) = (SV.sl 0 sz 0 0 0).conc ρ := by simp [SV.conc, adr, hnx, h.nil]
  have h1 : HInv E (setR ρ nx none) (upd H nx (.own et 0 e0)) (nx + 1) w := by
    refine h.add (row := none) (p := none) (b := .own et 0 e0) ⟨rfl, rfl, rfl, Nat.le_refl _, fun _ _ _ => rfl⟩ (fun _ e => by cases e) (fun _ _ _ _ _ _ e => by cases e) (fun _ _ _ _ _ e => by cases e) (fun q e => by cases e) (fun x hx => ?_) (fun _ _ _ _ _ _ _ hF => ?_) (fun _ _ _ e => by cases e) ?_ (fun q hq => ?_)
    · have : x ∈ e0.rds := hx
      rw [hr0] at this; cases this
    · obtain ⟨x, hx, _⟩ := hF
      have : x ∈ e0.rds := hx
      rw [hr0] at this; cases this
    · simp only [BlkOK]
      rw [he, hall]
      exact ⟨by simp [cells], .inl ⟨by simp [adr, hnx], rfl⟩⟩
    · simp [Blk.keys, Elts.keys, hall, keysOf] at hq
  have hk1 : upd H nx (.own et 0 e0) k = some (.own t c (.lit l)) := by rw [upd_ne (Nat.ne_of_lt hkn)]; exact hk
  refine h1.change hk1 ?_ ?_ (fun _ => rfl) (fun _ => rfl) (fun _ _ => rfl) (fun _ e => by cases e) (fun x hx => by cases hx) (fun _ _ _ _ _ _ _ hF => by obtain ⟨x, hx, _⟩ := hF; cases hx) (fun _ _ _ e => by cases e)
  · have h2 := h.blk k _ hk
    simp only [BlkOK] at h2 ⊢
    have e1 : adr (setR ρ nx none) k 0 = adr ρ k 0 := adr_congr (hag k hkn)
    have e2 : cells (setR ρ nx none) (Elts.lit (l.set f (.sl nx sz 0 0 0))).all = cells ρ (Elts.lit l).all := set_cells hf conc fun q hq => hag q (hk0 q hq)
    have e3 : (Elts.lit (l.set f (.sl nx sz 0 0 0))).sz = (Elts.lit l).sz := by simp [Elts.sz]
    rw [e1, e2, e3]
    exact h2
  · exact set_keys hk0 fun q hq => by simp [SV.keys] at hq; omega
section
variable {P : Program} {E : Env} {N : Nat} {Q : Post} {fr : Nat → Option AV} {H : Nat → Option Blk} {nx : Nat} {code : Code}
theorem awp_nil {k c f sz : Nat} {t et : TypeId} {l : List SV} {e0 : Elts} (hk : H k = some (.own t c (.lit l))) (hf : nth l f = some (.sl 0 sz 0 0 0)) (he : e0.len = 0) (hz : Nat.beq e0.sz sz = true) (hl : ∀ s, e0 ≠ .lit s)
    (h : awp P E N code Q ⟨fr, upd (upd H nx (.own et 0 e0)) k (.own t c (.lit (l.set f (.sl nx sz 0 0 0)))), nx + 1⟩) : awp P E N code Q ⟨fr, H, nx⟩ := by
  unfold awp at *
  intro ρ a w hI
  exact h _ a w ⟨hI.f.mono (fun x hx => setR_ne (Nat.ne_of_lt hx)) (Nat.le_succ _), hI.h.nilBox hk hf he hz⟩
end
end Go.Proofs.YtfkbjkmlpinoeaaGreat
