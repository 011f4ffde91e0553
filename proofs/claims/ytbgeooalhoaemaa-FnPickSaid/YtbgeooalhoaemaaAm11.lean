/-
  THE ABSTRACT MACHINE, eleventh part: a row that slept is owned again. Own text; over any program.
-/
import Derived.Test.YtbgeooalhoaemaaAm10
set_option linter.unusedVariables false
set_option linter.unusedSimpArgs false
namespace Go.Proofs.Ytbgeooalhoaemaa
open Go.RowKit

section
variable {E : Env} {ρ : Rho} {H : Nat → Option Blk} {nx : Nat} {w : World}
theorem HInv.wake (h : HInv E ρ H nx w) {kt : Nat} {t : TypeId} {l1 l2 : List Row} {r : Row} (hkt : H kt = some (.tok t false (l1 ++ r :: l2))) :
    HInv E (setR ρ nx r.a) (upd (upd (forgetH H) kt (.tok t false (l1 ++ l2))) nx (.own t r.cap (.ints r.xs))) (nx + 1) w := by
  have hbt := h.blk kt _ hkt
  simp only [BlkOK] at hbt
  obtain ⟨hz, hown, hpw⟩ := hbt
  have hr := hown r (by simp)
  have hpw2 := List.pairwise_append.1 hpw
  have hpw3 := List.pairwise_cons.1 hpw2.2.1
  have h0 := h.rowPut (r' := r) hkt rfl hr (row := none) ⟨rfl, rfl, rfl, Nat.le_refl _, fun _ _ _ => rfl⟩ (fun _ e => by cases e)
  have h1 := h0.part (k := kt) (l' := l1 ++ l2) upd_same (fun s hs => by
    rcases List.mem_append.1 hs with hs | hs
    · exact List.mem_append_left _ hs
    · exact List.mem_append_right _ (List.mem_cons_of_mem _ hs)) (fun hp => by
    have q2 := List.pairwise_append.1 hp
    exact List.pairwise_append.2 ⟨q2.1, (List.pairwise_cons.1 q2.2.1).2, fun a ha b hb => q2.2.2 a ha b (List.mem_cons_of_mem _ hb)⟩)
  have e1 : upd (upd (forgetH H) kt (.tok t false (l1 ++ r :: l2))) kt (.tok t false (l1 ++ l2)) = upd (forgetH H) kt (.tok t false (l1 ++ l2)) := by
    funext x
    by_cases c : x = kt
    · subst c; rw [upd_same, upd_same]
    · rw [upd_ne c, upd_ne c, upd_ne c]
  rw [e1] at h1
  have hF : ∀ q, r.a = some q → (Blk.tok t false (l1 ++ r :: l2)).Far q.1 := fun q hq => ⟨r, by simp, q, hq, rfl⟩
  have hcase : ∀ k b, upd (forgetH H) kt (.tok t false (l1 ++ l2)) k = some b → (k = kt ∧ b = .tok t false (l1 ++ l2)) ∨ (k ≠ kt ∧ ∃ b0, H k = some b0 ∧ b = b0.forget) := fun k b hu => by
    by_cases c : k = kt
    · subst c; rw [upd_same] at hu; cases hu; exact .inl ⟨rfl, rfl⟩
    · rw [upd_ne c] at hu; exact .inr ⟨c, forgetH_at hu⟩
  have hlive : ∀ q k b p, r.a = some q → upd (forgetH H) kt (.tok t false (l1 ++ l2)) k = some b → b.live = true → ρ k = some p → p.1 ≠ q.1 := fun q k b p hq hu hl hp => by
    rcases hcase k b hu with ⟨rfl, rfl⟩ | ⟨c, b0, hb0, rfl⟩
    · rw [hz] at hp; cases hp
    · have hl0 := Blk.forget_live b0 hl
      cases b0 with
      | dead => cases hl
      | ro e0 => exact h.tr kt k t _ _ e0 p hkt hb0 (Blk.live_ro hl0) hp r (by simp) q hq
      | own t0 c0 e0 => exact h.far k kt _ _ p q.1 hb0 hkt rfl hp (hF q hq)
      | al a0 e0 => cases hl
      | tok t0 q0 m0 =>
        have := h.blk k _ hb0
        simp only [BlkOK] at this
        rw [this.1] at hp; cases hp
  have hfar : ∀ q k b g, r.a = some q → upd (forgetH H) kt (.tok t false (l1 ++ l2)) k = some b → b.Far g → q.1 ≠ g := fun q k b g hq hu hf => by
    rcases hcase k b hu with ⟨rfl, rfl⟩ | ⟨c, b0, hb0, rfl⟩
    · obtain ⟨s, hs, p, hp, rfl⟩ := hf
      rcases List.mem_append.1 hs with hs | hs
      · exact fun e => hpw2.2.2 s hs r (by simp) p q hp hq e.symm
      · exact hpw3.1 s hs q p hq hp
    · obtain ⟨t0, q0, m0, rfl⟩ := Blk.forget_Far hf
      obtain ⟨s, hs, p, hp, rfl⟩ := hf
      exact fun e => h.tt k kt t0 t q0 false m0 _ hb0 hkt c s hs r (by simp) p q hp hq e.symm
  have hnoF : ∀ g, ¬ (Blk.own t r.cap (.ints r.xs)).Far g := fun g ⟨x, hx, _⟩ => by cases hx
  refine h1.add (row := none) ⟨rfl, rfl, rfl, Nat.le_refl _, fun _ _ _ => rfl⟩ (fun _ e => by cases e) (fun _ _ _ _ _ _ e => by cases e) (fun _ _ _ _ _ e => by cases e) (fun q hq hl => ?_) (fun x hx => by cases hx) (fun _ _ _ g _ _ _ hf => (hnoF g hf).elim) (fun _ _ _ e => by cases e) ?_ (fun k hk => by simp [Blk.keys, Elts.keys, Elts.all, ints_keys] at hk)
  · refine ⟨fun _ => h.tw kt t false _ hkt r (by simp) q hq, fun _ k b p hk hl hp => hlive q k b p hq hk hl hp, fun k b p hk ho hp => hlive q k b p hq hk (by cases b <;> first | rfl | cases ho) hp, fun _ k t' q' l hk s hs p hp => hfar q k _ p.1 hq hk ⟨s, hs, p, hp, rfl⟩, fun _ => ⟨fun k b g hk hf => hfar q k b g hq hk hf, fun g hf => (hnoF g hf).elim⟩⟩
  · have e2 : cells (setR ρ nx r.a) (r.svs false) = cells noRho (r.svs false) := List.map_congr_left fun s hs => noKeys_conc (Row.svs_keys false r s hs) _ noRho
    have e3 : (Elts.ints r.xs).all = r.svs false := rfl
    have e4 : Value.slice (adr (setR ρ nx r.a) nx 0) (Elts.ints r.xs).len r.cap = r.val false := by simp [Row.val, adr, setR_same, Row.len, Elts.len]
    simp only [BlkOK]
    rw [e4, e3, e2]
    exact hr
end
section
variable {P : Program} {E : Env} {N : Nat} {Q : Post} {fr : Nat → Option AV} {H : Nat → Option Blk} {nx : Nat} {l0 rest : List Oper} {code : Code}
theorem Inv.wake {ρ : Rho} {a : Act} {w : World} (hI : Inv E N ρ ⟨fr, H, nx⟩ a w) {s k kt sz m cp : Nat} {t : TypeId} {l1 l2 : List Row} {r : Row} {e : Elts} (hs : fr s = some (.one (.sl k sz 0 m cp))) (hk : H k = some (.al r.a e)) (hkt : H kt = some (.tok t false (l1 ++ r :: l2))) :
    ∃ ρ', Inv E N ρ' ⟨upd fr s (.one (.sl nx sz 0 m cp)), upd (upd (forgetH H) kt (.tok t false (l1 ++ l2))) nx (.own t r.cap (.ints r.xs)), nx + 1⟩ a w := by
  refine ⟨setR ρ nx r.a, ?_, hI.h.wake hkt⟩
  have hb := hI.h.blk k _ hk
  simp only [BlkOK] at hb
  have hf := hI.f.mono (ρ' := setR ρ nx r.a) (nx' := nx + 1) (fun q hq => setR_ne (Nat.ne_of_lt hq)) (Nat.le_succ _)
  refine ⟨hf.defers, hf.size, fun x v hv => ?_, fun x v hv q hq => ?_⟩ <;> dsimp only at hv ⊢
  · by_cases c : x = s
    · subst c
      rw [upd_same] at hv
      cases hv
      rw [hI.f.val _ _ hs]
      simp only [AV.conc, SV.conc, adr, setR_same, Nat.zero_mul, hb.1]
    · rw [upd_ne c] at hv; exact hf.val x v hv
  · by_cases c : x = s
    · subst c
      rw [upd_same] at hv
      cases hv
      simp [AV.keys, SV.keys] at hq
      omega
    · rw [upd_ne c] at hv; exact hf.key x v hv q hq
theorem awp_wake (s kt : Nat) (l1 l2 : List Row) (r : Row) {k sz m cp : Nat} {t : TypeId} {e : Elts} (hs : fr s = some (.one (.sl k sz 0 m cp))) (hk : H k = some (.al r.a e)) (hkt : H kt = some (.tok t false (l1 ++ r :: l2)))
    (h : awp P E N code Q ⟨upd fr s (.one (.sl nx sz 0 m cp)), upd (upd (forgetH H) kt (.tok t false (l1 ++ l2))) nx (.own t r.cap (.ints r.xs)), nx + 1⟩) : awp P E N code Q ⟨fr, H, nx⟩ := by
  unfold awp at *
  intro ρ a w hI
  obtain ⟨ρ', hI'⟩ := hI.wake hs hk hkt
  exact h ρ' a w hI'
theorem awpL_wake (s kt : Nat) (l1 l2 : List Row) (r : Row) {k sz m cp : Nat} {t : TypeId} {e : Elts} (hs : fr s = some (.one (.sl k sz 0 m cp))) (hk : H k = some (.al r.a e)) (hkt : H kt = some (.tok t false (l1 ++ r :: l2)))
    (h : awpL P E N l0 Q rest ⟨upd fr s (.one (.sl nx sz 0 m cp)), upd (upd (forgetH H) kt (.tok t false (l1 ++ l2))) nx (.own t r.cap (.ints r.xs)), nx + 1⟩) : awpL P E N l0 Q rest ⟨fr, H, nx⟩ := by
  unfold awpL at *
  intro ρ a w hI
  obtain ⟨ρ', hI'⟩ := hI.wake hs hk hkt
  exact h ρ' a w hI'
end
end Go.Proofs.Ytbgeooalhoaemaa
