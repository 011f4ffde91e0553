/-
  TEXTS OF THE PROOF, put together: bLaw.
-/
import Derived.Test.YtekpamojojfplaaGreatB06
import Derived.Test.YtekpamojojfplaaGreatB38
set_option linter.unusedVariables false
set_option linter.unusedSimpArgs false
namespace Go.Proofs.YtekpamojojfplaaGreat
open Go.ChangeShapes Go.WideShapes Go.ChangeAt Go.RowKit Go.Joins
def plainB : Blk → Bool
  | .ro e => !e.flag
  | .dead => true
  | _ => false
theorem Elts.flag_rds {e : Elts} (h : e.flag = false) : e.rds = [] := by
  cases e with
  | rows q f l => simp only [Elts.flag] at h; subst h; rfl
  | vals f l => simp only [Elts.flag] at h; subst h; rfl
  | mats f l => simp only [Elts.flag] at h; subst h; rfl
  | _ => rfl
theorem plainB_sound {b : Blk} (h : plainB b = true) : b.isOwn = false ∧ b.isAl = false ∧ b.rds = [] ∧ ∀ g, ¬ b.Far g := by
  cases b with
  | dead => exact ⟨rfl, rfl, rfl, fun g ⟨x, hx, _⟩ => by cases hx⟩
  | ro e =>
    simp only [plainB, Bool.not_eq_true'] at h
    have h0 := Elts.flag_rds h
    exact ⟨rfl, rfl, h0, fun g ⟨x, hx, _⟩ => by have : x ∈ e.rds := hx
                                                rw [h0] at this; cases this⟩
  | _ => cases h
def roIn (Hin : List (Nat × Blk)) (n0 : Nat) : Bool := Hin.all fun p => Nat.blt p.1 n0 && plainB p.2 && p.2.keys.all fun k => Nat.blt k n0
def BlksOK (ρ : Rho) (w : World) : List (Nat × Blk) → Prop
  | [] => True
  | p :: r => BlkOK ρ p.1 w p.2 ∧ BlksOK ρ w r
theorem BlksOK.at_ {ρ : Rho} {w : World} : ∀ {l : List (Nat × Blk)}, BlksOK ρ w l → ∀ p ∈ l, BlkOK ρ p.1 w p.2
  | p :: r, h, q, hq => by
    rcases List.mem_cons.1 hq with rfl | hq
    · exact h.1
    · exact BlksOK.at_ h.2 q hq
theorem Does.gives {f : FuncId} {args : List AV} {Hin : List (Nat × Blk)} {n0 n : Nat} {v : AV} (h : Does Tryz.prog f args Hin n0 (Ret v n)) (ρ : Rho) (w : World) (h0 : ρ 0 = none) (hpos : 0 < n0) (hin : roIn Hin n0 = true)
    (hb : BlksOK ρ w Hin) (ha : leB n0 (args.flatMap AV.keys) = true) (hv : v.keys = []) : Gives Tryz.prog f (args.map (AV.conc ρ)).toArray w (v.conc ρ) := by
  have hk : ∀ {k b}, lk Hin k = some b → k < n0 ∧ b.isOwn = false ∧ (∀ k' ∈ b.keys, k' < n0) ∧ b.rds = [] ∧ ∀ g, ¬ b.Far g := fun hl => by
    have := List.all_eq_true.1 hin _ (lk_mem hl)
    simp only [Bool.and_eq_true, Bool.not_eq_true', List.all_eq_true] at this
    obtain ⟨f1, _, f2, f3⟩ := plainB_sound this.1.2
    exact ⟨nblt this.1.1, f1, fun k' hk' => nblt (this.2 k' hk'), f2, f3⟩
  have ha' := leB_sound ha
  refine Gives.of_below (Calls.mono (h.calls ρ w ⟨h0, fun k b hl => hb.at_ _ (lk_mem hl), fun k b hl => ⟨(hk hl).1, (hk hl).2.2.1⟩, fun k k' b b' p p' hl _ ho => ?_, fun k b p hl _ _ hge => ?_, fun k b hl ho => ?_, ⟨rfl, rfl, rfl, Nat.le_refl _, fun _ _ _ _ => rfl⟩, fun _ _ => rfl, Nat.le_refl _, hpos, fun k b hl x hx => ?_, fun k k' b b' p g hl _ ho => ?_, fun k k' t t' q q' l l' hl => ?_, fun k t q l hl => ?_, fun k k' t q l e p hl => ?_⟩
    (fun u hu k hk' => ha' k (List.mem_flatMap.2 ⟨u, hu, hk'⟩))) ?_)
  · rw [(hk hl).2.1] at ho; cases ho
  · have := (hk hl).1
    exact absurd hge (by simpa [envOf] using this)
  · rw [(hk hl).2.1] at ho; cases ho
  · rw [(hk hl).2.2.2.1] at hx; cases hx
  · rw [(hk hl).2.1] at ho; cases ho
  · cases (hk hl).2.1
  · cases (hk hl).2.1
  · cases (hk hl).2.1
  · rintro e w' ⟨ρ', v', Hout, n1, ⟨rfl, rfl, rfl⟩, rfl, hH, _⟩
    refine ⟨congrArg _ (AV.conc_congr fun k hk' => by rw [hv] at hk'; cases hk'), hH.keeps.os, hH.keeps.tape, hH.keeps.output, hH.keeps.size, fun b hlt => hH.keeps.block b hlt (fun k p _ ho _ => ?_) fun ⟨k, t, q, l, hl, _⟩ => ?_⟩
    · obtain ⟨b', hl, ho⟩ := ho
      rw [(hk hl).2.1] at ho; cases ho
    · cases (hk hl).2.1
def rhoOf (l : List (Nat × Option Addr)) : Rho := fun k => match lk l k with
  | some (some a) => some (a.block, a.off)
  | _ => none
def SlOK (A : Option Addr) : Prop := ∀ a, A = some a → a.spot = none
theorem rhoOf_adr {l : List (Nat × Option Addr)} {k : Nat} {A : Option Addr} (hA : SlOK A) (h : lk l k = some A) : adr (rhoOf l) k 0 = A := by
  cases A with
  | none => simp [adr, rhoOf, h]
  | some a =>
    have := hA a rfl
    cases a
    simp at this
    subst this
    simp [adr, rhoOf, h]
theorem RI.blk {l : List (Nat × Option Addr)} {k : Nat} {A : Option Addr} {w : World} {xs : List Int} (hR : RI w A xs) (h : lk l k = some A) : BlkOK (rhoOf l) k w (.ro (.ints xs)) := by
  cases A with
  | none =>
    have : ¬0 < xs.length := fun h => by obtain ⟨b, off, e, _⟩ := hR h; cases e
    have hρ : rhoOf l k = none := by simp [rhoOf, h]
    simp only [BlkOK, hρ, Elts.len]
    omega
  | some a =>
    have hρ : rhoOf l k = some (a.block, a.off) := by simp [rhoOf, h]
    simp only [BlkOK, hρ]
    refine ⟨fun hl => ?_, fun j u hu => ?_⟩
    · obtain ⟨b, off, e, hb, _⟩ := hR hl
      cases e; exact hb
    · simp only [Elts.all, List.getElem?_map, Option.map_eq_some_iff] at hu
      obtain ⟨n, hn, rfl⟩ := hu
      obtain ⟨hj, rfl⟩ := List.getElem?_eq_some_iff.1 hn
      obtain ⟨b, off, e, _, hc⟩ := hR (by omega)
      cases e; exact hc j hj
theorem okWide_spot {P : Program} {w : World} {r : Reach} {b : Nat} {t e : TypeId} {A : Option Addr} {n c : Nat} (ht : P.underlying t = some (.slice e)) (h : Cell.okWide P w r b t (.slice A n c)) : SlOK A ∧ n ≤ c := by
  simp only [Cell.okWide, ht] at h
  cases A with
  | none =>
    refine ⟨fun a e => (by cases e), ?_⟩
    simp only [Cell.ok, ht] at h
    split at h <;> simp_all
  | some a =>
    simp only [Cell.ok, ht] at h
    refine ⟨fun a' e => ?_, h.1⟩
    cases e
    exact h.2.2.2.1
set_option maxRecDepth 100000 in
theorem open_RS_arg {H : Type} {enc : TypeId × Value → H} {w : World} {v : Value} {d : DataW H} {p : List MemPlace} {b : Nat}
    (hv : Value.okWide Tryz.prog w .any b 24 v) (h : DataW.Trod enc Tryz.prog w 0 (fun _ => true) true 24 v d p) :
    ∃ (A : Option Addr) (c : Nat) (xs : List Int), v = .slice A xs.length c ∧ xs.length ≤ 9223372036854775807 ∧ RI w A xs ∧ SlOK A ∧ xs.length ≤ c ∧ ∀ n ∈ xs, -9223372036854775808 ≤ n ∧ n ≤ 9223372036854775807 := by
  obtain ⟨A, c, xs, rfl, h1, h2, h3⟩ := open_RI_arg hv h
  simp only [Value.okWide, Tryz.underlying24] at hv
  obtain ⟨h4, h5⟩ := okWide_spot Tryz.underlying24 hv
  exact ⟨A, c, xs, rfl, h1, h2, h4, h5, h3⟩
end Go.Proofs.YtekpamojojfplaaGreat
