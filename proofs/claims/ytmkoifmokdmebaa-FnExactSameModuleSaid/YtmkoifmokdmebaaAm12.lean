/-
  THE ABSTRACT MACHINE: the states after a part of the code, in one form.
-/
import Derived.Test.YtmkoifmokdmebaaAm8
set_option linter.unusedVariables false
set_option linter.unusedSimpArgs false
namespace Go.Proofs.Ytmkoifmokdmebaa
open Go.RowKit
section
variable {P : Program} {E : Env} {N : Nat} {Q : Post} {fr : Nat → Option AV} {H : Nat → Option Blk} {nx : Nat}
/-- What the first part hands on: a state of a given form. -/
def cutQ {α : Type} (n0 : Nat) (pre : α → Prop) (F : α → List (Nat × AV)) (Hh : α → List (Nat × Blk)) (nx : Nat) (Q : Post) : Post := fun e σ => match e with
  | .normal => ∃ m y, pre y ∧ Weak n0 σ.fr σ.H m (F y) (Hh y) nx
  | e => Q e σ
/-- Cut after the part that begins with region i. -/
theorem awp_cut {α : Type} (i : Nat) {ops : Array Oper} {dr : Bool} {x2 y : Code} {n0 : Nat} (hn : E.n0 = n0) (pre : α → Prop) (F : α → List (Nat × AV)) (Hh : α → List (Nat × Blk)) (nx1 : Nat)
    (h : awp P E N (.seq (.region i ops dr) x2) (cutQ n0 pre F Hh nx1 Q) ⟨fr, H, nx⟩)
    (hr : ∀ z, pre z → awp P E N y Q ⟨lk (F z), lk (Hh z), nx1⟩) : awp P E N (.seq (.seq (.region i ops dr) x2) y) Q ⟨fr, H, nx⟩ := by
  unfold awp at *
  intro ρ a w hI
  refine wp_seq (Code.wp_mono (fun e a' w' hq => ?_) (h ρ a w hI))
  obtain ⟨ρ', σ', hI', hq⟩ := hq
  cases e with
  | normal =>
    obtain ⟨m, z, hp, hw⟩ := hq
    exact hr z hp _ a' w' (hI'.weak hn hw.f hw.h hw.ok)
  | exit id => exact ⟨ρ', σ', hI', hq⟩
  | goto l => exact ⟨ρ', σ', hI', hq⟩
  | ret => exact ⟨ρ', σ', hI', hq⟩
  | panic => exact ⟨ρ', σ', hI', hq⟩
  | outgrown => exact ⟨ρ', σ', hI', hq⟩
theorem Does.mono {f : FuncId} {args : List AV} {Hin : List (Nat × Blk)} {n0 : Nat} {Out Out' : AV → List (Nat × Blk) → Nat → Prop} (hD : Does P f args Hin n0 Out) (hm : ∀ v Hout n1, Out v Hout n1 → Out' v Hout n1) : Does P f args Hin n0 Out' :=
  ⟨hD.fn, fun ρ w hH hk => Calls.mono (hD.calls ρ w hH hk) fun _ _ ⟨ρ', v, Hout, n1, ho, h⟩ => ⟨ρ', v, Hout, n1, hm _ _ _ ho, h⟩⟩
end
end Go.Proofs.Ytmkoifmokdmebaa
