/-
  THE ABSTRACT MACHINE, eighth part: a call of any kind inside a region that draws its order. Own text; over any program.
-/
import Derived.Test.YtbaaelampabhdaaAm7
set_option linter.unusedVariables false
set_option linter.unusedSimpArgs false
namespace Go.Proofs.Ytbaaelampabhdaa
open Go.RowKit

section
variable {P : Program} {E : Env} {N : Nat} {Q : Post} {fr : Nat → Option AV} {H : Nat → Option Blk} {nx : Nat}
variable {l0 : List Oper} {ρs : Rho} {nxs : Nat} {hs : List (Nat × Blk)} {fuel : Nat} {listed : Array Bool}
theorem awpHop_call (i : Nat) {o : Oper} {f : FuncId} {args : List AV} {Hin : List (Nat × Blk)} {n0 d : Nat} {Out : AV → List (Nat × Blk) → Nat → Prop} (hD : Does P f args Hin n0 Out) {fo : Operand} {xs : Array Operand} {ts : Array TypeId}
    (hi : nth l0 i = some o) (ho : o.op = .call ⟨.value fo, xs, ts⟩) (hdst : o.dst = some d) {l : List AV} (hl : callArgs fr fo xs = some (f, l)) (ha : l = args.map (AV.ren (mp (matchM args l)))) (hw : wantA l0 fr o = some true) (hd : inFrame N o.dst = true) (hk : leB n0 (args.flatMap AV.keys) = true)
    (hf : FitB H (mp (matchM args l)) Hin) (hok : okCall n0 nx (matchM args l) Hin = true) (hkb : keysB nxs hs = true)
    (h : ∀ v Hout n1, Out v Hout n1 → SubB (afterH H (matchM args l) n0 nx Hin Hout) hs ∧ awpH P E N l0 Q ρs nxs hs fuel (listed.setIfInBounds i true) ⟨upd fr d (v.ren (mq (matchM args l) n0 nx)), afterH H (matchM args l) n0 nx Hin Hout, nx + (n1 - n0)⟩) :
    awpHop P E N l0 Q ρs nxs hs fuel listed i ⟨fr, H, nx⟩ :=
  awpHop_op i hi hw hd hkb (OpR.call hD ho (matchM args l) (ha ▸ hl) hk hf hok) fun _ _ _ ⟨v, Hout, n1, h1, e1, e2, e3⟩ => by subst e1 e2 e3; rw [hdst]; exact h v Hout n1 h1
end
end Go.Proofs.Ytbaaelampabhdaa
