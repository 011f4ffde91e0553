/-
  No cell of these rows narrows 'for every input' (looked for: loops, veiled, ifaces, maps, wideKeys, modest, calm, conditions, laid).
  DERIVED. THE GIVEN ROWS OF THIS SEAT. 13 by the template 'for every input the law returns true; each argument reads behind the call as it read before'; 0 by the template 'total and deterministic' (their statements: YtbaaelampabhdaaTotals.lean).
  GIVEN WITH THE SEED: the statements are not yours to turn. If you find one false, say at which input.
  Laid BY PROGRAM, IN A SANDBOX (cutbox-rows.mjs): the forced cells as the released guide's own fill.sh prints them over the translation f4bfb0e51b894675… (all of the seat's roots in one cut). By AI agents, Wed Nov 11 2026. No macro, syntax, notation, axiom, sorry.
-/
import Derived.Test.YtbaaelampabhdaaChecked
import GoSem.Claim
import GoSem.ClaimJoined
import GoSem.ClaimMapViews
import Derived.JoinedTies
import Derived.KernelRfl
namespace Go.Proofs.Ytbaaelampabhdaa
/- THE CELL 'sum', in the pinned program and in every row, IS THE sha256 OF THE DUMP (.gsa) THAT YtbaaelampabhdaaProg.lean LOADS. Nothing in Lean hashes anything: it is a label: what it is worth is what the hold of that sum in a sandbox is worth. -/
noncomputable def Try.pinned : Pinned := { name := "ytbaaelampabhdaa", sum := "f4bfb0e51b894675df88afb55e9b0b1f5adbe43004cc9898143a2ccf1cdc69f5", checked := Try.checked }
namespace Rows
def none {H : Type} : Left H := { results := [], args := [] }

/-- 'laws.FnExactFormAt': WHATEVER THE INPUT: true; the input reads as it did. -/
def fnExactFormAtSpec : ChangeSpec := { name := "fnExactFormAt", fn := fun _ => fun
  | [d1, d2, d3] => { results := [.lit (.bool true)], args := [d1, d2, d3] }
  | _ => none }
def fnExactFormAtRow : OpenClaim := { program := "ytbaaelampabhdaa", sum := "f4bfb0e51b894675df88afb55e9b0b1f5adbe43004cc9898143a2ccf1cdc69f5", func := "loop.example/g03411/laws.FnExactFormAt", spec := "fnExactFormAt", apart := false }
def FnExactFormAtSaid : Prop := fnExactFormAtRow.holds Try.pinned (OpenSpec.ofChange fnExactFormAtSpec)

/-- ITS FALSE NEIGHBOUR: 'it returns false'. Refute it at one input. -/
def fnExactFormAtWrong : ChangeSpec := { name := "fnExactFormAt", fn := fun _ => fun
  | [d1, d2, d3] => { results := [.lit (.bool false)], args := [d1, d2, d3] }
  | _ => none }
def FnExactFormAtWrongFalsely : Prop := fnExactFormAtRow.holds Try.pinned (OpenSpec.ofChange fnExactFormAtWrong)

/-- 'laws.FnExactPrincipalForm': WHATEVER THE INPUT: true; the input reads as it did. -/
def fnExactPrincipalFormSpec : ChangeSpec := { name := "fnExactPrincipalForm", fn := fun _ => fun
  | [d] => { results := [.lit (.bool true)], args := [d] }
  | _ => none }
def fnExactPrincipalFormRow : OpenClaim := { program := "ytbaaelampabhdaa", sum := "f4bfb0e51b894675df88afb55e9b0b1f5adbe43004cc9898143a2ccf1cdc69f5", func := "loop.example/g03411/laws.FnExactPrincipalForm", spec := "fnExactPrincipalForm", apart := false }
def FnExactPrincipalFormSaid : Prop := fnExactPrincipalFormRow.holds Try.pinned (OpenSpec.ofChange fnExactPrincipalFormSpec)

/-- ITS FALSE NEIGHBOUR: 'it returns false'. Refute it at one input. -/
def fnExactPrincipalFormWrong : ChangeSpec := { name := "fnExactPrincipalForm", fn := fun _ => fun
  | [d] => { results := [.lit (.bool false)], args := [d] }
  | _ => none }
def FnExactPrincipalFormWrongFalsely : Prop := fnExactPrincipalFormRow.holds Try.pinned (OpenSpec.ofChange fnExactPrincipalFormWrong)

/-- 'laws.FnExactIsPrimitive': WHATEVER THE INPUT: true; the input reads as it did. -/
def fnExactIsPrimitiveSpec : ChangeSpec := { name := "fnExactIsPrimitive", fn := fun _ => fun
  | [d] => { results := [.lit (.bool true)], args := [d] }
  | _ => none }
def fnExactIsPrimitiveRow : OpenClaim := { program := "ytbaaelampabhdaa", sum := "f4bfb0e51b894675df88afb55e9b0b1f5adbe43004cc9898143a2ccf1cdc69f5", func := "loop.example/g03411/laws.FnExactIsPrimitive", spec := "fnExactIsPrimitive", apart := false }
def FnExactIsPrimitiveSaid : Prop := fnExactIsPrimitiveRow.holds Try.pinned (OpenSpec.ofChange fnExactIsPrimitiveSpec)

/-- ITS FALSE NEIGHBOUR: 'it returns false'. Refute it at one input. -/
def fnExactIsPrimitiveWrong : ChangeSpec := { name := "fnExactIsPrimitive", fn := fun _ => fun
  | [d] => { results := [.lit (.bool false)], args := [d] }
  | _ => none }
def FnExactIsPrimitiveWrongFalsely : Prop := fnExactIsPrimitiveRow.holds Try.pinned (OpenSpec.ofChange fnExactIsPrimitiveWrong)

/-- 'laws.FnExactFormsOf': WHATEVER THE INPUT: true; the input reads as it did. -/
def fnExactFormsOfSpec : ChangeSpec := { name := "fnExactFormsOf", fn := fun _ => fun
  | [d] => { results := [.lit (.bool true)], args := [d] }
  | _ => none }
def fnExactFormsOfRow : OpenClaim := { program := "ytbaaelampabhdaa", sum := "f4bfb0e51b894675df88afb55e9b0b1f5adbe43004cc9898143a2ccf1cdc69f5", func := "loop.example/g03411/laws.FnExactFormsOf", spec := "fnExactFormsOf", apart := false }
def FnExactFormsOfSaid : Prop := fnExactFormsOfRow.holds Try.pinned (OpenSpec.ofChange fnExactFormsOfSpec)

/-- ITS FALSE NEIGHBOUR: 'it returns false'. Refute it at one input. -/
def fnExactFormsOfWrong : ChangeSpec := { name := "fnExactFormsOf", fn := fun _ => fun
  | [d] => { results := [.lit (.bool false)], args := [d] }
  | _ => none }
def FnExactFormsOfWrongFalsely : Prop := fnExactFormsOfRow.holds Try.pinned (OpenSpec.ofChange fnExactFormsOfWrong)

/-- 'laws.FnExactChangeForm': WHATEVER THE INPUT: true; the input reads as it did. -/
def fnExactChangeFormSpec : ChangeSpec := { name := "fnExactChangeForm", fn := fun _ => fun
  | [d1, d2] => { results := [.lit (.bool true)], args := [d1, d2] }
  | _ => none }
def fnExactChangeFormRow : OpenClaim := { program := "ytbaaelampabhdaa", sum := "f4bfb0e51b894675df88afb55e9b0b1f5adbe43004cc9898143a2ccf1cdc69f5", func := "loop.example/g03411/laws.FnExactChangeForm", spec := "fnExactChangeForm", apart := false }
def FnExactChangeFormSaid : Prop := fnExactChangeFormRow.holds Try.pinned (OpenSpec.ofChange fnExactChangeFormSpec)

/-- ITS FALSE NEIGHBOUR: 'it returns false'. Refute it at one input. -/
def fnExactChangeFormWrong : ChangeSpec := { name := "fnExactChangeForm", fn := fun _ => fun
  | [d1, d2] => { results := [.lit (.bool false)], args := [d1, d2] }
  | _ => none }
def FnExactChangeFormWrongFalsely : Prop := fnExactChangeFormRow.holds Try.pinned (OpenSpec.ofChange fnExactChangeFormWrong)

/-- 'laws.FnExactEquivalentForms': WHATEVER THE INPUT: true; the input reads as it did. -/
def fnExactEquivalentFormsSpec : ChangeSpec := { name := "fnExactEquivalentForms", fn := fun _ => fun
  | [d1, d2] => { results := [.lit (.bool true)], args := [d1, d2] }
  | _ => none }
def fnExactEquivalentFormsRow : OpenClaim := { program := "ytbaaelampabhdaa", sum := "f4bfb0e51b894675df88afb55e9b0b1f5adbe43004cc9898143a2ccf1cdc69f5", func := "loop.example/g03411/laws.FnExactEquivalentForms", spec := "fnExactEquivalentForms", apart := false }
def FnExactEquivalentFormsSaid : Prop := fnExactEquivalentFormsRow.holds Try.pinned (OpenSpec.ofChange fnExactEquivalentFormsSpec)

/-- ITS FALSE NEIGHBOUR: 'it returns false'. Refute it at one input. -/
def fnExactEquivalentFormsWrong : ChangeSpec := { name := "fnExactEquivalentForms", fn := fun _ => fun
  | [d1, d2] => { results := [.lit (.bool false)], args := [d1, d2] }
  | _ => none }
def FnExactEquivalentFormsWrongFalsely : Prop := fnExactEquivalentFormsRow.holds Try.pinned (OpenSpec.ofChange fnExactEquivalentFormsWrong)

/-- 'laws.FnExactReduceForm': WHATEVER THE INPUT: true; the input reads as it did. -/
def fnExactReduceFormSpec : ChangeSpec := { name := "fnExactReduceForm", fn := fun _ => fun
  | [d] => { results := [.lit (.bool true)], args := [d] }
  | _ => none }
def fnExactReduceFormRow : OpenClaim := { program := "ytbaaelampabhdaa", sum := "f4bfb0e51b894675df88afb55e9b0b1f5adbe43004cc9898143a2ccf1cdc69f5", func := "loop.example/g03411/laws.FnExactReduceForm", spec := "fnExactReduceForm", apart := false }
def FnExactReduceFormSaid : Prop := fnExactReduceFormRow.holds Try.pinned (OpenSpec.ofChange fnExactReduceFormSpec)

/-- ITS FALSE NEIGHBOUR: 'it returns false'. Refute it at one input. -/
def fnExactReduceFormWrong : ChangeSpec := { name := "fnExactReduceForm", fn := fun _ => fun
  | [d] => { results := [.lit (.bool false)], args := [d] }
  | _ => none }
def FnExactReduceFormWrongFalsely : Prop := fnExactReduceFormRow.holds Try.pinned (OpenSpec.ofChange fnExactReduceFormWrong)

/-- 'laws.FnRepresented': WHATEVER THE INPUT: true; the input reads as it did. -/
def fnRepresentedSpec : ChangeSpec := { name := "fnRepresented", fn := fun _ => fun
  | [d] => { results := [.lit (.bool true)], args := [d] }
  | _ => none }
def fnRepresentedRow : OpenClaim := { program := "ytbaaelampabhdaa", sum := "f4bfb0e51b894675df88afb55e9b0b1f5adbe43004cc9898143a2ccf1cdc69f5", func := "loop.example/g03411/laws.FnRepresented", spec := "fnRepresented", recurses := true, apart := false }
def FnRepresentedSaid : Prop := fnRepresentedRow.holds Try.pinned (OpenSpec.ofChange fnRepresentedSpec)

/-- ITS FALSE NEIGHBOUR: 'it returns false'. Refute it at one input. -/
def fnRepresentedWrong : ChangeSpec := { name := "fnRepresented", fn := fun _ => fun
  | [d] => { results := [.lit (.bool false)], args := [d] }
  | _ => none }
def FnRepresentedWrongFalsely : Prop := fnRepresentedRow.holds Try.pinned (OpenSpec.ofChange fnRepresentedWrong)

/-- 'laws.FnExactComposeForms': WHATEVER THE INPUT: true; the input reads as it did. -/
def fnExactComposeFormsSpec : ChangeSpec := { name := "fnExactComposeForms", fn := fun _ => fun
  | [d1, d2] => { results := [.lit (.bool true)], args := [d1, d2] }
  | _ => none }
def fnExactComposeFormsRow : OpenClaim := { program := "ytbaaelampabhdaa", sum := "f4bfb0e51b894675df88afb55e9b0b1f5adbe43004cc9898143a2ccf1cdc69f5", func := "loop.example/g03411/laws.FnExactComposeForms", spec := "fnExactComposeForms", apart := false }
def FnExactComposeFormsSaid : Prop := fnExactComposeFormsRow.holds Try.pinned (OpenSpec.ofChange fnExactComposeFormsSpec)

/-- ITS FALSE NEIGHBOUR: 'it returns false'. Refute it at one input. -/
def fnExactComposeFormsWrong : ChangeSpec := { name := "fnExactComposeForms", fn := fun _ => fun
  | [d1, d2] => { results := [.lit (.bool false)], args := [d1, d2] }
  | _ => none }
def FnExactComposeFormsWrongFalsely : Prop := fnExactComposeFormsRow.holds Try.pinned (OpenSpec.ofChange fnExactComposeFormsWrong)

/-- 'laws.FnExactOrderOfForm': WHATEVER THE INPUT: true; the input reads as it did. -/
def fnExactOrderOfFormSpec : ChangeSpec := { name := "fnExactOrderOfForm", fn := fun _ => fun
  | [d] => { results := [.lit (.bool true)], args := [d] }
  | _ => none }
def fnExactOrderOfFormRow : OpenClaim := { program := "ytbaaelampabhdaa", sum := "f4bfb0e51b894675df88afb55e9b0b1f5adbe43004cc9898143a2ccf1cdc69f5", func := "loop.example/g03411/laws.FnExactOrderOfForm", spec := "fnExactOrderOfForm", apart := false }
def FnExactOrderOfFormSaid : Prop := fnExactOrderOfFormRow.holds Try.pinned (OpenSpec.ofChange fnExactOrderOfFormSpec)

/-- ITS FALSE NEIGHBOUR: 'it returns false'. Refute it at one input. -/
def fnExactOrderOfFormWrong : ChangeSpec := { name := "fnExactOrderOfForm", fn := fun _ => fun
  | [d] => { results := [.lit (.bool false)], args := [d] }
  | _ => none }
def FnExactOrderOfFormWrongFalsely : Prop := fnExactOrderOfFormRow.holds Try.pinned (OpenSpec.ofChange fnExactOrderOfFormWrong)

/-- 'laws.FnReducedForms': WHATEVER THE INPUT: true; the input reads as it did. -/
def fnReducedFormsSpec : ChangeSpec := { name := "fnReducedForms", fn := fun _ => fun
  | [d] => { results := [.lit (.bool true)], args := [d] }
  | _ => none }
def fnReducedFormsRow : OpenClaim := { program := "ytbaaelampabhdaa", sum := "f4bfb0e51b894675df88afb55e9b0b1f5adbe43004cc9898143a2ccf1cdc69f5", func := "loop.example/g03411/laws.FnReducedForms", spec := "fnReducedForms", recurses := true, apart := false }
def FnReducedFormsSaid : Prop := fnReducedFormsRow.holds Try.pinned (OpenSpec.ofChange fnReducedFormsSpec)

/-- ITS FALSE NEIGHBOUR: 'it returns false'. Refute it at one input. -/
def fnReducedFormsWrong : ChangeSpec := { name := "fnReducedForms", fn := fun _ => fun
  | [d] => { results := [.lit (.bool false)], args := [d] }
  | _ => none }
def FnReducedFormsWrongFalsely : Prop := fnReducedFormsRow.holds Try.pinned (OpenSpec.ofChange fnReducedFormsWrong)

/-- 'laws.FnAssociated': WHATEVER THE INPUT: true; the input reads as it did. -/
def fnAssociatedSpec : ChangeSpec := { name := "fnAssociated", fn := fun _ => fun
  | [d] => { results := [.lit (.bool true)], args := [d] }
  | _ => none }
def fnAssociatedRow : OpenClaim := { program := "ytbaaelampabhdaa", sum := "f4bfb0e51b894675df88afb55e9b0b1f5adbe43004cc9898143a2ccf1cdc69f5", func := "loop.example/g03411/laws.FnAssociated", spec := "fnAssociated", apart := false }
def FnAssociatedSaid : Prop := fnAssociatedRow.holds Try.pinned (OpenSpec.ofChange fnAssociatedSpec)

/-- ITS FALSE NEIGHBOUR: 'it returns false'. Refute it at one input. -/
def fnAssociatedWrong : ChangeSpec := { name := "fnAssociated", fn := fun _ => fun
  | [d] => { results := [.lit (.bool false)], args := [d] }
  | _ => none }
def FnAssociatedWrongFalsely : Prop := fnAssociatedRow.holds Try.pinned (OpenSpec.ofChange fnAssociatedWrong)

/-- 'laws.FnClasses': WHATEVER THE INPUT: true; the input reads as it did. -/
def fnClassesSpec : ChangeSpec := { name := "fnClasses", fn := fun _ => fun
  | [d] => { results := [.lit (.bool true)], args := [d] }
  | _ => none }
def fnClassesRow : OpenClaim := { program := "ytbaaelampabhdaa", sum := "f4bfb0e51b894675df88afb55e9b0b1f5adbe43004cc9898143a2ccf1cdc69f5", func := "loop.example/g03411/laws.FnClasses", spec := "fnClasses", apart := false }
def FnClassesSaid : Prop := fnClassesRow.holds Try.pinned (OpenSpec.ofChange fnClassesSpec)

/-- ITS FALSE NEIGHBOUR: 'it returns false'. Refute it at one input. -/
def fnClassesWrong : ChangeSpec := { name := "fnClasses", fn := fun _ => fun
  | [d] => { results := [.lit (.bool false)], args := [d] }
  | _ => none }
def FnClassesWrongFalsely : Prop := fnClassesRow.holds Try.pinned (OpenSpec.ofChange fnClassesWrong)

/- THE SECOND FORM. 'bulk': how many values and letters a reading holds, each counted each time it is reached (what is shared counts as often as it is met; a slice's spare places count too). A statement '..UptoSaid' is the law's where the arguments, and the package variables that the reading takes, are together of bulk at most 1048576: NARROWER than '..Said'. Prove '..Said' where nothing that the law and all that it calls make is longer than what came in: it says more and counts as full. Else prove '..UptoSaid'. A law counts once. -/
mutual
def uptoBulk {H : Type} : DataW H → Nat
  | .lit (.string bytes) => bytes.length + 1
  | .lit _ => 1
  | .nil => 1
  | .ptr d => uptoBulk d + 1
  | .slice elems spare => uptoBulkAll elems + uptoBulkAll spare + 1
  | .agg parts => uptoBulkAll parts + 1
  | .iface _ d => uptoBulk d + 1
  | .map entries => uptoBulkEntries entries + 1
  | .held _ => 1
def uptoBulkAll {H : Type} : List (DataW H) → Nat
  | [] => 0
  | d :: r => uptoBulk d + uptoBulkAll r
def uptoBulkEntries {H : Type} : List (Lit × DataW H) → Nat
  | [] => 0
  | x :: r => uptoBulkEntry x + uptoBulkEntries r
def uptoBulkEntry {H : Type} : Lit × DataW H → Nat
  | (.string bytes, d) => bytes.length + uptoBulk d + 1
  | (_, d) => uptoBulk d + 1
 end
def uptoSmall : (H : Type) → List (DataW H) → Bool := fun _ ds => decide (uptoBulkAll ds ≤ 1048576)
def OpenSpec.upto (s : _root_.Go.ChangeSpec) : _root_.Go.OpenSpec := { _root_.Go.OpenSpec.ofChange s with cond := some uptoSmall }

/-- 'laws.FnExactFormAt', WHERE WHAT IT READS IS OF BULK AT MOST 1048576: true; the input reads as it did. -/
def fnExactFormAtUptoRow : OpenClaim := { program := "ytbaaelampabhdaa", sum := "f4bfb0e51b894675df88afb55e9b0b1f5adbe43004cc9898143a2ccf1cdc69f5", func := "loop.example/g03411/laws.FnExactFormAt", spec := "fnExactFormAt", apart := false, narrowed := true }
def FnExactFormAtUptoSaid : Prop := fnExactFormAtUptoRow.holds Try.pinned (OpenSpec.upto fnExactFormAtSpec)

/-- 'laws.FnExactPrincipalForm', WHERE WHAT IT READS IS OF BULK AT MOST 1048576: true; the input reads as it did. -/
def fnExactPrincipalFormUptoRow : OpenClaim := { program := "ytbaaelampabhdaa", sum := "f4bfb0e51b894675df88afb55e9b0b1f5adbe43004cc9898143a2ccf1cdc69f5", func := "loop.example/g03411/laws.FnExactPrincipalForm", spec := "fnExactPrincipalForm", apart := false, narrowed := true }
def FnExactPrincipalFormUptoSaid : Prop := fnExactPrincipalFormUptoRow.holds Try.pinned (OpenSpec.upto fnExactPrincipalFormSpec)

/-- 'laws.FnExactIsPrimitive', WHERE WHAT IT READS IS OF BULK AT MOST 1048576: true; the input reads as it did. -/
def fnExactIsPrimitiveUptoRow : OpenClaim := { program := "ytbaaelampabhdaa", sum := "f4bfb0e51b894675df88afb55e9b0b1f5adbe43004cc9898143a2ccf1cdc69f5", func := "loop.example/g03411/laws.FnExactIsPrimitive", spec := "fnExactIsPrimitive", apart := false, narrowed := true }
def FnExactIsPrimitiveUptoSaid : Prop := fnExactIsPrimitiveUptoRow.holds Try.pinned (OpenSpec.upto fnExactIsPrimitiveSpec)

/-- 'laws.FnExactFormsOf', WHERE WHAT IT READS IS OF BULK AT MOST 1048576: true; the input reads as it did. -/
def fnExactFormsOfUptoRow : OpenClaim := { program := "ytbaaelampabhdaa", sum := "f4bfb0e51b894675df88afb55e9b0b1f5adbe43004cc9898143a2ccf1cdc69f5", func := "loop.example/g03411/laws.FnExactFormsOf", spec := "fnExactFormsOf", apart := false, narrowed := true }
def FnExactFormsOfUptoSaid : Prop := fnExactFormsOfUptoRow.holds Try.pinned (OpenSpec.upto fnExactFormsOfSpec)

/-- 'laws.FnExactChangeForm', WHERE WHAT IT READS IS OF BULK AT MOST 1048576: true; the input reads as it did. -/
def fnExactChangeFormUptoRow : OpenClaim := { program := "ytbaaelampabhdaa", sum := "f4bfb0e51b894675df88afb55e9b0b1f5adbe43004cc9898143a2ccf1cdc69f5", func := "loop.example/g03411/laws.FnExactChangeForm", spec := "fnExactChangeForm", apart := false, narrowed := true }
def FnExactChangeFormUptoSaid : Prop := fnExactChangeFormUptoRow.holds Try.pinned (OpenSpec.upto fnExactChangeFormSpec)

/-- 'laws.FnExactEquivalentForms', WHERE WHAT IT READS IS OF BULK AT MOST 1048576: true; the input reads as it did. -/
def fnExactEquivalentFormsUptoRow : OpenClaim := { program := "ytbaaelampabhdaa", sum := "f4bfb0e51b894675df88afb55e9b0b1f5adbe43004cc9898143a2ccf1cdc69f5", func := "loop.example/g03411/laws.FnExactEquivalentForms", spec := "fnExactEquivalentForms", apart := false, narrowed := true }
def FnExactEquivalentFormsUptoSaid : Prop := fnExactEquivalentFormsUptoRow.holds Try.pinned (OpenSpec.upto fnExactEquivalentFormsSpec)

/-- 'laws.FnExactReduceForm', WHERE WHAT IT READS IS OF BULK AT MOST 1048576: true; the input reads as it did. -/
def fnExactReduceFormUptoRow : OpenClaim := { program := "ytbaaelampabhdaa", sum := "f4bfb0e51b894675df88afb55e9b0b1f5adbe43004cc9898143a2ccf1cdc69f5", func := "loop.example/g03411/laws.FnExactReduceForm", spec := "fnExactReduceForm", apart := false, narrowed := true }
def FnExactReduceFormUptoSaid : Prop := fnExactReduceFormUptoRow.holds Try.pinned (OpenSpec.upto fnExactReduceFormSpec)

/-- 'laws.FnRepresented', WHERE WHAT IT READS IS OF BULK AT MOST 1048576: true; the input reads as it did. -/
def fnRepresentedUptoRow : OpenClaim := { program := "ytbaaelampabhdaa", sum := "f4bfb0e51b894675df88afb55e9b0b1f5adbe43004cc9898143a2ccf1cdc69f5", func := "loop.example/g03411/laws.FnRepresented", spec := "fnRepresented", recurses := true, apart := false, narrowed := true }
def FnRepresentedUptoSaid : Prop := fnRepresentedUptoRow.holds Try.pinned (OpenSpec.upto fnRepresentedSpec)

/-- 'laws.FnExactComposeForms', WHERE WHAT IT READS IS OF BULK AT MOST 1048576: true; the input reads as it did. -/
def fnExactComposeFormsUptoRow : OpenClaim := { program := "ytbaaelampabhdaa", sum := "f4bfb0e51b894675df88afb55e9b0b1f5adbe43004cc9898143a2ccf1cdc69f5", func := "loop.example/g03411/laws.FnExactComposeForms", spec := "fnExactComposeForms", apart := false, narrowed := true }
def FnExactComposeFormsUptoSaid : Prop := fnExactComposeFormsUptoRow.holds Try.pinned (OpenSpec.upto fnExactComposeFormsSpec)

/-- 'laws.FnExactOrderOfForm', WHERE WHAT IT READS IS OF BULK AT MOST 1048576: true; the input reads as it did. -/
def fnExactOrderOfFormUptoRow : OpenClaim := { program := "ytbaaelampabhdaa", sum := "f4bfb0e51b894675df88afb55e9b0b1f5adbe43004cc9898143a2ccf1cdc69f5", func := "loop.example/g03411/laws.FnExactOrderOfForm", spec := "fnExactOrderOfForm", apart := false, narrowed := true }
def FnExactOrderOfFormUptoSaid : Prop := fnExactOrderOfFormUptoRow.holds Try.pinned (OpenSpec.upto fnExactOrderOfFormSpec)

/-- 'laws.FnReducedForms', WHERE WHAT IT READS IS OF BULK AT MOST 1048576: true; the input reads as it did. -/
def fnReducedFormsUptoRow : OpenClaim := { program := "ytbaaelampabhdaa", sum := "f4bfb0e51b894675df88afb55e9b0b1f5adbe43004cc9898143a2ccf1cdc69f5", func := "loop.example/g03411/laws.FnReducedForms", spec := "fnReducedForms", recurses := true, apart := false, narrowed := true }
def FnReducedFormsUptoSaid : Prop := fnReducedFormsUptoRow.holds Try.pinned (OpenSpec.upto fnReducedFormsSpec)

/-- 'laws.FnAssociated', WHERE WHAT IT READS IS OF BULK AT MOST 1048576: true; the input reads as it did. -/
def fnAssociatedUptoRow : OpenClaim := { program := "ytbaaelampabhdaa", sum := "f4bfb0e51b894675df88afb55e9b0b1f5adbe43004cc9898143a2ccf1cdc69f5", func := "loop.example/g03411/laws.FnAssociated", spec := "fnAssociated", apart := false, narrowed := true }
def FnAssociatedUptoSaid : Prop := fnAssociatedUptoRow.holds Try.pinned (OpenSpec.upto fnAssociatedSpec)

/-- 'laws.FnClasses', WHERE WHAT IT READS IS OF BULK AT MOST 1048576: true; the input reads as it did. -/
def fnClassesUptoRow : OpenClaim := { program := "ytbaaelampabhdaa", sum := "f4bfb0e51b894675df88afb55e9b0b1f5adbe43004cc9898143a2ccf1cdc69f5", func := "loop.example/g03411/laws.FnClasses", spec := "fnClasses", apart := false, narrowed := true }
def FnClassesUptoSaid : Prop := fnClassesUptoRow.holds Try.pinned (OpenSpec.upto fnClassesSpec)

end Rows
end Go.Proofs.Ytbaaelampabhdaa
