/-
  No cell of these rows narrows 'for every input' (looked for: loops, veiled, ifaces, maps, wideKeys, modest, calm, conditions, laid).
  DERIVED. THE GIVEN ROWS OF THIS SEAT. 10 by the template 'for every input the law returns true; each argument reads behind the call as it read before'; 0 by the template 'total and deterministic' (their statements: YtmkoifmokdmebaaTotals.lean).
  GIVEN WITH THE SEED: the statements are not yours to turn. If you find one false, say at which input.
  Laid BY PROGRAM, IN A SANDBOX (cutbox-rows.mjs): the forced cells as the released guide's own fill.sh prints them over the translation 6791d53c2667a58d… (all of the seat's roots in one cut). By AI agents, Wed Nov 11 2026. No macro, syntax, notation, axiom, sorry.
-/
import Derived.Test.YtmkoifmokdmebaaChecked
import GoSem.Claim
import GoSem.ClaimJoined
import GoSem.ClaimMapViews
import Derived.JoinedTies
import Derived.KernelRfl
namespace Go.Proofs.Ytmkoifmokdmebaa
/- THE CELL 'sum', in the pinned program and in every row, IS THE sha256 OF THE DUMP (.gsa) THAT YtmkoifmokdmebaaProg.lean LOADS. Nothing in Lean hashes anything: it is a label: what it is worth is what the hold of that sum in a sandbox is worth. -/
noncomputable def Try.pinned : Pinned := { name := "ytmkoifmokdmebaa", sum := "6791d53c2667a58d7e1bc6a4577fe628e3b20616b196f28d0001a96bf470f4ca", checked := Try.checked }
namespace Rows
def none {H : Type} : Left H := { results := [], args := [] }

/-- 'laws.FnExactIsPointed': WHATEVER THE INPUT: true; the input reads as it did. -/
def fnExactIsPointedSpec : ChangeSpec := { name := "fnExactIsPointed", fn := fun _ => fun
  | [d] => { results := [.lit (.bool true)], args := [d] }
  | _ => none }
def fnExactIsPointedRow : OpenClaim := { program := "ytmkoifmokdmebaa", sum := "6791d53c2667a58d7e1bc6a4577fe628e3b20616b196f28d0001a96bf470f4ca", func := "loop.example/g03411/laws.FnExactIsPointed", spec := "fnExactIsPointed", unfollowed := true, recurses := true, apart := false }
def FnExactIsPointedSaid : Prop := fnExactIsPointedRow.holds Try.pinned (OpenSpec.ofChange fnExactIsPointedSpec)

/-- ITS FALSE NEIGHBOUR: 'it returns false'. Refute it at one input. -/
def fnExactIsPointedWrong : ChangeSpec := { name := "fnExactIsPointed", fn := fun _ => fun
  | [d] => { results := [.lit (.bool false)], args := [d] }
  | _ => none }
def FnExactIsPointedWrongFalsely : Prop := fnExactIsPointedRow.holds Try.pinned (OpenSpec.ofChange fnExactIsPointedWrong)

/-- 'laws.FnExactIsIsometry': WHATEVER THE INPUT: true; the input reads as it did. -/
def fnExactIsIsometrySpec : ChangeSpec := { name := "fnExactIsIsometry", fn := fun _ => fun
  | [d1, d2, d3] => { results := [.lit (.bool true)], args := [d1, d2, d3] }
  | _ => none }
def fnExactIsIsometryRow : OpenClaim := { program := "ytmkoifmokdmebaa", sum := "6791d53c2667a58d7e1bc6a4577fe628e3b20616b196f28d0001a96bf470f4ca", func := "loop.example/g03411/laws.FnExactIsIsometry", spec := "fnExactIsIsometry", recurses := true, apart := false }
def FnExactIsIsometrySaid : Prop := fnExactIsIsometryRow.holds Try.pinned (OpenSpec.ofChange fnExactIsIsometrySpec)

/-- ITS FALSE NEIGHBOUR: 'it returns false'. Refute it at one input. -/
def fnExactIsIsometryWrong : ChangeSpec := { name := "fnExactIsIsometry", fn := fun _ => fun
  | [d1, d2, d3] => { results := [.lit (.bool false)], args := [d1, d2, d3] }
  | _ => none }
def FnExactIsIsometryWrongFalsely : Prop := fnExactIsIsometryRow.holds Try.pinned (OpenSpec.ofChange fnExactIsIsometryWrong)

/-- 'laws.FnExactIsExtreme': WHATEVER THE INPUT: true; the input reads as it did. -/
def fnExactIsExtremeSpec : ChangeSpec := { name := "fnExactIsExtreme", fn := fun _ => fun
  | [d1, d2] => { results := [.lit (.bool true)], args := [d1, d2] }
  | _ => none }
def fnExactIsExtremeRow : OpenClaim := { program := "ytmkoifmokdmebaa", sum := "6791d53c2667a58d7e1bc6a4577fe628e3b20616b196f28d0001a96bf470f4ca", func := "loop.example/g03411/laws.FnExactIsExtreme", spec := "fnExactIsExtreme", unfollowed := true, recurses := true, apart := false }
def FnExactIsExtremeSaid : Prop := fnExactIsExtremeRow.holds Try.pinned (OpenSpec.ofChange fnExactIsExtremeSpec)

/-- ITS FALSE NEIGHBOUR: 'it returns false'. Refute it at one input. -/
def fnExactIsExtremeWrong : ChangeSpec := { name := "fnExactIsExtreme", fn := fun _ => fun
  | [d1, d2] => { results := [.lit (.bool false)], args := [d1, d2] }
  | _ => none }
def FnExactIsExtremeWrongFalsely : Prop := fnExactIsExtremeRow.holds Try.pinned (OpenSpec.ofChange fnExactIsExtremeWrong)

/-- 'laws.FnExactIsZeroIn': WHATEVER THE INPUT: true; the input reads as it did. -/
def fnExactIsZeroInSpec : ChangeSpec := { name := "fnExactIsZeroIn", fn := fun _ => fun
  | [d1, d2] => { results := [.lit (.bool true)], args := [d1, d2] }
  | _ => none }
def fnExactIsZeroInRow : OpenClaim := { program := "ytmkoifmokdmebaa", sum := "6791d53c2667a58d7e1bc6a4577fe628e3b20616b196f28d0001a96bf470f4ca", func := "loop.example/g03411/laws.FnExactIsZeroIn", spec := "fnExactIsZeroIn", unfollowed := true, recurses := true, apart := false }
def FnExactIsZeroInSaid : Prop := fnExactIsZeroInRow.holds Try.pinned (OpenSpec.ofChange fnExactIsZeroInSpec)

/-- ITS FALSE NEIGHBOUR: 'it returns false'. Refute it at one input. -/
def fnExactIsZeroInWrong : ChangeSpec := { name := "fnExactIsZeroIn", fn := fun _ => fun
  | [d1, d2] => { results := [.lit (.bool false)], args := [d1, d2] }
  | _ => none }
def FnExactIsZeroInWrongFalsely : Prop := fnExactIsZeroInRow.holds Try.pinned (OpenSpec.ofChange fnExactIsZeroInWrong)

/-- 'laws.FnExactNormalIn': WHATEVER THE INPUT: true; the input reads as it did. -/
def fnExactNormalInSpec : ChangeSpec := { name := "fnExactNormalIn", fn := fun _ => fun
  | [d1, d2] => { results := [.lit (.bool true)], args := [d1, d2] }
  | _ => none }
def fnExactNormalInRow : OpenClaim := { program := "ytmkoifmokdmebaa", sum := "6791d53c2667a58d7e1bc6a4577fe628e3b20616b196f28d0001a96bf470f4ca", func := "loop.example/g03411/laws.FnExactNormalIn", spec := "fnExactNormalIn", unfollowed := true, recurses := true, apart := false }
def FnExactNormalInSaid : Prop := fnExactNormalInRow.holds Try.pinned (OpenSpec.ofChange fnExactNormalInSpec)

/-- ITS FALSE NEIGHBOUR: 'it returns false'. Refute it at one input. -/
def fnExactNormalInWrong : ChangeSpec := { name := "fnExactNormalIn", fn := fun _ => fun
  | [d1, d2] => { results := [.lit (.bool false)], args := [d1, d2] }
  | _ => none }
def FnExactNormalInWrongFalsely : Prop := fnExactNormalInRow.holds Try.pinned (OpenSpec.ofChange fnExactNormalInWrong)

/-- 'laws.FnExactInvariantsOf': WHATEVER THE INPUT: true; the input reads as it did. -/
def fnExactInvariantsOfSpec : ChangeSpec := { name := "fnExactInvariantsOf", fn := fun _ => fun
  | [d] => { results := [.lit (.bool true)], args := [d] }
  | _ => none }
def fnExactInvariantsOfRow : OpenClaim := { program := "ytmkoifmokdmebaa", sum := "6791d53c2667a58d7e1bc6a4577fe628e3b20616b196f28d0001a96bf470f4ca", func := "loop.example/g03411/laws.FnExactInvariantsOf", spec := "fnExactInvariantsOf", apart := false }
def FnExactInvariantsOfSaid : Prop := fnExactInvariantsOfRow.holds Try.pinned (OpenSpec.ofChange fnExactInvariantsOfSpec)

/-- ITS FALSE NEIGHBOUR: 'it returns false'. Refute it at one input. -/
def fnExactInvariantsOfWrong : ChangeSpec := { name := "fnExactInvariantsOf", fn := fun _ => fun
  | [d] => { results := [.lit (.bool false)], args := [d] }
  | _ => none }
def FnExactInvariantsOfWrongFalsely : Prop := fnExactInvariantsOfRow.holds Try.pinned (OpenSpec.ofChange fnExactInvariantsOfWrong)

/-- 'laws.FnExactSameModule': WHATEVER THE INPUT: true; the input reads as it did. -/
def fnExactSameModuleSpec : ChangeSpec := { name := "fnExactSameModule", fn := fun _ => fun
  | [d1, d2] => { results := [.lit (.bool true)], args := [d1, d2] }
  | _ => none }
def fnExactSameModuleRow : OpenClaim := { program := "ytmkoifmokdmebaa", sum := "6791d53c2667a58d7e1bc6a4577fe628e3b20616b196f28d0001a96bf470f4ca", func := "loop.example/g03411/laws.FnExactSameModule", spec := "fnExactSameModule", apart := false }
def FnExactSameModuleSaid : Prop := fnExactSameModuleRow.holds Try.pinned (OpenSpec.ofChange fnExactSameModuleSpec)

/-- ITS FALSE NEIGHBOUR: 'it returns false'. Refute it at one input. -/
def fnExactSameModuleWrong : ChangeSpec := { name := "fnExactSameModule", fn := fun _ => fun
  | [d1, d2] => { results := [.lit (.bool false)], args := [d1, d2] }
  | _ => none }
def FnExactSameModuleWrongFalsely : Prop := fnExactSameModuleRow.holds Try.pinned (OpenSpec.ofChange fnExactSameModuleWrong)

/-- 'laws.FnNormal': WHATEVER THE INPUT: true; the input reads as it did. -/
def fnNormalSpec : ChangeSpec := { name := "fnNormal", fn := fun _ => fun
  | [d] => { results := [.lit (.bool true)], args := [d] }
  | _ => none }
def fnNormalRow : OpenClaim := { program := "ytmkoifmokdmebaa", sum := "6791d53c2667a58d7e1bc6a4577fe628e3b20616b196f28d0001a96bf470f4ca", func := "loop.example/g03411/laws.FnNormal", spec := "fnNormal", unfollowed := true, recurses := true, apart := false }
def FnNormalSaid : Prop := fnNormalRow.holds Try.pinned (OpenSpec.ofChange fnNormalSpec)

/-- ITS FALSE NEIGHBOUR: 'it returns false'. Refute it at one input. -/
def fnNormalWrong : ChangeSpec := { name := "fnNormal", fn := fun _ => fun
  | [d] => { results := [.lit (.bool false)], args := [d] }
  | _ => none }
def FnNormalWrongFalsely : Prop := fnNormalRow.holds Try.pinned (OpenSpec.ofChange fnNormalWrong)

/-- 'laws.FnExactAddIn': WHATEVER THE INPUT: true; the input reads as it did. -/
def fnExactAddInSpec : ChangeSpec := { name := "fnExactAddIn", fn := fun _ => fun
  | [d1, d2, d3] => { results := [.lit (.bool true)], args := [d1, d2, d3] }
  | _ => none }
def fnExactAddInRow : OpenClaim := { program := "ytmkoifmokdmebaa", sum := "6791d53c2667a58d7e1bc6a4577fe628e3b20616b196f28d0001a96bf470f4ca", func := "loop.example/g03411/laws.FnExactAddIn", spec := "fnExactAddIn", unfollowed := true, recurses := true, apart := false }
def FnExactAddInSaid : Prop := fnExactAddInRow.holds Try.pinned (OpenSpec.ofChange fnExactAddInSpec)

/-- ITS FALSE NEIGHBOUR: 'it returns false'. Refute it at one input. -/
def fnExactAddInWrong : ChangeSpec := { name := "fnExactAddIn", fn := fun _ => fun
  | [d1, d2, d3] => { results := [.lit (.bool false)], args := [d1, d2, d3] }
  | _ => none }
def FnExactAddInWrongFalsely : Prop := fnExactAddInRow.holds Try.pinned (OpenSpec.ofChange fnExactAddInWrong)

/-- 'laws.FnExactElementsOf': WHATEVER THE INPUT: true; the input reads as it did. -/
def fnExactElementsOfSpec : ChangeSpec := { name := "fnExactElementsOf", fn := fun _ => fun
  | [d] => { results := [.lit (.bool true)], args := [d] }
  | _ => none }
def fnExactElementsOfRow : OpenClaim := { program := "ytmkoifmokdmebaa", sum := "6791d53c2667a58d7e1bc6a4577fe628e3b20616b196f28d0001a96bf470f4ca", func := "loop.example/g03411/laws.FnExactElementsOf", spec := "fnExactElementsOf", unfollowed := true, recurses := true, apart := false }
def FnExactElementsOfSaid : Prop := fnExactElementsOfRow.holds Try.pinned (OpenSpec.ofChange fnExactElementsOfSpec)

/-- ITS FALSE NEIGHBOUR: 'it returns false'. Refute it at one input. -/
def fnExactElementsOfWrong : ChangeSpec := { name := "fnExactElementsOf", fn := fun _ => fun
  | [d] => { results := [.lit (.bool false)], args := [d] }
  | _ => none }
def FnExactElementsOfWrongFalsely : Prop := fnExactElementsOfRow.holds Try.pinned (OpenSpec.ofChange fnExactElementsOfWrong)

/- THE SECOND FORM. 'bulk': how many values and letters a reading holds, each counted each time it is reached (what is shared counts as often as it is met; a slice's spare places count too). A statement '..UptoSaid' is the law's where the arguments, and the package variables that the reading takes, are together of bulk at most 1048576: NARROWER than '..Said'. Prove '..Said' where nothing that the law and all that it calls make is longer than what came in: it says more and counts as full. Else prove '..UptoSaid'. A law counts once. -/
mutual
def uptoBulk {H : Type} : DataW H → Nat
  | .lit (.string bytes) => bytes.length + 1
  | .lit _ => 1
  | .nil => 1
  | .ptr d => uptoBulk d + 1
  | .slice elems spare => uptoBulkAll elems + uptoBulkAll spare + 1
  | .agg parts => uptoBulkAll parts + 1
  | .iface _ d => uptoBulk d + 1
  | .map entries => uptoBulkEntries entries + 1
  | .held _ => 1
def uptoBulkAll {H : Type} : List (DataW H) → Nat
  | [] => 0
  | d :: r => uptoBulk d + uptoBulkAll r
def uptoBulkEntries {H : Type} : List (Lit × DataW H) → Nat
  | [] => 0
  | x :: r => uptoBulkEntry x + uptoBulkEntries r
def uptoBulkEntry {H : Type} : Lit × DataW H → Nat
  | (.string bytes, d) => bytes.length + uptoBulk d + 1
  | (_, d) => uptoBulk d + 1
 end
def uptoSmall : (H : Type) → List (DataW H) → Bool := fun _ ds => decide (uptoBulkAll ds ≤ 1048576)
def OpenSpec.upto (s : _root_.Go.ChangeSpec) : _root_.Go.OpenSpec := { _root_.Go.OpenSpec.ofChange s with cond := some uptoSmall }

/-- 'laws.FnExactIsPointed', WHERE WHAT IT READS IS OF BULK AT MOST 1048576: true; the input reads as it did. -/
def fnExactIsPointedUptoRow : OpenClaim := { program := "ytmkoifmokdmebaa", sum := "6791d53c2667a58d7e1bc6a4577fe628e3b20616b196f28d0001a96bf470f4ca", func := "loop.example/g03411/laws.FnExactIsPointed", spec := "fnExactIsPointed", unfollowed := true, recurses := true, apart := false, narrowed := true }
def FnExactIsPointedUptoSaid : Prop := fnExactIsPointedUptoRow.holds Try.pinned (OpenSpec.upto fnExactIsPointedSpec)

/-- 'laws.FnExactIsIsometry', WHERE WHAT IT READS IS OF BULK AT MOST 1048576: true; the input reads as it did. -/
def fnExactIsIsometryUptoRow : OpenClaim := { program := "ytmkoifmokdmebaa", sum := "6791d53c2667a58d7e1bc6a4577fe628e3b20616b196f28d0001a96bf470f4ca", func := "loop.example/g03411/laws.FnExactIsIsometry", spec := "fnExactIsIsometry", recurses := true, apart := false, narrowed := true }
def FnExactIsIsometryUptoSaid : Prop := fnExactIsIsometryUptoRow.holds Try.pinned (OpenSpec.upto fnExactIsIsometrySpec)

/-- 'laws.FnExactIsExtreme', WHERE WHAT IT READS IS OF BULK AT MOST 1048576: true; the input reads as it did. -/
def fnExactIsExtremeUptoRow : OpenClaim := { program := "ytmkoifmokdmebaa", sum := "6791d53c2667a58d7e1bc6a4577fe628e3b20616b196f28d0001a96bf470f4ca", func := "loop.example/g03411/laws.FnExactIsExtreme", spec := "fnExactIsExtreme", unfollowed := true, recurses := true, apart := false, narrowed := true }
def FnExactIsExtremeUptoSaid : Prop := fnExactIsExtremeUptoRow.holds Try.pinned (OpenSpec.upto fnExactIsExtremeSpec)

/-- 'laws.FnExactIsZeroIn', WHERE WHAT IT READS IS OF BULK AT MOST 1048576: true; the input reads as it did. -/
def fnExactIsZeroInUptoRow : OpenClaim := { program := "ytmkoifmokdmebaa", sum := "6791d53c2667a58d7e1bc6a4577fe628e3b20616b196f28d0001a96bf470f4ca", func := "loop.example/g03411/laws.FnExactIsZeroIn", spec := "fnExactIsZeroIn", unfollowed := true, recurses := true, apart := false, narrowed := true }
def FnExactIsZeroInUptoSaid : Prop := fnExactIsZeroInUptoRow.holds Try.pinned (OpenSpec.upto fnExactIsZeroInSpec)

/-- 'laws.FnExactNormalIn', WHERE WHAT IT READS IS OF BULK AT MOST 1048576: true; the input reads as it did. -/
def fnExactNormalInUptoRow : OpenClaim := { program := "ytmkoifmokdmebaa", sum := "6791d53c2667a58d7e1bc6a4577fe628e3b20616b196f28d0001a96bf470f4ca", func := "loop.example/g03411/laws.FnExactNormalIn", spec := "fnExactNormalIn", unfollowed := true, recurses := true, apart := false, narrowed := true }
def FnExactNormalInUptoSaid : Prop := fnExactNormalInUptoRow.holds Try.pinned (OpenSpec.upto fnExactNormalInSpec)

/-- 'laws.FnExactInvariantsOf', WHERE WHAT IT READS IS OF BULK AT MOST 1048576: true; the input reads as it did. -/
def fnExactInvariantsOfUptoRow : OpenClaim := { program := "ytmkoifmokdmebaa", sum := "6791d53c2667a58d7e1bc6a4577fe628e3b20616b196f28d0001a96bf470f4ca", func := "loop.example/g03411/laws.FnExactInvariantsOf", spec := "fnExactInvariantsOf", apart := false, narrowed := true }
def FnExactInvariantsOfUptoSaid : Prop := fnExactInvariantsOfUptoRow.holds Try.pinned (OpenSpec.upto fnExactInvariantsOfSpec)

/-- 'laws.FnExactSameModule', WHERE WHAT IT READS IS OF BULK AT MOST 1048576: true; the input reads as it did. -/
def fnExactSameModuleUptoRow : OpenClaim := { program := "ytmkoifmokdmebaa", sum := "6791d53c2667a58d7e1bc6a4577fe628e3b20616b196f28d0001a96bf470f4ca", func := "loop.example/g03411/laws.FnExactSameModule", spec := "fnExactSameModule", apart := false, narrowed := true }
def FnExactSameModuleUptoSaid : Prop := fnExactSameModuleUptoRow.holds Try.pinned (OpenSpec.upto fnExactSameModuleSpec)

/-- 'laws.FnNormal', WHERE WHAT IT READS IS OF BULK AT MOST 1048576: true; the input reads as it did. -/
def fnNormalUptoRow : OpenClaim := { program := "ytmkoifmokdmebaa", sum := "6791d53c2667a58d7e1bc6a4577fe628e3b20616b196f28d0001a96bf470f4ca", func := "loop.example/g03411/laws.FnNormal", spec := "fnNormal", unfollowed := true, recurses := true, apart := false, narrowed := true }
def FnNormalUptoSaid : Prop := fnNormalUptoRow.holds Try.pinned (OpenSpec.upto fnNormalSpec)

/-- 'laws.FnExactAddIn', WHERE WHAT IT READS IS OF BULK AT MOST 1048576: true; the input reads as it did. -/
def fnExactAddInUptoRow : OpenClaim := { program := "ytmkoifmokdmebaa", sum := "6791d53c2667a58d7e1bc6a4577fe628e3b20616b196f28d0001a96bf470f4ca", func := "loop.example/g03411/laws.FnExactAddIn", spec := "fnExactAddIn", unfollowed := true, recurses := true, apart := false, narrowed := true }
def FnExactAddInUptoSaid : Prop := fnExactAddInUptoRow.holds Try.pinned (OpenSpec.upto fnExactAddInSpec)

/-- 'laws.FnExactElementsOf', WHERE WHAT IT READS IS OF BULK AT MOST 1048576: true; the input reads as it did. -/
def fnExactElementsOfUptoRow : OpenClaim := { program := "ytmkoifmokdmebaa", sum := "6791d53c2667a58d7e1bc6a4577fe628e3b20616b196f28d0001a96bf470f4ca", func := "loop.example/g03411/laws.FnExactElementsOf", spec := "fnExactElementsOf", unfollowed := true, recurses := true, apart := false, narrowed := true }
def FnExactElementsOfUptoSaid : Prop := fnExactElementsOfUptoRow.holds Try.pinned (OpenSpec.upto fnExactElementsOfSpec)

end Rows
end Go.Proofs.Ytmkoifmokdmebaa
