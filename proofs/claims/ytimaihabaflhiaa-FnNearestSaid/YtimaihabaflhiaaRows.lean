/-
  No cell of these rows narrows 'for every input' (looked for: loops, veiled, ifaces, maps, wideKeys, modest, calm, conditions, laid).
  DERIVED. THE GIVEN ROWS OF THIS SEAT. 7 by the template 'for every input the law returns true; each argument reads behind the call as it read before'; 0 by the template 'total and deterministic' (their statements: YtimaihabaflhiaaTotals.lean).
  GIVEN WITH THE SEED: the statements are not yours to turn. If you find one false, say at which input.
  Laid BY PROGRAM, IN A SANDBOX (cutbox-rows.mjs): the forced cells as the released guide's own fill.sh prints them over the translation 700349dbee1f39a8… (all of the seat's roots in one cut). By AI agents, Wed Nov 11 2026. No macro, syntax, notation, axiom, sorry.
-/
import Derived.Test.YtimaihabaflhiaaChecked
import GoSem.Claim
import GoSem.ClaimJoined
import GoSem.ClaimMapViews
import Derived.JoinedTies
import Derived.KernelRfl
namespace Go.Proofs.Ytimaihabaflhiaa
/- THE CELL 'sum', in the pinned program and in every row, IS THE sha256 OF THE DUMP (.gsa) THAT YtimaihabaflhiaaProg.lean LOADS. Nothing in Lean hashes anything: it is a label: what it is worth is what the hold of that sum in a sandbox is worth. -/
noncomputable def Try.pinned : Pinned := { name := "ytimaihabaflhiaa", sum := "700349dbee1f39a83bffa6ae61653467b5415cc8824b3a6706ffbce342883191", checked := Try.checked }
namespace Rows
def none {H : Type} : Left H := { results := [], args := [] }

/-- 'laws.FnExactContinuedOf': WHATEVER THE INPUT: true; the input reads as it did. -/
def fnExactContinuedOfSpec : ChangeSpec := { name := "fnExactContinuedOf", fn := fun _ => fun
  | [d] => { results := [.lit (.bool true)], args := [d] }
  | _ => none }
def fnExactContinuedOfRow : OpenClaim := { program := "ytimaihabaflhiaa", sum := "700349dbee1f39a83bffa6ae61653467b5415cc8824b3a6706ffbce342883191", func := "loop.example/g03411/laws.FnExactContinuedOf", spec := "fnExactContinuedOf", apart := false }
def FnExactContinuedOfSaid : Prop := fnExactContinuedOfRow.holds Try.pinned (OpenSpec.ofChange fnExactContinuedOfSpec)

/-- ITS FALSE NEIGHBOUR: 'it returns false'. Refute it at one input. -/
def fnExactContinuedOfWrong : ChangeSpec := { name := "fnExactContinuedOf", fn := fun _ => fun
  | [d] => { results := [.lit (.bool false)], args := [d] }
  | _ => none }
def FnExactContinuedOfWrongFalsely : Prop := fnExactContinuedOfRow.holds Try.pinned (OpenSpec.ofChange fnExactContinuedOfWrong)

/-- 'laws.FnExactNearestRatio': WHATEVER THE INPUT: true; the input reads as it did. -/
def fnExactNearestRatioSpec : ChangeSpec := { name := "fnExactNearestRatio", fn := fun _ => fun
  | [d1, d2] => { results := [.lit (.bool true)], args := [d1, d2] }
  | _ => none }
def fnExactNearestRatioRow : OpenClaim := { program := "ytimaihabaflhiaa", sum := "700349dbee1f39a83bffa6ae61653467b5415cc8824b3a6706ffbce342883191", func := "loop.example/g03411/laws.FnExactNearestRatio", spec := "fnExactNearestRatio", unfollowed := true, recurses := true, apart := false }
def FnExactNearestRatioSaid : Prop := fnExactNearestRatioRow.holds Try.pinned (OpenSpec.ofChange fnExactNearestRatioSpec)

/-- ITS FALSE NEIGHBOUR: 'it returns false'. Refute it at one input. -/
def fnExactNearestRatioWrong : ChangeSpec := { name := "fnExactNearestRatio", fn := fun _ => fun
  | [d1, d2] => { results := [.lit (.bool false)], args := [d1, d2] }
  | _ => none }
def FnExactNearestRatioWrongFalsely : Prop := fnExactNearestRatioRow.holds Try.pinned (OpenSpec.ofChange fnExactNearestRatioWrong)

/-- 'laws.FnExactFromContinued': WHATEVER THE INPUT: true; the input reads as it did. -/
def fnExactFromContinuedSpec : ChangeSpec := { name := "fnExactFromContinued", fn := fun _ => fun
  | [d] => { results := [.lit (.bool true)], args := [d] }
  | _ => none }
def fnExactFromContinuedRow : OpenClaim := { program := "ytimaihabaflhiaa", sum := "700349dbee1f39a83bffa6ae61653467b5415cc8824b3a6706ffbce342883191", func := "loop.example/g03411/laws.FnExactFromContinued", spec := "fnExactFromContinued", apart := false }
def FnExactFromContinuedSaid : Prop := fnExactFromContinuedRow.holds Try.pinned (OpenSpec.ofChange fnExactFromContinuedSpec)

/-- ITS FALSE NEIGHBOUR: 'it returns false'. Refute it at one input. -/
def fnExactFromContinuedWrong : ChangeSpec := { name := "fnExactFromContinued", fn := fun _ => fun
  | [d] => { results := [.lit (.bool false)], args := [d] }
  | _ => none }
def FnExactFromContinuedWrongFalsely : Prop := fnExactFromContinuedRow.holds Try.pinned (OpenSpec.ofChange fnExactFromContinuedWrong)

/-- 'laws.FnExactConvergentsOf': WHATEVER THE INPUT: true; the input reads as it did. -/
def fnExactConvergentsOfSpec : ChangeSpec := { name := "fnExactConvergentsOf", fn := fun _ => fun
  | [d] => { results := [.lit (.bool true)], args := [d] }
  | _ => none }
def fnExactConvergentsOfRow : OpenClaim := { program := "ytimaihabaflhiaa", sum := "700349dbee1f39a83bffa6ae61653467b5415cc8824b3a6706ffbce342883191", func := "loop.example/g03411/laws.FnExactConvergentsOf", spec := "fnExactConvergentsOf", apart := false }
def FnExactConvergentsOfSaid : Prop := fnExactConvergentsOfRow.holds Try.pinned (OpenSpec.ofChange fnExactConvergentsOfSpec)

/-- ITS FALSE NEIGHBOUR: 'it returns false'. Refute it at one input. -/
def fnExactConvergentsOfWrong : ChangeSpec := { name := "fnExactConvergentsOf", fn := fun _ => fun
  | [d] => { results := [.lit (.bool false)], args := [d] }
  | _ => none }
def FnExactConvergentsOfWrongFalsely : Prop := fnExactConvergentsOfRow.holds Try.pinned (OpenSpec.ofChange fnExactConvergentsOfWrong)

/-- 'laws.FnContinued': WHATEVER THE INPUT: true; the input reads as it did. -/
def fnContinuedSpec : ChangeSpec := { name := "fnContinued", fn := fun _ => fun
  | [d] => { results := [.lit (.bool true)], args := [d] }
  | _ => none }
def fnContinuedRow : OpenClaim := { program := "ytimaihabaflhiaa", sum := "700349dbee1f39a83bffa6ae61653467b5415cc8824b3a6706ffbce342883191", func := "loop.example/g03411/laws.FnContinued", spec := "fnContinued", apart := false }
def FnContinuedSaid : Prop := fnContinuedRow.holds Try.pinned (OpenSpec.ofChange fnContinuedSpec)

/-- ITS FALSE NEIGHBOUR: 'it returns false'. Refute it at one input. -/
def fnContinuedWrong : ChangeSpec := { name := "fnContinued", fn := fun _ => fun
  | [d] => { results := [.lit (.bool false)], args := [d] }
  | _ => none }
def FnContinuedWrongFalsely : Prop := fnContinuedRow.holds Try.pinned (OpenSpec.ofChange fnContinuedWrong)

/-- 'laws.FnNearest': WHATEVER THE INPUT: true; the input reads as it did. -/
def fnNearestSpec : ChangeSpec := { name := "fnNearest", fn := fun _ => fun
  | [d] => { results := [.lit (.bool true)], args := [d] }
  | _ => none }
def fnNearestRow : OpenClaim := { program := "ytimaihabaflhiaa", sum := "700349dbee1f39a83bffa6ae61653467b5415cc8824b3a6706ffbce342883191", func := "loop.example/g03411/laws.FnNearest", spec := "fnNearest", unfollowed := true, recurses := true, apart := false }
def FnNearestSaid : Prop := fnNearestRow.holds Try.pinned (OpenSpec.ofChange fnNearestSpec)

/-- ITS FALSE NEIGHBOUR: 'it returns false'. Refute it at one input. -/
def fnNearestWrong : ChangeSpec := { name := "fnNearest", fn := fun _ => fun
  | [d] => { results := [.lit (.bool false)], args := [d] }
  | _ => none }
def FnNearestWrongFalsely : Prop := fnNearestRow.holds Try.pinned (OpenSpec.ofChange fnNearestWrong)

/-- 'laws.FnExactIsRelation': WHATEVER THE INPUT: true; the input reads as it did. -/
def fnExactIsRelationSpec : ChangeSpec := { name := "fnExactIsRelation", fn := fun _ => fun
  | [d1, d2] => { results := [.lit (.bool true)], args := [d1, d2] }
  | _ => none }
def fnExactIsRelationRow : OpenClaim := { program := "ytimaihabaflhiaa", sum := "700349dbee1f39a83bffa6ae61653467b5415cc8824b3a6706ffbce342883191", func := "loop.example/g03411/laws.FnExactIsRelation", spec := "fnExactIsRelation", unfollowed := true, recurses := true, apart := false }
def FnExactIsRelationSaid : Prop := fnExactIsRelationRow.holds Try.pinned (OpenSpec.ofChange fnExactIsRelationSpec)

/-- ITS FALSE NEIGHBOUR: 'it returns false'. Refute it at one input. -/
def fnExactIsRelationWrong : ChangeSpec := { name := "fnExactIsRelation", fn := fun _ => fun
  | [d1, d2] => { results := [.lit (.bool false)], args := [d1, d2] }
  | _ => none }
def FnExactIsRelationWrongFalsely : Prop := fnExactIsRelationRow.holds Try.pinned (OpenSpec.ofChange fnExactIsRelationWrong)

/- THE SECOND FORM. 'bulk': how many values and letters a reading holds, each counted each time it is reached (what is shared counts as often as it is met; a slice's spare places count too). A statement '..UptoSaid' is the law's where the arguments, and the package variables that the reading takes, are together of bulk at most 1048576: NARROWER than '..Said'. Prove '..Said' where nothing that the law and all that it calls make is longer than what came in: it says more and counts as full. Else prove '..UptoSaid'. A law counts once. -/
mutual
def uptoBulk {H : Type} : DataW H → Nat
  | .lit (.string bytes) => bytes.length + 1
  | .lit _ => 1
  | .nil => 1
  | .ptr d => uptoBulk d + 1
  | .slice elems spare => uptoBulkAll elems + uptoBulkAll spare + 1
  | .agg parts => uptoBulkAll parts + 1
  | .iface _ d => uptoBulk d + 1
  | .map entries => uptoBulkEntries entries + 1
  | .held _ => 1
def uptoBulkAll {H : Type} : List (DataW H) → Nat
  | [] => 0
  | d :: r => uptoBulk d + uptoBulkAll r
def uptoBulkEntries {H : Type} : List (Lit × DataW H) → Nat
  | [] => 0
  | x :: r => uptoBulkEntry x + uptoBulkEntries r
def uptoBulkEntry {H : Type} : Lit × DataW H → Nat
  | (.string bytes, d) => bytes.length + uptoBulk d + 1
  | (_, d) => uptoBulk d + 1
 end
def uptoSmall : (H : Type) → List (DataW H) → Bool := fun _ ds => decide (uptoBulkAll ds ≤ 1048576)
def OpenSpec.upto (s : _root_.Go.ChangeSpec) : _root_.Go.OpenSpec := { _root_.Go.OpenSpec.ofChange s with cond := some uptoSmall }

/-- 'laws.FnExactContinuedOf', WHERE WHAT IT READS IS OF BULK AT MOST 1048576: true; the input reads as it did. -/
def fnExactContinuedOfUptoRow : OpenClaim := { program := "ytimaihabaflhiaa", sum := "700349dbee1f39a83bffa6ae61653467b5415cc8824b3a6706ffbce342883191", func := "loop.example/g03411/laws.FnExactContinuedOf", spec := "fnExactContinuedOf", apart := false, narrowed := true }
def FnExactContinuedOfUptoSaid : Prop := fnExactContinuedOfUptoRow.holds Try.pinned (OpenSpec.upto fnExactContinuedOfSpec)

/-- 'laws.FnExactNearestRatio', WHERE WHAT IT READS IS OF BULK AT MOST 1048576: true; the input reads as it did. -/
def fnExactNearestRatioUptoRow : OpenClaim := { program := "ytimaihabaflhiaa", sum := "700349dbee1f39a83bffa6ae61653467b5415cc8824b3a6706ffbce342883191", func := "loop.example/g03411/laws.FnExactNearestRatio", spec := "fnExactNearestRatio", unfollowed := true, recurses := true, apart := false, narrowed := true }
def FnExactNearestRatioUptoSaid : Prop := fnExactNearestRatioUptoRow.holds Try.pinned (OpenSpec.upto fnExactNearestRatioSpec)

/-- 'laws.FnExactFromContinued', WHERE WHAT IT READS IS OF BULK AT MOST 1048576: true; the input reads as it did. -/
def fnExactFromContinuedUptoRow : OpenClaim := { program := "ytimaihabaflhiaa", sum := "700349dbee1f39a83bffa6ae61653467b5415cc8824b3a6706ffbce342883191", func := "loop.example/g03411/laws.FnExactFromContinued", spec := "fnExactFromContinued", apart := false, narrowed := true }
def FnExactFromContinuedUptoSaid : Prop := fnExactFromContinuedUptoRow.holds Try.pinned (OpenSpec.upto fnExactFromContinuedSpec)

/-- 'laws.FnExactConvergentsOf', WHERE WHAT IT READS IS OF BULK AT MOST 1048576: true; the input reads as it did. -/
def fnExactConvergentsOfUptoRow : OpenClaim := { program := "ytimaihabaflhiaa", sum := "700349dbee1f39a83bffa6ae61653467b5415cc8824b3a6706ffbce342883191", func := "loop.example/g03411/laws.FnExactConvergentsOf", spec := "fnExactConvergentsOf", apart := false, narrowed := true }
def FnExactConvergentsOfUptoSaid : Prop := fnExactConvergentsOfUptoRow.holds Try.pinned (OpenSpec.upto fnExactConvergentsOfSpec)

/-- 'laws.FnContinued', WHERE WHAT IT READS IS OF BULK AT MOST 1048576: true; the input reads as it did. -/
def fnContinuedUptoRow : OpenClaim := { program := "ytimaihabaflhiaa", sum := "700349dbee1f39a83bffa6ae61653467b5415cc8824b3a6706ffbce342883191", func := "loop.example/g03411/laws.FnContinued", spec := "fnContinued", apart := false, narrowed := true }
def FnContinuedUptoSaid : Prop := fnContinuedUptoRow.holds Try.pinned (OpenSpec.upto fnContinuedSpec)

/-- 'laws.FnNearest', WHERE WHAT IT READS IS OF BULK AT MOST 1048576: true; the input reads as it did. -/
def fnNearestUptoRow : OpenClaim := { program := "ytimaihabaflhiaa", sum := "700349dbee1f39a83bffa6ae61653467b5415cc8824b3a6706ffbce342883191", func := "loop.example/g03411/laws.FnNearest", spec := "fnNearest", unfollowed := true, recurses := true, apart := false, narrowed := true }
def FnNearestUptoSaid : Prop := fnNearestUptoRow.holds Try.pinned (OpenSpec.upto fnNearestSpec)

/-- 'laws.FnExactIsRelation', WHERE WHAT IT READS IS OF BULK AT MOST 1048576: true; the input reads as it did. -/
def fnExactIsRelationUptoRow : OpenClaim := { program := "ytimaihabaflhiaa", sum := "700349dbee1f39a83bffa6ae61653467b5415cc8824b3a6706ffbce342883191", func := "loop.example/g03411/laws.FnExactIsRelation", spec := "fnExactIsRelation", unfollowed := true, recurses := true, apart := false, narrowed := true }
def FnExactIsRelationUptoSaid : Prop := fnExactIsRelationUptoRow.holds Try.pinned (OpenSpec.upto fnExactIsRelationSpec)

end Rows
end Go.Proofs.Ytimaihabaflhiaa
