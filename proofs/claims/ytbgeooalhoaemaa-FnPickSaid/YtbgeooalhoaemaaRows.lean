/-
  No cell of these rows narrows 'for every input' (looked for: loops, veiled, ifaces, maps, wideKeys, modest, calm, conditions, laid).
  DERIVED. THE GIVEN ROWS OF THIS SEAT. 12 by the template 'for every input the law returns true; each argument reads behind the call as it read before'; 0 by the template 'total and deterministic' (their statements: YtbgeooalhoaemaaTotals.lean).
  GIVEN WITH THE SEED: the statements are not yours to turn. If you find one false, say at which input.
  Laid BY PROGRAM, IN A SANDBOX (cutbox-rows.mjs): the forced cells as the released guide's own fill.sh prints them over the translation 22a297651a8366f9… (all of the seat's roots in one cut). By AI agents, Wed Nov 11 2026. No macro, syntax, notation, axiom, sorry.
-/
import Derived.Test.YtbgeooalhoaemaaChecked
import GoSem.Claim
import GoSem.ClaimJoined
import GoSem.ClaimMapViews
import Derived.JoinedTies
import Derived.KernelRfl
namespace Go.Proofs.Ytbgeooalhoaemaa
/- THE CELL 'sum', in the pinned program and in every row, IS THE sha256 OF THE DUMP (.gsa) THAT YtbgeooalhoaemaaProg.lean LOADS. Nothing in Lean hashes anything: it is a label: what it is worth is what the hold of that sum in a sandbox is worth. -/
noncomputable def Try.pinned : Pinned := { name := "ytbgeooalhoaemaa", sum := "22a297651a8366f9767b4c0b350818ddd18a0805632eb70ed70572515fe5a3fb", checked := Try.checked }
namespace Rows
def none {H : Type} : Left H := { results := [], args := [] }

/-- 'laws.FnExactIsConeMatrix': WHATEVER THE INPUT: true; the input reads as it did. -/
def fnExactIsConeMatrixSpec : ChangeSpec := { name := "fnExactIsConeMatrix", fn := fun _ => fun
  | [d] => { results := [.lit (.bool true)], args := [d] }
  | _ => none }
def fnExactIsConeMatrixRow : OpenClaim := { program := "ytbgeooalhoaemaa", sum := "22a297651a8366f9767b4c0b350818ddd18a0805632eb70ed70572515fe5a3fb", func := "loop.example/g03411/laws.FnExactIsConeMatrix", spec := "fnExactIsConeMatrix", apart := false }
def FnExactIsConeMatrixSaid : Prop := fnExactIsConeMatrixRow.holds Try.pinned (OpenSpec.ofChange fnExactIsConeMatrixSpec)

/-- ITS FALSE NEIGHBOUR: 'it returns false'. Refute it at one input. -/
def fnExactIsConeMatrixWrong : ChangeSpec := { name := "fnExactIsConeMatrix", fn := fun _ => fun
  | [d] => { results := [.lit (.bool false)], args := [d] }
  | _ => none }
def FnExactIsConeMatrixWrongFalsely : Prop := fnExactIsConeMatrixRow.holds Try.pinned (OpenSpec.ofChange fnExactIsConeMatrixWrong)

/-- 'laws.FnExactIsPolygon': WHATEVER THE INPUT: true; the input reads as it did. -/
def fnExactIsPolygonSpec : ChangeSpec := { name := "fnExactIsPolygon", fn := fun _ => fun
  | [d] => { results := [.lit (.bool true)], args := [d] }
  | _ => none }
def fnExactIsPolygonRow : OpenClaim := { program := "ytbgeooalhoaemaa", sum := "22a297651a8366f9767b4c0b350818ddd18a0805632eb70ed70572515fe5a3fb", func := "loop.example/g03411/laws.FnExactIsPolygon", spec := "fnExactIsPolygon", apart := false }
def FnExactIsPolygonSaid : Prop := fnExactIsPolygonRow.holds Try.pinned (OpenSpec.ofChange fnExactIsPolygonSpec)

/-- ITS FALSE NEIGHBOUR: 'it returns false'. Refute it at one input. -/
def fnExactIsPolygonWrong : ChangeSpec := { name := "fnExactIsPolygon", fn := fun _ => fun
  | [d] => { results := [.lit (.bool false)], args := [d] }
  | _ => none }
def FnExactIsPolygonWrongFalsely : Prop := fnExactIsPolygonRow.holds Try.pinned (OpenSpec.ofChange fnExactIsPolygonWrong)

/-- 'laws.FnExactIsBody': WHATEVER THE INPUT: true; the input reads as it did. -/
def fnExactIsBodySpec : ChangeSpec := { name := "fnExactIsBody", fn := fun _ => fun
  | [d1, d2] => { results := [.lit (.bool true)], args := [d1, d2] }
  | _ => none }
def fnExactIsBodyRow : OpenClaim := { program := "ytbgeooalhoaemaa", sum := "22a297651a8366f9767b4c0b350818ddd18a0805632eb70ed70572515fe5a3fb", func := "loop.example/g03411/laws.FnExactIsBody", spec := "fnExactIsBody", apart := false }
def FnExactIsBodySaid : Prop := fnExactIsBodyRow.holds Try.pinned (OpenSpec.ofChange fnExactIsBodySpec)

/-- ITS FALSE NEIGHBOUR: 'it returns false'. Refute it at one input. -/
def fnExactIsBodyWrong : ChangeSpec := { name := "fnExactIsBody", fn := fun _ => fun
  | [d1, d2] => { results := [.lit (.bool false)], args := [d1, d2] }
  | _ => none }
def FnExactIsBodyWrongFalsely : Prop := fnExactIsBodyRow.holds Try.pinned (OpenSpec.ofChange fnExactIsBodyWrong)

/-- 'laws.FnExactDoubleArea': WHATEVER THE INPUT: true; the input reads as it did. -/
def fnExactDoubleAreaSpec : ChangeSpec := { name := "fnExactDoubleArea", fn := fun _ => fun
  | [d] => { results := [.lit (.bool true)], args := [d] }
  | _ => none }
def fnExactDoubleAreaRow : OpenClaim := { program := "ytbgeooalhoaemaa", sum := "22a297651a8366f9767b4c0b350818ddd18a0805632eb70ed70572515fe5a3fb", func := "loop.example/g03411/laws.FnExactDoubleArea", spec := "fnExactDoubleArea", apart := false }
def FnExactDoubleAreaSaid : Prop := fnExactDoubleAreaRow.holds Try.pinned (OpenSpec.ofChange fnExactDoubleAreaSpec)

/-- ITS FALSE NEIGHBOUR: 'it returns false'. Refute it at one input. -/
def fnExactDoubleAreaWrong : ChangeSpec := { name := "fnExactDoubleArea", fn := fun _ => fun
  | [d] => { results := [.lit (.bool false)], args := [d] }
  | _ => none }
def FnExactDoubleAreaWrongFalsely : Prop := fnExactDoubleAreaRow.holds Try.pinned (OpenSpec.ofChange fnExactDoubleAreaWrong)

/-- 'laws.FnExactInCone': WHATEVER THE INPUT: true; the input reads as it did. -/
def fnExactInConeSpec : ChangeSpec := { name := "fnExactInCone", fn := fun _ => fun
  | [d1, d2] => { results := [.lit (.bool true)], args := [d1, d2] }
  | _ => none }
def fnExactInConeRow : OpenClaim := { program := "ytbgeooalhoaemaa", sum := "22a297651a8366f9767b4c0b350818ddd18a0805632eb70ed70572515fe5a3fb", func := "loop.example/g03411/laws.FnExactInCone", spec := "fnExactInCone", apart := false }
def FnExactInConeSaid : Prop := fnExactInConeRow.holds Try.pinned (OpenSpec.ofChange fnExactInConeSpec)

/-- ITS FALSE NEIGHBOUR: 'it returns false'. Refute it at one input. -/
def fnExactInConeWrong : ChangeSpec := { name := "fnExactInCone", fn := fun _ => fun
  | [d1, d2] => { results := [.lit (.bool false)], args := [d1, d2] }
  | _ => none }
def FnExactInConeWrongFalsely : Prop := fnExactInConeRow.holds Try.pinned (OpenSpec.ofChange fnExactInConeWrong)

/-- 'laws.FnExactBorderPoints': WHATEVER THE INPUT: true; the input reads as it did. -/
def fnExactBorderPointsSpec : ChangeSpec := { name := "fnExactBorderPoints", fn := fun _ => fun
  | [d] => { results := [.lit (.bool true)], args := [d] }
  | _ => none }
def fnExactBorderPointsRow : OpenClaim := { program := "ytbgeooalhoaemaa", sum := "22a297651a8366f9767b4c0b350818ddd18a0805632eb70ed70572515fe5a3fb", func := "loop.example/g03411/laws.FnExactBorderPoints", spec := "fnExactBorderPoints", apart := false }
def FnExactBorderPointsSaid : Prop := fnExactBorderPointsRow.holds Try.pinned (OpenSpec.ofChange fnExactBorderPointsSpec)

/-- ITS FALSE NEIGHBOUR: 'it returns false'. Refute it at one input. -/
def fnExactBorderPointsWrong : ChangeSpec := { name := "fnExactBorderPoints", fn := fun _ => fun
  | [d] => { results := [.lit (.bool false)], args := [d] }
  | _ => none }
def FnExactBorderPointsWrongFalsely : Prop := fnExactBorderPointsRow.holds Try.pinned (OpenSpec.ofChange fnExactBorderPointsWrong)

/-- 'laws.FnExactDilatedCount': WHATEVER THE INPUT: true; the input reads as it did. -/
def fnExactDilatedCountSpec : ChangeSpec := { name := "fnExactDilatedCount", fn := fun _ => fun
  | [d1, d2] => { results := [.lit (.bool true)], args := [d1, d2] }
  | _ => none }
def fnExactDilatedCountRow : OpenClaim := { program := "ytbgeooalhoaemaa", sum := "22a297651a8366f9767b4c0b350818ddd18a0805632eb70ed70572515fe5a3fb", func := "loop.example/g03411/laws.FnExactDilatedCount", spec := "fnExactDilatedCount", apart := false }
def FnExactDilatedCountSaid : Prop := fnExactDilatedCountRow.holds Try.pinned (OpenSpec.ofChange fnExactDilatedCountSpec)

/-- ITS FALSE NEIGHBOUR: 'it returns false'. Refute it at one input. -/
def fnExactDilatedCountWrong : ChangeSpec := { name := "fnExactDilatedCount", fn := fun _ => fun
  | [d1, d2] => { results := [.lit (.bool false)], args := [d1, d2] }
  | _ => none }
def FnExactDilatedCountWrongFalsely : Prop := fnExactDilatedCountRow.holds Try.pinned (OpenSpec.ofChange fnExactDilatedCountWrong)

/-- 'laws.FnExactSidesOf': WHATEVER THE INPUT: true; the input reads as it did. -/
def fnExactSidesOfSpec : ChangeSpec := { name := "fnExactSidesOf", fn := fun _ => fun
  | [d] => { results := [.lit (.bool true)], args := [d] }
  | _ => none }
def fnExactSidesOfRow : OpenClaim := { program := "ytbgeooalhoaemaa", sum := "22a297651a8366f9767b4c0b350818ddd18a0805632eb70ed70572515fe5a3fb", func := "loop.example/g03411/laws.FnExactSidesOf", spec := "fnExactSidesOf", apart := false }
def FnExactSidesOfSaid : Prop := fnExactSidesOfRow.holds Try.pinned (OpenSpec.ofChange fnExactSidesOfSpec)

/-- ITS FALSE NEIGHBOUR: 'it returns false'. Refute it at one input. -/
def fnExactSidesOfWrong : ChangeSpec := { name := "fnExactSidesOf", fn := fun _ => fun
  | [d] => { results := [.lit (.bool false)], args := [d] }
  | _ => none }
def FnExactSidesOfWrongFalsely : Prop := fnExactSidesOfRow.holds Try.pinned (OpenSpec.ofChange fnExactSidesOfWrong)

/-- 'laws.FnExactPointsIn': WHATEVER THE INPUT: true; the input reads as it did. -/
def fnExactPointsInSpec : ChangeSpec := { name := "fnExactPointsIn", fn := fun _ => fun
  | [d1, d2, d3] => { results := [.lit (.bool true)], args := [d1, d2, d3] }
  | _ => none }
def fnExactPointsInRow : OpenClaim := { program := "ytbgeooalhoaemaa", sum := "22a297651a8366f9767b4c0b350818ddd18a0805632eb70ed70572515fe5a3fb", func := "loop.example/g03411/laws.FnExactPointsIn", spec := "fnExactPointsIn", apart := false }
def FnExactPointsInSaid : Prop := fnExactPointsInRow.holds Try.pinned (OpenSpec.ofChange fnExactPointsInSpec)

/-- ITS FALSE NEIGHBOUR: 'it returns false'. Refute it at one input. -/
def fnExactPointsInWrong : ChangeSpec := { name := "fnExactPointsIn", fn := fun _ => fun
  | [d1, d2, d3] => { results := [.lit (.bool false)], args := [d1, d2, d3] }
  | _ => none }
def FnExactPointsInWrongFalsely : Prop := fnExactPointsInRow.holds Try.pinned (OpenSpec.ofChange fnExactPointsInWrong)

/-- 'laws.FnExactBestPoint': WHATEVER THE INPUT: true; the input reads as it did. -/
def fnExactBestPointSpec : ChangeSpec := { name := "fnExactBestPoint", fn := fun _ => fun
  | [d1, d2, d3, d4] => { results := [.lit (.bool true)], args := [d1, d2, d3, d4] }
  | _ => none }
def fnExactBestPointRow : OpenClaim := { program := "ytbgeooalhoaemaa", sum := "22a297651a8366f9767b4c0b350818ddd18a0805632eb70ed70572515fe5a3fb", func := "loop.example/g03411/laws.FnExactBestPoint", spec := "fnExactBestPoint", apart := false }
def FnExactBestPointSaid : Prop := fnExactBestPointRow.holds Try.pinned (OpenSpec.ofChange fnExactBestPointSpec)

/-- ITS FALSE NEIGHBOUR: 'it returns false'. Refute it at one input. -/
def fnExactBestPointWrong : ChangeSpec := { name := "fnExactBestPoint", fn := fun _ => fun
  | [d1, d2, d3, d4] => { results := [.lit (.bool false)], args := [d1, d2, d3, d4] }
  | _ => none }
def FnExactBestPointWrongFalsely : Prop := fnExactBestPointRow.holds Try.pinned (OpenSpec.ofChange fnExactBestPointWrong)

/-- 'laws.FnBest': WHATEVER THE INPUT: true; the input reads as it did. -/
def fnBestSpec : ChangeSpec := { name := "fnBest", fn := fun _ => fun
  | [d] => { results := [.lit (.bool true)], args := [d] }
  | _ => none }
def fnBestRow : OpenClaim := { program := "ytbgeooalhoaemaa", sum := "22a297651a8366f9767b4c0b350818ddd18a0805632eb70ed70572515fe5a3fb", func := "loop.example/g03411/laws.FnBest", spec := "fnBest", apart := false }
def FnBestSaid : Prop := fnBestRow.holds Try.pinned (OpenSpec.ofChange fnBestSpec)

/-- ITS FALSE NEIGHBOUR: 'it returns false'. Refute it at one input. -/
def fnBestWrong : ChangeSpec := { name := "fnBest", fn := fun _ => fun
  | [d] => { results := [.lit (.bool false)], args := [d] }
  | _ => none }
def FnBestWrongFalsely : Prop := fnBestRow.holds Try.pinned (OpenSpec.ofChange fnBestWrong)

/-- 'laws.FnPick': WHATEVER THE INPUT: true; the input reads as it did. -/
def fnPickSpec : ChangeSpec := { name := "fnPick", fn := fun _ => fun
  | [d] => { results := [.lit (.bool true)], args := [d] }
  | _ => none }
def fnPickRow : OpenClaim := { program := "ytbgeooalhoaemaa", sum := "22a297651a8366f9767b4c0b350818ddd18a0805632eb70ed70572515fe5a3fb", func := "loop.example/g03411/laws.FnPick", spec := "fnPick", apart := false }
def FnPickSaid : Prop := fnPickRow.holds Try.pinned (OpenSpec.ofChange fnPickSpec)

/-- ITS FALSE NEIGHBOUR: 'it returns false'. Refute it at one input. -/
def fnPickWrong : ChangeSpec := { name := "fnPick", fn := fun _ => fun
  | [d] => { results := [.lit (.bool false)], args := [d] }
  | _ => none }
def FnPickWrongFalsely : Prop := fnPickRow.holds Try.pinned (OpenSpec.ofChange fnPickWrong)

/- THE SECOND FORM. 'bulk': how many values and letters a reading holds, each counted each time it is reached (what is shared counts as often as it is met; a slice's spare places count too). A statement '..UptoSaid' is the law's where the arguments, and the package variables that the reading takes, are together of bulk at most 1048576: NARROWER than '..Said'. Prove '..Said' where nothing that the law and all that it calls make is longer than what came in: it says more and counts as full. Else prove '..UptoSaid'. A law counts once. -/
mutual
def uptoBulk {H : Type} : DataW H → Nat
  | .lit (.string bytes) => bytes.length + 1
  | .lit _ => 1
  | .nil => 1
  | .ptr d => uptoBulk d + 1
  | .slice elems spare => uptoBulkAll elems + uptoBulkAll spare + 1
  | .agg parts => uptoBulkAll parts + 1
  | .iface _ d => uptoBulk d + 1
  | .map entries => uptoBulkEntries entries + 1
  | .held _ => 1
def uptoBulkAll {H : Type} : List (DataW H) → Nat
  | [] => 0
  | d :: r => uptoBulk d + uptoBulkAll r
def uptoBulkEntries {H : Type} : List (Lit × DataW H) → Nat
  | [] => 0
  | x :: r => uptoBulkEntry x + uptoBulkEntries r
def uptoBulkEntry {H : Type} : Lit × DataW H → Nat
  | (.string bytes, d) => bytes.length + uptoBulk d + 1
  | (_, d) => uptoBulk d + 1
 end
def uptoSmall : (H : Type) → List (DataW H) → Bool := fun _ ds => decide (uptoBulkAll ds ≤ 1048576)
def OpenSpec.upto (s : _root_.Go.ChangeSpec) : _root_.Go.OpenSpec := { _root_.Go.OpenSpec.ofChange s with cond := some uptoSmall }

/-- 'laws.FnExactIsConeMatrix', WHERE WHAT IT READS IS OF BULK AT MOST 1048576: true; the input reads as it did. -/
def fnExactIsConeMatrixUptoRow : OpenClaim := { program := "ytbgeooalhoaemaa", sum := "22a297651a8366f9767b4c0b350818ddd18a0805632eb70ed70572515fe5a3fb", func := "loop.example/g03411/laws.FnExactIsConeMatrix", spec := "fnExactIsConeMatrix", apart := false, narrowed := true }
def FnExactIsConeMatrixUptoSaid : Prop := fnExactIsConeMatrixUptoRow.holds Try.pinned (OpenSpec.upto fnExactIsConeMatrixSpec)

/-- 'laws.FnExactIsPolygon', WHERE WHAT IT READS IS OF BULK AT MOST 1048576: true; the input reads as it did. -/
def fnExactIsPolygonUptoRow : OpenClaim := { program := "ytbgeooalhoaemaa", sum := "22a297651a8366f9767b4c0b350818ddd18a0805632eb70ed70572515fe5a3fb", func := "loop.example/g03411/laws.FnExactIsPolygon", spec := "fnExactIsPolygon", apart := false, narrowed := true }
def FnExactIsPolygonUptoSaid : Prop := fnExactIsPolygonUptoRow.holds Try.pinned (OpenSpec.upto fnExactIsPolygonSpec)

/-- 'laws.FnExactIsBody', WHERE WHAT IT READS IS OF BULK AT MOST 1048576: true; the input reads as it did. -/
def fnExactIsBodyUptoRow : OpenClaim := { program := "ytbgeooalhoaemaa", sum := "22a297651a8366f9767b4c0b350818ddd18a0805632eb70ed70572515fe5a3fb", func := "loop.example/g03411/laws.FnExactIsBody", spec := "fnExactIsBody", apart := false, narrowed := true }
def FnExactIsBodyUptoSaid : Prop := fnExactIsBodyUptoRow.holds Try.pinned (OpenSpec.upto fnExactIsBodySpec)

/-- 'laws.FnExactDoubleArea', WHERE WHAT IT READS IS OF BULK AT MOST 1048576: true; the input reads as it did. -/
def fnExactDoubleAreaUptoRow : OpenClaim := { program := "ytbgeooalhoaemaa", sum := "22a297651a8366f9767b4c0b350818ddd18a0805632eb70ed70572515fe5a3fb", func := "loop.example/g03411/laws.FnExactDoubleArea", spec := "fnExactDoubleArea", apart := false, narrowed := true }
def FnExactDoubleAreaUptoSaid : Prop := fnExactDoubleAreaUptoRow.holds Try.pinned (OpenSpec.upto fnExactDoubleAreaSpec)

/-- 'laws.FnExactInCone', WHERE WHAT IT READS IS OF BULK AT MOST 1048576: true; the input reads as it did. -/
def fnExactInConeUptoRow : OpenClaim := { program := "ytbgeooalhoaemaa", sum := "22a297651a8366f9767b4c0b350818ddd18a0805632eb70ed70572515fe5a3fb", func := "loop.example/g03411/laws.FnExactInCone", spec := "fnExactInCone", apart := false, narrowed := true }
def FnExactInConeUptoSaid : Prop := fnExactInConeUptoRow.holds Try.pinned (OpenSpec.upto fnExactInConeSpec)

/-- 'laws.FnExactBorderPoints', WHERE WHAT IT READS IS OF BULK AT MOST 1048576: true; the input reads as it did. -/
def fnExactBorderPointsUptoRow : OpenClaim := { program := "ytbgeooalhoaemaa", sum := "22a297651a8366f9767b4c0b350818ddd18a0805632eb70ed70572515fe5a3fb", func := "loop.example/g03411/laws.FnExactBorderPoints", spec := "fnExactBorderPoints", apart := false, narrowed := true }
def FnExactBorderPointsUptoSaid : Prop := fnExactBorderPointsUptoRow.holds Try.pinned (OpenSpec.upto fnExactBorderPointsSpec)

/-- 'laws.FnExactDilatedCount', WHERE WHAT IT READS IS OF BULK AT MOST 1048576: true; the input reads as it did. -/
def fnExactDilatedCountUptoRow : OpenClaim := { program := "ytbgeooalhoaemaa", sum := "22a297651a8366f9767b4c0b350818ddd18a0805632eb70ed70572515fe5a3fb", func := "loop.example/g03411/laws.FnExactDilatedCount", spec := "fnExactDilatedCount", apart := false, narrowed := true }
def FnExactDilatedCountUptoSaid : Prop := fnExactDilatedCountUptoRow.holds Try.pinned (OpenSpec.upto fnExactDilatedCountSpec)

/-- 'laws.FnExactSidesOf', WHERE WHAT IT READS IS OF BULK AT MOST 1048576: true; the input reads as it did. -/
def fnExactSidesOfUptoRow : OpenClaim := { program := "ytbgeooalhoaemaa", sum := "22a297651a8366f9767b4c0b350818ddd18a0805632eb70ed70572515fe5a3fb", func := "loop.example/g03411/laws.FnExactSidesOf", spec := "fnExactSidesOf", apart := false, narrowed := true }
def FnExactSidesOfUptoSaid : Prop := fnExactSidesOfUptoRow.holds Try.pinned (OpenSpec.upto fnExactSidesOfSpec)

/-- 'laws.FnExactPointsIn', WHERE WHAT IT READS IS OF BULK AT MOST 1048576: true; the input reads as it did. -/
def fnExactPointsInUptoRow : OpenClaim := { program := "ytbgeooalhoaemaa", sum := "22a297651a8366f9767b4c0b350818ddd18a0805632eb70ed70572515fe5a3fb", func := "loop.example/g03411/laws.FnExactPointsIn", spec := "fnExactPointsIn", apart := false, narrowed := true }
def FnExactPointsInUptoSaid : Prop := fnExactPointsInUptoRow.holds Try.pinned (OpenSpec.upto fnExactPointsInSpec)

/-- 'laws.FnExactBestPoint', WHERE WHAT IT READS IS OF BULK AT MOST 1048576: true; the input reads as it did. -/
def fnExactBestPointUptoRow : OpenClaim := { program := "ytbgeooalhoaemaa", sum := "22a297651a8366f9767b4c0b350818ddd18a0805632eb70ed70572515fe5a3fb", func := "loop.example/g03411/laws.FnExactBestPoint", spec := "fnExactBestPoint", apart := false, narrowed := true }
def FnExactBestPointUptoSaid : Prop := fnExactBestPointUptoRow.holds Try.pinned (OpenSpec.upto fnExactBestPointSpec)

/-- 'laws.FnBest', WHERE WHAT IT READS IS OF BULK AT MOST 1048576: true; the input reads as it did. -/
def fnBestUptoRow : OpenClaim := { program := "ytbgeooalhoaemaa", sum := "22a297651a8366f9767b4c0b350818ddd18a0805632eb70ed70572515fe5a3fb", func := "loop.example/g03411/laws.FnBest", spec := "fnBest", apart := false, narrowed := true }
def FnBestUptoSaid : Prop := fnBestUptoRow.holds Try.pinned (OpenSpec.upto fnBestSpec)

/-- 'laws.FnPick', WHERE WHAT IT READS IS OF BULK AT MOST 1048576: true; the input reads as it did. -/
def fnPickUptoRow : OpenClaim := { program := "ytbgeooalhoaemaa", sum := "22a297651a8366f9767b4c0b350818ddd18a0805632eb70ed70572515fe5a3fb", func := "loop.example/g03411/laws.FnPick", spec := "fnPick", apart := false, narrowed := true }
def FnPickUptoSaid : Prop := fnPickUptoRow.holds Try.pinned (OpenSpec.upto fnPickSpec)

end Rows
end Go.Proofs.Ytbgeooalhoaemaa
