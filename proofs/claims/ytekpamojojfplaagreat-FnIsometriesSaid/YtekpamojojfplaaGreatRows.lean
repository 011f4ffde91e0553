/-
  No cell of these rows narrows 'for every input' (looked for: loops, veiled, ifaces, maps, wideKeys, modest, calm, conditions, laid).
  DERIVED. THE GIVEN ROWS OF THIS SEAT. 6 by the template 'for every input the law returns true; each argument reads behind the call as it read before'; 0 by the template 'total and deterministic' (their statements: YtekpamojojfplaaGreatTotals.lean).
  GIVEN WITH THE SEED: the statements are not yours to turn. If you find one false, say at which input.
  Laid BY PROGRAM, IN A SANDBOX (cutbox-rows.mjs): the forced cells as the released guide's own fill.sh prints them over the translation 1432f17a15419d3f… (all of the seat's roots in one cut). By AI agents, Wed Nov 11 2026. No macro, syntax, notation, axiom, sorry.
-/
import Derived.Test.YtekpamojojfplaaGreatChecked
import GoSem.Claim
import GoSem.ClaimJoined
import GoSem.ClaimMapViews
import Derived.JoinedTies
import Derived.KernelRfl
namespace Go.Proofs.YtekpamojojfplaaGreat
/- THE CELL 'sum', in the pinned program and in every row, IS THE sha256 OF THE DUMP (.gsa) THAT YtekpamojojfplaaGreatProg.lean LOADS. Nothing in Lean hashes anything: it is a label: what it is worth is what the hold of that sum in a sandbox is worth. -/
noncomputable def Tryz.pinned : Pinned := { name := "ytekpamojojfplaagreat", sum := "1432f17a15419d3f65351e3deef3f3c2d44d6a338b181d1df94ee37c5ae7d323", checked := Tryz.checked }
namespace Rows
def none {H : Type} : Left H := { results := [], args := [] }

/-- 'laws.FnIsometries': WHATEVER THE INPUT: true; the input reads as it did. -/
def fnIsometriesSpec : ChangeSpec := { name := "fnIsometries", fn := fun _ => fun
  | [d] => { results := [.lit (.bool true)], args := [d] }
  | _ => none }
def fnIsometriesRow : OpenClaim := { program := "ytekpamojojfplaagreat", sum := "1432f17a15419d3f65351e3deef3f3c2d44d6a338b181d1df94ee37c5ae7d323", func := "loop.example/g03411/laws.FnIsometries", spec := "fnIsometries", unfollowed := true, recurses := true, apart := false }
def FnIsometriesSaid : Prop := fnIsometriesRow.holds Tryz.pinned (OpenSpec.ofChange fnIsometriesSpec)

/-- ITS FALSE NEIGHBOUR: 'it returns false'. Refute it at one input. -/
def fnIsometriesWrong : ChangeSpec := { name := "fnIsometries", fn := fun _ => fun
  | [d] => { results := [.lit (.bool false)], args := [d] }
  | _ => none }
def FnIsometriesWrongFalsely : Prop := fnIsometriesRow.holds Tryz.pinned (OpenSpec.ofChange fnIsometriesWrong)

/-- 'laws.FnExactRelationsOf': WHATEVER THE INPUT: true; the input reads as it did. -/
def fnExactRelationsOfSpec : ChangeSpec := { name := "fnExactRelationsOf", fn := fun _ => fun
  | [d] => { results := [.lit (.bool true)], args := [d] }
  | _ => none }
def fnExactRelationsOfRow : OpenClaim := { program := "ytekpamojojfplaagreat", sum := "1432f17a15419d3f65351e3deef3f3c2d44d6a338b181d1df94ee37c5ae7d323", func := "loop.example/g03411/laws.FnExactRelationsOf", spec := "fnExactRelationsOf", unfollowed := true, recurses := true, apart := false }
def FnExactRelationsOfSaid : Prop := fnExactRelationsOfRow.holds Tryz.pinned (OpenSpec.ofChange fnExactRelationsOfSpec)

/-- ITS FALSE NEIGHBOUR: 'it returns false'. Refute it at one input. -/
def fnExactRelationsOfWrong : ChangeSpec := { name := "fnExactRelationsOf", fn := fun _ => fun
  | [d] => { results := [.lit (.bool false)], args := [d] }
  | _ => none }
def FnExactRelationsOfWrongFalsely : Prop := fnExactRelationsOfRow.holds Tryz.pinned (OpenSpec.ofChange fnExactRelationsOfWrong)

/-- 'laws.FnExactIsometryOf': WHATEVER THE INPUT: true; the input reads as it did. -/
def fnExactIsometryOfSpec : ChangeSpec := { name := "fnExactIsometryOf", fn := fun _ => fun
  | [d1, d2] => { results := [.lit (.bool true)], args := [d1, d2] }
  | _ => none }
def fnExactIsometryOfRow : OpenClaim := { program := "ytekpamojojfplaagreat", sum := "1432f17a15419d3f65351e3deef3f3c2d44d6a338b181d1df94ee37c5ae7d323", func := "loop.example/g03411/laws.FnExactIsometryOf", spec := "fnExactIsometryOf", unfollowed := true, recurses := true, apart := false }
def FnExactIsometryOfSaid : Prop := fnExactIsometryOfRow.holds Tryz.pinned (OpenSpec.ofChange fnExactIsometryOfSpec)

/-- ITS FALSE NEIGHBOUR: 'it returns false'. Refute it at one input. -/
def fnExactIsometryOfWrong : ChangeSpec := { name := "fnExactIsometryOf", fn := fun _ => fun
  | [d1, d2] => { results := [.lit (.bool false)], args := [d1, d2] }
  | _ => none }
def FnExactIsometryOfWrongFalsely : Prop := fnExactIsometryOfRow.holds Tryz.pinned (OpenSpec.ofChange fnExactIsometryOfWrong)

/-- 'laws.FnExactAutomorphismsOf': WHATEVER THE INPUT: true; the input reads as it did. -/
def fnExactAutomorphismsOfSpec : ChangeSpec := { name := "fnExactAutomorphismsOf", fn := fun _ => fun
  | [d] => { results := [.lit (.bool true)], args := [d] }
  | _ => none }
def fnExactAutomorphismsOfRow : OpenClaim := { program := "ytekpamojojfplaagreat", sum := "1432f17a15419d3f65351e3deef3f3c2d44d6a338b181d1df94ee37c5ae7d323", func := "loop.example/g03411/laws.FnExactAutomorphismsOf", spec := "fnExactAutomorphismsOf", unfollowed := true, recurses := true, apart := false }
def FnExactAutomorphismsOfSaid : Prop := fnExactAutomorphismsOfRow.holds Tryz.pinned (OpenSpec.ofChange fnExactAutomorphismsOfSpec)

/-- ITS FALSE NEIGHBOUR: 'it returns false'. Refute it at one input. -/
def fnExactAutomorphismsOfWrong : ChangeSpec := { name := "fnExactAutomorphismsOf", fn := fun _ => fun
  | [d] => { results := [.lit (.bool false)], args := [d] }
  | _ => none }
def FnExactAutomorphismsOfWrongFalsely : Prop := fnExactAutomorphismsOfRow.holds Tryz.pinned (OpenSpec.ofChange fnExactAutomorphismsOfWrong)

/-- 'laws.FnRelations': WHATEVER THE INPUT: true; the input reads as it did. -/
def fnRelationsSpec : ChangeSpec := { name := "fnRelations", fn := fun _ => fun
  | [d] => { results := [.lit (.bool true)], args := [d] }
  | _ => none }
def fnRelationsRow : OpenClaim := { program := "ytekpamojojfplaagreat", sum := "1432f17a15419d3f65351e3deef3f3c2d44d6a338b181d1df94ee37c5ae7d323", func := "loop.example/g03411/laws.FnRelations", spec := "fnRelations", unfollowed := true, recurses := true, apart := false }
def FnRelationsSaid : Prop := fnRelationsRow.holds Tryz.pinned (OpenSpec.ofChange fnRelationsSpec)

/-- ITS FALSE NEIGHBOUR: 'it returns false'. Refute it at one input. -/
def fnRelationsWrong : ChangeSpec := { name := "fnRelations", fn := fun _ => fun
  | [d] => { results := [.lit (.bool false)], args := [d] }
  | _ => none }
def FnRelationsWrongFalsely : Prop := fnRelationsRow.holds Tryz.pinned (OpenSpec.ofChange fnRelationsWrong)

/-- 'laws.FnExactShortRelation': WHATEVER THE INPUT: true; the input reads as it did. -/
def fnExactShortRelationSpec : ChangeSpec := { name := "fnExactShortRelation", fn := fun _ => fun
  | [d] => { results := [.lit (.bool true)], args := [d] }
  | _ => none }
def fnExactShortRelationRow : OpenClaim := { program := "ytekpamojojfplaagreat", sum := "1432f17a15419d3f65351e3deef3f3c2d44d6a338b181d1df94ee37c5ae7d323", func := "loop.example/g03411/laws.FnExactShortRelation", spec := "fnExactShortRelation", unfollowed := true, recurses := true, apart := false }
def FnExactShortRelationSaid : Prop := fnExactShortRelationRow.holds Tryz.pinned (OpenSpec.ofChange fnExactShortRelationSpec)

/-- ITS FALSE NEIGHBOUR: 'it returns false'. Refute it at one input. -/
def fnExactShortRelationWrong : ChangeSpec := { name := "fnExactShortRelation", fn := fun _ => fun
  | [d] => { results := [.lit (.bool false)], args := [d] }
  | _ => none }
def FnExactShortRelationWrongFalsely : Prop := fnExactShortRelationRow.holds Tryz.pinned (OpenSpec.ofChange fnExactShortRelationWrong)

/- THE SECOND FORM. 'bulk': how many values and letters a reading holds, each counted each time it is reached (what is shared counts as often as it is met; a slice's spare places count too). A statement '..UptoSaid' is the law's where the arguments, and the package variables that the reading takes, are together of bulk at most 1048576: NARROWER than '..Said'. Prove '..Said' where nothing that the law and all that it calls make is longer than what came in: it says more and counts as full. Else prove '..UptoSaid'. A law counts once. -/
mutual
def uptoBulk {H : Type} : DataW H → Nat
  | .lit (.string bytes) => bytes.length + 1
  | .lit _ => 1
  | .nil => 1
  | .ptr d => uptoBulk d + 1
  | .slice elems spare => uptoBulkAll elems + uptoBulkAll spare + 1
  | .agg parts => uptoBulkAll parts + 1
  | .iface _ d => uptoBulk d + 1
  | .map entries => uptoBulkEntries entries + 1
  | .held _ => 1
def uptoBulkAll {H : Type} : List (DataW H) → Nat
  | [] => 0
  | d :: r => uptoBulk d + uptoBulkAll r
def uptoBulkEntries {H : Type} : List (Lit × DataW H) → Nat
  | [] => 0
  | x :: r => uptoBulkEntry x + uptoBulkEntries r
def uptoBulkEntry {H : Type} : Lit × DataW H → Nat
  | (.string bytes, d) => bytes.length + uptoBulk d + 1
  | (_, d) => uptoBulk d + 1
 end
def uptoSmall : (H : Type) → List (DataW H) → Bool := fun _ ds => decide (uptoBulkAll ds ≤ 1048576)
def OpenSpec.upto (s : _root_.Go.ChangeSpec) : _root_.Go.OpenSpec := { _root_.Go.OpenSpec.ofChange s with cond := some uptoSmall }

/-- 'laws.FnIsometries', WHERE WHAT IT READS IS OF BULK AT MOST 1048576: true; the input reads as it did. -/
def fnIsometriesUptoRow : OpenClaim := { program := "ytekpamojojfplaagreat", sum := "1432f17a15419d3f65351e3deef3f3c2d44d6a338b181d1df94ee37c5ae7d323", func := "loop.example/g03411/laws.FnIsometries", spec := "fnIsometries", unfollowed := true, recurses := true, apart := false, narrowed := true }
def FnIsometriesUptoSaid : Prop := fnIsometriesUptoRow.holds Tryz.pinned (OpenSpec.upto fnIsometriesSpec)

/-- 'laws.FnExactRelationsOf', WHERE WHAT IT READS IS OF BULK AT MOST 1048576: true; the input reads as it did. -/
def fnExactRelationsOfUptoRow : OpenClaim := { program := "ytekpamojojfplaagreat", sum := "1432f17a15419d3f65351e3deef3f3c2d44d6a338b181d1df94ee37c5ae7d323", func := "loop.example/g03411/laws.FnExactRelationsOf", spec := "fnExactRelationsOf", unfollowed := true, recurses := true, apart := false, narrowed := true }
def FnExactRelationsOfUptoSaid : Prop := fnExactRelationsOfUptoRow.holds Tryz.pinned (OpenSpec.upto fnExactRelationsOfSpec)

/-- 'laws.FnExactIsometryOf', WHERE WHAT IT READS IS OF BULK AT MOST 1048576: true; the input reads as it did. -/
def fnExactIsometryOfUptoRow : OpenClaim := { program := "ytekpamojojfplaagreat", sum := "1432f17a15419d3f65351e3deef3f3c2d44d6a338b181d1df94ee37c5ae7d323", func := "loop.example/g03411/laws.FnExactIsometryOf", spec := "fnExactIsometryOf", unfollowed := true, recurses := true, apart := false, narrowed := true }
def FnExactIsometryOfUptoSaid : Prop := fnExactIsometryOfUptoRow.holds Tryz.pinned (OpenSpec.upto fnExactIsometryOfSpec)

/-- 'laws.FnExactAutomorphismsOf', WHERE WHAT IT READS IS OF BULK AT MOST 1048576: true; the input reads as it did. -/
def fnExactAutomorphismsOfUptoRow : OpenClaim := { program := "ytekpamojojfplaagreat", sum := "1432f17a15419d3f65351e3deef3f3c2d44d6a338b181d1df94ee37c5ae7d323", func := "loop.example/g03411/laws.FnExactAutomorphismsOf", spec := "fnExactAutomorphismsOf", unfollowed := true, recurses := true, apart := false, narrowed := true }
def FnExactAutomorphismsOfUptoSaid : Prop := fnExactAutomorphismsOfUptoRow.holds Tryz.pinned (OpenSpec.upto fnExactAutomorphismsOfSpec)

/-- 'laws.FnRelations', WHERE WHAT IT READS IS OF BULK AT MOST 1048576: true; the input reads as it did. -/
def fnRelationsUptoRow : OpenClaim := { program := "ytekpamojojfplaagreat", sum := "1432f17a15419d3f65351e3deef3f3c2d44d6a338b181d1df94ee37c5ae7d323", func := "loop.example/g03411/laws.FnRelations", spec := "fnRelations", unfollowed := true, recurses := true, apart := false, narrowed := true }
def FnRelationsUptoSaid : Prop := fnRelationsUptoRow.holds Tryz.pinned (OpenSpec.upto fnRelationsSpec)

/-- 'laws.FnExactShortRelation', WHERE WHAT IT READS IS OF BULK AT MOST 1048576: true; the input reads as it did. -/
def fnExactShortRelationUptoRow : OpenClaim := { program := "ytekpamojojfplaagreat", sum := "1432f17a15419d3f65351e3deef3f3c2d44d6a338b181d1df94ee37c5ae7d323", func := "loop.example/g03411/laws.FnExactShortRelation", spec := "fnExactShortRelation", unfollowed := true, recurses := true, apart := false, narrowed := true }
def FnExactShortRelationUptoSaid : Prop := fnExactShortRelationUptoRow.holds Tryz.pinned (OpenSpec.upto fnExactShortRelationSpec)

end Rows
end Go.Proofs.YtekpamojojfplaaGreat
