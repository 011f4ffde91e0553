/-
  No cell of these rows narrows 'for every input' (looked for: loops, veiled, ifaces, maps, wideKeys, modest, calm, conditions, laid).
  DERIVED. THE GIVEN ROWS OF THIS SEAT. 7 by the template 'for every input the law returns true; each argument reads behind the call as it read before'; 0 by the template 'total and deterministic' (their statements: YtfkbjkmlpinoeaaGreatTotals.lean).
  GIVEN WITH THE SEED: the statements are not yours to turn. If you find one false, say at which input.
  Laid BY PROGRAM, IN A SANDBOX (cutbox-rows.mjs): the forced cells as the released guide's own fill.sh prints them over the translation 2f63b97392a051ab… (all of the seat's roots in one cut). By AI agents, Wed Nov 11 2026. No macro, syntax, notation, axiom, sorry.
-/
import Derived.Test.YtfkbjkmlpinoeaaGreatChecked
import GoSem.Claim
import GoSem.ClaimJoined
import GoSem.ClaimMapViews
import Derived.JoinedTies
import Derived.KernelRfl
namespace Go.Proofs.YtfkbjkmlpinoeaaGreat
/- THE CELL 'sum', in the pinned program and in every row, IS THE sha256 OF THE DUMP (.gsa) THAT YtfkbjkmlpinoeaaGreatProg.lean LOADS. Nothing in Lean hashes anything: it is a label: what it is worth is what the hold of that sum in a sandbox is worth. -/
noncomputable def Tryz.pinned : Pinned := { name := "ytfkbjkmlpinoeaagreat", sum := "2f63b97392a051ab0a3454cc7728aa1f56094239e1c4903e05a3327882a19467", checked := Tryz.checked }
namespace Rows
def none {H : Type} : Left H := { results := [], args := [] }

/-- 'laws.FnRays': WHATEVER THE INPUT: true; the input reads as it did. -/
def fnRaysSpec : ChangeSpec := { name := "fnRays", fn := fun _ => fun
  | [d] => { results := [.lit (.bool true)], args := [d] }
  | _ => none }
def fnRaysRow : OpenClaim := { program := "ytfkbjkmlpinoeaagreat", sum := "2f63b97392a051ab0a3454cc7728aa1f56094239e1c4903e05a3327882a19467", func := "loop.example/g03411/laws.FnRays", spec := "fnRays", unfollowed := true, recurses := true, apart := false }
def FnRaysSaid : Prop := fnRaysRow.holds Tryz.pinned (OpenSpec.ofChange fnRaysSpec)

/-- ITS FALSE NEIGHBOUR: 'it returns false'. Refute it at one input. -/
def fnRaysWrong : ChangeSpec := { name := "fnRays", fn := fun _ => fun
  | [d] => { results := [.lit (.bool false)], args := [d] }
  | _ => none }
def FnRaysWrongFalsely : Prop := fnRaysRow.holds Tryz.pinned (OpenSpec.ofChange fnRaysWrong)

/-- 'laws.FnHilbert': WHATEVER THE INPUT: true; the input reads as it did. -/
def fnHilbertSpec : ChangeSpec := { name := "fnHilbert", fn := fun _ => fun
  | [d] => { results := [.lit (.bool true)], args := [d] }
  | _ => none }
def fnHilbertRow : OpenClaim := { program := "ytfkbjkmlpinoeaagreat", sum := "2f63b97392a051ab0a3454cc7728aa1f56094239e1c4903e05a3327882a19467", func := "loop.example/g03411/laws.FnHilbert", spec := "fnHilbert", unfollowed := true, recurses := true, apart := false }
def FnHilbertSaid : Prop := fnHilbertRow.holds Tryz.pinned (OpenSpec.ofChange fnHilbertSpec)

/-- ITS FALSE NEIGHBOUR: 'it returns false'. Refute it at one input. -/
def fnHilbertWrong : ChangeSpec := { name := "fnHilbert", fn := fun _ => fun
  | [d] => { results := [.lit (.bool false)], args := [d] }
  | _ => none }
def FnHilbertWrongFalsely : Prop := fnHilbertRow.holds Tryz.pinned (OpenSpec.ofChange fnHilbertWrong)

/-- 'laws.FnExactRaysOf': WHATEVER THE INPUT: true; the input reads as it did. -/
def fnExactRaysOfSpec : ChangeSpec := { name := "fnExactRaysOf", fn := fun _ => fun
  | [d] => { results := [.lit (.bool true)], args := [d] }
  | _ => none }
def fnExactRaysOfRow : OpenClaim := { program := "ytfkbjkmlpinoeaagreat", sum := "2f63b97392a051ab0a3454cc7728aa1f56094239e1c4903e05a3327882a19467", func := "loop.example/g03411/laws.FnExactRaysOf", spec := "fnExactRaysOf", unfollowed := true, recurses := true, apart := false }
def FnExactRaysOfSaid : Prop := fnExactRaysOfRow.holds Tryz.pinned (OpenSpec.ofChange fnExactRaysOfSpec)

/-- ITS FALSE NEIGHBOUR: 'it returns false'. Refute it at one input. -/
def fnExactRaysOfWrong : ChangeSpec := { name := "fnExactRaysOf", fn := fun _ => fun
  | [d] => { results := [.lit (.bool false)], args := [d] }
  | _ => none }
def FnExactRaysOfWrongFalsely : Prop := fnExactRaysOfRow.holds Tryz.pinned (OpenSpec.ofChange fnExactRaysOfWrong)

/-- 'laws.FnExactFacetsOf': WHATEVER THE INPUT: true; the input reads as it did. -/
def fnExactFacetsOfSpec : ChangeSpec := { name := "fnExactFacetsOf", fn := fun _ => fun
  | [d] => { results := [.lit (.bool true)], args := [d] }
  | _ => none }
def fnExactFacetsOfRow : OpenClaim := { program := "ytfkbjkmlpinoeaagreat", sum := "2f63b97392a051ab0a3454cc7728aa1f56094239e1c4903e05a3327882a19467", func := "loop.example/g03411/laws.FnExactFacetsOf", spec := "fnExactFacetsOf", unfollowed := true, recurses := true, apart := false }
def FnExactFacetsOfSaid : Prop := fnExactFacetsOfRow.holds Tryz.pinned (OpenSpec.ofChange fnExactFacetsOfSpec)

/-- ITS FALSE NEIGHBOUR: 'it returns false'. Refute it at one input. -/
def fnExactFacetsOfWrong : ChangeSpec := { name := "fnExactFacetsOf", fn := fun _ => fun
  | [d] => { results := [.lit (.bool false)], args := [d] }
  | _ => none }
def FnExactFacetsOfWrongFalsely : Prop := fnExactFacetsOfRow.holds Tryz.pinned (OpenSpec.ofChange fnExactFacetsOfWrong)

/-- 'laws.FnExactHilbertBox': WHATEVER THE INPUT: true; the input reads as it did. -/
def fnExactHilbertBoxSpec : ChangeSpec := { name := "fnExactHilbertBox", fn := fun _ => fun
  | [d] => { results := [.lit (.bool true)], args := [d] }
  | _ => none }
def fnExactHilbertBoxRow : OpenClaim := { program := "ytfkbjkmlpinoeaagreat", sum := "2f63b97392a051ab0a3454cc7728aa1f56094239e1c4903e05a3327882a19467", func := "loop.example/g03411/laws.FnExactHilbertBox", spec := "fnExactHilbertBox", unfollowed := true, recurses := true, apart := false }
def FnExactHilbertBoxSaid : Prop := fnExactHilbertBoxRow.holds Tryz.pinned (OpenSpec.ofChange fnExactHilbertBoxSpec)

/-- ITS FALSE NEIGHBOUR: 'it returns false'. Refute it at one input. -/
def fnExactHilbertBoxWrong : ChangeSpec := { name := "fnExactHilbertBox", fn := fun _ => fun
  | [d] => { results := [.lit (.bool false)], args := [d] }
  | _ => none }
def FnExactHilbertBoxWrongFalsely : Prop := fnExactHilbertBoxRow.holds Tryz.pinned (OpenSpec.ofChange fnExactHilbertBoxWrong)

/-- 'laws.FnExactHilbertOf': WHATEVER THE INPUT: true; the input reads as it did. -/
def fnExactHilbertOfSpec : ChangeSpec := { name := "fnExactHilbertOf", fn := fun _ => fun
  | [d] => { results := [.lit (.bool true)], args := [d] }
  | _ => none }
def fnExactHilbertOfRow : OpenClaim := { program := "ytfkbjkmlpinoeaagreat", sum := "2f63b97392a051ab0a3454cc7728aa1f56094239e1c4903e05a3327882a19467", func := "loop.example/g03411/laws.FnExactHilbertOf", spec := "fnExactHilbertOf", unfollowed := true, recurses := true, apart := false }
def FnExactHilbertOfSaid : Prop := fnExactHilbertOfRow.holds Tryz.pinned (OpenSpec.ofChange fnExactHilbertOfSpec)

/-- ITS FALSE NEIGHBOUR: 'it returns false'. Refute it at one input. -/
def fnExactHilbertOfWrong : ChangeSpec := { name := "fnExactHilbertOf", fn := fun _ => fun
  | [d] => { results := [.lit (.bool false)], args := [d] }
  | _ => none }
def FnExactHilbertOfWrongFalsely : Prop := fnExactHilbertOfRow.holds Tryz.pinned (OpenSpec.ofChange fnExactHilbertOfWrong)

/-- 'laws.FnExactMultiplesOf': WHATEVER THE INPUT: true; the input reads as it did. -/
def fnExactMultiplesOfSpec : ChangeSpec := { name := "fnExactMultiplesOf", fn := fun _ => fun
  | [d1, d2] => { results := [.lit (.bool true)], args := [d1, d2] }
  | _ => none }
def fnExactMultiplesOfRow : OpenClaim := { program := "ytfkbjkmlpinoeaagreat", sum := "2f63b97392a051ab0a3454cc7728aa1f56094239e1c4903e05a3327882a19467", func := "loop.example/g03411/laws.FnExactMultiplesOf", spec := "fnExactMultiplesOf", unfollowed := true, recurses := true, apart := false }
def FnExactMultiplesOfSaid : Prop := fnExactMultiplesOfRow.holds Tryz.pinned (OpenSpec.ofChange fnExactMultiplesOfSpec)

/-- ITS FALSE NEIGHBOUR: 'it returns false'. Refute it at one input. -/
def fnExactMultiplesOfWrong : ChangeSpec := { name := "fnExactMultiplesOf", fn := fun _ => fun
  | [d1, d2] => { results := [.lit (.bool false)], args := [d1, d2] }
  | _ => none }
def FnExactMultiplesOfWrongFalsely : Prop := fnExactMultiplesOfRow.holds Tryz.pinned (OpenSpec.ofChange fnExactMultiplesOfWrong)

/- THE SECOND FORM. 'bulk': how many values and letters a reading holds, each counted each time it is reached (what is shared counts as often as it is met; a slice's spare places count too). A statement '..UptoSaid' is the law's where the arguments, and the package variables that the reading takes, are together of bulk at most 1048576: NARROWER than '..Said'. Prove '..Said' where nothing that the law and all that it calls make is longer than what came in: it says more and counts as full. Else prove '..UptoSaid'. A law counts once. -/
mutual
def uptoBulk {H : Type} : DataW H → Nat
  | .lit (.string bytes) => bytes.length + 1
  | .lit _ => 1
  | .nil => 1
  | .ptr d => uptoBulk d + 1
  | .slice elems spare => uptoBulkAll elems + uptoBulkAll spare + 1
  | .agg parts => uptoBulkAll parts + 1
  | .iface _ d => uptoBulk d + 1
  | .map entries => uptoBulkEntries entries + 1
  | .held _ => 1
def uptoBulkAll {H : Type} : List (DataW H) → Nat
  | [] => 0
  | d :: r => uptoBulk d + uptoBulkAll r
def uptoBulkEntries {H : Type} : List (Lit × DataW H) → Nat
  | [] => 0
  | x :: r => uptoBulkEntry x + uptoBulkEntries r
def uptoBulkEntry {H : Type} : Lit × DataW H → Nat
  | (.string bytes, d) => bytes.length + uptoBulk d + 1
  | (_, d) => uptoBulk d + 1
 end
def uptoSmall : (H : Type) → List (DataW H) → Bool := fun _ ds => decide (uptoBulkAll ds ≤ 1048576)
def OpenSpec.upto (s : _root_.Go.ChangeSpec) : _root_.Go.OpenSpec := { _root_.Go.OpenSpec.ofChange s with cond := some uptoSmall }

/-- 'laws.FnRays', WHERE WHAT IT READS IS OF BULK AT MOST 1048576: true; the input reads as it did. -/
def fnRaysUptoRow : OpenClaim := { program := "ytfkbjkmlpinoeaagreat", sum := "2f63b97392a051ab0a3454cc7728aa1f56094239e1c4903e05a3327882a19467", func := "loop.example/g03411/laws.FnRays", spec := "fnRays", unfollowed := true, recurses := true, apart := false, narrowed := true }
def FnRaysUptoSaid : Prop := fnRaysUptoRow.holds Tryz.pinned (OpenSpec.upto fnRaysSpec)

/-- 'laws.FnHilbert', WHERE WHAT IT READS IS OF BULK AT MOST 1048576: true; the input reads as it did. -/
def fnHilbertUptoRow : OpenClaim := { program := "ytfkbjkmlpinoeaagreat", sum := "2f63b97392a051ab0a3454cc7728aa1f56094239e1c4903e05a3327882a19467", func := "loop.example/g03411/laws.FnHilbert", spec := "fnHilbert", unfollowed := true, recurses := true, apart := false, narrowed := true }
def FnHilbertUptoSaid : Prop := fnHilbertUptoRow.holds Tryz.pinned (OpenSpec.upto fnHilbertSpec)

/-- 'laws.FnExactRaysOf', WHERE WHAT IT READS IS OF BULK AT MOST 1048576: true; the input reads as it did. -/
def fnExactRaysOfUptoRow : OpenClaim := { program := "ytfkbjkmlpinoeaagreat", sum := "2f63b97392a051ab0a3454cc7728aa1f56094239e1c4903e05a3327882a19467", func := "loop.example/g03411/laws.FnExactRaysOf", spec := "fnExactRaysOf", unfollowed := true, recurses := true, apart := false, narrowed := true }
def FnExactRaysOfUptoSaid : Prop := fnExactRaysOfUptoRow.holds Tryz.pinned (OpenSpec.upto fnExactRaysOfSpec)

/-- 'laws.FnExactFacetsOf', WHERE WHAT IT READS IS OF BULK AT MOST 1048576: true; the input reads as it did. -/
def fnExactFacetsOfUptoRow : OpenClaim := { program := "ytfkbjkmlpinoeaagreat", sum := "2f63b97392a051ab0a3454cc7728aa1f56094239e1c4903e05a3327882a19467", func := "loop.example/g03411/laws.FnExactFacetsOf", spec := "fnExactFacetsOf", unfollowed := true, recurses := true, apart := false, narrowed := true }
def FnExactFacetsOfUptoSaid : Prop := fnExactFacetsOfUptoRow.holds Tryz.pinned (OpenSpec.upto fnExactFacetsOfSpec)

/-- 'laws.FnExactHilbertBox', WHERE WHAT IT READS IS OF BULK AT MOST 1048576: true; the input reads as it did. -/
def fnExactHilbertBoxUptoRow : OpenClaim := { program := "ytfkbjkmlpinoeaagreat", sum := "2f63b97392a051ab0a3454cc7728aa1f56094239e1c4903e05a3327882a19467", func := "loop.example/g03411/laws.FnExactHilbertBox", spec := "fnExactHilbertBox", unfollowed := true, recurses := true, apart := false, narrowed := true }
def FnExactHilbertBoxUptoSaid : Prop := fnExactHilbertBoxUptoRow.holds Tryz.pinned (OpenSpec.upto fnExactHilbertBoxSpec)

/-- 'laws.FnExactHilbertOf', WHERE WHAT IT READS IS OF BULK AT MOST 1048576: true; the input reads as it did. -/
def fnExactHilbertOfUptoRow : OpenClaim := { program := "ytfkbjkmlpinoeaagreat", sum := "2f63b97392a051ab0a3454cc7728aa1f56094239e1c4903e05a3327882a19467", func := "loop.example/g03411/laws.FnExactHilbertOf", spec := "fnExactHilbertOf", unfollowed := true, recurses := true, apart := false, narrowed := true }
def FnExactHilbertOfUptoSaid : Prop := fnExactHilbertOfUptoRow.holds Tryz.pinned (OpenSpec.upto fnExactHilbertOfSpec)

/-- 'laws.FnExactMultiplesOf', WHERE WHAT IT READS IS OF BULK AT MOST 1048576: true; the input reads as it did. -/
def fnExactMultiplesOfUptoRow : OpenClaim := { program := "ytfkbjkmlpinoeaagreat", sum := "2f63b97392a051ab0a3454cc7728aa1f56094239e1c4903e05a3327882a19467", func := "loop.example/g03411/laws.FnExactMultiplesOf", spec := "fnExactMultiplesOf", unfollowed := true, recurses := true, apart := false, narrowed := true }
def FnExactMultiplesOfUptoSaid : Prop := fnExactMultiplesOfUptoRow.holds Tryz.pinned (OpenSpec.upto fnExactMultiplesOfSpec)

end Rows
end Go.Proofs.YtfkbjkmlpinoeaaGreat
