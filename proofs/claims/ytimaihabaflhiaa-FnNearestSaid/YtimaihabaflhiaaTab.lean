/-
  THE TYPES of the program, as the abstract machine knows them. Own text, printed by a program of this workplace off the translation.
-/
import Derived.Test.YtimaihabaflhiaaProg
import Derived.Test.YtimaihabaflhiaaAm6
set_option linter.unusedVariables false
set_option linter.unusedSimpArgs false
namespace Go.Proofs.Ytimaihabaflhiaa
def T : List (Nat × TD) := [(2, ⟨.sc, 1, 8, [.int 0], false⟩), (3, ⟨.sc, 1, 8, [.int 0], false⟩), (4, ⟨.sc, 1, 1, [.bool false], false⟩), (5, ⟨.sc, 1, 1, [.u8 0], false⟩), (6, ⟨.sc, 1, 1, [.u8 0], false⟩), (7, ⟨.st [(0, 2), (1, 3), (2, 4), (3, 6)], 4, 24, [.int 0, .int 0, .bool false, .u8 0], false⟩), (8, ⟨.st [(0, 2), (1, 3), (2, 4), (3, 6)], 4, 24, [.int 0, .int 0, .bool false, .u8 0], false⟩), (15, ⟨.sc, 1, 8, [.ptr 0 1 0 0], false⟩), (16, ⟨.sc, 1, 8, [.ptr 0 1 0 0], false⟩), (17, ⟨.sc, 1, 8, [.ptr 0 1 0 0], false⟩), (18, ⟨.st [(0, 17)], 1, 8, [.ptr 0 1 0 0], false⟩), (19, ⟨.st [(0, 17)], 1, 8, [.ptr 0 1 0 0], false⟩), (22, ⟨.st [(0, 3), (1, 3)], 2, 16, [.int 0, .int 0], true⟩), (23, ⟨.st [(0, 3), (1, 3)], 2, 16, [.int 0, .int 0], true⟩), (24, ⟨.sl 3, 1, 24, [.sl 0 1 0 0 0], false⟩), (27, ⟨.st [(0, 3), (1, 3)], 2, 16, [.int 0, .int 0], true⟩), (39, ⟨.sl 27, 1, 24, [.sl 0 2 0 0 0], false⟩), (44, ⟨.sl 5, 1, 24, [.sl 0 1 0 0 0], false⟩), (62, ⟨.sc, 1, 8, [.ptr 0 1 0 0], false⟩), (68, ⟨.st [(0, 3), (1, 3), (2, 24)], 3, 40, [.int 0, .int 0, .sl 0 1 0 0 0], false⟩), (69, ⟨.st [(0, 3), (1, 3), (2, 24)], 3, 40, [.int 0, .int 0, .sl 0 1 0 0 0], false⟩), (74, ⟨.st [(0, 44), (1, 3), (2, 3)], 3, 40, [.sl 0 1 0 0 0, .int 0, .int 0], false⟩), (75, ⟨.st [(0, 44), (1, 3), (2, 3)], 3, 40, [.sl 0 1 0 0 0, .int 0, .int 0], false⟩), (87, ⟨.ar 0 16, 0, 0, [], false⟩), (88, ⟨.st [(0, 87)], 0, 0, [], false⟩), (89, ⟨.st [(0, 87)], 0, 0, [], false⟩), (92, ⟨.sc, 1, 1, [.u8 0], false⟩), (93, ⟨.sc, 1, 1, [.u8 0], false⟩), (95, ⟨.sc, 1, 8, [.ptr 0 1 0 0], false⟩)]
theorem tok2 : TOK Try.prog 2 ⟨.sc, 1, 8, [.int 0], false⟩ := ⟨by kernel_rfl, by kernel_rfl, rfl, by decide, fun _ => rfl⟩
theorem tok3 : TOK Try.prog 3 ⟨.sc, 1, 8, [.int 0], false⟩ := ⟨by kernel_rfl, by kernel_rfl, rfl, by decide, fun _ => rfl⟩
theorem tok4 : TOK Try.prog 4 ⟨.sc, 1, 1, [.bool false], false⟩ := ⟨by kernel_rfl, by kernel_rfl, rfl, by decide, fun _ => rfl⟩
theorem tok5 : TOK Try.prog 5 ⟨.sc, 1, 1, [.u8 0], false⟩ := ⟨by kernel_rfl, by kernel_rfl, rfl, by decide, fun _ => rfl⟩
theorem tok6 : TOK Try.prog 6 ⟨.sc, 1, 1, [.u8 0], false⟩ := ⟨by kernel_rfl, by kernel_rfl, rfl, by decide, fun _ => rfl⟩
theorem tok7 : TOK Try.prog 7 ⟨.st [(0, 2), (1, 3), (2, 4), (3, 6)], 4, 24, [.int 0, .int 0, .bool false, .u8 0], false⟩ := ⟨by kernel_rfl, by kernel_rfl, rfl, by decide, fun h => by cases h⟩
theorem tok8 : TOK Try.prog 8 ⟨.st [(0, 2), (1, 3), (2, 4), (3, 6)], 4, 24, [.int 0, .int 0, .bool false, .u8 0], false⟩ := ⟨by kernel_rfl, by kernel_rfl, rfl, by decide, fun h => by cases h⟩
theorem tok15 : TOK Try.prog 15 ⟨.sc, 1, 8, [.ptr 0 1 0 0], false⟩ := ⟨by kernel_rfl, by kernel_rfl, rfl, by decide, fun _ => rfl⟩
theorem tok16 : TOK Try.prog 16 ⟨.sc, 1, 8, [.ptr 0 1 0 0], false⟩ := ⟨by kernel_rfl, by kernel_rfl, rfl, by decide, fun _ => rfl⟩
theorem tok17 : TOK Try.prog 17 ⟨.sc, 1, 8, [.ptr 0 1 0 0], false⟩ := ⟨by kernel_rfl, by kernel_rfl, rfl, by decide, fun _ => rfl⟩
theorem tok18 : TOK Try.prog 18 ⟨.st [(0, 17)], 1, 8, [.ptr 0 1 0 0], false⟩ := ⟨by kernel_rfl, by kernel_rfl, rfl, by decide, fun h => by cases h⟩
theorem tok19 : TOK Try.prog 19 ⟨.st [(0, 17)], 1, 8, [.ptr 0 1 0 0], false⟩ := ⟨by kernel_rfl, by kernel_rfl, rfl, by decide, fun h => by cases h⟩
theorem tok22 : TOK Try.prog 22 ⟨.st [(0, 3), (1, 3)], 2, 16, [.int 0, .int 0], true⟩ := ⟨by kernel_rfl, by kernel_rfl, rfl, by decide, fun h => by cases h⟩
theorem eqk22 : EqOK Try.prog 22 2 := .two Try.underlying22 (by kernel_rfl) (by kernel_rfl) ⟨by decide, rfl, by kernel_rfl⟩ ⟨by decide, rfl, by kernel_rfl⟩
theorem tok23 : TOK Try.prog 23 ⟨.st [(0, 3), (1, 3)], 2, 16, [.int 0, .int 0], true⟩ := ⟨by kernel_rfl, by kernel_rfl, rfl, by decide, fun h => by cases h⟩
theorem eqk23 : EqOK Try.prog 23 2 := .two Try.underlying23 (by kernel_rfl) (by kernel_rfl) ⟨by decide, rfl, by kernel_rfl⟩ ⟨by decide, rfl, by kernel_rfl⟩
theorem tok24 : TOK Try.prog 24 ⟨.sl 3, 1, 24, [.sl 0 1 0 0 0], false⟩ := ⟨by kernel_rfl, by kernel_rfl, rfl, by decide, fun _ => rfl⟩
theorem tok27 : TOK Try.prog 27 ⟨.st [(0, 3), (1, 3)], 2, 16, [.int 0, .int 0], true⟩ := ⟨by kernel_rfl, by kernel_rfl, rfl, by decide, fun h => by cases h⟩
theorem eqk27 : EqOK Try.prog 27 2 := .two Try.underlying27 (by kernel_rfl) (by kernel_rfl) ⟨by decide, rfl, by kernel_rfl⟩ ⟨by decide, rfl, by kernel_rfl⟩
theorem tok39 : TOK Try.prog 39 ⟨.sl 27, 1, 24, [.sl 0 2 0 0 0], false⟩ := ⟨by kernel_rfl, by kernel_rfl, rfl, by decide, fun _ => rfl⟩
theorem tok44 : TOK Try.prog 44 ⟨.sl 5, 1, 24, [.sl 0 1 0 0 0], false⟩ := ⟨by kernel_rfl, by kernel_rfl, rfl, by decide, fun _ => rfl⟩
theorem tok62 : TOK Try.prog 62 ⟨.sc, 1, 8, [.ptr 0 1 0 0], false⟩ := ⟨by kernel_rfl, by kernel_rfl, rfl, by decide, fun _ => rfl⟩
theorem tok68 : TOK Try.prog 68 ⟨.st [(0, 3), (1, 3), (2, 24)], 3, 40, [.int 0, .int 0, .sl 0 1 0 0 0], false⟩ := ⟨by kernel_rfl, by kernel_rfl, rfl, by decide, fun h => by cases h⟩
theorem tok69 : TOK Try.prog 69 ⟨.st [(0, 3), (1, 3), (2, 24)], 3, 40, [.int 0, .int 0, .sl 0 1 0 0 0], false⟩ := ⟨by kernel_rfl, by kernel_rfl, rfl, by decide, fun h => by cases h⟩
theorem tok74 : TOK Try.prog 74 ⟨.st [(0, 44), (1, 3), (2, 3)], 3, 40, [.sl 0 1 0 0 0, .int 0, .int 0], false⟩ := ⟨by kernel_rfl, by kernel_rfl, rfl, by decide, fun h => by cases h⟩
theorem tok75 : TOK Try.prog 75 ⟨.st [(0, 44), (1, 3), (2, 3)], 3, 40, [.sl 0 1 0 0 0, .int 0, .int 0], false⟩ := ⟨by kernel_rfl, by kernel_rfl, rfl, by decide, fun h => by cases h⟩
theorem tok87 : TOK Try.prog 87 ⟨.ar 0 16, 0, 0, [], false⟩ := ⟨by kernel_rfl, by kernel_rfl, rfl, by decide, fun h => by cases h⟩
theorem tok88 : TOK Try.prog 88 ⟨.st [(0, 87)], 0, 0, [], false⟩ := ⟨by kernel_rfl, by kernel_rfl, rfl, by decide, fun h => by cases h⟩
theorem tok89 : TOK Try.prog 89 ⟨.st [(0, 87)], 0, 0, [], false⟩ := ⟨by kernel_rfl, by kernel_rfl, rfl, by decide, fun h => by cases h⟩
theorem tok92 : TOK Try.prog 92 ⟨.sc, 1, 1, [.u8 0], false⟩ := ⟨by kernel_rfl, by kernel_rfl, rfl, by decide, fun _ => rfl⟩
theorem tok93 : TOK Try.prog 93 ⟨.sc, 1, 1, [.u8 0], false⟩ := ⟨by kernel_rfl, by kernel_rfl, rfl, by decide, fun _ => rfl⟩
theorem tok95 : TOK Try.prog 95 ⟨.sc, 1, 8, [.ptr 0 1 0 0], false⟩ := ⟨by kernel_rfl, by kernel_rfl, rfl, by decide, fun _ => rfl⟩
theorem TT : Tab Try.prog T :=
  .cons tok2 ⟨(fun _ h => by cases h), (fun _ _ => by kernel_rfl), fun h => by cases h⟩ <|
  .cons tok3 ⟨(fun _ h => by cases h), (fun _ _ => by kernel_rfl), fun h => by cases h⟩ <|
  .cons tok4 ⟨(fun _ _ => by kernel_rfl), (fun _ h => by cases h), fun h => by cases h⟩ <|
  .cons tok5 ⟨(fun _ h => by cases h), (fun _ h => by cases h), fun h => by cases h⟩ <|
  .cons tok6 ⟨(fun _ h => by cases h), (fun _ h => by cases h), fun h => by cases h⟩ <|
  .cons tok7 ⟨(fun h _ => by cases h), (fun h _ => by cases h), fun h => by cases h⟩ <|
  .cons tok8 ⟨(fun h _ => by cases h), (fun h _ => by cases h), fun h => by cases h⟩ <|
  .cons tok15 ⟨(fun _ h => by cases h), (fun _ h => by cases h), fun h => by cases h⟩ <|
  .cons tok16 ⟨(fun _ h => by cases h), (fun _ h => by cases h), fun h => by cases h⟩ <|
  .cons tok17 ⟨(fun _ h => by cases h), (fun _ h => by cases h), fun h => by cases h⟩ <|
  .cons tok18 ⟨(fun h _ => by cases h), (fun h _ => by cases h), fun h => by cases h⟩ <|
  .cons tok19 ⟨(fun h _ => by cases h), (fun h _ => by cases h), fun h => by cases h⟩ <|
  .cons tok22 ⟨(fun h _ => by cases h), (fun h _ => by cases h), fun _ => eqk22⟩ <|
  .cons tok23 ⟨(fun h _ => by cases h), (fun h _ => by cases h), fun _ => eqk23⟩ <|
  .cons tok24 ⟨(fun h _ => by cases h), (fun h _ => by cases h), fun h => by cases h⟩ <|
  .cons tok27 ⟨(fun h _ => by cases h), (fun h _ => by cases h), fun _ => eqk27⟩ <|
  .cons tok39 ⟨(fun h _ => by cases h), (fun h _ => by cases h), fun h => by cases h⟩ <|
  .cons tok44 ⟨(fun h _ => by cases h), (fun h _ => by cases h), fun h => by cases h⟩ <|
  .cons tok62 ⟨(fun _ h => by cases h), (fun _ h => by cases h), fun h => by cases h⟩ <|
  .cons tok68 ⟨(fun h _ => by cases h), (fun h _ => by cases h), fun h => by cases h⟩ <|
  .cons tok69 ⟨(fun h _ => by cases h), (fun h _ => by cases h), fun h => by cases h⟩ <|
  .cons tok74 ⟨(fun h _ => by cases h), (fun h _ => by cases h), fun h => by cases h⟩ <|
  .cons tok75 ⟨(fun h _ => by cases h), (fun h _ => by cases h), fun h => by cases h⟩ <|
  .cons tok87 ⟨(fun h _ => by cases h), (fun h _ => by cases h), fun h => by cases h⟩ <|
  .cons tok88 ⟨(fun h _ => by cases h), (fun h _ => by cases h), fun h => by cases h⟩ <|
  .cons tok89 ⟨(fun h _ => by cases h), (fun h _ => by cases h), fun h => by cases h⟩ <|
  .cons tok92 ⟨(fun _ h => by cases h), (fun _ h => by cases h), fun h => by cases h⟩ <|
  .cons tok93 ⟨(fun _ h => by cases h), (fun _ h => by cases h), fun h => by cases h⟩ <|
  .cons tok95 ⟨(fun _ h => by cases h), (fun _ h => by cases h), fun h => by cases h⟩ <|
  .nil
theorem TM : Try.prog.follows .mixedOrders = true := by kernel_rfl
end Go.Proofs.Ytimaihabaflhiaa
