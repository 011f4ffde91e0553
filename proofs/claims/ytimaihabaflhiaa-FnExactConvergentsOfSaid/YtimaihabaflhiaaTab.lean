/-
  THE TYPES of the program, as the abstract machine knows them. Own text, printed by a program of this workplace off the translation.
-/
import Derived.Test.YtimaihabaflhiaaProg
import Derived.Test.YtimaihabaflhiaaAm6
set_option linter.unusedVariables false
set_option linter.unusedSimpArgs false
namespace Go.Proofs.Ytimaihabaflhiaa
def T : List (Nat × TD) := [(2, ⟨.sc, 1, 8, [.int 0]⟩), (3, ⟨.sc, 1, 8, [.int 0]⟩), (4, ⟨.sc, 1, 1, [.bool false]⟩), (15, ⟨.sc, 1, 8, [.ptr 0 1 0 0]⟩), (16, ⟨.sc, 1, 8, [.ptr 0 1 0 0]⟩), (17, ⟨.sc, 1, 8, [.ptr 0 1 0 0]⟩), (18, ⟨.st [(0, 17)], 1, 8, [.ptr 0 1 0 0]⟩), (19, ⟨.st [(0, 17)], 1, 8, [.ptr 0 1 0 0]⟩), (22, ⟨.st [(0, 3), (1, 3)], 2, 16, [.int 0, .int 0]⟩), (23, ⟨.st [(0, 3), (1, 3)], 2, 16, [.int 0, .int 0]⟩), (24, ⟨.sl 3, 1, 24, [.sl 0 1 0 0 0]⟩), (27, ⟨.st [(0, 3), (1, 3)], 2, 16, [.int 0, .int 0]⟩), (39, ⟨.sl 27, 1, 24, [.sl 0 2 0 0 0]⟩), (44, ⟨.sl 5, 1, 24, [.sl 0 1 0 0 0]⟩), (62, ⟨.sc, 1, 8, [.ptr 0 1 0 0]⟩), (68, ⟨.st [(0, 3), (1, 3), (2, 24)], 3, 40, [.int 0, .int 0, .sl 0 1 0 0 0]⟩), (69, ⟨.st [(0, 3), (1, 3), (2, 24)], 3, 40, [.int 0, .int 0, .sl 0 1 0 0 0]⟩), (74, ⟨.st [(0, 44), (1, 3), (2, 3)], 3, 40, [.sl 0 1 0 0 0, .int 0, .int 0]⟩), (75, ⟨.st [(0, 44), (1, 3), (2, 3)], 3, 40, [.sl 0 1 0 0 0, .int 0, .int 0]⟩), (87, ⟨.ar 0 16, 0, 0, []⟩), (88, ⟨.st [(0, 87)], 0, 0, []⟩), (89, ⟨.st [(0, 87)], 0, 0, []⟩), (95, ⟨.sc, 1, 8, [.ptr 0 1 0 0]⟩)]
theorem tok2 : TOK Try.prog 2 ⟨.sc, 1, 8, [.int 0]⟩ := ⟨by kernel_rfl, by kernel_rfl, rfl, by decide, fun _ => rfl⟩
theorem tok3 : TOK Try.prog 3 ⟨.sc, 1, 8, [.int 0]⟩ := ⟨by kernel_rfl, by kernel_rfl, rfl, by decide, fun _ => rfl⟩
theorem tok4 : TOK Try.prog 4 ⟨.sc, 1, 1, [.bool false]⟩ := ⟨by kernel_rfl, by kernel_rfl, rfl, by decide, fun _ => rfl⟩
theorem tok15 : TOK Try.prog 15 ⟨.sc, 1, 8, [.ptr 0 1 0 0]⟩ := ⟨by kernel_rfl, by kernel_rfl, rfl, by decide, fun _ => rfl⟩
theorem tok16 : TOK Try.prog 16 ⟨.sc, 1, 8, [.ptr 0 1 0 0]⟩ := ⟨by kernel_rfl, by kernel_rfl, rfl, by decide, fun _ => rfl⟩
theorem tok17 : TOK Try.prog 17 ⟨.sc, 1, 8, [.ptr 0 1 0 0]⟩ := ⟨by kernel_rfl, by kernel_rfl, rfl, by decide, fun _ => rfl⟩
theorem tok18 : TOK Try.prog 18 ⟨.st [(0, 17)], 1, 8, [.ptr 0 1 0 0]⟩ := ⟨by kernel_rfl, by kernel_rfl, rfl, by decide, fun h => by cases h⟩
theorem tok19 : TOK Try.prog 19 ⟨.st [(0, 17)], 1, 8, [.ptr 0 1 0 0]⟩ := ⟨by kernel_rfl, by kernel_rfl, rfl, by decide, fun h => by cases h⟩
theorem tok22 : TOK Try.prog 22 ⟨.st [(0, 3), (1, 3)], 2, 16, [.int 0, .int 0]⟩ := ⟨by kernel_rfl, by kernel_rfl, rfl, by decide, fun h => by cases h⟩
theorem tok23 : TOK Try.prog 23 ⟨.st [(0, 3), (1, 3)], 2, 16, [.int 0, .int 0]⟩ := ⟨by kernel_rfl, by kernel_rfl, rfl, by decide, fun h => by cases h⟩
theorem tok24 : TOK Try.prog 24 ⟨.sl 3, 1, 24, [.sl 0 1 0 0 0]⟩ := ⟨by kernel_rfl, by kernel_rfl, rfl, by decide, fun _ => rfl⟩
theorem tok27 : TOK Try.prog 27 ⟨.st [(0, 3), (1, 3)], 2, 16, [.int 0, .int 0]⟩ := ⟨by kernel_rfl, by kernel_rfl, rfl, by decide, fun h => by cases h⟩
theorem tok39 : TOK Try.prog 39 ⟨.sl 27, 1, 24, [.sl 0 2 0 0 0]⟩ := ⟨by kernel_rfl, by kernel_rfl, rfl, by decide, fun _ => rfl⟩
theorem tok44 : TOK Try.prog 44 ⟨.sl 5, 1, 24, [.sl 0 1 0 0 0]⟩ := ⟨by kernel_rfl, by kernel_rfl, rfl, by decide, fun _ => rfl⟩
theorem tok62 : TOK Try.prog 62 ⟨.sc, 1, 8, [.ptr 0 1 0 0]⟩ := ⟨by kernel_rfl, by kernel_rfl, rfl, by decide, fun _ => rfl⟩
theorem tok68 : TOK Try.prog 68 ⟨.st [(0, 3), (1, 3), (2, 24)], 3, 40, [.int 0, .int 0, .sl 0 1 0 0 0]⟩ := ⟨by kernel_rfl, by kernel_rfl, rfl, by decide, fun h => by cases h⟩
theorem tok69 : TOK Try.prog 69 ⟨.st [(0, 3), (1, 3), (2, 24)], 3, 40, [.int 0, .int 0, .sl 0 1 0 0 0]⟩ := ⟨by kernel_rfl, by kernel_rfl, rfl, by decide, fun h => by cases h⟩
theorem tok74 : TOK Try.prog 74 ⟨.st [(0, 44), (1, 3), (2, 3)], 3, 40, [.sl 0 1 0 0 0, .int 0, .int 0]⟩ := ⟨by kernel_rfl, by kernel_rfl, rfl, by decide, fun h => by cases h⟩
theorem tok75 : TOK Try.prog 75 ⟨.st [(0, 44), (1, 3), (2, 3)], 3, 40, [.sl 0 1 0 0 0, .int 0, .int 0]⟩ := ⟨by kernel_rfl, by kernel_rfl, rfl, by decide, fun h => by cases h⟩
theorem tok87 : TOK Try.prog 87 ⟨.ar 0 16, 0, 0, []⟩ := ⟨by kernel_rfl, by kernel_rfl, rfl, by decide, fun h => by cases h⟩
theorem tok88 : TOK Try.prog 88 ⟨.st [(0, 87)], 0, 0, []⟩ := ⟨by kernel_rfl, by kernel_rfl, rfl, by decide, fun h => by cases h⟩
theorem tok89 : TOK Try.prog 89 ⟨.st [(0, 87)], 0, 0, []⟩ := ⟨by kernel_rfl, by kernel_rfl, rfl, by decide, fun h => by cases h⟩
theorem tok95 : TOK Try.prog 95 ⟨.sc, 1, 8, [.ptr 0 1 0 0]⟩ := ⟨by kernel_rfl, by kernel_rfl, rfl, by decide, fun _ => rfl⟩
theorem TT : Tab Try.prog T :=
  .cons tok2 (fun _ h => by cases h) <|
  .cons tok3 (fun _ h => by cases h) <|
  .cons tok4 (fun _ _ => by kernel_rfl) <|
  .cons tok15 (fun _ h => by cases h) <|
  .cons tok16 (fun _ h => by cases h) <|
  .cons tok17 (fun _ h => by cases h) <|
  .cons tok18 (fun h _ => by cases h) <|
  .cons tok19 (fun h _ => by cases h) <|
  .cons tok22 (fun h _ => by cases h) <|
  .cons tok23 (fun h _ => by cases h) <|
  .cons tok24 (fun h _ => by cases h) <|
  .cons tok27 (fun h _ => by cases h) <|
  .cons tok39 (fun h _ => by cases h) <|
  .cons tok44 (fun h _ => by cases h) <|
  .cons tok62 (fun _ h => by cases h) <|
  .cons tok68 (fun h _ => by cases h) <|
  .cons tok69 (fun h _ => by cases h) <|
  .cons tok74 (fun h _ => by cases h) <|
  .cons tok75 (fun h _ => by cases h) <|
  .cons tok87 (fun h _ => by cases h) <|
  .cons tok88 (fun h _ => by cases h) <|
  .cons tok89 (fun h _ => by cases h) <|
  .cons tok95 (fun _ h => by cases h) <|
  .nil
theorem TM : Try.prog.follows .mixedOrders = true := by kernel_rfl
end Go.Proofs.Ytimaihabaflhiaa
