/-
  THE TYPES of the program, as the abstract machine knows them. Own text, printed by a program of this workplace off the translation.
-/
import Derived.Test.YtbgeooalhoaemaaProg
import Derived.Test.YtbgeooalhoaemaaAm6
set_option linter.unusedVariables false
set_option linter.unusedSimpArgs false
namespace Go.Proofs.Ytbgeooalhoaemaa
def T : List (Nat × TD) := [(2, ⟨.sc, 1, 8, [.int 0], false⟩), (3, ⟨.sc, 1, 8, [.int 0], false⟩), (4, ⟨.sc, 1, 1, [.bool false], false⟩), (5, ⟨.sc, 1, 1, [.u8 0], false⟩), (6, ⟨.sc, 1, 1, [.u8 0], false⟩), (7, ⟨.st [(0, 2), (1, 3), (2, 4), (3, 6)], 4, 24, [.int 0, .int 0, .bool false, .u8 0], false⟩), (8, ⟨.st [(0, 2), (1, 3), (2, 4), (3, 6)], 4, 24, [.int 0, .int 0, .bool false, .u8 0], false⟩), (15, ⟨.sc, 1, 8, [.ptr 0 1 0 0], false⟩), (16, ⟨.sc, 1, 8, [.ptr 0 1 0 0], false⟩), (17, ⟨.sc, 1, 8, [.ptr 0 1 0 0], false⟩), (18, ⟨.st [(0, 17)], 1, 8, [.ptr 0 1 0 0], false⟩), (19, ⟨.st [(0, 17)], 1, 8, [.ptr 0 1 0 0], false⟩), (22, ⟨.sl 3, 1, 24, [.sl 0 1 0 0 0], false⟩), (23, ⟨.st [(0, 3), (1, 3), (2, 22)], 3, 40, [.int 0, .int 0, .sl 0 1 0 0 0], false⟩), (24, ⟨.st [(0, 3), (1, 3), (2, 22)], 3, 40, [.int 0, .int 0, .sl 0 1 0 0 0], false⟩), (27, ⟨.st [(0, 3), (1, 3), (2, 22)], 3, 40, [.int 0, .int 0, .sl 0 1 0 0 0], false⟩), (31, ⟨.sl 71, 1, 24, [.sl 0 2 0 0 0], false⟩), (34, ⟨.sl 68, 1, 24, [.sl 0 2 0 0 0], false⟩), (51, ⟨.sl 22, 1, 24, [.sl 0 1 0 0 0], false⟩), (60, ⟨.sl 5, 1, 24, [.sl 0 1 0 0 0], false⟩), (67, ⟨.st [(0, 3), (1, 3)], 2, 16, [.int 0, .int 0], true⟩), (68, ⟨.st [(0, 3), (1, 3)], 2, 16, [.int 0, .int 0], true⟩), (71, ⟨.st [(0, 3), (1, 3)], 2, 16, [.int 0, .int 0], true⟩), (85, ⟨.sc, 1, 8, [.ptr 0 1 0 0], false⟩), (97, ⟨.st [(0, 60), (1, 3), (2, 3)], 3, 40, [.sl 0 1 0 0 0, .int 0, .int 0], false⟩), (98, ⟨.st [(0, 60), (1, 3), (2, 3)], 3, 40, [.sl 0 1 0 0 0, .int 0, .int 0], false⟩), (101, ⟨.sl 34, 1, 24, [.sl 0 1 0 0 0], false⟩), (109, ⟨.st [(0, 3), (1, 3), (2, 3), (3, 3)], 4, 32, [.int 0, .int 0, .int 0, .int 0], false⟩), (110, ⟨.st [(0, 3), (1, 3), (2, 3), (3, 3)], 4, 32, [.int 0, .int 0, .int 0, .int 0], false⟩), (116, ⟨.ar 0 16, 0, 0, [], false⟩), (117, ⟨.st [(0, 116)], 0, 0, [], false⟩), (118, ⟨.st [(0, 116)], 0, 0, [], false⟩), (121, ⟨.sc, 1, 1, [.u8 0], false⟩), (122, ⟨.sc, 1, 1, [.u8 0], false⟩), (124, ⟨.sc, 1, 8, [.ptr 0 1 0 0], false⟩)]
theorem tok2 : TOK Try.prog 2 ⟨.sc, 1, 8, [.int 0], false⟩ := ⟨by kernel_rfl, by kernel_rfl, rfl, by decide, fun _ => rfl⟩
theorem tok3 : TOK Try.prog 3 ⟨.sc, 1, 8, [.int 0], false⟩ := ⟨by kernel_rfl, by kernel_rfl, rfl, by decide, fun _ => rfl⟩
theorem tok4 : TOK Try.prog 4 ⟨.sc, 1, 1, [.bool false], false⟩ := ⟨by kernel_rfl, by kernel_rfl, rfl, by decide, fun _ => rfl⟩
theorem tok5 : TOK Try.prog 5 ⟨.sc, 1, 1, [.u8 0], false⟩ := ⟨by kernel_rfl, by kernel_rfl, rfl, by decide, fun _ => rfl⟩
theorem tok6 : TOK Try.prog 6 ⟨.sc, 1, 1, [.u8 0], false⟩ := ⟨by kernel_rfl, by kernel_rfl, rfl, by decide, fun _ => rfl⟩
theorem tok7 : TOK Try.prog 7 ⟨.st [(0, 2), (1, 3), (2, 4), (3, 6)], 4, 24, [.int 0, .int 0, .bool false, .u8 0], false⟩ := ⟨by kernel_rfl, by kernel_rfl, rfl, by decide, fun h => by cases h⟩
theorem tok8 : TOK Try.prog 8 ⟨.st [(0, 2), (1, 3), (2, 4), (3, 6)], 4, 24, [.int 0, .int 0, .bool false, .u8 0], false⟩ := ⟨by kernel_rfl, by kernel_rfl, rfl, by decide, fun h => by cases h⟩
theorem tok15 : TOK Try.prog 15 ⟨.sc, 1, 8, [.ptr 0 1 0 0], false⟩ := ⟨by kernel_rfl, by kernel_rfl, rfl, by decide, fun _ => rfl⟩
theorem tok16 : TOK Try.prog 16 ⟨.sc, 1, 8, [.ptr 0 1 0 0], false⟩ := ⟨by kernel_rfl, by kernel_rfl, rfl, by decide, fun _ => rfl⟩
theorem tok17 : TOK Try.prog 17 ⟨.sc, 1, 8, [.ptr 0 1 0 0], false⟩ := ⟨by kernel_rfl, by kernel_rfl, rfl, by decide, fun _ => rfl⟩
theorem tok18 : TOK Try.prog 18 ⟨.st [(0, 17)], 1, 8, [.ptr 0 1 0 0], false⟩ := ⟨by kernel_rfl, by kernel_rfl, rfl, by decide, fun h => by cases h⟩
theorem tok19 : TOK Try.prog 19 ⟨.st [(0, 17)], 1, 8, [.ptr 0 1 0 0], false⟩ := ⟨by kernel_rfl, by kernel_rfl, rfl, by decide, fun h => by cases h⟩
theorem tok22 : TOK Try.prog 22 ⟨.sl 3, 1, 24, [.sl 0 1 0 0 0], false⟩ := ⟨by kernel_rfl, by kernel_rfl, rfl, by decide, fun _ => rfl⟩
theorem tok23 : TOK Try.prog 23 ⟨.st [(0, 3), (1, 3), (2, 22)], 3, 40, [.int 0, .int 0, .sl 0 1 0 0 0], false⟩ := ⟨by kernel_rfl, by kernel_rfl, rfl, by decide, fun h => by cases h⟩
theorem tok24 : TOK Try.prog 24 ⟨.st [(0, 3), (1, 3), (2, 22)], 3, 40, [.int 0, .int 0, .sl 0 1 0 0 0], false⟩ := ⟨by kernel_rfl, by kernel_rfl, rfl, by decide, fun h => by cases h⟩
theorem tok27 : TOK Try.prog 27 ⟨.st [(0, 3), (1, 3), (2, 22)], 3, 40, [.int 0, .int 0, .sl 0 1 0 0 0], false⟩ := ⟨by kernel_rfl, by kernel_rfl, rfl, by decide, fun h => by cases h⟩
theorem tok31 : TOK Try.prog 31 ⟨.sl 71, 1, 24, [.sl 0 2 0 0 0], false⟩ := ⟨by kernel_rfl, by kernel_rfl, rfl, by decide, fun _ => rfl⟩
theorem tok34 : TOK Try.prog 34 ⟨.sl 68, 1, 24, [.sl 0 2 0 0 0], false⟩ := ⟨by kernel_rfl, by kernel_rfl, rfl, by decide, fun _ => rfl⟩
theorem tok51 : TOK Try.prog 51 ⟨.sl 22, 1, 24, [.sl 0 1 0 0 0], false⟩ := ⟨by kernel_rfl, by kernel_rfl, rfl, by decide, fun _ => rfl⟩
theorem tok60 : TOK Try.prog 60 ⟨.sl 5, 1, 24, [.sl 0 1 0 0 0], false⟩ := ⟨by kernel_rfl, by kernel_rfl, rfl, by decide, fun _ => rfl⟩
theorem tok67 : TOK Try.prog 67 ⟨.st [(0, 3), (1, 3)], 2, 16, [.int 0, .int 0], true⟩ := ⟨by kernel_rfl, by kernel_rfl, rfl, by decide, fun h => by cases h⟩
theorem eqk67 : EqOK Try.prog 67 2 := .two Try.underlying67 (by kernel_rfl) (by kernel_rfl) ⟨by decide, rfl, by kernel_rfl⟩ ⟨by decide, rfl, by kernel_rfl⟩
theorem tok68 : TOK Try.prog 68 ⟨.st [(0, 3), (1, 3)], 2, 16, [.int 0, .int 0], true⟩ := ⟨by kernel_rfl, by kernel_rfl, rfl, by decide, fun h => by cases h⟩
theorem eqk68 : EqOK Try.prog 68 2 := .two Try.underlying68 (by kernel_rfl) (by kernel_rfl) ⟨by decide, rfl, by kernel_rfl⟩ ⟨by decide, rfl, by kernel_rfl⟩
theorem tok71 : TOK Try.prog 71 ⟨.st [(0, 3), (1, 3)], 2, 16, [.int 0, .int 0], true⟩ := ⟨by kernel_rfl, by kernel_rfl, rfl, by decide, fun h => by cases h⟩
theorem eqk71 : EqOK Try.prog 71 2 := .two Try.underlying71 (by kernel_rfl) (by kernel_rfl) ⟨by decide, rfl, by kernel_rfl⟩ ⟨by decide, rfl, by kernel_rfl⟩
theorem tok85 : TOK Try.prog 85 ⟨.sc, 1, 8, [.ptr 0 1 0 0], false⟩ := ⟨by kernel_rfl, by kernel_rfl, rfl, by decide, fun _ => rfl⟩
theorem tok97 : TOK Try.prog 97 ⟨.st [(0, 60), (1, 3), (2, 3)], 3, 40, [.sl 0 1 0 0 0, .int 0, .int 0], false⟩ := ⟨by kernel_rfl, by kernel_rfl, rfl, by decide, fun h => by cases h⟩
theorem tok98 : TOK Try.prog 98 ⟨.st [(0, 60), (1, 3), (2, 3)], 3, 40, [.sl 0 1 0 0 0, .int 0, .int 0], false⟩ := ⟨by kernel_rfl, by kernel_rfl, rfl, by decide, fun h => by cases h⟩
theorem tok101 : TOK Try.prog 101 ⟨.sl 34, 1, 24, [.sl 0 1 0 0 0], false⟩ := ⟨by kernel_rfl, by kernel_rfl, rfl, by decide, fun _ => rfl⟩
theorem tok109 : TOK Try.prog 109 ⟨.st [(0, 3), (1, 3), (2, 3), (3, 3)], 4, 32, [.int 0, .int 0, .int 0, .int 0], false⟩ := ⟨by kernel_rfl, by kernel_rfl, rfl, by decide, fun h => by cases h⟩
theorem tok110 : TOK Try.prog 110 ⟨.st [(0, 3), (1, 3), (2, 3), (3, 3)], 4, 32, [.int 0, .int 0, .int 0, .int 0], false⟩ := ⟨by kernel_rfl, by kernel_rfl, rfl, by decide, fun h => by cases h⟩
theorem tok116 : TOK Try.prog 116 ⟨.ar 0 16, 0, 0, [], false⟩ := ⟨by kernel_rfl, by kernel_rfl, rfl, by decide, fun h => by cases h⟩
theorem tok117 : TOK Try.prog 117 ⟨.st [(0, 116)], 0, 0, [], false⟩ := ⟨by kernel_rfl, by kernel_rfl, rfl, by decide, fun h => by cases h⟩
theorem tok118 : TOK Try.prog 118 ⟨.st [(0, 116)], 0, 0, [], false⟩ := ⟨by kernel_rfl, by kernel_rfl, rfl, by decide, fun h => by cases h⟩
theorem tok121 : TOK Try.prog 121 ⟨.sc, 1, 1, [.u8 0], false⟩ := ⟨by kernel_rfl, by kernel_rfl, rfl, by decide, fun _ => rfl⟩
theorem tok122 : TOK Try.prog 122 ⟨.sc, 1, 1, [.u8 0], false⟩ := ⟨by kernel_rfl, by kernel_rfl, rfl, by decide, fun _ => rfl⟩
theorem tok124 : TOK Try.prog 124 ⟨.sc, 1, 8, [.ptr 0 1 0 0], false⟩ := ⟨by kernel_rfl, by kernel_rfl, rfl, by decide, fun _ => rfl⟩
theorem TT : Tab Try.prog T :=
  .cons tok2 ⟨(fun _ h => by cases h), (fun _ _ => by kernel_rfl), fun h => by cases h⟩ <|
  .cons tok3 ⟨(fun _ h => by cases h), (fun _ _ => by kernel_rfl), fun h => by cases h⟩ <|
  .cons tok4 ⟨(fun _ _ => by kernel_rfl), (fun _ h => by cases h), fun h => by cases h⟩ <|
  .cons tok5 ⟨(fun _ h => by cases h), (fun _ h => by cases h), fun h => by cases h⟩ <|
  .cons tok6 ⟨(fun _ h => by cases h), (fun _ h => by cases h), fun h => by cases h⟩ <|
  .cons tok7 ⟨(fun h _ => by cases h), (fun h _ => by cases h), fun h => by cases h⟩ <|
  .cons tok8 ⟨(fun h _ => by cases h), (fun h _ => by cases h), fun h => by cases h⟩ <|
  .cons tok15 ⟨(fun _ h => by cases h), (fun _ h => by cases h), fun h => by cases h⟩ <|
  .cons tok16 ⟨(fun _ h => by cases h), (fun _ h => by cases h), fun h => by cases h⟩ <|
  .cons tok17 ⟨(fun _ h => by cases h), (fun _ h => by cases h), fun h => by cases h⟩ <|
  .cons tok18 ⟨(fun h _ => by cases h), (fun h _ => by cases h), fun h => by cases h⟩ <|
  .cons tok19 ⟨(fun h _ => by cases h), (fun h _ => by cases h), fun h => by cases h⟩ <|
  .cons tok22 ⟨(fun h _ => by cases h), (fun h _ => by cases h), fun h => by cases h⟩ <|
  .cons tok23 ⟨(fun h _ => by cases h), (fun h _ => by cases h), fun h => by cases h⟩ <|
  .cons tok24 ⟨(fun h _ => by cases h), (fun h _ => by cases h), fun h => by cases h⟩ <|
  .cons tok27 ⟨(fun h _ => by cases h), (fun h _ => by cases h), fun h => by cases h⟩ <|
  .cons tok31 ⟨(fun h _ => by cases h), (fun h _ => by cases h), fun h => by cases h⟩ <|
  .cons tok34 ⟨(fun h _ => by cases h), (fun h _ => by cases h), fun h => by cases h⟩ <|
  .cons tok51 ⟨(fun h _ => by cases h), (fun h _ => by cases h), fun h => by cases h⟩ <|
  .cons tok60 ⟨(fun h _ => by cases h), (fun h _ => by cases h), fun h => by cases h⟩ <|
  .cons tok67 ⟨(fun h _ => by cases h), (fun h _ => by cases h), fun _ => eqk67⟩ <|
  .cons tok68 ⟨(fun h _ => by cases h), (fun h _ => by cases h), fun _ => eqk68⟩ <|
  .cons tok71 ⟨(fun h _ => by cases h), (fun h _ => by cases h), fun _ => eqk71⟩ <|
  .cons tok85 ⟨(fun _ h => by cases h), (fun _ h => by cases h), fun h => by cases h⟩ <|
  .cons tok97 ⟨(fun h _ => by cases h), (fun h _ => by cases h), fun h => by cases h⟩ <|
  .cons tok98 ⟨(fun h _ => by cases h), (fun h _ => by cases h), fun h => by cases h⟩ <|
  .cons tok101 ⟨(fun h _ => by cases h), (fun h _ => by cases h), fun h => by cases h⟩ <|
  .cons tok109 ⟨(fun h _ => by cases h), (fun h _ => by cases h), fun h => by cases h⟩ <|
  .cons tok110 ⟨(fun h _ => by cases h), (fun h _ => by cases h), fun h => by cases h⟩ <|
  .cons tok116 ⟨(fun h _ => by cases h), (fun h _ => by cases h), fun h => by cases h⟩ <|
  .cons tok117 ⟨(fun h _ => by cases h), (fun h _ => by cases h), fun h => by cases h⟩ <|
  .cons tok118 ⟨(fun h _ => by cases h), (fun h _ => by cases h), fun h => by cases h⟩ <|
  .cons tok121 ⟨(fun _ h => by cases h), (fun _ h => by cases h), fun h => by cases h⟩ <|
  .cons tok122 ⟨(fun _ h => by cases h), (fun _ h => by cases h), fun h => by cases h⟩ <|
  .cons tok124 ⟨(fun _ h => by cases h), (fun _ h => by cases h), fun h => by cases h⟩ <|
  .nil
theorem TM : Try.prog.follows .mixedOrders = true := by kernel_rfl
end Go.Proofs.Ytbgeooalhoaemaa
