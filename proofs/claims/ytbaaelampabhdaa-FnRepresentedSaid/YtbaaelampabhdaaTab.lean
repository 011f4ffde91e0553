/-
  THE TYPES of the program, as the abstract machine knows them. Own text, printed by a program of this workplace off the translation.
-/
import Derived.Test.YtbaaelampabhdaaProg
import Derived.Test.YtbaaelampabhdaaAm6
set_option linter.unusedVariables false
set_option linter.unusedSimpArgs false
namespace Go.Proofs.Ytbaaelampabhdaa
def T : List (Nat × TD) := [(2, ⟨.sc, 1, 8, [.int 0], false⟩), (3, ⟨.sc, 1, 8, [.int 0], false⟩), (4, ⟨.sc, 1, 1, [.bool false], false⟩), (5, ⟨.sc, 1, 1, [.u8 0], false⟩), (6, ⟨.sc, 1, 1, [.u8 0], false⟩), (7, ⟨.st [(0, 2), (1, 3), (2, 4), (3, 6)], 4, 24, [.int 0, .int 0, .bool false, .u8 0], false⟩), (8, ⟨.st [(0, 2), (1, 3), (2, 4), (3, 6)], 4, 24, [.int 0, .int 0, .bool false, .u8 0], false⟩), (15, ⟨.sc, 1, 8, [.ptr 0 1 0 0], false⟩), (16, ⟨.sc, 1, 8, [.ptr 0 1 0 0], false⟩), (17, ⟨.sc, 1, 8, [.ptr 0 1 0 0], false⟩), (18, ⟨.st [(0, 17)], 1, 8, [.ptr 0 1 0 0], false⟩), (19, ⟨.st [(0, 17)], 1, 8, [.ptr 0 1 0 0], false⟩), (22, ⟨.st [(0, 3), (1, 3), (2, 3)], 3, 24, [.int 0, .int 0, .int 0], true⟩), (23, ⟨.st [(0, 3), (1, 3), (2, 3)], 3, 24, [.int 0, .int 0, .int 0], true⟩), (26, ⟨.st [(0, 3), (1, 3), (2, 3)], 3, 24, [.int 0, .int 0, .int 0], true⟩), (35, ⟨.sl 26, 1, 24, [.sl 0 3 0 0 0], false⟩), (39, ⟨.sl 3, 1, 24, [.sl 0 1 0 0 0], false⟩), (40, ⟨.st [(0, 3), (1, 3), (2, 39)], 3, 40, [.int 0, .int 0, .sl 0 1 0 0 0], false⟩), (41, ⟨.st [(0, 3), (1, 3), (2, 39)], 3, 40, [.int 0, .int 0, .sl 0 1 0 0 0], false⟩), (44, ⟨.st [(0, 3), (1, 3), (2, 39)], 3, 40, [.int 0, .int 0, .sl 0 1 0 0 0], false⟩), (52, ⟨.sl 5, 1, 24, [.sl 0 1 0 0 0], false⟩), (75, ⟨.ar 4 3, 4, 32, [.int 0, .int 0, .int 0, .int 0], false⟩), (80, ⟨.sc, 1, 8, [.ptr 0 1 0 0], false⟩), (89, ⟨.st [(0, 3), (1, 3)], 2, 16, [.int 0, .int 0], true⟩), (90, ⟨.st [(0, 3), (1, 3)], 2, 16, [.int 0, .int 0], true⟩), (93, ⟨.st [(0, 52), (1, 3), (2, 3)], 3, 40, [.sl 0 1 0 0 0, .int 0, .int 0], false⟩), (94, ⟨.st [(0, 52), (1, 3), (2, 3)], 3, 40, [.sl 0 1 0 0 0, .int 0, .int 0], false⟩), (106, ⟨.st [(0, 3), (1, 3), (2, 3), (3, 3)], 4, 32, [.int 0, .int 0, .int 0, .int 0], false⟩), (107, ⟨.st [(0, 3), (1, 3), (2, 3), (3, 3)], 4, 32, [.int 0, .int 0, .int 0, .int 0], false⟩), (109, ⟨.ar 3 3, 3, 24, [.int 0, .int 0, .int 0], false⟩), (114, ⟨.ar 0 16, 0, 0, [], false⟩), (115, ⟨.st [(0, 114)], 0, 0, [], false⟩), (116, ⟨.st [(0, 114)], 0, 0, [], false⟩), (119, ⟨.sc, 1, 1, [.u8 0], false⟩), (120, ⟨.sc, 1, 1, [.u8 0], false⟩), (122, ⟨.sc, 1, 8, [.ptr 0 1 0 0], false⟩)]
theorem tok2 : TOK Try.prog 2 ⟨.sc, 1, 8, [.int 0], false⟩ := ⟨by kernel_rfl, by kernel_rfl, rfl, by decide, fun _ => rfl⟩
theorem tok3 : TOK Try.prog 3 ⟨.sc, 1, 8, [.int 0], false⟩ := ⟨by kernel_rfl, by kernel_rfl, rfl, by decide, fun _ => rfl⟩
theorem tok4 : TOK Try.prog 4 ⟨.sc, 1, 1, [.bool false], false⟩ := ⟨by kernel_rfl, by kernel_rfl, rfl, by decide, fun _ => rfl⟩
theorem tok5 : TOK Try.prog 5 ⟨.sc, 1, 1, [.u8 0], false⟩ := ⟨by kernel_rfl, by kernel_rfl, rfl, by decide, fun _ => rfl⟩
theorem tok6 : TOK Try.prog 6 ⟨.sc, 1, 1, [.u8 0], false⟩ := ⟨by kernel_rfl, by kernel_rfl, rfl, by decide, fun _ => rfl⟩
theorem tok7 : TOK Try.prog 7 ⟨.st [(0, 2), (1, 3), (2, 4), (3, 6)], 4, 24, [.int 0, .int 0, .bool false, .u8 0], false⟩ := ⟨by kernel_rfl, by kernel_rfl, rfl, by decide, fun h => by cases h⟩
theorem tok8 : TOK Try.prog 8 ⟨.st [(0, 2), (1, 3), (2, 4), (3, 6)], 4, 24, [.int 0, .int 0, .bool false, .u8 0], false⟩ := ⟨by kernel_rfl, by kernel_rfl, rfl, by decide, fun h => by cases h⟩
theorem tok15 : TOK Try.prog 15 ⟨.sc, 1, 8, [.ptr 0 1 0 0], false⟩ := ⟨by kernel_rfl, by kernel_rfl, rfl, by decide, fun _ => rfl⟩
theorem tok16 : TOK Try.prog 16 ⟨.sc, 1, 8, [.ptr 0 1 0 0], false⟩ := ⟨by kernel_rfl, by kernel_rfl, rfl, by decide, fun _ => rfl⟩
theorem tok17 : TOK Try.prog 17 ⟨.sc, 1, 8, [.ptr 0 1 0 0], false⟩ := ⟨by kernel_rfl, by kernel_rfl, rfl, by decide, fun _ => rfl⟩
theorem tok18 : TOK Try.prog 18 ⟨.st [(0, 17)], 1, 8, [.ptr 0 1 0 0], false⟩ := ⟨by kernel_rfl, by kernel_rfl, rfl, by decide, fun h => by cases h⟩
theorem tok19 : TOK Try.prog 19 ⟨.st [(0, 17)], 1, 8, [.ptr 0 1 0 0], false⟩ := ⟨by kernel_rfl, by kernel_rfl, rfl, by decide, fun h => by cases h⟩
theorem tok22 : TOK Try.prog 22 ⟨.st [(0, 3), (1, 3), (2, 3)], 3, 24, [.int 0, .int 0, .int 0], true⟩ := ⟨by kernel_rfl, by kernel_rfl, rfl, by decide, fun h => by cases h⟩
theorem eqk22 : EqOK Try.prog 22 3 := .three Try.underlying22 (by kernel_rfl) (by kernel_rfl) ⟨by decide, rfl, by kernel_rfl⟩ ⟨by decide, rfl, by kernel_rfl⟩ ⟨by decide, rfl, by kernel_rfl⟩
theorem tok23 : TOK Try.prog 23 ⟨.st [(0, 3), (1, 3), (2, 3)], 3, 24, [.int 0, .int 0, .int 0], true⟩ := ⟨by kernel_rfl, by kernel_rfl, rfl, by decide, fun h => by cases h⟩
theorem eqk23 : EqOK Try.prog 23 3 := .three Try.underlying23 (by kernel_rfl) (by kernel_rfl) ⟨by decide, rfl, by kernel_rfl⟩ ⟨by decide, rfl, by kernel_rfl⟩ ⟨by decide, rfl, by kernel_rfl⟩
theorem tok26 : TOK Try.prog 26 ⟨.st [(0, 3), (1, 3), (2, 3)], 3, 24, [.int 0, .int 0, .int 0], true⟩ := ⟨by kernel_rfl, by kernel_rfl, rfl, by decide, fun h => by cases h⟩
theorem eqk26 : EqOK Try.prog 26 3 := .three Try.underlying26 (by kernel_rfl) (by kernel_rfl) ⟨by decide, rfl, by kernel_rfl⟩ ⟨by decide, rfl, by kernel_rfl⟩ ⟨by decide, rfl, by kernel_rfl⟩
theorem tok35 : TOK Try.prog 35 ⟨.sl 26, 1, 24, [.sl 0 3 0 0 0], false⟩ := ⟨by kernel_rfl, by kernel_rfl, rfl, by decide, fun _ => rfl⟩
theorem tok39 : TOK Try.prog 39 ⟨.sl 3, 1, 24, [.sl 0 1 0 0 0], false⟩ := ⟨by kernel_rfl, by kernel_rfl, rfl, by decide, fun _ => rfl⟩
theorem tok40 : TOK Try.prog 40 ⟨.st [(0, 3), (1, 3), (2, 39)], 3, 40, [.int 0, .int 0, .sl 0 1 0 0 0], false⟩ := ⟨by kernel_rfl, by kernel_rfl, rfl, by decide, fun h => by cases h⟩
theorem tok41 : TOK Try.prog 41 ⟨.st [(0, 3), (1, 3), (2, 39)], 3, 40, [.int 0, .int 0, .sl 0 1 0 0 0], false⟩ := ⟨by kernel_rfl, by kernel_rfl, rfl, by decide, fun h => by cases h⟩
theorem tok44 : TOK Try.prog 44 ⟨.st [(0, 3), (1, 3), (2, 39)], 3, 40, [.int 0, .int 0, .sl 0 1 0 0 0], false⟩ := ⟨by kernel_rfl, by kernel_rfl, rfl, by decide, fun h => by cases h⟩
theorem tok52 : TOK Try.prog 52 ⟨.sl 5, 1, 24, [.sl 0 1 0 0 0], false⟩ := ⟨by kernel_rfl, by kernel_rfl, rfl, by decide, fun _ => rfl⟩
theorem tok75 : TOK Try.prog 75 ⟨.ar 4 3, 4, 32, [.int 0, .int 0, .int 0, .int 0], false⟩ := ⟨by kernel_rfl, by kernel_rfl, rfl, by decide, fun h => by cases h⟩
theorem tok80 : TOK Try.prog 80 ⟨.sc, 1, 8, [.ptr 0 1 0 0], false⟩ := ⟨by kernel_rfl, by kernel_rfl, rfl, by decide, fun _ => rfl⟩
theorem tok89 : TOK Try.prog 89 ⟨.st [(0, 3), (1, 3)], 2, 16, [.int 0, .int 0], true⟩ := ⟨by kernel_rfl, by kernel_rfl, rfl, by decide, fun h => by cases h⟩
theorem eqk89 : EqOK Try.prog 89 2 := .two Try.underlying89 (by kernel_rfl) (by kernel_rfl) ⟨by decide, rfl, by kernel_rfl⟩ ⟨by decide, rfl, by kernel_rfl⟩
theorem tok90 : TOK Try.prog 90 ⟨.st [(0, 3), (1, 3)], 2, 16, [.int 0, .int 0], true⟩ := ⟨by kernel_rfl, by kernel_rfl, rfl, by decide, fun h => by cases h⟩
theorem eqk90 : EqOK Try.prog 90 2 := .two Try.underlying90 (by kernel_rfl) (by kernel_rfl) ⟨by decide, rfl, by kernel_rfl⟩ ⟨by decide, rfl, by kernel_rfl⟩
theorem tok93 : TOK Try.prog 93 ⟨.st [(0, 52), (1, 3), (2, 3)], 3, 40, [.sl 0 1 0 0 0, .int 0, .int 0], false⟩ := ⟨by kernel_rfl, by kernel_rfl, rfl, by decide, fun h => by cases h⟩
theorem tok94 : TOK Try.prog 94 ⟨.st [(0, 52), (1, 3), (2, 3)], 3, 40, [.sl 0 1 0 0 0, .int 0, .int 0], false⟩ := ⟨by kernel_rfl, by kernel_rfl, rfl, by decide, fun h => by cases h⟩
theorem tok106 : TOK Try.prog 106 ⟨.st [(0, 3), (1, 3), (2, 3), (3, 3)], 4, 32, [.int 0, .int 0, .int 0, .int 0], false⟩ := ⟨by kernel_rfl, by kernel_rfl, rfl, by decide, fun h => by cases h⟩
theorem tok107 : TOK Try.prog 107 ⟨.st [(0, 3), (1, 3), (2, 3), (3, 3)], 4, 32, [.int 0, .int 0, .int 0, .int 0], false⟩ := ⟨by kernel_rfl, by kernel_rfl, rfl, by decide, fun h => by cases h⟩
theorem tok109 : TOK Try.prog 109 ⟨.ar 3 3, 3, 24, [.int 0, .int 0, .int 0], false⟩ := ⟨by kernel_rfl, by kernel_rfl, rfl, by decide, fun h => by cases h⟩
theorem tok114 : TOK Try.prog 114 ⟨.ar 0 16, 0, 0, [], false⟩ := ⟨by kernel_rfl, by kernel_rfl, rfl, by decide, fun h => by cases h⟩
theorem tok115 : TOK Try.prog 115 ⟨.st [(0, 114)], 0, 0, [], false⟩ := ⟨by kernel_rfl, by kernel_rfl, rfl, by decide, fun h => by cases h⟩
theorem tok116 : TOK Try.prog 116 ⟨.st [(0, 114)], 0, 0, [], false⟩ := ⟨by kernel_rfl, by kernel_rfl, rfl, by decide, fun h => by cases h⟩
theorem tok119 : TOK Try.prog 119 ⟨.sc, 1, 1, [.u8 0], false⟩ := ⟨by kernel_rfl, by kernel_rfl, rfl, by decide, fun _ => rfl⟩
theorem tok120 : TOK Try.prog 120 ⟨.sc, 1, 1, [.u8 0], false⟩ := ⟨by kernel_rfl, by kernel_rfl, rfl, by decide, fun _ => rfl⟩
theorem tok122 : TOK Try.prog 122 ⟨.sc, 1, 8, [.ptr 0 1 0 0], false⟩ := ⟨by kernel_rfl, by kernel_rfl, rfl, by decide, fun _ => rfl⟩
theorem TT : Tab Try.prog T :=
  .cons tok2 ⟨(fun _ h => by cases h), (fun _ _ => by kernel_rfl), fun h => by cases h⟩ <|
  .cons tok3 ⟨(fun _ h => by cases h), (fun _ _ => by kernel_rfl), fun h => by cases h⟩ <|
  .cons tok4 ⟨(fun _ _ => by kernel_rfl), (fun _ h => by cases h), fun h => by cases h⟩ <|
  .cons tok5 ⟨(fun _ h => by cases h), (fun _ h => by cases h), fun h => by cases h⟩ <|
  .cons tok6 ⟨(fun _ h => by cases h), (fun _ h => by cases h), fun h => by cases h⟩ <|
  .cons tok7 ⟨(fun h _ => by cases h), (fun h _ => by cases h), fun h => by cases h⟩ <|
  .cons tok8 ⟨(fun h _ => by cases h), (fun h _ => by cases h), fun h => by cases h⟩ <|
  .cons tok15 ⟨(fun _ h => by cases h), (fun _ h => by cases h), fun h => by cases h⟩ <|
  .cons tok16 ⟨(fun _ h => by cases h), (fun _ h => by cases h), fun h => by cases h⟩ <|
  .cons tok17 ⟨(fun _ h => by cases h), (fun _ h => by cases h), fun h => by cases h⟩ <|
  .cons tok18 ⟨(fun h _ => by cases h), (fun h _ => by cases h), fun h => by cases h⟩ <|
  .cons tok19 ⟨(fun h _ => by cases h), (fun h _ => by cases h), fun h => by cases h⟩ <|
  .cons tok22 ⟨(fun h _ => by cases h), (fun h _ => by cases h), fun _ => eqk22⟩ <|
  .cons tok23 ⟨(fun h _ => by cases h), (fun h _ => by cases h), fun _ => eqk23⟩ <|
  .cons tok26 ⟨(fun h _ => by cases h), (fun h _ => by cases h), fun _ => eqk26⟩ <|
  .cons tok35 ⟨(fun h _ => by cases h), (fun h _ => by cases h), fun h => by cases h⟩ <|
  .cons tok39 ⟨(fun h _ => by cases h), (fun h _ => by cases h), fun h => by cases h⟩ <|
  .cons tok40 ⟨(fun h _ => by cases h), (fun h _ => by cases h), fun h => by cases h⟩ <|
  .cons tok41 ⟨(fun h _ => by cases h), (fun h _ => by cases h), fun h => by cases h⟩ <|
  .cons tok44 ⟨(fun h _ => by cases h), (fun h _ => by cases h), fun h => by cases h⟩ <|
  .cons tok52 ⟨(fun h _ => by cases h), (fun h _ => by cases h), fun h => by cases h⟩ <|
  .cons tok75 ⟨(fun h _ => by cases h), (fun h _ => by cases h), fun h => by cases h⟩ <|
  .cons tok80 ⟨(fun _ h => by cases h), (fun _ h => by cases h), fun h => by cases h⟩ <|
  .cons tok89 ⟨(fun h _ => by cases h), (fun h _ => by cases h), fun _ => eqk89⟩ <|
  .cons tok90 ⟨(fun h _ => by cases h), (fun h _ => by cases h), fun _ => eqk90⟩ <|
  .cons tok93 ⟨(fun h _ => by cases h), (fun h _ => by cases h), fun h => by cases h⟩ <|
  .cons tok94 ⟨(fun h _ => by cases h), (fun h _ => by cases h), fun h => by cases h⟩ <|
  .cons tok106 ⟨(fun h _ => by cases h), (fun h _ => by cases h), fun h => by cases h⟩ <|
  .cons tok107 ⟨(fun h _ => by cases h), (fun h _ => by cases h), fun h => by cases h⟩ <|
  .cons tok109 ⟨(fun h _ => by cases h), (fun h _ => by cases h), fun h => by cases h⟩ <|
  .cons tok114 ⟨(fun h _ => by cases h), (fun h _ => by cases h), fun h => by cases h⟩ <|
  .cons tok115 ⟨(fun h _ => by cases h), (fun h _ => by cases h), fun h => by cases h⟩ <|
  .cons tok116 ⟨(fun h _ => by cases h), (fun h _ => by cases h), fun h => by cases h⟩ <|
  .cons tok119 ⟨(fun _ h => by cases h), (fun _ h => by cases h), fun h => by cases h⟩ <|
  .cons tok120 ⟨(fun _ h => by cases h), (fun _ h => by cases h), fun h => by cases h⟩ <|
  .cons tok122 ⟨(fun _ h => by cases h), (fun _ h => by cases h), fun h => by cases h⟩ <|
  .nil
theorem TM : Try.prog.follows .mixedOrders = true := by kernel_rfl
end Go.Proofs.Ytbaaelampabhdaa
