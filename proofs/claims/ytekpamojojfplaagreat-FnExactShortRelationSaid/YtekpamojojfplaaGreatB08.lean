/-
  TEXTS OF THE PROOF, put together: Tab, Stp, Base, Num, bNum.
-/
import Derived.Test.YtekpamojojfplaaGreatProg
import Derived.Test.YtekpamojojfplaaGreatB06
import Derived.WalkKit
import Derived.WalkSpells
import Derived.WalkLawsBesides
import Derived.Handy
import Derived.Deep.QuietTactic
import Derived.BigQuiet
import Derived.Deep.RegionHeld3
import Derived.Lib.Hide
set_option linter.unusedVariables false
set_option linter.unusedSimpArgs false
namespace Go.Proofs.YtekpamojojfplaaGreat
def T : List (Nat × TD) := [(2, ⟨.sc, 1, 8, [.int 0], false⟩), (3, ⟨.sc, 1, 8, [.int 0], false⟩), (4, ⟨.sc, 1, 1, [.bool false], false⟩), (5, ⟨.sc, 1, 1, [.u8 0], false⟩), (6, ⟨.sc, 1, 1, [.u8 0], false⟩), (7, ⟨.st [(0, 2), (1, 3), (2, 4), (3, 6)], 4, 24, [.int 0, .int 0, .bool false, .u8 0], false⟩), (8, ⟨.st [(0, 2), (1, 3), (2, 4), (3, 6)], 4, 24, [.int 0, .int 0, .bool false, .u8 0], false⟩), (15, ⟨.sc, 1, 8, [.ptr 0 1 0 0], false⟩), (16, ⟨.sc, 1, 8, [.ptr 0 1 0 0], false⟩), (17, ⟨.sc, 1, 8, [.ptr 0 1 0 0], false⟩), (18, ⟨.st [(0, 17)], 1, 8, [.ptr 0 1 0 0], false⟩), (19, ⟨.st [(0, 17)], 1, 8, [.ptr 0 1 0 0], false⟩), (22, ⟨.sl 5, 1, 24, [.sl 0 1 0 0 0], false⟩), (24, ⟨.sl 3, 1, 24, [.sl 0 1 0 0 0], false⟩), (25, ⟨.st [(0, 3), (1, 3), (2, 24)], 3, 40, [.int 0, .int 0, .sl 0 1 0 0 0], false⟩), (26, ⟨.st [(0, 3), (1, 3), (2, 24)], 3, 40, [.int 0, .int 0, .sl 0 1 0 0 0], false⟩), (32, ⟨.sl 26, 1, 24, [.sl 0 3 0 0 0], false⟩), (46, ⟨.st [(0, 3), (1, 3), (2, 24)], 3, 40, [.int 0, .int 0, .sl 0 1 0 0 0], false⟩), (58, ⟨.sl 24, 1, 24, [.sl 0 1 0 0 0], false⟩), (62, ⟨.sc, 1, 8, [.ptr 0 1 0 0], false⟩), (63, ⟨.st [(0, 26), (3, 26), (6, 58), (7, 3), (8, 32)], 9, 136, [.int 0, .int 0, .sl 0 1 0 0 0, .int 0, .int 0, .sl 0 1 0 0 0, .sl 0 1 0 0 0, .int 0, .sl 0 3 0 0 0], false⟩), (64, ⟨.st [(0, 26), (3, 26), (6, 58), (7, 3), (8, 32)], 9, 136, [.int 0, .int 0, .sl 0 1 0 0 0, .int 0, .int 0, .sl 0 1 0 0 0, .sl 0 1 0 0 0, .int 0, .sl 0 3 0 0 0], false⟩), (73, ⟨.st [(0, 3), (1, 3), (2, 3), (3, 3)], 4, 32, [.int 0, .int 0, .int 0, .int 0], false⟩), (74, ⟨.st [(0, 3), (1, 3), (2, 3), (3, 3)], 4, 32, [.int 0, .int 0, .int 0, .int 0], false⟩), (80, ⟨.sc, 1, 8, [.ptr 0 1 0 0], false⟩), (91, ⟨.sl 94, 1, 24, [.sl 0 2 0 0 0], false⟩), (93, ⟨.st [(0, 24), (1, 3)], 2, 32, [.sl 0 1 0 0 0, .int 0], false⟩), (94, ⟨.st [(0, 24), (1, 3)], 2, 32, [.sl 0 1 0 0 0, .int 0], false⟩), (111, ⟨.st [(0, 22), (1, 3), (2, 3)], 3, 40, [.sl 0 1 0 0 0, .int 0, .int 0], false⟩), (112, ⟨.st [(0, 22), (1, 3), (2, 3)], 3, 40, [.sl 0 1 0 0 0, .int 0, .int 0], false⟩), (123, ⟨.sl 124, 1, 24, [.sl 0 1 0 0 0], false⟩), (124, ⟨.sl 129, 1, 24, [.sl 0 2 0 0 0], false⟩), (128, ⟨.st [(0, 3), (1, 3)], 2, 16, [.int 0, .int 0], true⟩), (129, ⟨.st [(0, 3), (1, 3)], 2, 16, [.int 0, .int 0], true⟩), (134, ⟨.sc, 1, 8, [.ptr 0 1 0 0], false⟩), (136, ⟨.st [(0, 26), (3, 26), (6, 26), (9, 4)], 10, 128, [.int 0, .int 0, .sl 0 1 0 0 0, .int 0, .int 0, .sl 0 1 0 0 0, .int 0, .int 0, .sl 0 1 0 0 0, .bool false], false⟩), (137, ⟨.st [(0, 26), (3, 26), (6, 26), (9, 4)], 10, 128, [.int 0, .int 0, .sl 0 1 0 0 0, .int 0, .int 0, .sl 0 1 0 0 0, .int 0, .int 0, .sl 0 1 0 0 0, .bool false], false⟩), (141, ⟨.st [(0, 123), (1, 124)], 2, 48, [.sl 0 1 0 0 0, .sl 0 2 0 0 0], false⟩), (142, ⟨.st [(0, 123), (1, 124)], 2, 48, [.sl 0 1 0 0 0, .sl 0 2 0 0 0], false⟩), (146, ⟨.sc, 1, 8, [.ptr 0 1 0 0], false⟩), (163, ⟨.sc, 1, 8, [.int 0], false⟩), (179, ⟨.sc, 1, 8, [.ptr 0 1 0 0], false⟩), (185, ⟨.ar 0 16, 0, 0, [], false⟩), (186, ⟨.st [(0, 185)], 0, 0, [], false⟩), (187, ⟨.st [(0, 185)], 0, 0, [], false⟩), (189, ⟨.sc, 1, 1, [.u8 0], false⟩), (190, ⟨.sc, 1, 1, [.u8 0], false⟩), (192, ⟨.sc, 1, 8, [.ptr 0 1 0 0], false⟩)]
theorem tok2 : TOK Tryz.prog 2 ⟨.sc, 1, 8, [.int 0], false⟩ := ⟨by kernel_rfl, by kernel_rfl, rfl, by decide, fun _ => rfl⟩
theorem tok3 : TOK Tryz.prog 3 ⟨.sc, 1, 8, [.int 0], false⟩ := ⟨by kernel_rfl, by kernel_rfl, rfl, by decide, fun _ => rfl⟩
theorem tok4 : TOK Tryz.prog 4 ⟨.sc, 1, 1, [.bool false], false⟩ := ⟨by kernel_rfl, by kernel_rfl, rfl, by decide, fun _ => rfl⟩
theorem tok5 : TOK Tryz.prog 5 ⟨.sc, 1, 1, [.u8 0], false⟩ := ⟨by kernel_rfl, by kernel_rfl, rfl, by decide, fun _ => rfl⟩
theorem tok6 : TOK Tryz.prog 6 ⟨.sc, 1, 1, [.u8 0], false⟩ := ⟨by kernel_rfl, by kernel_rfl, rfl, by decide, fun _ => rfl⟩
theorem tok7 : TOK Tryz.prog 7 ⟨.st [(0, 2), (1, 3), (2, 4), (3, 6)], 4, 24, [.int 0, .int 0, .bool false, .u8 0], false⟩ := ⟨by kernel_rfl, by kernel_rfl, rfl, by decide, fun h => by cases h⟩
theorem tok8 : TOK Tryz.prog 8 ⟨.st [(0, 2), (1, 3), (2, 4), (3, 6)], 4, 24, [.int 0, .int 0, .bool false, .u8 0], false⟩ := ⟨by kernel_rfl, by kernel_rfl, rfl, by decide, fun h => by cases h⟩
theorem tok15 : TOK Tryz.prog 15 ⟨.sc, 1, 8, [.ptr 0 1 0 0], false⟩ := ⟨by kernel_rfl, by kernel_rfl, rfl, by decide, fun _ => rfl⟩
theorem tok16 : TOK Tryz.prog 16 ⟨.sc, 1, 8, [.ptr 0 1 0 0], false⟩ := ⟨by kernel_rfl, by kernel_rfl, rfl, by decide, fun _ => rfl⟩
theorem tok17 : TOK Tryz.prog 17 ⟨.sc, 1, 8, [.ptr 0 1 0 0], false⟩ := ⟨by kernel_rfl, by kernel_rfl, rfl, by decide, fun _ => rfl⟩
theorem tok18 : TOK Tryz.prog 18 ⟨.st [(0, 17)], 1, 8, [.ptr 0 1 0 0], false⟩ := ⟨by kernel_rfl, by kernel_rfl, rfl, by decide, fun h => by cases h⟩
theorem tok19 : TOK Tryz.prog 19 ⟨.st [(0, 17)], 1, 8, [.ptr 0 1 0 0], false⟩ := ⟨by kernel_rfl, by kernel_rfl, rfl, by decide, fun h => by cases h⟩
theorem tok22 : TOK Tryz.prog 22 ⟨.sl 5, 1, 24, [.sl 0 1 0 0 0], false⟩ := ⟨by kernel_rfl, by kernel_rfl, rfl, by decide, fun _ => rfl⟩
theorem tok24 : TOK Tryz.prog 24 ⟨.sl 3, 1, 24, [.sl 0 1 0 0 0], false⟩ := ⟨by kernel_rfl, by kernel_rfl, rfl, by decide, fun _ => rfl⟩
theorem tok25 : TOK Tryz.prog 25 ⟨.st [(0, 3), (1, 3), (2, 24)], 3, 40, [.int 0, .int 0, .sl 0 1 0 0 0], false⟩ := ⟨by kernel_rfl, by kernel_rfl, rfl, by decide, fun h => by cases h⟩
theorem tok26 : TOK Tryz.prog 26 ⟨.st [(0, 3), (1, 3), (2, 24)], 3, 40, [.int 0, .int 0, .sl 0 1 0 0 0], false⟩ := ⟨by kernel_rfl, by kernel_rfl, rfl, by decide, fun h => by cases h⟩
theorem tok32 : TOK Tryz.prog 32 ⟨.sl 26, 1, 24, [.sl 0 3 0 0 0], false⟩ := ⟨by kernel_rfl, by kernel_rfl, rfl, by decide, fun _ => rfl⟩
theorem tok46 : TOK Tryz.prog 46 ⟨.st [(0, 3), (1, 3), (2, 24)], 3, 40, [.int 0, .int 0, .sl 0 1 0 0 0], false⟩ := ⟨by kernel_rfl, by kernel_rfl, rfl, by decide, fun h => by cases h⟩
theorem tok58 : TOK Tryz.prog 58 ⟨.sl 24, 1, 24, [.sl 0 1 0 0 0], false⟩ := ⟨by kernel_rfl, by kernel_rfl, rfl, by decide, fun _ => rfl⟩
theorem tok62 : TOK Tryz.prog 62 ⟨.sc, 1, 8, [.ptr 0 1 0 0], false⟩ := ⟨by kernel_rfl, by kernel_rfl, rfl, by decide, fun _ => rfl⟩
theorem tok63 : TOK Tryz.prog 63 ⟨.st [(0, 26), (3, 26), (6, 58), (7, 3), (8, 32)], 9, 136, [.int 0, .int 0, .sl 0 1 0 0 0, .int 0, .int 0, .sl 0 1 0 0 0, .sl 0 1 0 0 0, .int 0, .sl 0 3 0 0 0], false⟩ := ⟨by kernel_rfl, by kernel_rfl, rfl, by decide, fun h => by cases h⟩
theorem tok64 : TOK Tryz.prog 64 ⟨.st [(0, 26), (3, 26), (6, 58), (7, 3), (8, 32)], 9, 136, [.int 0, .int 0, .sl 0 1 0 0 0, .int 0, .int 0, .sl 0 1 0 0 0, .sl 0 1 0 0 0, .int 0, .sl 0 3 0 0 0], false⟩ := ⟨by kernel_rfl, by kernel_rfl, rfl, by decide, fun h => by cases h⟩
theorem tok73 : TOK Tryz.prog 73 ⟨.st [(0, 3), (1, 3), (2, 3), (3, 3)], 4, 32, [.int 0, .int 0, .int 0, .int 0], false⟩ := ⟨by kernel_rfl, by kernel_rfl, rfl, by decide, fun h => by cases h⟩
theorem tok74 : TOK Tryz.prog 74 ⟨.st [(0, 3), (1, 3), (2, 3), (3, 3)], 4, 32, [.int 0, .int 0, .int 0, .int 0], false⟩ := ⟨by kernel_rfl, by kernel_rfl, rfl, by decide, fun h => by cases h⟩
theorem tok80 : TOK Tryz.prog 80 ⟨.sc, 1, 8, [.ptr 0 1 0 0], false⟩ := ⟨by kernel_rfl, by kernel_rfl, rfl, by decide, fun _ => rfl⟩
theorem tok91 : TOK Tryz.prog 91 ⟨.sl 94, 1, 24, [.sl 0 2 0 0 0], false⟩ := ⟨by kernel_rfl, by kernel_rfl, rfl, by decide, fun _ => rfl⟩
theorem tok93 : TOK Tryz.prog 93 ⟨.st [(0, 24), (1, 3)], 2, 32, [.sl 0 1 0 0 0, .int 0], false⟩ := ⟨by kernel_rfl, by kernel_rfl, rfl, by decide, fun h => by cases h⟩
theorem tok94 : TOK Tryz.prog 94 ⟨.st [(0, 24), (1, 3)], 2, 32, [.sl 0 1 0 0 0, .int 0], false⟩ := ⟨by kernel_rfl, by kernel_rfl, rfl, by decide, fun h => by cases h⟩
theorem tok111 : TOK Tryz.prog 111 ⟨.st [(0, 22), (1, 3), (2, 3)], 3, 40, [.sl 0 1 0 0 0, .int 0, .int 0], false⟩ := ⟨by kernel_rfl, by kernel_rfl, rfl, by decide, fun h => by cases h⟩
theorem tok112 : TOK Tryz.prog 112 ⟨.st [(0, 22), (1, 3), (2, 3)], 3, 40, [.sl 0 1 0 0 0, .int 0, .int 0], false⟩ := ⟨by kernel_rfl, by kernel_rfl, rfl, by decide, fun h => by cases h⟩
theorem tok123 : TOK Tryz.prog 123 ⟨.sl 124, 1, 24, [.sl 0 1 0 0 0], false⟩ := ⟨by kernel_rfl, by kernel_rfl, rfl, by decide, fun _ => rfl⟩
theorem tok124 : TOK Tryz.prog 124 ⟨.sl 129, 1, 24, [.sl 0 2 0 0 0], false⟩ := ⟨by kernel_rfl, by kernel_rfl, rfl, by decide, fun _ => rfl⟩
theorem tok128 : TOK Tryz.prog 128 ⟨.st [(0, 3), (1, 3)], 2, 16, [.int 0, .int 0], true⟩ := ⟨by kernel_rfl, by kernel_rfl, rfl, by decide, fun h => by cases h⟩
theorem eqk128 : EqOK Tryz.prog 128 2 := .two Tryz.underlying128 (by kernel_rfl) (by kernel_rfl) ⟨by decide, rfl, by kernel_rfl⟩ ⟨by decide, rfl, by kernel_rfl⟩
theorem tok129 : TOK Tryz.prog 129 ⟨.st [(0, 3), (1, 3)], 2, 16, [.int 0, .int 0], true⟩ := ⟨by kernel_rfl, by kernel_rfl, rfl, by decide, fun h => by cases h⟩
theorem eqk129 : EqOK Tryz.prog 129 2 := .two Tryz.underlying129 (by kernel_rfl) (by kernel_rfl) ⟨by decide, rfl, by kernel_rfl⟩ ⟨by decide, rfl, by kernel_rfl⟩
theorem tok134 : TOK Tryz.prog 134 ⟨.sc, 1, 8, [.ptr 0 1 0 0], false⟩ := ⟨by kernel_rfl, by kernel_rfl, rfl, by decide, fun _ => rfl⟩
theorem tok136 : TOK Tryz.prog 136 ⟨.st [(0, 26), (3, 26), (6, 26), (9, 4)], 10, 128, [.int 0, .int 0, .sl 0 1 0 0 0, .int 0, .int 0, .sl 0 1 0 0 0, .int 0, .int 0, .sl 0 1 0 0 0, .bool false], false⟩ := ⟨by kernel_rfl, by kernel_rfl, rfl, by decide, fun h => by cases h⟩
theorem tok137 : TOK Tryz.prog 137 ⟨.st [(0, 26), (3, 26), (6, 26), (9, 4)], 10, 128, [.int 0, .int 0, .sl 0 1 0 0 0, .int 0, .int 0, .sl 0 1 0 0 0, .int 0, .int 0, .sl 0 1 0 0 0, .bool false], false⟩ := ⟨by kernel_rfl, by kernel_rfl, rfl, by decide, fun h => by cases h⟩
theorem tok141 : TOK Tryz.prog 141 ⟨.st [(0, 123), (1, 124)], 2, 48, [.sl 0 1 0 0 0, .sl 0 2 0 0 0], false⟩ := ⟨by kernel_rfl, by kernel_rfl, rfl, by decide, fun h => by cases h⟩
theorem tok142 : TOK Tryz.prog 142 ⟨.st [(0, 123), (1, 124)], 2, 48, [.sl 0 1 0 0 0, .sl 0 2 0 0 0], false⟩ := ⟨by kernel_rfl, by kernel_rfl, rfl, by decide, fun h => by cases h⟩
theorem tok146 : TOK Tryz.prog 146 ⟨.sc, 1, 8, [.ptr 0 1 0 0], false⟩ := ⟨by kernel_rfl, by kernel_rfl, rfl, by decide, fun _ => rfl⟩
theorem tok163 : TOK Tryz.prog 163 ⟨.sc, 1, 8, [.int 0], false⟩ := ⟨by kernel_rfl, by kernel_rfl, rfl, by decide, fun _ => rfl⟩
theorem tok179 : TOK Tryz.prog 179 ⟨.sc, 1, 8, [.ptr 0 1 0 0], false⟩ := ⟨by kernel_rfl, by kernel_rfl, rfl, by decide, fun _ => rfl⟩
theorem tok185 : TOK Tryz.prog 185 ⟨.ar 0 16, 0, 0, [], false⟩ := ⟨by kernel_rfl, by kernel_rfl, rfl, by decide, fun h => by cases h⟩
theorem tok186 : TOK Tryz.prog 186 ⟨.st [(0, 185)], 0, 0, [], false⟩ := ⟨by kernel_rfl, by kernel_rfl, rfl, by decide, fun h => by cases h⟩
theorem tok187 : TOK Tryz.prog 187 ⟨.st [(0, 185)], 0, 0, [], false⟩ := ⟨by kernel_rfl, by kernel_rfl, rfl, by decide, fun h => by cases h⟩
theorem tok189 : TOK Tryz.prog 189 ⟨.sc, 1, 1, [.u8 0], false⟩ := ⟨by kernel_rfl, by kernel_rfl, rfl, by decide, fun _ => rfl⟩
theorem tok190 : TOK Tryz.prog 190 ⟨.sc, 1, 1, [.u8 0], false⟩ := ⟨by kernel_rfl, by kernel_rfl, rfl, by decide, fun _ => rfl⟩
theorem tok192 : TOK Tryz.prog 192 ⟨.sc, 1, 8, [.ptr 0 1 0 0], false⟩ := ⟨by kernel_rfl, by kernel_rfl, rfl, by decide, fun _ => rfl⟩
theorem TT : Tab Tryz.prog T :=
  .cons tok2 ⟨(fun _ h => by cases h), (fun _ _ => by kernel_rfl), fun h => by cases h⟩ <|
  .cons tok3 ⟨(fun _ h => by cases h), (fun _ _ => by kernel_rfl), fun h => by cases h⟩ <|
  .cons tok4 ⟨(fun _ _ => by kernel_rfl), (fun _ h => by cases h), fun h => by cases h⟩ <|
  .cons tok5 ⟨(fun _ h => by cases h), (fun _ h => by cases h), fun h => by cases h⟩ <|
  .cons tok6 ⟨(fun _ h => by cases h), (fun _ h => by cases h), fun h => by cases h⟩ <|
  .cons tok7 ⟨(fun h _ => by cases h), (fun h _ => by cases h), fun h => by cases h⟩ <|
  .cons tok8 ⟨(fun h _ => by cases h), (fun h _ => by cases h), fun h => by cases h⟩ <|
  .cons tok15 ⟨(fun _ h => by cases h), (fun _ h => by cases h), fun h => by cases h⟩ <|
  .cons tok16 ⟨(fun _ h => by cases h), (fun _ h => by cases h), fun h => by cases h⟩ <|
  .cons tok17 ⟨(fun _ h => by cases h), (fun _ h => by cases h), fun h => by cases h⟩ <|
  .cons tok18 ⟨(fun h _ => by cases h), (fun h _ => by cases h), fun h => by cases h⟩ <|
  .cons tok19 ⟨(fun h _ => by cases h), (fun h _ => by cases h), fun h => by cases h⟩ <|
  .cons tok22 ⟨(fun h _ => by cases h), (fun h _ => by cases h), fun h => by cases h⟩ <|
  .cons tok24 ⟨(fun h _ => by cases h), (fun h _ => by cases h), fun h => by cases h⟩ <|
  .cons tok25 ⟨(fun h _ => by cases h), (fun h _ => by cases h), fun h => by cases h⟩ <|
  .cons tok26 ⟨(fun h _ => by cases h), (fun h _ => by cases h), fun h => by cases h⟩ <|
  .cons tok32 ⟨(fun h _ => by cases h), (fun h _ => by cases h), fun h => by cases h⟩ <|
  .cons tok46 ⟨(fun h _ => by cases h), (fun h _ => by cases h), fun h => by cases h⟩ <|
  .cons tok58 ⟨(fun h _ => by cases h), (fun h _ => by cases h), fun h => by cases h⟩ <|
  .cons tok62 ⟨(fun _ h => by cases h), (fun _ h => by cases h), fun h => by cases h⟩ <|
  .cons tok63 ⟨(fun h _ => by cases h), (fun h _ => by cases h), fun h => by cases h⟩ <|
  .cons tok64 ⟨(fun h _ => by cases h), (fun h _ => by cases h), fun h => by cases h⟩ <|
  .cons tok73 ⟨(fun h _ => by cases h), (fun h _ => by cases h), fun h => by cases h⟩ <|
  .cons tok74 ⟨(fun h _ => by cases h), (fun h _ => by cases h), fun h => by cases h⟩ <|
  .cons tok80 ⟨(fun _ h => by cases h), (fun _ h => by cases h), fun h => by cases h⟩ <|
  .cons tok91 ⟨(fun h _ => by cases h), (fun h _ => by cases h), fun h => by cases h⟩ <|
  .cons tok93 ⟨(fun h _ => by cases h), (fun h _ => by cases h), fun h => by cases h⟩ <|
  .cons tok94 ⟨(fun h _ => by cases h), (fun h _ => by cases h), fun h => by cases h⟩ <|
  .cons tok111 ⟨(fun h _ => by cases h), (fun h _ => by cases h), fun h => by cases h⟩ <|
  .cons tok112 ⟨(fun h _ => by cases h), (fun h _ => by cases h), fun h => by cases h⟩ <|
  .cons tok123 ⟨(fun h _ => by cases h), (fun h _ => by cases h), fun h => by cases h⟩ <|
  .cons tok124 ⟨(fun h _ => by cases h), (fun h _ => by cases h), fun h => by cases h⟩ <|
  .cons tok128 ⟨(fun h _ => by cases h), (fun h _ => by cases h), fun _ => eqk128⟩ <|
  .cons tok129 ⟨(fun h _ => by cases h), (fun h _ => by cases h), fun _ => eqk129⟩ <|
  .cons tok134 ⟨(fun _ h => by cases h), (fun _ h => by cases h), fun h => by cases h⟩ <|
  .cons tok136 ⟨(fun h _ => by cases h), (fun h _ => by cases h), fun h => by cases h⟩ <|
  .cons tok137 ⟨(fun h _ => by cases h), (fun h _ => by cases h), fun h => by cases h⟩ <|
  .cons tok141 ⟨(fun h _ => by cases h), (fun h _ => by cases h), fun h => by cases h⟩ <|
  .cons tok142 ⟨(fun h _ => by cases h), (fun h _ => by cases h), fun h => by cases h⟩ <|
  .cons tok146 ⟨(fun _ h => by cases h), (fun _ h => by cases h), fun h => by cases h⟩ <|
  .cons tok163 ⟨(fun _ h => by cases h), (fun _ _ => by kernel_rfl), fun h => by cases h⟩ <|
  .cons tok179 ⟨(fun _ h => by cases h), (fun _ h => by cases h), fun h => by cases h⟩ <|
  .cons tok185 ⟨(fun h _ => by cases h), (fun h _ => by cases h), fun h => by cases h⟩ <|
  .cons tok186 ⟨(fun h _ => by cases h), (fun h _ => by cases h), fun h => by cases h⟩ <|
  .cons tok187 ⟨(fun h _ => by cases h), (fun h _ => by cases h), fun h => by cases h⟩ <|
  .cons tok189 ⟨(fun _ h => by cases h), (fun _ h => by cases h), fun h => by cases h⟩ <|
  .cons tok190 ⟨(fun _ h => by cases h), (fun _ h => by cases h), fun h => by cases h⟩ <|
  .cons tok192 ⟨(fun _ h => by cases h), (fun _ h => by cases h), fun h => by cases h⟩ <|
  .nil
theorem TM : Tryz.prog.follows .mixedOrders = true := by kernel_rfl
theorem stp {q p : Prop} (h : q) (i : q → p := by first | exact w_a TT Zz Zz Zz sd | exact w_b | exact w_c Zz Zz | exact w_d TT Zz Zz Zz Zz sd | exact w_e | exact w_f Zz Zz | exact w_g | exact w_h | exact w_i | exact w_j | exact w_k | exact w_l | exact w_m rfl | exact w_n rfl | fail) : p := i h
theorem stx {q p : Prop} (h : q) (i : q → p := by first | exact w_a TT Zz Zz Zz sd | exact w_b | exact w_c Zz Zz | exact w_d TT Zz Zz Zz Zz sd | exact w_e | exact w_f Zz Zz | exact w_g | exact w_h | exact w_i | exact w_j | exact w_k | exact w_l | exact w_m rfl | exact w_n rfl | exact w_o TM rfl kr | fail) : p := i h
theorem stq {p q r : Prop} (h : q) (h' : r) (i : q → r → p := by first | exact w_p Zz Zz Zz | exact w_q Zz Zz Zz | exact w_r rfl | fail) : p := i h h'
end Go.Proofs.YtekpamojojfplaaGreat
namespace Go.Proofs.YtekpamojojfplaaGreat
theorem zho {q p : Prop} (h : q) (i : q → p := by exact w_s TT _ Zz Zz Zz Zz sd sb rfl) : p := i h
theorem zt0 {q p : Prop} (h : q) (i : q → p := by first | exact w_t TT 0 rfl kr kr kr nh Zz Zz Zz Zz sd | exact w_w TT 0 rfl kr kr kr nh Zz Zz Zz Zz Zz sd | fail) : p := i h
theorem zt1 {q p : Prop} (h : q) (i : q → p := by first | exact w_t TT 1 rfl kr kr kr nh Zz Zz Zz Zz sd | exact w_w TT 1 rfl kr kr kr nh Zz Zz Zz Zz Zz sd | fail) : p := i h
theorem zt2 {q p : Prop} (h : q) (i : q → p := by first | exact w_t TT 2 rfl kr kr kr nh Zz Zz Zz Zz sd | exact w_w TT 2 rfl kr kr kr nh Zz Zz Zz Zz Zz sd | fail) : p := i h
theorem zt3 {q p : Prop} (h : q) (i : q → p := by first | exact w_t TT 3 rfl kr kr kr nh Zz Zz Zz Zz sd | exact w_w TT 3 rfl kr kr kr nh Zz Zz Zz Zz Zz sd | fail) : p := i h
theorem zt4 {q p : Prop} (h : q) (i : q → p := by first | exact w_t TT 4 rfl kr kr kr nh Zz Zz Zz Zz sd | exact w_w TT 4 rfl kr kr kr nh Zz Zz Zz Zz Zz sd | fail) : p := i h
theorem zt5 {q p : Prop} (h : q) (i : q → p := by first | exact w_t TT 5 rfl kr kr kr nh Zz Zz Zz Zz sd | exact w_w TT 5 rfl kr kr kr nh Zz Zz Zz Zz Zz sd | fail) : p := i h
theorem zp5 {q p : Prop} (h : q) (i : q → p := by first | exact awpH_pass 5 rfl kr kr kr nh Zz Zz | fail) : p := i h
theorem zt6 {q p : Prop} (h : q) (i : q → p := by first | exact w_t TT 6 rfl kr kr kr nh Zz Zz Zz Zz sd | exact w_w TT 6 rfl kr kr kr nh Zz Zz Zz Zz Zz sd | fail) : p := i h
theorem zp6 {q p : Prop} (h : q) (i : q → p := by first | exact awpH_pass 6 rfl kr kr kr nh Zz Zz | fail) : p := i h
theorem zt7 {q p : Prop} (h : q) (i : q → p := by first | exact w_t TT 7 rfl kr kr kr nh Zz Zz Zz Zz sd | exact w_w TT 7 rfl kr kr kr nh Zz Zz Zz Zz Zz sd | fail) : p := i h
theorem zp7 {q p : Prop} (h : q) (i : q → p := by first | exact awpH_pass 7 rfl kr kr kr nh Zz Zz | fail) : p := i h
theorem zt8 {q p : Prop} (h : q) (i : q → p := by first | exact w_t TT 8 rfl kr kr kr nh Zz Zz Zz Zz sd | exact w_w TT 8 rfl kr kr kr nh Zz Zz Zz Zz Zz sd | fail) : p := i h
theorem zp8 {q p : Prop} (h : q) (i : q → p := by first | exact awpH_pass 8 rfl kr kr kr nh Zz Zz | fail) : p := i h
theorem zt9 {q p : Prop} (h : q) (i : q → p := by first | exact w_t TT 9 rfl kr kr kr nh Zz Zz Zz Zz sd | exact w_w TT 9 rfl kr kr kr nh Zz Zz Zz Zz Zz sd | fail) : p := i h
theorem zp9 {q p : Prop} (h : q) (i : q → p := by first | exact awpH_pass 9 rfl kr kr kr nh Zz Zz | fail) : p := i h
theorem zt10 {q p : Prop} (h : q) (i : q → p := by first | exact w_t TT 10 rfl kr kr kr nh Zz Zz Zz Zz sd | exact w_w TT 10 rfl kr kr kr nh Zz Zz Zz Zz Zz sd | fail) : p := i h
theorem zp10 {q p : Prop} (h : q) (i : q → p := by first | exact awpH_pass 10 rfl kr kr kr nh Zz Zz | fail) : p := i h
theorem zt11 {q p : Prop} (h : q) (i : q → p := by first | exact w_t TT 11 rfl kr kr kr nh Zz Zz Zz Zz sd | exact w_w TT 11 rfl kr kr kr nh Zz Zz Zz Zz Zz sd | fail) : p := i h
theorem zt12 {q p : Prop} (h : q) (i : q → p := by first | exact w_t TT 12 rfl kr kr kr nh Zz Zz Zz Zz sd | exact w_w TT 12 rfl kr kr kr nh Zz Zz Zz Zz Zz sd | fail) : p := i h
theorem zp12 {q p : Prop} (h : q) (i : q → p := by first | exact awpH_pass 12 rfl kr kr kr nh Zz Zz | fail) : p := i h
theorem zt13 {q p : Prop} (h : q) (i : q → p := by first | exact w_t TT 13 rfl kr kr kr nh Zz Zz Zz Zz sd | exact w_w TT 13 rfl kr kr kr nh Zz Zz Zz Zz Zz sd | fail) : p := i h
theorem zt14 {q p : Prop} (h : q) (i : q → p := by first | exact w_t TT 14 rfl kr kr kr nh Zz Zz Zz Zz sd | exact w_w TT 14 rfl kr kr kr nh Zz Zz Zz Zz Zz sd | fail) : p := i h
theorem zt15 {q p : Prop} (h : q) (i : q → p := by first | exact w_t TT 15 rfl kr kr kr nh Zz Zz Zz Zz sd | exact w_w TT 15 rfl kr kr kr nh Zz Zz Zz Zz Zz sd | fail) : p := i h
theorem zp15 {q p : Prop} (h : q) (i : q → p := by first | exact awpH_pass 15 rfl kr kr kr nh Zz Zz | fail) : p := i h
theorem zt16 {q p : Prop} (h : q) (i : q → p := by first | exact w_t TT 16 rfl kr kr kr nh Zz Zz Zz Zz sd | exact w_w TT 16 rfl kr kr kr nh Zz Zz Zz Zz Zz sd | fail) : p := i h
theorem zp16 {q p : Prop} (h : q) (i : q → p := by first | exact awpH_pass 16 rfl kr kr kr nh Zz Zz | fail) : p := i h
theorem zt17 {q p : Prop} (h : q) (i : q → p := by first | exact w_t TT 17 rfl kr kr kr nh Zz Zz Zz Zz sd | exact w_w TT 17 rfl kr kr kr nh Zz Zz Zz Zz Zz sd | fail) : p := i h
theorem zp17 {q p : Prop} (h : q) (i : q → p := by first | exact awpH_pass 17 rfl kr kr kr nh Zz Zz | fail) : p := i h
theorem zt18 {q p : Prop} (h : q) (i : q → p := by first | exact w_t TT 18 rfl kr kr kr nh Zz Zz Zz Zz sd | exact w_w TT 18 rfl kr kr kr nh Zz Zz Zz Zz Zz sd | fail) : p := i h
theorem zp18 {q p : Prop} (h : q) (i : q → p := by first | exact awpH_pass 18 rfl kr kr kr nh Zz Zz | fail) : p := i h
theorem zt19 {q p : Prop} (h : q) (i : q → p := by first | exact w_t TT 19 rfl kr kr kr nh Zz Zz Zz Zz sd | exact w_w TT 19 rfl kr kr kr nh Zz Zz Zz Zz Zz sd | fail) : p := i h
theorem zp19 {q p : Prop} (h : q) (i : q → p := by first | exact awpH_pass 19 rfl kr kr kr nh Zz Zz | fail) : p := i h
theorem zt20 {q p : Prop} (h : q) (i : q → p := by first | exact w_t TT 20 rfl kr kr kr nh Zz Zz Zz Zz sd | exact w_w TT 20 rfl kr kr kr nh Zz Zz Zz Zz Zz sd | fail) : p := i h
theorem zt21 {q p : Prop} (h : q) (i : q → p := by first | exact w_t TT 21 rfl kr kr kr nh Zz Zz Zz Zz sd | exact w_w TT 21 rfl kr kr kr nh Zz Zz Zz Zz Zz sd | fail) : p := i h
theorem zp21 {q p : Prop} (h : q) (i : q → p := by first | exact awpH_pass 21 rfl kr kr kr nh Zz Zz | fail) : p := i h
theorem zt22 {q p : Prop} (h : q) (i : q → p := by first | exact w_t TT 22 rfl kr kr kr nh Zz Zz Zz Zz sd | exact w_w TT 22 rfl kr kr kr nh Zz Zz Zz Zz Zz sd | fail) : p := i h
theorem zt23 {q p : Prop} (h : q) (i : q → p := by first | exact w_t TT 23 rfl kr kr kr nh Zz Zz Zz Zz sd | exact w_w TT 23 rfl kr kr kr nh Zz Zz Zz Zz Zz sd | fail) : p := i h
theorem zt24 {q p : Prop} (h : q) (i : q → p := by first | exact w_t TT 24 rfl kr kr kr nh Zz Zz Zz Zz sd | exact w_w TT 24 rfl kr kr kr nh Zz Zz Zz Zz Zz sd | fail) : p := i h
theorem zp24 {q p : Prop} (h : q) (i : q → p := by first | exact awpH_pass 24 rfl kr kr kr nh Zz Zz | fail) : p := i h
theorem zt25 {q p : Prop} (h : q) (i : q → p := by first | exact w_t TT 25 rfl kr kr kr nh Zz Zz Zz Zz sd | exact w_w TT 25 rfl kr kr kr nh Zz Zz Zz Zz Zz sd | fail) : p := i h
theorem zp25 {q p : Prop} (h : q) (i : q → p := by first | exact awpH_pass 25 rfl kr kr kr nh Zz Zz | fail) : p := i h
theorem zt26 {q p : Prop} (h : q) (i : q → p := by first | exact w_t TT 26 rfl kr kr kr nh Zz Zz Zz Zz sd | exact w_w TT 26 rfl kr kr kr nh Zz Zz Zz Zz Zz sd | fail) : p := i h
theorem zp26 {q p : Prop} (h : q) (i : q → p := by first | exact awpH_pass 26 rfl kr kr kr nh Zz Zz | fail) : p := i h
theorem zt27 {q p : Prop} (h : q) (i : q → p := by first | exact w_t TT 27 rfl kr kr kr nh Zz Zz Zz Zz sd | exact w_w TT 27 rfl kr kr kr nh Zz Zz Zz Zz Zz sd | fail) : p := i h
theorem zp27 {q p : Prop} (h : q) (i : q → p := by first | exact awpH_pass 27 rfl kr kr kr nh Zz Zz | fail) : p := i h
theorem zt28 {q p : Prop} (h : q) (i : q → p := by first | exact w_t TT 28 rfl kr kr kr nh Zz Zz Zz Zz sd | exact w_w TT 28 rfl kr kr kr nh Zz Zz Zz Zz Zz sd | fail) : p := i h
theorem zp28 {q p : Prop} (h : q) (i : q → p := by first | exact awpH_pass 28 rfl kr kr kr nh Zz Zz | fail) : p := i h
theorem zt30 {q p : Prop} (h : q) (i : q → p := by first | exact w_t TT 30 rfl kr kr kr nh Zz Zz Zz Zz sd | exact w_w TT 30 rfl kr kr kr nh Zz Zz Zz Zz Zz sd | fail) : p := i h
theorem zp30 {q p : Prop} (h : q) (i : q → p := by first | exact awpH_pass 30 rfl kr kr kr nh Zz Zz | fail) : p := i h
theorem zt31 {q p : Prop} (h : q) (i : q → p := by first | exact w_t TT 31 rfl kr kr kr nh Zz Zz Zz Zz sd | exact w_w TT 31 rfl kr kr kr nh Zz Zz Zz Zz Zz sd | fail) : p := i h
theorem zqc {q p D : Prop} (d : D) (h : q) (i : D → q → p := by first | exact fun d h => w_z d Zz Zz Zz Zz Zz Zz Zz Zz ft Zz Zz h | exact fun d h => w_A d Zz Zz Zz Zz Zz Zz Zz Zz ft Zz Zz h | fail) : p := i d h
theorem zqb {q p D : Prop} (d : D) (h : q) (i : D → q → p := by first | exact fun d h => w_B _ d Zz Zz Zz Zz Zz Zz Zz Zz Zz ft Zz Zz sb rfl h | fail) : p := i d h
theorem zqf {q p D : Prop} (d : D) (h : q) (i : D → q → p := by first | exact fun d h => w_F _ d Zz Zz Zz Zz Zz Zz Zz Zz ft Zz Zz h | fail) : p := i d h
theorem zqe {q p D : Prop} (d : D) (h : q) (i : D → q → p := by first | exact fun d h => w_E d Zz Zz Zz Zz Zz Zz Zz ft rfl h | fail) : p := i d h
theorem zqy {q p : Prop} (h : q) (i : q → p := by first | exact w_y TT _ Zz Zz Zz Zz Zz Zz sd sb Zz Zz | fail) : p := i h
theorem zqx {q p : Prop} (h : q) (i : q → p := by first | exact w_x TT Zz Zz Zz Zz Zz sd | fail) : p := i h
end Go.Proofs.YtekpamojojfplaaGreat
namespace Go.Proofs.YtekpamojojfplaaGreat
open Go.RowKit
theorem ret_bool {a b : Bool} (h : a = b) : Ending.returned (.bool a) = .returned (.bool b) := by rw [h]
theorem ret_int {k : IntKind} {a b : Int} (h : a = b) : Ending.returned (.int k a) = .returned (.int k b) := by rw [h]
structure Ext (W : World) where
  val : World
  below : Below W.heap.size W val
  n : Nat
  size_eq : val.heap.size = W.heap.size + n
def Ext.of {W w : World} (h : Below W.heap.size W w) : Ext W := ⟨w, h, w.heap.size - W.heap.size, by have := h.size; omega⟩
def Ext.refl (W : World) : Ext W := Ext.of (Below.refl _ _)
theorem Ext.some {W w : World} (h : Below W.heap.size W w) : ∃ x : Ext W, w = x.val := ⟨Ext.of h, rfl⟩
def IsExt (W wr : World) : Prop := ∃ y : Ext W, wr = y.val
theorem IsExt.of {W w : World} (h : Below W.heap.size W w) : IsExt W w := Ext.some h
instance Ext.nonempty (W : World) : Nonempty (Ext W) := ⟨Ext.refl W⟩
def farCell (w : World) (a : Addr) : Option Value := w.cell? a
def farFrozen (w : World) (a : Addr) : Bool := w.frozen? a
attribute [go_sem] Ext.size_eq
section
variable {W : World} (x : Ext W)
@[go_sem low] theorem Ext.cell (b o : Nat) : x.val.cell? ⟨b, o, none⟩ = if b < W.heap.size then W.cell? ⟨b, o, none⟩ else farCell x.val ⟨b, o, none⟩ := by
  split
  · exact x.below.cell (p := ⟨b, o, none⟩) ‹_›
  · rfl
@[go_sem low] theorem Ext.frozen (b o : Nat) : x.val.frozen? ⟨b, o, none⟩ = if b < W.heap.size then W.frozen? ⟨b, o, none⟩ else farFrozen x.val ⟨b, o, none⟩ := by
  split
  · exact x.below.frozen (p := ⟨b, o, none⟩) ‹_›
  · rfl
@[go_sem low] theorem alloc_cell (c : Array Value) (t : TypeId) (b o : Nat) : (W.alloc (.cells c t)).cell? ⟨b, o, none⟩ = if b < W.heap.size then W.cell? ⟨b, o, none⟩ else if b = W.heap.size then c[o]? else farCell (W.alloc (.cells c t)) ⟨b, o, none⟩ := by
  split
  · exact World.cell?_alloc_lt _ _ _ ‹_›
  · split
    · subst_vars; exact World.cell?_alloc_new _ _ _ _
    · rfl
@[go_sem low] theorem setCell_cell (b o b' o' : Nat) (v : Value) : (W.setCell ⟨b, o, none⟩ v).cell? ⟨b', o', none⟩ = if b = b' then (if o = o' then (W.cell? ⟨b, o, none⟩).map (fun _ => v) else W.cell? ⟨b', o', none⟩) else W.cell? ⟨b', o', none⟩ := by
  by_cases e1 : b = b'
  · by_cases e2 : o = o'
    · subst e1
      subst e2
      rw [if_pos rfl, if_pos rfl]
      cases h : W.cell? ⟨b, o, none⟩ with
      | some u => exact World.cell?_setCell_same _ _ _ h
      | none =>
        simp only [Option.map_none]
        cases h2 : (W.setCell ⟨b, o, none⟩ v).cell? ⟨b, o, none⟩ with
        | none => rfl
        | some u =>
          exfalso
          simp only [World.cell?, World.setCell, Array.getElem?_modify] at h h2
          cases hb : W.heap[b]? with
          | none => simp [hb] at h2
          | some ob => cases ob <;> simp [hb, Array.getElem?_setIfInBounds] at h h2 <;> omega
    · rw [if_pos e1, if_neg e2]; exact World.cell?_setCell_other _ _ _ _ (by intro e; injection e with _ e3 _; exact e2 e3)
  · rw [if_neg e1]; exact World.cell?_setCell_other _ _ _ _ (by intro e; injection e with e3 _ _; exact e1 e3)
theorem Ext.size : W.heap.size ≤ x.val.heap.size := x.below.size
theorem Ext.up {B : Nat} {w : World} (h : Below B w W) (hB : B ≤ W.heap.size) : Below B w x.val := h.trans (x.below.mono hB)
end
def Gives (P : Program) (f : FuncId) (args : Array Value) (w : World) (v : Value) : Prop :=
  Calls P f args w fun e w' => e = .returned v ∧ ∃ x : Ext w, w' = x.val
theorem Gives.calls {P : Program} {f : FuncId} {args : Array Value} {w : World} {v : Value} (h : Gives P f args w v) :
    Calls P f args w fun e w' => e = .returned v ∧ ∃ x : Ext w, w' = x.val := h
theorem Gives.below {P : Program} {f : FuncId} {args : Array Value} {w : World} {v : Value} (h : Gives P f args w v) :
    Calls P f args w fun e w' => e = .returned v ∧ Below w.heap.size w w' := Calls.mono h fun _ _ ⟨he, x, hw⟩ => ⟨he, hw ▸ x.below⟩
theorem Gives.of_below {P : Program} {f : FuncId} {args : Array Value} {w : World} {v : Value} (h : Calls P f args w fun e w' => e = .returned v ∧ Below w.heap.size w w') :
    Gives P f args w v := Calls.mono h fun _ _ ⟨he, hb⟩ => ⟨he, Ext.of hb, rfl⟩
theorem mul_bd {a b A B : Int} (h1 : -A ≤ a) (h2 : a ≤ A) (h3 : -B ≤ b) (h4 : b ≤ B) : -(A * B) ≤ a * b ∧ a * b ≤ A * B := by
  have ha : (a.natAbs : Int) ≤ A := by omega
  have hb : (b.natAbs : Int) ≤ B := by omega
  have h : ((a * b).natAbs : Int) ≤ A * B := by
    rw [Int.natAbs_mul, Int.natCast_mul]
    exact Int.mul_le_mul ha hb (Int.natCast_nonneg _) (by omega)
  omega
end Go.Proofs.YtekpamojojfplaaGreat
namespace Go.Proofs.YtekpamojojfplaaGreat
open Go.RowKit
def inB (a b c : Int) : Bool := decide (b ≤ a ∧ a ≤ c)
def numB (a : Int) : Bool := decide (-400000000 ≤ a ∧ a ≤ 400000000)
def absW (a : Int) : Int := if a < 0 then wrap64 (-a) else a
theorem inB_true {a b c : Int} : inB a b c = true ↔ b ≤ a ∧ a ≤ c := by simp [inB]
theorem inB_false {a b c : Int} : inB a b c = false ↔ a < b ∨ c < a := by simp [inB]; omega
theorem numB_true {a : Int} : numB a = true ↔ -400000000 ≤ a ∧ a ≤ 400000000 := by simp [numB]
theorem numB_false {a : Int} : numB a = false ↔ a < -400000000 ∨ 400000000 < a := by simp [numB]; omega
theorem gcd_step (x y : Int) : Int.gcd y (x.tmod y) = Int.gcd x y := by
  unfold Int.gcd
  rw [Int.natAbs_tmod, Nat.gcd_comm y.natAbs, ← Nat.gcd_rec, Nat.gcd_comm]
def gcdOf (a b : Int) : Int := if numB a && numB b then (Int.gcd a b : Int) else 0
theorem gcdOf_eq {a b : Int} (ha : numB a = true) (hb : numB b = true) : gcdOf a b = (Int.gcd a b : Int) := by simp [gcdOf, ha, hb]
theorem gcd_le_left {a b M : Int} (h1 : -M ≤ a) (h2 : a ≤ M) (h3 : -M ≤ b) (h4 : b ≤ M) : (Int.gcd a b : Int) ≤ M := by
  by_cases h : a = 0
  · subst h; simp; omega
  · have := Nat.le_of_dvd (by omega) (Nat.gcd_dvd_left a.natAbs b.natAbs)
    have e : Int.gcd a b = Nat.gcd a.natAbs b.natAbs := rfl
    omega
theorem tmod_bd {a p : Int} (hp : 0 < p) : -p < a.tmod p ∧ a.tmod p < p := by
  have h1 : (a.tmod p).natAbs = a.natAbs % p.natAbs := Int.natAbs_tmod a p
  have h2 : a.natAbs % p.natAbs < p.natAbs := Nat.mod_lt _ (by omega)
  omega
theorem tdiv_floor_neg {n d : Int} (hd : 0 < d) (h : n.tmod d < 0) : n.tdiv d - 1 = n / d := by
  have hb := tmod_bd (a := n) hd
  have := Int.mul_tdiv_add_tmod n d
  refine ((Int.ediv_emod_unique hd (r := n.tmod d + d)).2 ⟨?_, by omega, by omega⟩).1.symm
  rw [Int.mul_sub, Int.mul_one]; omega
theorem tdiv_floor_nonneg {n d : Int} (hd : 0 < d) (h : 0 ≤ n.tmod d) : n.tdiv d = n / d := by
  have hb := tmod_bd (a := n) hd
  have := Int.mul_tdiv_add_tmod n d
  exact ((Int.ediv_emod_unique hd (r := n.tmod d)).2 ⟨by omega, by omega, by omega⟩).1.symm
theorem tdiv_bd (n d : Int) : -(n.natAbs : Int) ≤ n.tdiv d ∧ n.tdiv d ≤ n.natAbs := by
  have h : (n.tdiv d).natAbs = n.natAbs / d.natAbs := Int.natAbs_tdiv n d
  have h2 := Nat.div_le_self n.natAbs d.natAbs
  generalize n.natAbs / d.natAbs = q at h h2
  omega
theorem tmod_sign_nonneg {n d : Int} (h : 0 ≤ n) : 0 ≤ n.tmod d := Int.tmod_nonneg d h
theorem tmod_sign_nonpos {n d : Int} (h : n ≤ 0) : n.tmod d ≤ 0 := by
  have := Int.tmod_nonneg d (show 0 ≤ -n by omega)
  rw [Int.neg_tmod] at this; omega
end Go.Proofs.YtekpamojojfplaaGreat
namespace Go.Proofs.YtekpamojojfplaaGreat
open Go.RowKit
theorem d_absInt (n : Int) (h1 : -9223372036854775807 ≤ n) (h2 : n ≤ 9223372036854775807) : Does Tryz.prog 104 [vI n] [] 1 (Ret (vI n.natAbs) 1) := by
 refine Does.intro TT Tryz.func104 rfl (by kernel_rfl) Zz Zz fun E hE => ?_
 (repeat' (first | refine stx ?_ | (refine stq ?_ ?_ <;> (intro hc; ((try simp at hc) <;> try contradiction))) | fail))
 all_goals refine fin_ret rfl trivial (congrArg vI ?_) rfl
 all_goals omega
theorem d_l1Abs (n : Int) (h1 : -9223372036854775807 ≤ n) (h2 : n ≤ 9223372036854775807) : Does Tryz.prog 105 [vI n] [] 1 (Ret (vI n.natAbs) 1) := by
 refine Does.intro TT Tryz.func105 rfl (by kernel_rfl) Zz Zz fun E hE => ?_
 (repeat' (first | refine stx ?_ | (refine stq ?_ ?_ <;> (intro hc; ((try simp at hc) <;> try contradiction))) | fail))
 all_goals refine fin_ret rfl trivial (congrArg vI ?_) rfl
 all_goals omega
theorem d_numI (n : Int) : Does Tryz.prog 118 [vI n] [] 1 (Ret (vB (numB n)) 1) := by
 refine Does.intro TT Tryz.func118 rfl (by kernel_rfl) Zz Zz fun E hE => ?_
 (repeat' (first | refine stx ?_ | (refine stq ?_ ?_ <;> (intro hc; ((try simp at hc) <;> try contradiction))) | fail))
 all_goals refine fin_ret rfl trivial (congrArg vB ?_) rfl
 all_goals simp [numB]; omega
theorem d_l1In (a b c : Int) : Does Tryz.prog 112 [vI a, vI b, vI c] [] 1 (Ret (vB (inB a b c)) 1) := by
 refine Does.intro TT Tryz.func112 rfl (by kernel_rfl) Zz Zz fun E hE => ?_
 (repeat' (first | refine stx ?_ | (refine stq ?_ ?_ <;> (intro hc; ((try simp at hc) <;> try contradiction))) | fail))
 all_goals refine fin_ret rfl trivial (congrArg vB ?_) rfl
 all_goals simp [inB]; try omega
theorem d_numS (n : Int) : Does Tryz.prog 113 [vI n] [] 1 (Ret (vB (numB n)) 1) := by
 refine Does.intro TT Tryz.func113 rfl (by kernel_rfl) Zz Zz fun E hE => ?_
 (repeat' (first | refine stx ?_ | refine zqc (d_l1In _ _ _) ?_ | (refine stq ?_ ?_ <;> (intro hc; ((try simp at hc) <;> try contradiction))) | fail))
 all_goals refine fin_ret rfl trivial (congrArg vB ?_) rfl
 all_goals rfl
theorem gcd_round {x y a b : Int} {B : Int} (h1 : -B ≤ x ∧ x ≤ B) (h2 : -B ≤ y ∧ y ≤ B) (h0 : y ≠ 0) (h : Int.gcd x y = Int.gcd a b) :
    ((-B ≤ y ∧ y ≤ B) ∧ (-B ≤ x.tmod y ∧ x.tmod y ≤ B) ∧ Int.gcd y (x.tmod y) = Int.gcd a b) ∧ (x.tmod y).natAbs < y.natAbs := by
  have hz : (x.tmod y).natAbs = x.natAbs % y.natAbs := Int.natAbs_tmod x y
  have hl : x.natAbs % y.natAbs < y.natAbs := Nat.mod_lt _ (by omega)
  exact ⟨⟨h2, by omega, (gcd_step x y).trans h⟩, by omega⟩
theorem d_gcd (a b : Int) (ha : -9223372036854775807 ≤ a ∧ a ≤ 9223372036854775807) (hb : -9223372036854775807 ≤ b ∧ b ≤ 9223372036854775807) : Does Tryz.prog 218 [vI a, vI b] [] 1 (Ret (vI (Int.gcd a b)) 1) := by
 refine Does.intro TT Tryz.func218 rfl (by kernel_rfl) Zz Zz fun E hE => ?_
 (repeat' (first | refine stx ?_ | (refine stq ?_ ?_ <;> (intro hc; ((try simp at hc) <;> try contradiction))) | fail))
 refine w_G hE (fun p : Int × Int => (-9223372036854775807 ≤ p.1 ∧ p.1 ≤ 9223372036854775807) ∧ (-9223372036854775807 ≤ p.2 ∧ p.2 ≤ 9223372036854775807) ∧ Int.gcd p.1 p.2 = Int.gcd a b) (fun p => p.2.natAbs)
  (fun p => [(0, vI p.1), (1, vI p.2)]) (fun _ => []) 1 [] (a, b) ⟨ha, hb, rfl⟩ ⟨⟨rfl, rfl, trivial⟩, trivial, rfl⟩ ?_
 rintro ⟨x, y⟩ ⟨h1, h2, h5⟩
 dsimp only at *
 (repeat' (first | refine stx ?_ | (first | refine w_z (d_absInt _ (by omega) (by omega)) Zz Zz Zz Zz Zz Zz Zz Zz ft Zz Zz ?_ | refine w_A (d_absInt _ (by omega) (by omega)) Zz Zz Zz Zz Zz Zz Zz Zz ft Zz Zz ?_) | (refine stq ?_ ?_ <;> (intro hc; ((try simp at hc) <;> try contradiction))) | fail))
 ·obtain ⟨h6, h7⟩ := gcd_round h1 h2 hc h5
  exact ⟨[], (y, x.tmod y), h6, h7, ⟨rfl, rfl, trivial⟩, trivial, rfl⟩
 ·refine fin_ret rfl trivial (congrArg vI ?_) rfl
  subst hc
  rw [← h5]; simp
theorem d_gcdOf (a b : Int) : Does Tryz.prog 184 [vI a, vI b] [] 1 (Ret (vI (gcdOf a b)) 1) := by
 refine Does.intro TT Tryz.func184 rfl (by kernel_rfl) Zz Zz fun E hE => ?_
 (repeat' (first | refine stx ?_ | refine zqc (d_numS _) ?_ | (refine stq ?_ ?_ <;> (intro hc; ((try simp at hc) <;> try contradiction))) | fail))
 ·refine fin_ret rfl trivial (congrArg vI ?_) rfl
  simp_all [gcdOf]
 ·refine fin_ret rfl trivial (congrArg vI ?_) rfl
  simp_all [gcdOf]
 ·have ha := numB_true.1 (by assumption : numB a = true)
  have hb := numB_true.1 (by assumption : numB b = true)
  refine w_G hE (fun p : Int × Int => (-400000000 ≤ p.1 ∧ p.1 ≤ 400000000) ∧ (-400000000 ≤ p.2 ∧ p.2 ≤ 400000000) ∧ Int.gcd p.1 p.2 = Int.gcd a b) (fun p => p.2.natAbs)
   (fun p => [(0, vI p.1), (1, vI p.2)]) (fun _ => []) 1 [] (a, b) ⟨ha, hb, rfl⟩ ⟨⟨rfl, rfl, trivial⟩, trivial, rfl⟩ ?_
  rintro ⟨x, y⟩ ⟨h1, h2, h5⟩
  dsimp only at *
  (repeat' (first | refine stx ?_ | (first | refine w_z (d_l1Abs _ (by omega) (by omega)) Zz Zz Zz Zz Zz Zz Zz Zz ft Zz Zz ?_ | refine w_A (d_l1Abs _ (by omega) (by omega)) Zz Zz Zz Zz Zz Zz Zz Zz ft Zz Zz ?_) | (refine stq ?_ ?_ <;> (intro hc; ((try simp at hc) <;> try contradiction))) | fail))
  ·obtain ⟨h6, h7⟩ := gcd_round h1 h2 hc h5
   exact ⟨[], (y, x.tmod y), h6, h7, ⟨rfl, rfl, trivial⟩, trivial, rfl⟩
  ·refine fin_ret rfl trivial (congrArg vI ?_) rfl
   subst hc
   simp_all [gcdOf]
end Go.Proofs.YtekpamojojfplaaGreat
