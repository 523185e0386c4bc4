/- Part of the proof: T3. -/
import Derived.Test.YtbjkfkifkglplaaGreatDoorShelf
import Derived.Lib.AppendIntMem
import Derived.Shelf.Spec.BitsCarry
import Derived.Test.YtbjkfkifkglplaaGreatDoorBLD
import Derived.Test.YtbjkfkifkglplaaGreatDoorD4f
set_option linter.unusedSectionVars false
set_option linter.unusedSimpArgs false
set_option linter.unusedVariables false
set_option maxRecDepth 100000
namespace Go.Proofs.YtbjkfkifkglplaaGreatDoor.Q
open Go Go.Den Go.RowKit Go.Proofs
def rd (xs : List Int) (i : Int) : Int := xs.getD i.toNat 0
@[reducible] def T296 : Ty := .prod (.int .i64) (.prod .bool (.prod .bool (.prod .str ((.int .i64)))))
abbrev S296 := Int × Bool × Bool × ByteArray × Int
abbrev S296.f0 (x : S296) : Int := x.1
abbrev S296.f1 (x : S296) : Bool := x.2.1
abbrev S296.f2 (x : S296) : Bool := x.2.2.1
abbrev S296.f3 (x : S296) : ByteArray := x.2.2.2.1
abbrev S296.f4 (x : S296) : Int := x.2.2.2.2
abbrev rd_T296 (xs : List S296) (i : Int) : S296 := rdT T296 xs i
@[reducible] def T43 : Ty := .prod (.int .i64) (.prod (.int .i64) (.prod (.int .u8) ((.int .i64))))
abbrev S43 := Int × Int × Int × Int
abbrev S43.f0 (x : S43) : Int := x.1
abbrev S43.f1 (x : S43) : Int := x.2.1
abbrev S43.f2 (x : S43) : Int := x.2.2.1
abbrev S43.f3 (x : S43) : Int := x.2.2.2
abbrev rd_T43 (xs : List S43) (i : Int) : S43 := rdT T43 xs i
@[reducible] def T151 : Ty := .prod (.int .u8) ((.int .i64))
abbrev S151 := Int × Int
abbrev S151.f0 (x : S151) : Int := x.1
abbrev S151.f1 (x : S151) : Int := x.2
abbrev rd_T151 (xs : List S151) (i : Int) : S151 := rdT T151 xs i
@[reducible] def T86 : Ty := .prod .str (.prod (.int .i64) (.prod (.int .i64) ((.int .i64))))
abbrev S86 := ByteArray × Int × Int × Int
abbrev S86.f0 (x : S86) : ByteArray := x.1
abbrev S86.f1 (x : S86) : Int := x.2.1
abbrev S86.f2 (x : S86) : Int := x.2.2.1
abbrev S86.f3 (x : S86) : Int := x.2.2.2
abbrev rd_T86 (xs : List S86) (i : Int) : S86 := rdT T86 xs i
@[reducible] def T84 : Ty := .prod .str (.prod (.int .u8) ((.list T43)))
abbrev S84 := ByteArray × Int × (List S43)
abbrev S84.f0 (x : S84) : ByteArray := x.1
abbrev S84.f1 (x : S84) : Int := x.2.1
abbrev S84.f2 (x : S84) : List S43 := x.2.2
abbrev rd_T84 (xs : List S84) (i : Int) : S84 := rdT T84 xs i
@[reducible] def T81 : Ty := .prod (.int .i64) (.prod (.int .i64) (.prod (.int .i64) ((.list T151))))
abbrev S81 := Int × Int × Int × (List S151)
abbrev S81.f0 (x : S81) : Int := x.1
abbrev S81.f1 (x : S81) : Int := x.2.1
abbrev S81.f2 (x : S81) : Int := x.2.2.1
abbrev S81.f3 (x : S81) : List S151 := x.2.2.2
abbrev rd_T81 (xs : List S81) (i : Int) : S81 := rdT T81 xs i
@[reducible] def T79 : Ty := .prod (.int .i64) (.prod (.int .i64) (.prod (.list T43) (.prod (.list T151) (.prod (.int .i64) (.prod .bool ((.list T81)))))))
abbrev S79 := Int × Int × (List S43) × (List S151) × Int × Bool × (List S81)
abbrev S79.f0 (x : S79) : Int := x.1
abbrev S79.f1 (x : S79) : Int := x.2.1
abbrev S79.f2 (x : S79) : List S43 := x.2.2.1
abbrev S79.f3 (x : S79) : List S151 := x.2.2.2.1
abbrev S79.f4 (x : S79) : Int := x.2.2.2.2.1
abbrev S79.f5 (x : S79) : Bool := x.2.2.2.2.2.1
abbrev S79.f6 (x : S79) : List S81 := x.2.2.2.2.2.2
abbrev rd_T79 (xs : List S79) (i : Int) : S79 := rdT T79 xs i
@[reducible] def T76 : Ty := .prod .str (.prod (.list T84) ((.list T79)))
abbrev S76 := ByteArray × (List S84) × (List S79)
abbrev S76.f0 (x : S76) : ByteArray := x.1
abbrev S76.f1 (x : S76) : List S84 := x.2.1
abbrev S76.f2 (x : S76) : List S79 := x.2.2
abbrev rd_T76 (xs : List S76) (i : Int) : S76 := rdT T76 xs i
@[reducible] def T26 : Ty := .prod (.list .str) (.prod (.list T86) (.prod (.list .str) ((.list T76))))
abbrev S26 := (List ByteArray) × (List S86) × (List ByteArray) × (List S76)
abbrev S26.f0 (x : S26) : List ByteArray := x.1
abbrev S26.f1 (x : S26) : List S86 := x.2.1
abbrev S26.f2 (x : S26) : List ByteArray := x.2.2.1
abbrev S26.f3 (x : S26) : List S76 := x.2.2.2
abbrev rd_T26 (xs : List S26) (i : Int) : S26 := rdT T26 xs i
@[reducible] def T10084 : Ty := .prod .str (.prod (.int .u8) ((.rl T43)))
abbrev S10084 := ByteArray × Int × (List S43 × List S43)
abbrev S10084.f0 (x : S10084) : ByteArray := x.1
abbrev S10084.f1 (x : S10084) : Int := x.2.1
abbrev S10084.f2 (x : S10084) : (List S43 × List S43) := x.2.2
abbrev rd_T10084 (xs : List S10084) (i : Int) : S10084 := rdT T10084 xs i
@[reducible] def T10081 : Ty := .prod (.int .i64) (.prod (.int .i64) (.prod (.int .i64) ((.rl T151))))
abbrev S10081 := Int × Int × Int × (List S151 × List S151)
abbrev S10081.f0 (x : S10081) : Int := x.1
abbrev S10081.f1 (x : S10081) : Int := x.2.1
abbrev S10081.f2 (x : S10081) : Int := x.2.2.1
abbrev S10081.f3 (x : S10081) : (List S151 × List S151) := x.2.2.2
abbrev rd_T10081 (xs : List S10081) (i : Int) : S10081 := rdT T10081 xs i
@[reducible] def T10079 : Ty := .prod (.int .i64) (.prod (.int .i64) (.prod (.rl T43) (.prod (.rl T151) (.prod (.int .i64) (.prod .bool ((.list T10081)))))))
abbrev S10079 := Int × Int × (List S43 × List S43) × (List S151 × List S151) × Int × Bool × (List S10081)
abbrev S10079.f0 (x : S10079) : Int := x.1
abbrev S10079.f1 (x : S10079) : Int := x.2.1
abbrev S10079.f2 (x : S10079) : (List S43 × List S43) := x.2.2.1
abbrev S10079.f3 (x : S10079) : (List S151 × List S151) := x.2.2.2.1
abbrev S10079.f4 (x : S10079) : Int := x.2.2.2.2.1
abbrev S10079.f5 (x : S10079) : Bool := x.2.2.2.2.2.1
abbrev S10079.f6 (x : S10079) : List S10081 := x.2.2.2.2.2.2
abbrev rd_T10079 (xs : List S10079) (i : Int) : S10079 := rdT T10079 xs i
@[reducible] def T10076 : Ty := .prod .str (.prod (.list T10084) ((.list T10079)))
abbrev S10076 := ByteArray × (List S10084) × (List S10079)
abbrev S10076.f0 (x : S10076) : ByteArray := x.1
abbrev S10076.f1 (x : S10076) : List S10084 := x.2.1
abbrev S10076.f2 (x : S10076) : List S10079 := x.2.2
abbrev rd_T10076 (xs : List S10076) (i : Int) : S10076 := rdT T10076 xs i
@[reducible] def T363 : Ty := .prod (.int .i64) (.prod .str (.prod (.int .i64) ((.int .i64))))
abbrev S363 := Int × ByteArray × Int × Int
abbrev S363.f0 (x : S363) : Int := x.1
abbrev S363.f1 (x : S363) : ByteArray := x.2.1
abbrev S363.f2 (x : S363) : Int := x.2.2.1
abbrev S363.f3 (x : S363) : Int := x.2.2.2
abbrev rd_T363 (xs : List S363) (i : Int) : S363 := rdT T363 xs i
@[reducible] def T10026 : Ty := .prod (.rl .str) (.prod (.list T86) (.prod (.rl .str) ((.list T10076))))
abbrev S10026 := (List ByteArray × List ByteArray) × (List S86) × (List ByteArray × List ByteArray) × (List S10076)
abbrev S10026.f0 (x : S10026) : (List ByteArray × List ByteArray) := x.1
abbrev S10026.f1 (x : S10026) : List S86 := x.2.1
abbrev S10026.f2 (x : S10026) : (List ByteArray × List ByteArray) := x.2.2.1
abbrev S10026.f3 (x : S10026) : List S10076 := x.2.2.2
abbrev rd_T10026 (xs : List S10026) (i : Int) : S10026 := rdT T10026 xs i
@[reducible] def T133 : Ty := .prod (.int .i64) ((.int .i64))
abbrev S133 := Int × Int
abbrev S133.f0 (x : S133) : Int := x.1
abbrev S133.f1 (x : S133) : Int := x.2
abbrev rd_T133 (xs : List S133) (i : Int) : S133 := rdT T133 xs i
@[reducible] def T72 : Ty := .prod (.list T133) (.prod (.list T43) ((.list T151)))
abbrev S72 := (List S133) × (List S43) × (List S151)
abbrev S72.f0 (x : S72) : List S133 := x.1
abbrev S72.f1 (x : S72) : List S43 := x.2.1
abbrev S72.f2 (x : S72) : List S151 := x.2.2
abbrev rd_T72 (xs : List S72) (i : Int) : S72 := rdT T72 xs i
@[reducible] def T10072 : Ty := .prod (.rl T133) (.prod (.rl T43) ((.rl T151)))
abbrev S10072 := (List S133 × List S133) × (List S43 × List S43) × (List S151 × List S151)
abbrev S10072.f0 (x : S10072) : (List S133 × List S133) := x.1
abbrev S10072.f1 (x : S10072) : (List S43 × List S43) := x.2.1
abbrev S10072.f2 (x : S10072) : (List S151 × List S151) := x.2.2
abbrev rd_T10072 (xs : List S10072) (i : Int) : S10072 := rdT T10072 xs i
@[reducible] def T103 : Ty := .prod (.int .i64) ((.int .i64))
abbrev S103 := Int × Int
abbrev S103.f0 (x : S103) : Int := x.1
abbrev S103.f1 (x : S103) : Int := x.2
abbrev rd_T103 (xs : List S103) (i : Int) : S103 := rdT T103 xs i
@[reducible] def T250 : Ty := .prod (.int .i64) (.prod (.int .i64) ((.int .i32)))
abbrev S250 := Int × Int × Int
abbrev S250.f0 (x : S250) : Int := x.1
abbrev S250.f1 (x : S250) : Int := x.2.1
abbrev S250.f2 (x : S250) : Int := x.2.2
abbrev rd_T250 (xs : List S250) (i : Int) : S250 := rdT T250 xs i
@[reducible] def T192 : Ty := .prod (.int .i64) (.prod (.int .i64) (.prod (.int .i64) ((.int .i64))))
abbrev S192 := Int × Int × Int × Int
abbrev S192.f0 (x : S192) : Int := x.1
abbrev S192.f1 (x : S192) : Int := x.2.1
abbrev S192.f2 (x : S192) : Int := x.2.2.1
abbrev S192.f3 (x : S192) : Int := x.2.2.2
abbrev rd_T192 (xs : List S192) (i : Int) : S192 := rdT T192 xs i
@[reducible] def T252 : Ty := .prod (.int .i64) (.prod (.int .i64) ((.int .i32)))
abbrev S252 := Int × Int × Int
abbrev S252.f0 (x : S252) : Int := x.1
abbrev S252.f1 (x : S252) : Int := x.2.1
abbrev S252.f2 (x : S252) : Int := x.2.2
abbrev rd_T252 (xs : List S252) (i : Int) : S252 := rdT T252 xs i
@[reducible] def T208 : Ty := .prod T103 (T192)
abbrev S208 := S103 × S192
abbrev S208.f0 (x : S208) : S103 := x.1
abbrev S208.f1 (x : S208) : S192 := x.2
abbrev rd_T208 (xs : List S208) (i : Int) : S208 := rdT T208 xs i
@[reducible] def T89 : Ty := .prod (.list (.int .i64)) ((.list (.int .i64)))
abbrev S89 := (List Int) × (List Int)
abbrev S89.f0 (x : S89) : List Int := x.1
abbrev S89.f1 (x : S89) : List Int := x.2
abbrev rd_T89 (xs : List S89) (i : Int) : S89 := rdT T89 xs i
@[reducible] def T257 : Ty := .prod (.int .i64) (T79)
abbrev S257 := Int × S79
abbrev S257.f0 (x : S257) : Int := x.1
abbrev S257.f1 (x : S257) : S79 := x.2
abbrev rd_T257 (xs : List S257) (i : Int) : S257 := rdT T257 xs i
@[reducible] def T308 : Ty := .prod (.int .i64) (.prod .bool (.bool))
abbrev S308 := Int × Bool × Bool
abbrev S308.f0 (x : S308) : Int := x.1
abbrev S308.f1 (x : S308) : Bool := x.2.1
abbrev S308.f2 (x : S308) : Bool := x.2.2
abbrev rd_T308 (xs : List S308) (i : Int) : S308 := rdT T308 xs i
@[reducible] def T10089 : Ty := .prod (.rl (.int .i64)) ((.rl (.int .i64)))
abbrev S10089 := (List Int × List Int) × (List Int × List Int)
abbrev S10089.f0 (x : S10089) : (List Int × List Int) := x.1
abbrev S10089.f1 (x : S10089) : (List Int × List Int) := x.2
abbrev rd_T10089 (xs : List S10089) (i : Int) : S10089 := rdT T10089 xs i
@[reducible] def T269 : Ty := .prod (.int .u64) ((.int .u64))
abbrev S269 := Int × Int
abbrev S269.f0 (x : S269) : Int := x.1
abbrev S269.f1 (x : S269) : Int := x.2
abbrev rd_T269 (xs : List S269) (i : Int) : S269 := rdT T269 xs i
@[reducible] def T271 : Ty := .prod T269 (.bool)
abbrev S271 := S269 × Bool
abbrev S271.f0 (x : S271) : S269 := x.1
abbrev S271.f1 (x : S271) : Bool := x.2
abbrev rd_T271 (xs : List S271) (i : Int) : S271 := rdT T271 xs i
@[reducible] def T105 : Ty := .prod (.list T208) (T103)
abbrev S105 := (List S208) × S103
abbrev S105.f0 (x : S105) : List S208 := x.1
abbrev S105.f1 (x : S105) : S103 := x.2
abbrev rd_T105 (xs : List S105) (i : Int) : S105 := rdT T105 xs i
@[reducible] def T277 : Ty := .prod (.int .u64) ((.int .u64))
abbrev S277 := Int × Int
abbrev S277.f0 (x : S277) : Int := x.1
abbrev S277.f1 (x : S277) : Int := x.2
abbrev rd_T277 (xs : List S277) (i : Int) : S277 := rdT T277 xs i
def wk10084 (x : S10084) : S84 := (x.f0, x.f1, x.f2.1)
def wk10081 (x : S10081) : S81 := (x.f0, x.f1, x.f2, x.f3.1)
def wk10079 (x : S10079) : S79 := (x.f0, x.f1, x.f2.1, x.f3.1, x.f4, x.f5, (List.map wk10081 x.f6))
def wk10076 (x : S10076) : S76 := (x.f0, (List.map wk10084 x.f1), (List.map wk10079 x.f2))
def wk10072 (x : S10072) : S72 := (x.f0.1, x.f1.1, x.f2.1)
@[reducible] def A2 : Ty := .alt (.fn 74 [] .bool) .fz
abbrev DA2 := Bool ⊕ Unit
@[reducible] def A3 : Ty := .alt (.fn 73 [] .bool) A2
abbrev DA3 := Bool ⊕ DA2
@[reducible] def A4 : Ty := .alt (.fn 72 [] .bool) A3
abbrev DA4 := Bool ⊕ DA3
@[reducible] def A5 : Ty := .alt (.fn 71 [] .bool) A4
abbrev DA5 := Bool ⊕ DA4
@[reducible] def A6 : Ty := .alt (.fn 70 [] .bool) A5
abbrev DA6 := Bool ⊕ DA5
@[reducible] def A7 : Ty := .alt (.fn 69 [] .bool) A6
abbrev DA7 := Bool ⊕ DA6
@[reducible] def A8 : Ty := .alt (.fn 68 [] .bool) A7
abbrev DA8 := Bool ⊕ DA7
@[reducible] def A9 : Ty := .alt (.fn 67 [] .bool) A8
abbrev DA9 := Bool ⊕ DA8
@[reducible] def A0 : Ty := .alt (.fn 66 [] .bool) A9
abbrev DA0 := Bool ⊕ DA9
@[reducible] def A10 : Ty := .alt (.fn 89 [(false, 1)] (.ref T26)) .fz
abbrev DA10 := S26 ⊕ Unit
@[reducible] def A11 : Ty := .alt (.fn 87 [] .bool) A10
abbrev DA11 := Bool ⊕ DA10
@[reducible] def A12 : Ty := .alt (.fn 85 [(false, 1)] (.ref T26)) A11
abbrev DA12 := S26 ⊕ DA11
@[reducible] def A13 : Ty := .alt (.fn 84 [(false, 1)] (.ref T26)) A12
abbrev DA13 := S26 ⊕ DA12
@[reducible] def A1 : Ty := .alt (.fn 83 [] .bool) A13
abbrev DA1 := Bool ⊕ DA13
def TT0 : TT := [(2, ⟨1, 8, [.i .i64 0], .int .i64, some (.int .i64)⟩),
  (3, ⟨1, 8, [.i .i64 0], .int .i64, some (.int .i64)⟩),
  (4, ⟨1, 1, [.b false], .bool, some .bool⟩),
  (5, ⟨1, 1, [.i .u8 0], .int .u8, some (.int .u8)⟩),
  (9, ⟨1, 16, [.s ⟨#[]⟩], .str, some .str⟩),
  (22, ⟨1, 24, [.nl], .slice 9, some (.list .str)⟩),
  (23, ⟨1, 24, [.nl], .slice 86, some (.list T86)⟩),
  (24, ⟨1, 24, [.nl], .slice 76, some (.list T76)⟩),
  (26, ⟨4, 96, [.nl, .nl, .nl, .nl], .struct [(0, 22), (1, 23), (2, 22), (3, 24)], some T26⟩),
  (29, ⟨1, 8, [.i .i64 0], .int .i64, some (.int .i64)⟩),
  (30, ⟨1, 8, [.nf], .func, none⟩),
  (41, ⟨1, 1, [.i .u8 0], .int .u8, some (.int .u8)⟩),
  (43, ⟨4, 32, [.i .i64 0, .i .i64 0, .i .u8 0, .i .i64 0], .struct [(0, 3), (1, 3), (2, 41), (3, 3)], some T43⟩),
  (51, ⟨1, 24, [.nl], .slice 22, some (.list (.list .str))⟩),
  (69, ⟨1, 24, [.nl], .slice 43, some (.list T43)⟩),
  (70, ⟨1, 24, [.nl], .slice 151, some (.list T151)⟩),
  (73, ⟨1, 24, [.nl], .slice 84, some (.list T84)⟩),
  (74, ⟨1, 24, [.nl], .slice 79, some (.list T79)⟩),
  (76, ⟨3, 64, [.s ⟨#[]⟩, .nl, .nl], .struct [(0, 9), (1, 73), (2, 74)], some T76⟩),
  (77, ⟨1, 24, [.nl], .slice 81, some (.list T81)⟩),
  (79, ⟨7, 104, [.i .i64 0, .i .i64 0, .nl, .nl, .i .i64 0, .b false, .nl], .struct [(0, 3), (1, 3), (2, 69), (3, 70), (4, 3), (5, 4), (6, 77)], some T79⟩),
  (81, ⟨4, 48, [.i .i64 0, .i .i64 0, .i .i64 0, .nl], .struct [(0, 3), (1, 3), (2, 3), (3, 70)], some T81⟩),
  (82, ⟨1, 1, [.i .u8 0], .int .u8, some (.int .u8)⟩),
  (84, ⟨3, 48, [.s ⟨#[]⟩, .i .u8 0, .nl], .struct [(0, 9), (1, 82), (2, 69)], some T84⟩),
  (86, ⟨4, 40, [.s ⟨#[]⟩, .i .i64 0, .i .i64 0, .i .i64 0], .struct [(0, 9), (1, 3), (2, 3), (3, 3)], some T86⟩),
  (87, ⟨1, 24, [.nl], .slice 3, some (.list (.int .i64))⟩),
  (91, ⟨1, 24, [.nl], .slice 192, some (.list T192)⟩),
  (98, ⟨1, 24, [.nl], .slice 103, some (.list T103)⟩),
  (101, ⟨1, 24, [.nl], .slice 208, some (.list T208)⟩),
  (103, ⟨2, 16, [.i .i64 0, .i .i64 0], .struct [(0, 2), (1, 2)], some T103⟩),
  (105, ⟨3, 40, [.nl, .i .i64 0, .i .i64 0], .struct [(0, 101), (1, 103)], some T105⟩),
  (123, ⟨1, 24, [.nl], .slice 30, none⟩),
  (149, ⟨1, 1, [.i .u8 0], .int .u8, some (.int .u8)⟩),
  (151, ⟨2, 16, [.i .u8 0, .i .i64 0], .struct [(0, 149), (1, 3)], some T151⟩),
  (157, ⟨2, 32, [.np, .nl], .struct [(0, 154), (1, 155)], none⟩),
  (192, ⟨4, 32, [.i .i64 0, .i .i64 0, .i .i64 0, .i .i64 0], .struct [(0, 3), (1, 3), (2, 3), (3, 3)], some T192⟩),
  (193, ⟨1, 24, [.nl], .slice 257, some (.list T257)⟩),
  (208, ⟨6, 48, [.i .i64 0, .i .i64 0, .i .i64 0, .i .i64 0, .i .i64 0, .i .i64 0], .struct [(0, 103), (2, 192)], some T208⟩),
  (257, ⟨8, 112, [.i .i64 0, .i .i64 0, .i .i64 0, .nl, .nl, .i .i64 0, .b false, .nl], .struct [(0, 3), (1, 79)], some T257⟩),
  (267, ⟨1, 8, [.i .u64 0], .int .u64, some (.int .u64)⟩),
  (269, ⟨2, 16, [.i .u64 0, .i .u64 0], .struct [(0, 267), (1, 267)], some T269⟩),
  (271, ⟨3, 24, [.i .u64 0, .i .u64 0, .b false], .struct [(0, 269), (2, 4)], some T271⟩),
  (277, ⟨2, 16, [.i .u64 0, .i .u64 0], .struct [(0, 267), (1, 267)], some T277⟩),
  (291, ⟨1, 8, [.nm], .smap, none⟩),
  (296, ⟨5, 40, [.i .i64 0, .b false, .b false, .s ⟨#[]⟩, .i .i64 0], .struct [(0, 3), (1, 4), (2, 4), (3, 9), (4, 3)], some T296⟩),
  (331, ⟨1, 1, [.i .u8 0], .int .u8, some (.int .u8)⟩),
  (335, ⟨16, 256, [.s ⟨#[]⟩, .s ⟨#[]⟩, .s ⟨#[]⟩, .s ⟨#[]⟩, .s ⟨#[]⟩, .s ⟨#[]⟩, .s ⟨#[]⟩, .s ⟨#[]⟩, .s ⟨#[]⟩, .s ⟨#[]⟩, .s ⟨#[]⟩, .s ⟨#[]⟩, .s ⟨#[]⟩, .s ⟨#[]⟩, .s ⟨#[]⟩, .s ⟨#[]⟩], .arr 16 9, some (.prod .str (.prod .str (.prod .str (.prod .str (.prod .str (.prod .str (.prod .str (.prod .str (.prod .str (.prod .str (.prod .str (.prod .str (.prod .str (.prod .str (.prod .str .str)))))))))))))))⟩),
  (337, ⟨75, 600, [.i .i64 0, .b false, .b false, .s ⟨#[]⟩, .i .i64 0, .i .i64 0, .b false, .b false, .s ⟨#[]⟩, .i .i64 0, .i .i64 0, .b false, .b false, .s ⟨#[]⟩, .i .i64 0, .i .i64 0, .b false, .b false, .s ⟨#[]⟩, .i .i64 0, .i .i64 0, .b false, .b false, .s ⟨#[]⟩, .i .i64 0, .i .i64 0, .b false, .b false, .s ⟨#[]⟩, .i .i64 0, .i .i64 0, .b false, .b false, .s ⟨#[]⟩, .i .i64 0, .i .i64 0, .b false, .b false, .s ⟨#[]⟩, .i .i64 0, .i .i64 0, .b false, .b false, .s ⟨#[]⟩, .i .i64 0, .i .i64 0, .b false, .b false, .s ⟨#[]⟩, .i .i64 0, .i .i64 0, .b false, .b false, .s ⟨#[]⟩, .i .i64 0, .i .i64 0, .b false, .b false, .s ⟨#[]⟩, .i .i64 0, .i .i64 0, .b false, .b false, .s ⟨#[]⟩, .i .i64 0, .i .i64 0, .b false, .b false, .s ⟨#[]⟩, .i .i64 0, .i .i64 0, .b false, .b false, .s ⟨#[]⟩, .i .i64 0], .arr 15 296, some (.prod T296 (.prod T296 (.prod T296 (.prod T296 (.prod T296 (.prod T296 (.prod T296 (.prod T296 (.prod T296 (.prod T296 (.prod T296 (.prod T296 (.prod T296 (.prod T296 T296))))))))))))))⟩),
  (353, ⟨1, 8, [.i .u64 0], .int .u64, some (.int .u64)⟩)]
def TT1 : TT := [(2, ⟨1, 8, [.i .i64 0], .int .i64, some (.int .i64)⟩),
  (3, ⟨1, 8, [.i .i64 0], .int .i64, some (.int .i64)⟩),
  (91, ⟨1, 24, [.nl], .slice 192, some (.rl T192)⟩),
  (98, ⟨1, 24, [.nl], .slice 103, some (.rl T103)⟩),
  (103, ⟨2, 16, [.i .i64 0, .i .i64 0], .struct [(0, 2), (1, 2)], some T103⟩),
  (192, ⟨4, 32, [.i .i64 0, .i .i64 0, .i .i64 0, .i .i64 0], .struct [(0, 3), (1, 3), (2, 3), (3, 3)], some T192⟩)]
def CM0 : List (Nat × Ty) := [(103, T103), (192, T192), (208, T208), (277, T277)]
def lex_kept : List ByteArray := [(⟨#[99, 108, 111, 99, 107]⟩ : ByteArray), (⟨#[105, 110, 116]⟩ : ByteArray), (⟨#[99, 104, 97, 110]⟩ : ByteArray), (⟨#[97, 117, 116, 111]⟩ : ByteArray), (⟨#[108, 111, 99]⟩ : ByteArray), (⟨#[101, 100, 103, 101]⟩ : ByteArray), (⟨#[105, 110]⟩ : ByteArray), (⟨#[105, 110, 118]⟩ : ByteArray), (⟨#[119, 104, 101, 110]⟩ : ByteArray), (⟨#[115, 121, 110, 99]⟩ : ByteArray), (⟨#[100, 111]⟩ : ByteArray), (⟨#[117, 114, 103, 101, 110, 116]⟩ : ByteArray), (⟨#[99, 111, 109, 109, 105, 116, 116, 101, 100]⟩ : ByteArray), (⟨#[116, 114, 117, 101]⟩ : ByteArray), (⟨#[114, 101, 97, 99, 104]⟩ : ByteArray), (⟨#[110, 101, 118, 101, 114]⟩ : ByteArray)]
def expr_kinds : List S296 := [(⟨0, false, false, (⟨#[]⟩ : ByteArray), 0⟩ : S296), (⟨0, false, false, (⟨#[]⟩ : ByteArray), 9⟩ : S296), (⟨0, false, false, (⟨#[]⟩ : ByteArray), 9⟩ : S296), (⟨1, false, false, (⟨#[45]⟩ : ByteArray), 6⟩ : S296), (⟨2, false, false, (⟨#[43]⟩ : ByteArray), 4⟩ : S296), (⟨2, false, false, (⟨#[45]⟩ : ByteArray), 4⟩ : S296), (⟨2, false, false, (⟨#[42]⟩ : ByteArray), 5⟩ : S296), (⟨0, true, false, (⟨#[116, 114, 117, 101]⟩ : ByteArray), 9⟩ : S296), (⟨2, true, false, (⟨#[60]⟩ : ByteArray), 3⟩ : S296), (⟨2, true, false, (⟨#[60, 61]⟩ : ByteArray), 3⟩ : S296), (⟨2, true, false, (⟨#[61, 61]⟩ : ByteArray), 3⟩ : S296), (⟨2, true, false, (⟨#[33, 61]⟩ : ByteArray), 3⟩ : S296), (⟨1, true, true, (⟨#[33]⟩ : ByteArray), 9⟩ : S296), (⟨2, true, true, (⟨#[38, 38]⟩ : ByteArray), 2⟩ : S296), (⟨2, true, true, (⟨#[124, 124]⟩ : ByteArray), 1⟩ : S296)]
def GL0 : GT := fun g => bif Nat.beq g 0 then some (.tab .str lex_kept) else bif Nat.beq g 1 then some (.tab T296 expr_kinds) else bif Nat.beq g 3 then some (.arr .u64 Lib.pow10Tab) else none
def math_bits_Add64.f (x y c : Int) : Option (Int × Int) := if 0 ≤ x ∧ 0 ≤ y ∧ 0 ≤ c ∧ c ≤ 1 then some ((x + y + c) % 18446744073709551616, (x + y + c) / 18446744073709551616) else none
def math_bits_Add64.ce : CallE := ⟨[⟨false, .int .u64⟩, ⟨false, .int .u64⟩, ⟨false, .int .u64⟩], [⟨false, [.v (.int .u64)]⟩, ⟨false, [.v (.int .u64)]⟩], fun (x : Int × Int × Int) => math_bits_Add64.f x.1 x.2.1 x.2.2⟩
theorem math_bits_Add64.ok (k : Nat) : ExtOK Tryz.prog 319 math_bits_Add64.ce := by
  intro x r hx w J args hargs
  have hx : math_bits_Add64.f x.1 x.2.1 x.2.2 = some r := hx
  obtain ⟨a, b, c⟩ := x
  unfold math_bits_Add64.f at hx
  split at hx
  · rename_i hb
    cases hx
    obtain ⟨u, q, rfl, hu, u2, q2, rfl, hu2, u3, rfl, hu3⟩ := hargs
    have e1 : [u] = [Value.int .u64 a] := hu
    have e2 : [u2] = [Value.int .u64 b] := hu2
    have e3 : [u3] = [Value.int .u64 c] := hu3
    simp only [List.cons.injEq, and_true] at e1 e2 e3
    subst e1; subst e2; subst e3
    refine ⟨.tuple #[.int .u64 ((a + b + c) % 18446744073709551616), .int .u64 ((a + b + c) / 18446744073709551616)], ?_, J, [.int .u64 ((a + b + c) % 18446744073709551616), .int .u64 ((a + b + c) / 18446744073709551616)], [], [.int .u64 ((a + b + c) % 18446744073709551616), .int .u64 ((a + b + c) / 18446744073709551616)], fun b h => .inl h, ⟨[_], [_], rfl, rfl, rfl, rfl⟩, List.nodup_nil, ⟨[_], [_], _, [_], rfl, rfl, rfl, rfl, [_], [], _, [], rfl, rfl, rfl, rfl, rfl, rfl⟩, rfl⟩
    have h1 := run_callFunc_extern Tryz.func319 (by kernel_rfl) (by kernel_rfl) (by kernel_rfl) (e := add64Entry) (by kernel_rfl) #[.int .u64 a, .int .u64 b, .int .u64 c] w
    rw [run_add64 a b c hb.1 hb.2.1 hb.2.2.1 hb.2.2.2] at h1
    exact h1
  · cases hx
def math_bits_Sub64.f (x y c : Int) : Option (Int × Int) := if 0 ≤ x ∧ 0 ≤ y ∧ 0 ≤ c ∧ c ≤ 1 then some ((((x.toNat + 18446744073709551616 - y.toNat - c.toNat) % 18446744073709551616 : Nat) : Int), ((if x.toNat < y.toNat + c.toNat then 1 else 0 : Nat) : Int)) else none
def math_bits_Sub64.ce : CallE := ⟨[⟨false, .int .u64⟩, ⟨false, .int .u64⟩, ⟨false, .int .u64⟩], [⟨false, [.v (.int .u64)]⟩, ⟨false, [.v (.int .u64)]⟩], fun (x : Int × Int × Int) => math_bits_Sub64.f x.1 x.2.1 x.2.2⟩
theorem math_bits_Sub64.ok (k : Nat) : ExtOK Tryz.prog 322 math_bits_Sub64.ce := by
  intro x r hx w J args hargs
  have hx : math_bits_Sub64.f x.1 x.2.1 x.2.2 = some r := hx
  obtain ⟨a, b, c⟩ := x
  unfold math_bits_Sub64.f at hx
  split at hx
  · rename_i hb
    obtain ⟨A, rfl⟩ := Int.eq_ofNat_of_zero_le hb.1
    obtain ⟨B, rfl⟩ := Int.eq_ofNat_of_zero_le hb.2.1
    obtain ⟨C, rfl⟩ := Int.eq_ofNat_of_zero_le hb.2.2.1
    simp only [Int.toNat_natCast] at hx
    cases hx
    obtain ⟨u, q, rfl, hu, u2, q2, rfl, hu2, u3, rfl, hu3⟩ := hargs
    have e1 : [u] = [Value.int .u64 (A : Int)] := hu
    have e2 : [u2] = [Value.int .u64 (B : Int)] := hu2
    have e3 : [u3] = [Value.int .u64 (C : Int)] := hu3
    simp only [List.cons.injEq, and_true] at e1 e2 e3
    subst e1; subst e2; subst e3
    generalize hX : (((A + 18446744073709551616 - B - C) % 18446744073709551616 : Nat) : Int) = X
    generalize hY : ((if A < B + C then 1 else 0 : Nat) : Int) = Y
    refine ⟨.tuple #[.int .u64 X, .int .u64 Y], ?_, J, [.int .u64 X, .int .u64 Y], [], [.int .u64 X, .int .u64 Y], fun b h => .inl h, ⟨[_], [_], rfl, rfl, rfl, rfl⟩, List.nodup_nil, ⟨[_], [_], _, [_], rfl, rfl, rfl, rfl, [_], [], _, [], rfl, rfl, rfl, rfl, rfl, rfl⟩, rfl⟩
    have h1 := run_callFunc_extern Tryz.func322 (by kernel_rfl) (by kernel_rfl) (by kernel_rfl) (e := sub64Entry) (by kernel_rfl) #[.int .u64 A, .int .u64 B, .int .u64 C] w
    have hC : (C : Int) ≤ 1 := hb.2.2.2
    rw [run_sub64 A B C (by omega) w] at h1
    rw [← hX, ← hY]
    exact h1
  · cases hx
def internal_strconv_FormatInt.f (n base : Int) : Option ByteArray := if base = 10 ∧ -9223372036854775808 ≤ n ∧ n ≤ 9223372036854775807 then some ⟨(Lib.itoa n).toArray⟩ else none
def internal_strconv_FormatInt.ce : CallE := ⟨[⟨false, .int .i64⟩, ⟨false, .int .i64⟩], [⟨false, [.v .str]⟩], fun (x : Int × Int) => internal_strconv_FormatInt.f x.1 x.2⟩
theorem internal_strconv_FormatInt.ok (k : Nat) : CallOK Tryz.prog GL0 268 internal_strconv_FormatInt.ce where
  there := ⟨_, Tryz.func268, by kernel_rfl, by kernel_rfl⟩
  calls := by
    intro x r hx w J args hJ hglob hargs
    have hx : internal_strconv_FormatInt.f x.1 x.2 = some r := hx
    obtain ⟨n, base⟩ := x
    unfold internal_strconv_FormatInt.f at hx
    split at hx
    · rename_i hb
      cases hx
      obtain ⟨v, q, rfl, hv, v2, rfl, hv2⟩ := hargs
      have hv : [v] = [Value.int .i64 n] := hv
      have hv2 : [v2] = [Value.int .i64 base] := hv2
      simp only [List.cons.injEq, and_true] at hv hv2
      subst hv; subst hv2
      obtain ⟨rfl, hb1, hb2⟩ := hb
      obtain ⟨_, e, fz, hg⟩ := hglob 3 (.arr .u64 Lib.pow10Tab) rfl
      refine (Tryz.internal_strconv_FormatInt_10 n hb1 hb2 w (by unfold Lib.TabIs World.var?; rw [show Tryz.prog.globalNamed "internal/strconv.uint64pow10" = some 3 from by kernel_rfl]; simp [hg])).mono ?_
      rintro e w' ⟨rfl, k, os, rfl⟩
      exact ⟨_, rfl, Lib.below_grow _ _ (Nat.le_refl _) _ _, J, [_], [], [_], fun b h => .inl h, ⟨rfl, rfl⟩, List.nodup_nil, ⟨[_], [], _, [], rfl, rfl, rfl, rfl, rfl, rfl⟩, rfl⟩
    · cases hx
def strconv_Itoa.f (n : Int) : Option ByteArray := if -9223372036854775808 ≤ n ∧ n ≤ 9223372036854775807 then some ⟨(Lib.itoa n).toArray⟩ else none
def strconv_Itoa.ce : CallE := ⟨[⟨false, .int .i64⟩], [⟨false, [.v .str]⟩], fun (x : Int) => strconv_Itoa.f x⟩
theorem strconv_Itoa.ok (k : Nat) : CallOK Tryz.prog GL0 112 strconv_Itoa.ce where
  there := ⟨_, Tryz.func112, by kernel_rfl, by kernel_rfl⟩
  calls := by
    intro x r hx w J args hJ hglob hargs
    have hx : strconv_Itoa.f x = some r := hx
    unfold strconv_Itoa.f at hx
    split at hx
    · rename_i hb
      cases hx
      obtain ⟨v, rfl, hv⟩ := hargs
      have hv : [v] = [Value.int .i64 x] := hv
      simp only [List.cons.injEq, and_true] at hv
      subst hv
      obtain ⟨_, e, fz, hg⟩ := hglob 3 (.arr .u64 Lib.pow10Tab) rfl
      refine (Tryz.strconv_Itoa x hb.1 hb.2 w (by unfold Lib.TabIs World.var?; rw [show Tryz.prog.globalNamed "internal/strconv.uint64pow10" = some 3 from by kernel_rfl]; simp [hg])).mono ?_
      rintro e w' ⟨rfl, k, os, rfl⟩
      exact ⟨_, rfl, Lib.below_grow _ _ (Nat.le_refl _) _ _, J, [_], [], [_], fun b h => .inl h, ⟨rfl, rfl⟩, List.nodup_nil, ⟨[_], [], _, [], rfl, rfl, rfl, rfl, rfl, rfl⟩, rfl⟩
    · cases hx
def strings_Join.f (l : List ByteArray) (sep : ByteArray) : Option ByteArray := if l.length ≤ 140737488355328 ∧ (Lib.join (l.map (·.data.toList)) sep.data.toList).length ≤ 140737488355328 then some ⟨(Lib.join (l.map (·.data.toList)) sep.data.toList).toArray⟩ else none
def strings_Join.ce : CallE := ⟨[⟨false, .list .str⟩, ⟨false, .str⟩], [⟨false, [.v .str]⟩], fun (x : List ByteArray × ByteArray) => strings_Join.f x.1 x.2⟩
theorem strings_Join.ok (k : Nat) : CallOK Tryz.prog GL0 111 strings_Join.ce where
  there := ⟨_, Tryz.func111, by kernel_rfl, by kernel_rfl⟩
  calls := by
    intro x r hx w J args hJ hglob hargs
    have hx : strings_Join.f x.1 x.2 = some r := hx
    obtain ⟨l, sep⟩ := x
    unfold strings_Join.f at hx
    split at hx
    · rename_i hb
      cases hx
      obtain ⟨v, q, rfl, hv, u, rfl, hu⟩ := hargs
      have hu : [u] = [Value.string sep] := hu
      simp only [List.cons.injEq, and_true] at hu
      subst hu
      have hv : K w J (.list .str) l [v] := hv
      obtain ⟨A, c, hv, hle, hcm, hr⟩ := hv
      simp only [List.cons.injEq, and_true] at hv
      subst hv
      have fin : ∀ (s : ByteArray) (w' : World), Below w.heap.size w w' → s = ⟨(Lib.join (l.map (·.data.toList)) sep.data.toList).toArray⟩ → ∃ v, Ending.returned (Value.string s) = .returned v ∧ Below w.heap.size w w' ∧ ResRep w.heap.size w' J [⟨false, [.v .str]⟩] (⟨(Lib.join (l.map (·.data.toList)) sep.data.toList).toArray⟩ : ByteArray) v := fun s w' hB hs => by
        subst hs
        exact ⟨_, rfl, hB, J, [_], [], [_], fun b h => .inl h, ⟨rfl, rfl⟩, List.nodup_nil, ⟨[_], [], _, [], rfl, rfl, rfl, rfl, rfl, rfl⟩, rfl⟩
      by_cases hl : l = []
      · subst hl
        refine (Tryz.strings_Join_none A c sep w).mono ?_
        rintro e w' ⟨rfl, rfl⟩
        exact fin _ _ (Below.refl _ _) rfl
      · rcases hr with hr | ⟨a, rfl, ⟨hI, hs⟩, hall⟩
        · exact absurd hr hl
        · obtain ⟨b, o, sp⟩ := a
          simp only at hs
          subst hs
          refine (Tryz.strings_Join b o c l sep w (fun j x hx => ?_) (hJ _ hI) hb.1 hle hb.2).mono ?_
          · obtain ⟨d, hd, hc⟩ := hall j x hx
            have hd : d = [Value.string x] := hd
            subst hd
            have := hc 0 _ rfl
            rw [add_add, add_mk] at this
            simpa [Ty.sz] using this
          · rintro e w' ⟨rfl, hB⟩
            exact fin _ _ hB rfl
    · cases hx
def BLD0 : Option BldC := some ⟨[(157, 0), (159, 4)], 5, 217, 116⟩
section
variable [Wr]
/-! ### net_some_1: function 196 -/
def net_some_1.f (l0_0 : ByteArray) (l0_1 : List S84) (l0_2 : List S79) : Option Bool := (some (decide ((l0_1.length : Int) = 0)))
def net_some_1.ce : CallE := ⟨[⟨true, T76⟩], [⟨false, [.v .bool]⟩], fun (x : S76) => net_some_1.f x.f0 x.f1 x.f2⟩
def net_some_1.F : Fam (RT.dens (net_some_1.ce).rts) := ⟨fun k => ⟨TT0, GL0, callT [], cmpT CM0, [], BLD0, ioT []⟩, []⟩
theorem net_some_1.is (k : Nat) (x : AT.dens (net_some_1.ce).ats) : (net_some_1.ce).fn x = den net_some_1.F k (bodyOf Tryz.f196) (startAS (net_some_1.ce).ats x) (retK (net_some_1.F.c k) Tryz.f196.results.toList (net_some_1.ce).rts) := by kernel_rfl
theorem net_some_1.ob : Obl net_some_1.F (bodyOf Tryz.f196) (fun k => retK (net_some_1.F.c k) Tryz.f196.results.toList (net_some_1.ce).rts) := obl_of (by kernel_rfl)
/-! ### slices_IndexFunc_api_Auto_api_Auto_at196: function 193 -/
def slices_IndexFunc_api_Auto_api_Auto_at196.l0 : Nat → (List S76) → Bool → Int → Int → Option Int
 | 0, _, _, _, _ => none
 | k + 1, x0, x1, x7, x8 => if x8 < x7 then (if 0 ≤ x8 then (if x8 < (x0.length : Int) then ((net_some_1.f ((rd_T76 x0 x8).f0) ((rd_T76 x0 x8).f1) ((rd_T76 x0 x8).f2)).bind fun t1 => (if t1 = true then (some x8) else (slices_IndexFunc_api_Auto_api_Auto_at196.l0 k x0 x1 x7 (w64 (x8 + 1))))) else (none)) else (none)) else (some (-1))
def slices_IndexFunc_api_Auto_api_Auto_at196.f (k : Nat) (a0 : List S76) (a1 : Bool) : Option Int := slices_IndexFunc_api_Auto_api_Auto_at196.l0 k a0 a1 (a0.length : Int) 0
def slices_IndexFunc_api_Auto_api_Auto_at196.ce (k : Nat) : CallE := ⟨[⟨false, (.list T76)⟩, ⟨false, (.fn 196 [] .bool)⟩], [⟨false, [.v (.int .i64)]⟩], fun (x : (List S76) × Bool) => slices_IndexFunc_api_Auto_api_Auto_at196.f k x.1 x.2⟩
def slices_IndexFunc_api_Auto_api_Auto_at196.F : Fam (RT.dens (slices_IndexFunc_api_Auto_api_Auto_at196.ce 0).rts) := ⟨fun k => ⟨TT0, GL0, callT [(196, [], net_some_1.ce)], cmpT CM0, [], BLD0, ioT []⟩, [(3, ⟨⟨[(0, .v false (.list T76)), (1, .v false (.fn 196 [] .bool)), (7, .v false (.int .i64)), (8, .v false (.int .i64))], []⟩, fun k s => slices_IndexFunc_api_Auto_api_Auto_at196.l0 k s.1.1 s.1.2.1 s.1.2.2.1 s.1.2.2.2.1⟩)]⟩
theorem slices_IndexFunc_api_Auto_api_Auto_at196.is (k : Nat) (x : AT.dens (slices_IndexFunc_api_Auto_api_Auto_at196.ce 0).ats) : (slices_IndexFunc_api_Auto_api_Auto_at196.ce k).fn x = den slices_IndexFunc_api_Auto_api_Auto_at196.F k (bodyOf Tryz.f193) (startAS (slices_IndexFunc_api_Auto_api_Auto_at196.ce 0).ats x) (retK (slices_IndexFunc_api_Auto_api_Auto_at196.F.c k) Tryz.f193.results.toList (slices_IndexFunc_api_Auto_api_Auto_at196.ce 0).rts) := by kernel_rfl
theorem slices_IndexFunc_api_Auto_api_Auto_at196.ob : Obl slices_IndexFunc_api_Auto_api_Auto_at196.F (bodyOf Tryz.f193) (fun k => retK (slices_IndexFunc_api_Auto_api_Auto_at196.F.c k) Tryz.f193.results.toList (slices_IndexFunc_api_Auto_api_Auto_at196.ce 0).rts) := obl_of (by kernel_rfl)
/-! ### slices_ContainsFunc_api_Auto_api_Auto_at196: function 195 -/
def slices_ContainsFunc_api_Auto_api_Auto_at196.f (k : Nat) (a0 : List S76) (a1 : Bool) : Option Bool := (slices_IndexFunc_api_Auto_api_Auto_at196.f k a0 a1).bind fun t1 => (some (decide (t1 ≥ 0)))
def slices_ContainsFunc_api_Auto_api_Auto_at196.ce (k : Nat) : CallE := ⟨[⟨false, (.list T76)⟩, ⟨false, (.fn 196 [] .bool)⟩], [⟨false, [.v .bool]⟩], fun (x : (List S76) × Bool) => slices_ContainsFunc_api_Auto_api_Auto_at196.f k x.1 x.2⟩
def slices_ContainsFunc_api_Auto_api_Auto_at196.F : Fam (RT.dens (slices_ContainsFunc_api_Auto_api_Auto_at196.ce 0).rts) := ⟨fun k => ⟨TT0, GL0, callT [(193, [196], slices_IndexFunc_api_Auto_api_Auto_at196.ce k)], cmpT CM0, [], BLD0, ioT []⟩, []⟩
theorem slices_ContainsFunc_api_Auto_api_Auto_at196.is (k : Nat) (x : AT.dens (slices_ContainsFunc_api_Auto_api_Auto_at196.ce 0).ats) : (slices_ContainsFunc_api_Auto_api_Auto_at196.ce k).fn x = den slices_ContainsFunc_api_Auto_api_Auto_at196.F k (bodyOf Tryz.f195) (startAS (slices_ContainsFunc_api_Auto_api_Auto_at196.ce 0).ats x) (retK (slices_ContainsFunc_api_Auto_api_Auto_at196.F.c k) Tryz.f195.results.toList (slices_ContainsFunc_api_Auto_api_Auto_at196.ce 0).rts) := by kernel_rfl
theorem slices_ContainsFunc_api_Auto_api_Auto_at196.ob : Obl slices_ContainsFunc_api_Auto_api_Auto_at196.F (bodyOf Tryz.f195) (fun k => retK (slices_ContainsFunc_api_Auto_api_Auto_at196.F.c k) Tryz.f195.results.toList (slices_ContainsFunc_api_Auto_api_Auto_at196.ce 0).rts) := obl_of (by kernel_rfl)
/-! ### net_some: function 66 -/
def net_some.f (k : Nat) (l0_0 : List ByteArray) (l0_1 : List S86) (l0_2 : List ByteArray) (l0_3 : List S76) : Option Int := if (l0_3.length : Int) = 0 then (some 2) else ((slices_ContainsFunc_api_Auto_api_Auto_at196.f k l0_3 false).bind fun t1 => (if t1 = true then (some 2) else (some 0)))
def net_some.ce (k : Nat) : CallE := ⟨[⟨true, T26⟩], [⟨false, [.v (.int .i64)]⟩], fun (x : S26) => net_some.f k x.f0 x.f1 x.f2 x.f3⟩
def net_some.F : Fam (RT.dens (net_some.ce 0).rts) := ⟨fun k => ⟨TT0, GL0, callT [(195, [196], slices_ContainsFunc_api_Auto_api_Auto_at196.ce k)], cmpT CM0, [], BLD0, ioT []⟩, []⟩
theorem net_some.is (k : Nat) (x : AT.dens (net_some.ce 0).ats) : (net_some.ce k).fn x = den net_some.F k (bodyOf Tryz.f66) (startAS (net_some.ce 0).ats x) (retK (net_some.F.c k) Tryz.f66.results.toList (net_some.ce 0).rts) := by kernel_rfl
theorem net_some.ob : Obl net_some.F (bodyOf Tryz.f66) (fun k => retK (net_some.F.c k) Tryz.f66.results.toList (net_some.ce 0).rts) := obl_of (by kernel_rfl)
/-! ### net_sizes: function 67 -/
mutual
def net_sizes.j0 : Nat → (List ByteArray) → (List S86) → (List ByteArray) → (List S76) → Option Int
 | 0, _, _, _, _ => none
 | k + 1, x1_0, x1_1, x1_2, x1_3 => net_sizes.l1 k x1_3 (x1_3.length : Int) 0
def net_sizes.l1 : Nat → (List S76) → Int → Int → Option Int
 | 0, _, _, _ => none
 | k + 1, x34, x35, x36 => if x36 < x35 then (if 0 ≤ x36 then (if x36 < (x34.length : Int) then (if (((rd_T76 x34 x36).f1).length : Int) > 64 then (some 6) else (if (((rd_T76 x34 x36).f2).length : Int) > 256 then (some 6) else (net_sizes.j2 k x34 x35 x36 ((rd_T76 x34 x36).f0) ((rd_T76 x34 x36).f1) ((rd_T76 x34 x36).f2)))) else (none)) else (none)) else (some 0)
def net_sizes.j2 : Nat → (List S76) → Int → Int → ByteArray → (List S84) → (List S79) → Option Int
 | 0, _, _, _, _, _, _ => none
 | k + 1, x34, x35, x36, x4_0, x4_1, x4_2 => net_sizes.l3 k x34 x35 x36 x4_1 (x4_1.length : Int) 0 x4_0 x4_1 x4_2
def net_sizes.l3 : Nat → (List S76) → Int → Int → (List S84) → Int → Int → ByteArray → (List S84) → (List S79) → Option Int
 | 0, _, _, _, _, _, _, _, _, _ => none
 | k + 1, x34, x35, x36, x51, x52, x53, x4_0, x4_1, x4_2 => if x53 < x52 then (if 0 ≤ x53 then (if x53 < (x51.length : Int) then (if (((rd_T84 x51 x53).f2).length : Int) > 16 then (some 6) else (net_sizes.l3 k x34 x35 x36 x51 x52 (w64 (x53 + 1)) x4_0 x4_1 x4_2)) else (none)) else (none)) else (net_sizes.l4 k x34 x35 x36 x4_2 (x4_2.length : Int) 0)
def net_sizes.l4 : Nat → (List S76) → Int → Int → (List S79) → Int → Int → Option Int
 | 0, _, _, _, _, _, _ => none
 | k + 1, x34, x35, x36, x63, x64, x65 => if x65 < x64 then (if 0 ≤ x65 then (if x65 < (x63.length : Int) then (if (((rd_T79 x63 x65).f2).length : Int) > 16 then (some 6) else (if (((rd_T79 x63 x65).f6).length : Int) > 16 then (some 6) else (if (((rd_T79 x63 x65).f3).length : Int) > 64 then (some 6) else (net_sizes.j5 k x34 x35 x36 x63 x64 x65 ((rd_T79 x63 x65).f0) ((rd_T79 x63 x65).f1) ((rd_T79 x63 x65).f2) ((rd_T79 x63 x65).f3) ((rd_T79 x63 x65).f4) ((rd_T79 x63 x65).f5) ((rd_T79 x63 x65).f6))))) else (none)) else (none)) else (net_sizes.l1 k x34 x35 (w64 (x36 + 1)))
def net_sizes.j5 : Nat → (List S76) → Int → Int → (List S79) → Int → Int → Int → Int → (List S43) → (List S151) → Int → Bool → (List S81) → Option Int
 | 0, _, _, _, _, _, _, _, _, _, _, _, _, _ => none
 | k + 1, x34, x35, x36, x63, x64, x65, x8_0, x8_1, x8_2, x8_3, x8_4, x8_5, x8_6 => net_sizes.l6 k x34 x35 x36 x63 x64 x65 x8_6 (x8_6.length : Int) 0
def net_sizes.l6 : Nat → (List S76) → Int → Int → (List S79) → Int → Int → (List S81) → Int → Int → Option Int
 | 0, _, _, _, _, _, _, _, _, _ => none
 | k + 1, x34, x35, x36, x63, x64, x65, x86, x87, x88 => if x88 < x87 then (if 0 ≤ x88 then (if x88 < (x86.length : Int) then (if (((rd_T81 x86 x88).f3).length : Int) > 64 then (some 6) else (net_sizes.l6 k x34 x35 x36 x63 x64 x65 x86 x87 (w64 (x88 + 1)))) else (none)) else (none)) else (net_sizes.l4 k x34 x35 x36 x63 x64 (w64 (x65 + 1)))
end
def net_sizes.f (k : Nat) (l0_0 : List ByteArray) (l0_1 : List S86) (l0_2 : List ByteArray) (l0_3 : List S76) : Option Int := if (l0_0.length : Int) > 8 then (some 6) else (if (l0_1.length : Int) > 16 then (some 6) else (if (l0_2.length : Int) > 16 then (some 6) else (if (l0_3.length : Int) > 8 then (some 6) else (net_sizes.j0 k l0_0 l0_1 l0_2 l0_3))))
def net_sizes.ce (k : Nat) : CallE := ⟨[⟨true, T26⟩], [⟨false, [.v (.int .i64)]⟩], fun (x : S26) => net_sizes.f k x.f0 x.f1 x.f2 x.f3⟩
def net_sizes.F : Fam (RT.dens (net_sizes.ce 0).rts) := ⟨fun k => ⟨TT0, GL0, callT [], cmpT CM0, [], BLD0, ioT []⟩, [(1000004, ⟨⟨[(1, .k (.ptr 64 0))], [(64, [.v (.list .str), .v (.list T86), .v (.list .str), .v (.list T76)])]⟩, fun k s => net_sizes.j0 k s.2.1.1 s.2.1.2.1 s.2.1.2.2.1 s.2.1.2.2.2.1⟩), (5, ⟨⟨[(34, .v false (.list T76)), (35, .v false (.int .i64)), (36, .v false (.int .i64))], []⟩, fun k s => net_sizes.l1 k s.1.1 s.1.2.1 s.1.2.2.1⟩), (1000009, ⟨⟨[(4, .k (.ptr 256 0)), (34, .v false (.list T76)), (35, .v false (.int .i64)), (36, .v false (.int .i64))], [(256, [.v .str, .v (.list T84), .v (.list T79)])]⟩, fun k s => net_sizes.j2 k s.1.1 s.1.2.1 s.1.2.2.1 s.2.1.1 s.2.1.2.1 s.2.1.2.2.1⟩), (10, ⟨⟨[(4, .k (.ptr 256 0)), (34, .v false (.list T76)), (35, .v false (.int .i64)), (36, .v false (.int .i64)), (51, .v false (.list T84)), (52, .v false (.int .i64)), (53, .v false (.int .i64))], [(256, [.v .str, .v (.list T84), .v (.list T79)])]⟩, fun k s => net_sizes.l3 k s.1.1 s.1.2.1 s.1.2.2.1 s.1.2.2.2.1 s.1.2.2.2.2.1 s.1.2.2.2.2.2.1 s.2.1.1 s.2.1.2.1 s.2.1.2.2.1⟩), (16, ⟨⟨[(34, .v false (.list T76)), (35, .v false (.int .i64)), (36, .v false (.int .i64)), (63, .v false (.list T79)), (64, .v false (.int .i64)), (65, .v false (.int .i64))], []⟩, fun k s => net_sizes.l4 k s.1.1 s.1.2.1 s.1.2.2.1 s.1.2.2.2.1 s.1.2.2.2.2.1 s.1.2.2.2.2.2.1⟩), (1000020, ⟨⟨[(8, .k (.ptr 512 0)), (34, .v false (.list T76)), (35, .v false (.int .i64)), (36, .v false (.int .i64)), (63, .v false (.list T79)), (64, .v false (.int .i64)), (65, .v false (.int .i64))], [(512, [.v (.int .i64), .v (.int .i64), .v (.list T43), .v (.list T151), .v (.int .i64), .v .bool, .v (.list T81)])]⟩, fun k s => net_sizes.j5 k s.1.1 s.1.2.1 s.1.2.2.1 s.1.2.2.2.1 s.1.2.2.2.2.1 s.1.2.2.2.2.2.1 s.2.1.1 s.2.1.2.1 s.2.1.2.2.1 s.2.1.2.2.2.1 s.2.1.2.2.2.2.1 s.2.1.2.2.2.2.2.1 s.2.1.2.2.2.2.2.2.1⟩), (21, ⟨⟨[(34, .v false (.list T76)), (35, .v false (.int .i64)), (36, .v false (.int .i64)), (63, .v false (.list T79)), (64, .v false (.int .i64)), (65, .v false (.int .i64)), (86, .v false (.list T81)), (87, .v false (.int .i64)), (88, .v false (.int .i64))], []⟩, fun k s => net_sizes.l6 k s.1.1 s.1.2.1 s.1.2.2.1 s.1.2.2.2.1 s.1.2.2.2.2.1 s.1.2.2.2.2.2.1 s.1.2.2.2.2.2.2.1 s.1.2.2.2.2.2.2.2.1 s.1.2.2.2.2.2.2.2.2.1⟩)]⟩
theorem net_sizes.is (k : Nat) (x : AT.dens (net_sizes.ce 0).ats) : (net_sizes.ce k).fn x = den net_sizes.F k (bodyOf Tryz.f67) (startAS (net_sizes.ce 0).ats x) (retK (net_sizes.F.c k) Tryz.f67.results.toList (net_sizes.ce 0).rts) := by kernel_rfl
theorem net_sizes.ob : Obl net_sizes.F (bodyOf Tryz.f67) (fun k => retK (net_sizes.F.c k) Tryz.f67.results.toList (net_sizes.ce 0).rts) := obl_of (by kernel_rfl)
/-! ### lex_of: function 300 -/
def lex_of.j0 : Nat → Int → Bool → Option Int
 | 0, _, _ => none
 | k + 1, x0, x3 => if x3 = true then (some 1) else (if x0 = 35 then (some 4) else (if x0 ≥ 97 then (if x0 ≤ 122 then (if x0 ≤ 122 then (some 2) else (if x0 ≥ 48 then (if x0 ≤ 57 then (some 3) else (some 0)) else (some 0))) else (if x0 ≥ 65 then (if x0 ≤ 90 then (some 2) else (if x0 ≥ 48 then (if x0 ≤ 57 then (some 3) else (some 0)) else (some 0))) else (if x0 ≥ 48 then (if x0 ≤ 57 then (some 3) else (some 0)) else (some 0)))) else (if x0 ≥ 65 then (if x0 ≤ 90 then (some 2) else (if x0 ≥ 48 then (if x0 ≤ 57 then (some 3) else (some 0)) else (some 0))) else (if x0 ≥ 48 then (if x0 ≤ 57 then (some 3) else (some 0)) else (some 0)))))
def lex_of.f (k : Nat) (a0 : Int) : Option Int := if a0 = 32 then (lex_of.j0 k a0 (decide (a0 = 32))) else (if a0 = 9 then (lex_of.j0 k a0 (decide (a0 = 9))) else (if a0 = 13 then (lex_of.j0 k a0 (decide (a0 = 13))) else (lex_of.j0 k a0 (decide (a0 = 10)))))
def lex_of.ce (k : Nat) : CallE := ⟨[⟨false, (.int .u8)⟩], [⟨false, [.v (.int .u8)]⟩], fun (x : Int) => lex_of.f k x⟩
def lex_of.F : Fam (RT.dens (lex_of.ce 0).rts) := ⟨fun k => ⟨TT0, GL0, callT [], cmpT CM0, [], BLD0, ioT []⟩, [(1000006, ⟨⟨[(0, .v false (.int .u8)), (3, .v false .bool)], []⟩, fun k s => lex_of.j0 k s.1.1 s.1.2.1⟩)]⟩
theorem lex_of.is (k : Nat) (x : AT.dens (lex_of.ce 0).ats) : (lex_of.ce k).fn x = den lex_of.F k (bodyOf Tryz.f300) (startAS (lex_of.ce 0).ats x) (retK (lex_of.F.c k) Tryz.f300.results.toList (lex_of.ce 0).rts) := by kernel_rfl
theorem lex_of.ob : Obl lex_of.F (bodyOf Tryz.f300) (fun k => retK (lex_of.F.c k) Tryz.f300.results.toList (lex_of.ce 0).rts) := obl_of (by kernel_rfl)
/-! ### lex_word: function 301 -/
def lex_word.l0 : Nat → ByteArray → Int → Option Int
 | 0, _, _ => none
 | k + 1, x0, x3 => if x3 < (x0.size : Int) then (if 0 ≤ x3 then (if x3 < (x0.size : Int) then ((lex_of.f k (btI x0 x3)).bind fun t1 => (if t1 = 2 then (lex_word.l0 k x0 (w64 (x3 + 1))) else (if 0 ≤ x3 then (if x3 < (x0.size : Int) then ((lex_of.f k (btI x0 x3)).bind fun t2 => (if t2 = 3 then (lex_word.l0 k x0 (w64 (x3 + 1))) else (if 0 ≤ x3 then (if x3 < (x0.size : Int) then (if (btI x0 x3) = 95 then (lex_word.l0 k x0 (w64 (x3 + 1))) else (some x3)) else (none)) else (none)))) else (none)) else (none)))) else (none)) else (none)) else (some x3)
def lex_word.f (k : Nat) (a0 : ByteArray) : Option Int := lex_word.l0 k a0 1
def lex_word.ce (k : Nat) : CallE := ⟨[⟨false, .str⟩], [⟨false, [.v (.int .i64)]⟩], fun (x : ByteArray) => lex_word.f k x⟩
def lex_word.F : Fam (RT.dens (lex_word.ce 0).rts) := ⟨fun k => ⟨TT0, GL0, callT [(300, [], lex_of.ce k)], cmpT CM0, [], BLD0, ioT []⟩, [(3, ⟨⟨[(0, .v false .str), (3, .v false (.int .i64))], []⟩, fun k s => lex_word.l0 k s.1.1 s.1.2.1⟩)]⟩
theorem lex_word.is (k : Nat) (x : AT.dens (lex_word.ce 0).ats) : (lex_word.ce k).fn x = den lex_word.F k (bodyOf Tryz.f301) (startAS (lex_word.ce 0).ats x) (retK (lex_word.F.c k) Tryz.f301.results.toList (lex_word.ce 0).rts) := by kernel_rfl
theorem lex_word.ob : Obl lex_word.F (bodyOf Tryz.f301) (fun k => retK (lex_word.F.c k) Tryz.f301.results.toList (lex_word.ce 0).rts) := obl_of (by kernel_rfl)
/-! ### slices_Index_string_string: function 191 -/
def slices_Index_string_string.l0 : Nat → (List ByteArray) → ByteArray → Int → Int → Option Int
 | 0, _, _, _, _ => none
 | k + 1, x0, x1, x7, x8 => if x8 < x7 then (if 0 ≤ x8 then (if x8 < (x0.length : Int) then (if x1 = (rdT .str x0 x8) then (some x8) else (slices_Index_string_string.l0 k x0 x1 x7 (w64 (x8 + 1)))) else (none)) else (none)) else (some (-1))
def slices_Index_string_string.f (k : Nat) (a0 : List ByteArray) (a1 : ByteArray) : Option Int := slices_Index_string_string.l0 k a0 a1 (a0.length : Int) 0
def slices_Index_string_string.ce (k : Nat) : CallE := ⟨[⟨false, (.list .str)⟩, ⟨false, .str⟩], [⟨false, [.v (.int .i64)]⟩], fun (x : (List ByteArray) × ByteArray) => slices_Index_string_string.f k x.1 x.2⟩
def slices_Index_string_string.F : Fam (RT.dens (slices_Index_string_string.ce 0).rts) := ⟨fun k => ⟨TT0, GL0, callT [], cmpT CM0, [], BLD0, ioT []⟩, [(3, ⟨⟨[(0, .v false (.list .str)), (1, .v false .str), (7, .v false (.int .i64)), (8, .v false (.int .i64))], []⟩, fun k s => slices_Index_string_string.l0 k s.1.1 s.1.2.1 s.1.2.2.1 s.1.2.2.2.1⟩)]⟩
theorem slices_Index_string_string.is (k : Nat) (x : AT.dens (slices_Index_string_string.ce 0).ats) : (slices_Index_string_string.ce k).fn x = den slices_Index_string_string.F k (bodyOf Tryz.f191) (startAS (slices_Index_string_string.ce 0).ats x) (retK (slices_Index_string_string.F.c k) Tryz.f191.results.toList (slices_Index_string_string.ce 0).rts) := by kernel_rfl
theorem slices_Index_string_string.ob : Obl slices_Index_string_string.F (bodyOf Tryz.f191) (fun k => retK (slices_Index_string_string.F.c k) Tryz.f191.results.toList (slices_Index_string_string.ce 0).rts) := obl_of (by kernel_rfl)
/-! ### slices_Contains_string_string: function 302 -/
def slices_Contains_string_string.f (k : Nat) (a0 : List ByteArray) (a1 : ByteArray) : Option Bool := (slices_Index_string_string.f k a0 a1).bind fun t1 => (some (decide (t1 ≥ 0)))
def slices_Contains_string_string.ce (k : Nat) : CallE := ⟨[⟨false, (.list .str)⟩, ⟨false, .str⟩], [⟨false, [.v .bool]⟩], fun (x : (List ByteArray) × ByteArray) => slices_Contains_string_string.f k x.1 x.2⟩
def slices_Contains_string_string.F : Fam (RT.dens (slices_Contains_string_string.ce 0).rts) := ⟨fun k => ⟨TT0, GL0, callT [(191, [], slices_Index_string_string.ce k)], cmpT CM0, [], BLD0, ioT []⟩, []⟩
theorem slices_Contains_string_string.is (k : Nat) (x : AT.dens (slices_Contains_string_string.ce 0).ats) : (slices_Contains_string_string.ce k).fn x = den slices_Contains_string_string.F k (bodyOf Tryz.f302) (startAS (slices_Contains_string_string.ce 0).ats x) (retK (slices_Contains_string_string.F.c k) Tryz.f302.results.toList (slices_Contains_string_string.ce 0).rts) := by kernel_rfl
theorem slices_Contains_string_string.ob : Obl slices_Contains_string_string.F (bodyOf Tryz.f302) (fun k => retK (slices_Contains_string_string.F.c k) Tryz.f302.results.toList (slices_Contains_string_string.ce 0).rts) := obl_of (by kernel_rfl)
/-! ### lex_IsName: function 257 -/
def lex_IsName.f (k : Nat) (a0 : ByteArray) : Option Bool := if a0 = (⟨#[]⟩ : ByteArray) then (some false) else (if (a0.size : Int) ≤ 16 then (if 0 ≤ 0 then (if 0 < (a0.size : Int) then ((lex_of.f k (btI a0 0)).bind fun t1 => (if t1 = 2 then ((lex_word.f k a0).bind fun t2 => (if t2 = (a0.size : Int) then ((slices_Contains_string_string.f k lex_kept a0).bind fun t3 => (some (!t3))) else (some false))) else (some false))) else (none)) else (none)) else (some false))
def lex_IsName.ce (k : Nat) : CallE := ⟨[⟨false, .str⟩], [⟨false, [.v .bool]⟩], fun (x : ByteArray) => lex_IsName.f k x⟩
def lex_IsName.F : Fam (RT.dens (lex_IsName.ce 0).rts) := ⟨fun k => ⟨TT0, GL0, callT [(300, [], lex_of.ce k), (301, [], lex_word.ce k), (302, [], slices_Contains_string_string.ce k)], cmpT CM0, [], BLD0, ioT []⟩, []⟩
theorem lex_IsName.is (k : Nat) (x : AT.dens (lex_IsName.ce 0).ats) : (lex_IsName.ce k).fn x = den lex_IsName.F k (bodyOf Tryz.f257) (startAS (lex_IsName.ce 0).ats x) (retK (lex_IsName.F.c k) Tryz.f257.results.toList (lex_IsName.ce 0).rts) := by kernel_rfl
theorem lex_IsName.ob : Obl lex_IsName.F (bodyOf Tryz.f257) (fun k => retK (lex_IsName.F.c k) Tryz.f257.results.toList (lex_IsName.ce 0).rts) := obl_of (by kernel_rfl)
/-! ### net_given: function 197 -/
def net_given.l0 : Nat → (List ByteArray) → (List ByteArray) → Int → Int → Option Bool
 | 0, _, _, _, _ => none
 | k + 1, x3, x7, x8, x9 => if x9 < x8 then (if 0 ≤ x9 then (if x9 < (x7.length : Int) then ((lex_IsName.f k (rdT .str x7 x9)).bind fun t1 => (if (!t1) = true then (some false) else (if ((rdT .str x7 x9).size : Int) > 16 then (some false) else (if (rdT .str x7 x9).size ≤ 9223372036854775807 then (if (hasK (rdT .str x7 x9) x3) = true then (some false) else (if (rdT .str x7 x9).size ≤ 9223372036854775807 then (if x3.length < 9223372036854775807 then (net_given.l0 k ((rdT .str x7 x9) :: x3) x7 x8 (w64 (x9 + 1))) else (none)) else (none))) else (none))))) else (none)) else (none)) else (some true)
def net_given.f (k : Nat) (a0 : List ByteArray) : Option Bool := net_given.l0 k ([] : List ByteArray) a0 (a0.length : Int) 0
def net_given.ce (k : Nat) : CallE := ⟨[⟨false, (.list .str)⟩], [⟨false, [.v .bool]⟩], fun (x : (List ByteArray)) => net_given.f k x⟩
def net_given.F : Fam (RT.dens (net_given.ce 0).rts) := ⟨fun k => ⟨TT0, GL0, callT [(257, [], lex_IsName.ce k)], cmpT CM0, [], BLD0, ioT []⟩, [(4, ⟨⟨[(3, .m), (7, .v false (.list .str)), (8, .v false (.int .i64)), (9, .v false (.int .i64))], []⟩, fun k s => net_given.l0 k s.1.1 s.1.2.1 s.1.2.2.1 s.1.2.2.2.1⟩)]⟩
theorem net_given.is (k : Nat) (x : AT.dens (net_given.ce 0).ats) : (net_given.ce k).fn x = den net_given.F k (bodyOf Tryz.f197) (startAS (net_given.ce 0).ats x) (retK (net_given.F.c k) Tryz.f197.results.toList (net_given.ce 0).rts) := by kernel_rfl
theorem net_given.ob : Obl net_given.F (bodyOf Tryz.f197) (fun k => retK (net_given.F.c k) Tryz.f197.results.toList (net_given.ce 0).rts) := obl_of (by kernel_rfl)
/-! ### net_Names: function 192 -/
def net_Names.l0 : Nat → (List ByteArray) → (List S86) → Int → Int → Option (List ByteArray)
 | 0, _, _, _, _ => none
 | k + 1, x3, x7, x8, x9 => if x9 < x8 then (if 0 ≤ x9 then (if x9 < (x7.length : Int) then (if x3.length < 8796093022208 then (net_Names.l0 k (x3 ++ [(rd_T86 x7 x9).f0]) x7 x8 (w64 (x9 + 1))) else (none)) else (none)) else (none)) else (some x3)
def net_Names.f (k : Nat) (l0_0 : List ByteArray) (l0_1 : List S86) (l0_2 : List ByteArray) (l0_3 : List S76) : Option (List ByteArray) := net_Names.l0 k ([] : List ByteArray) l0_1 (l0_1.length : Int) 0
def net_Names.ce (k : Nat) : CallE := ⟨[⟨true, T26⟩], [⟨false, [.o 9 .str]⟩], fun (x : S26) => net_Names.f k x.f0 x.f1 x.f2 x.f3⟩
def net_Names.F : Fam (RT.dens (net_Names.ce 0).rts) := ⟨fun k => ⟨TT0, GL0, callT [], cmpT CM0, [], BLD0, ioT []⟩, [(4, ⟨⟨[(3, .o 9 .str), (7, .v false (.list T86)), (8, .v false (.int .i64)), (9, .v false (.int .i64))], []⟩, fun k s => net_Names.l0 k s.1.1 s.1.2.1 s.1.2.2.1 s.1.2.2.2.1⟩)]⟩
theorem net_Names.is (k : Nat) (x : AT.dens (net_Names.ce 0).ats) : (net_Names.ce k).fn x = den net_Names.F k (bodyOf Tryz.f192) (startAS (net_Names.ce 0).ats x) (retK (net_Names.F.c k) Tryz.f192.results.toList (net_Names.ce 0).rts) := by kernel_rfl
theorem net_Names.ob : Obl net_Names.F (bodyOf Tryz.f192) (fun k => retK (net_Names.F.c k) Tryz.f192.results.toList (net_Names.ce 0).rts) := obl_of (by kernel_rfl)
/-! ### slices_Grow_string_string: function 303 -/
def slices_Grow_string_string.f (a0 : Unit) (a1 : Int) : Option (List ByteArray) := if a1 < 0 then (none) else (if (w64 (a1 - (w64 (0 - 0)))) > 0 then (if 0 ≤ 0 then (if 0 ≤ 0 then (if 0 < w64 (a1 - (w64 (0 - 0))) then (if w64 (a1 - (w64 (0 - 0))) ≤ 8796093022208 then (if 0 ≤ 0 then (if 0 ≤ ((List.replicate (Int.toNat (w64 (a1 - (w64 (0 - 0))))) (⟨#[]⟩ : ByteArray)).length : Int) then (some (List.take (Int.toNat (0)) (List.replicate (Int.toNat (w64 (a1 - (w64 (0 - 0))))) (⟨#[]⟩ : ByteArray)))) else (none)) else (none)) else (none)) else (none)) else (none)) else (none)) else (some ([] : List ByteArray)))
def slices_Grow_string_string.ce : CallE := ⟨[⟨false, .nl⟩, ⟨false, (.int .i64)⟩], [⟨false, [.o 9 .str]⟩], fun (x : Unit × Int) => slices_Grow_string_string.f x.1 x.2⟩
def slices_Grow_string_string.F : Fam (RT.dens (slices_Grow_string_string.ce).rts) := ⟨fun k => ⟨TT0, GL0, callT [], cmpT CM0, [25], BLD0, ioT []⟩, []⟩
theorem slices_Grow_string_string.is (k : Nat) (x : AT.dens (slices_Grow_string_string.ce).ats) : (slices_Grow_string_string.ce).fn x = den slices_Grow_string_string.F k (bodyOf Tryz.f303) (startAS (slices_Grow_string_string.ce).ats x) (retK (slices_Grow_string_string.F.c k) Tryz.f303.results.toList (slices_Grow_string_string.ce).rts) := by kernel_rfl
theorem slices_Grow_string_string.ob : Obl slices_Grow_string_string.F (bodyOf Tryz.f303) (fun k => retK (slices_Grow_string_string.F.c k) Tryz.f303.results.toList (slices_Grow_string_string.ce).rts) := obl_of (by kernel_rfl)
/-! ### slices_Concat_string_string: function 258 -/
mutual
def slices_Concat_string_string.l0 : Nat → (List (List ByteArray)) → Int → (List (List ByteArray)) → Int → Int → Option (List ByteArray)
 | 0, _, _, _, _, _ => none
 | k + 1, x0, x3, x9, x10, x11 => if x11 < x10 then (if 0 ≤ x11 then (if x11 < (x9.length : Int) then (if (w64 (x3 + ((rdT (.list .str) x9 x11).length : Int))) < 0 then (none) else (slices_Concat_string_string.l0 k x0 (w64 (x3 + ((rdT (.list .str) x9 x11).length : Int))) x9 x10 (w64 (x11 + 1)))) else (none)) else (none)) else ((slices_Grow_string_string.f () x3).bind fun t1 => (slices_Concat_string_string.l1 k t1 x0 (x0.length : Int) 0))
def slices_Concat_string_string.l1 : Nat → (List ByteArray) → (List (List ByteArray)) → Int → Int → Option (List ByteArray)
 | 0, _, _, _, _ => none
 | k + 1, x6, x25, x26, x27 => if x27 < x26 then (if 0 ≤ x27 then (if x27 < (x25.length : Int) then (if x6.length + (rdT (.list .str) x25 x27).length ≤ 8796093022208 then (slices_Concat_string_string.l1 k (x6 ++ (rdT (.list .str) x25 x27)) x25 x26 (w64 (x27 + 1))) else (none)) else (none)) else (none)) else (some x6)
end
def slices_Concat_string_string.f (k : Nat) (a0 : List (List ByteArray)) : Option (List ByteArray) := slices_Concat_string_string.l0 k a0 0 a0 (a0.length : Int) 0
def slices_Concat_string_string.ce (k : Nat) : CallE := ⟨[⟨false, (.list (.list .str))⟩], [⟨false, [.o 9 .str]⟩], fun (x : (List (List ByteArray))) => slices_Concat_string_string.f k x⟩
def slices_Concat_string_string.F : Fam (RT.dens (slices_Concat_string_string.ce 0).rts) := ⟨fun k => ⟨TT0, GL0, callT [(303, [], slices_Grow_string_string.ce)], cmpT CM0, [], BLD0, ioT []⟩, [(4, ⟨⟨[(0, .v false (.list (.list .str))), (3, .v false (.int .i64)), (9, .v false (.list (.list .str))), (10, .v false (.int .i64)), (11, .v false (.int .i64))], []⟩, fun k s => slices_Concat_string_string.l0 k s.1.1 s.1.2.1 s.1.2.2.1 s.1.2.2.2.1 s.1.2.2.2.2.1⟩), (12, ⟨⟨[(6, .o 9 .str), (25, .v false (.list (.list .str))), (26, .v false (.int .i64)), (27, .v false (.int .i64))], []⟩, fun k s => slices_Concat_string_string.l1 k s.1.1 s.1.2.1 s.1.2.2.1 s.1.2.2.2.1⟩)]⟩
theorem slices_Concat_string_string.is (k : Nat) (x : AT.dens (slices_Concat_string_string.ce 0).ats) : (slices_Concat_string_string.ce k).fn x = den slices_Concat_string_string.F k (bodyOf Tryz.f258) (startAS (slices_Concat_string_string.ce 0).ats x) (retK (slices_Concat_string_string.F.c k) Tryz.f258.results.toList (slices_Concat_string_string.ce 0).rts) := by kernel_rfl
theorem slices_Concat_string_string.ob : Obl slices_Concat_string_string.F (bodyOf Tryz.f258) (fun k => retK (slices_Concat_string_string.F.c k) Tryz.f258.results.toList (slices_Concat_string_string.ce 0).rts) := obl_of (by kernel_rfl)
/-! ### net_all: function 198 -/
def net_all.l0 : Nat → (List ByteArray) → (List S76) → Int → Int → Option (List ByteArray)
 | 0, _, _, _, _ => none
 | k + 1, x3, x15, x16, x17 => if x17 < x16 then (if 0 ≤ x17 then (if x17 < (x15.length : Int) then (if x3.length < 8796093022208 then (net_all.l0 k (x3 ++ [(rd_T76 x15 x17).f0]) x15 x16 (w64 (x17 + 1))) else (none)) else (none)) else (none)) else (some x3)
def net_all.f (k : Nat) (l0_0 : List ByteArray) (l0_1 : List S86) (l0_2 : List ByteArray) (l0_3 : List S76) : Option (List ByteArray) := (net_Names.f k l0_0 l0_1 l0_2 l0_3).bind fun t1 => ((slices_Concat_string_string.f k ([l0_0, t1, l0_2] : List (List ByteArray))).bind fun t2 => (net_all.l0 k t2 l0_3 (l0_3.length : Int) 0))
def net_all.ce (k : Nat) : CallE := ⟨[⟨true, T26⟩], [⟨false, [.o 9 .str]⟩], fun (x : S26) => net_all.f k x.f0 x.f1 x.f2 x.f3⟩
def net_all.F : Fam (RT.dens (net_all.ce 0).rts) := ⟨fun k => ⟨TT0, GL0, callT [(192, [], net_Names.ce k), (258, [], slices_Concat_string_string.ce k)], cmpT CM0, [], BLD0, ioT []⟩, [(4, ⟨⟨[(3, .o 9 .str), (15, .v false (.list T76)), (16, .v false (.int .i64)), (17, .v false (.int .i64))], []⟩, fun k s => net_all.l0 k s.1.1 s.1.2.1 s.1.2.2.1 s.1.2.2.2.1⟩)]⟩
theorem net_all.is (k : Nat) (x : AT.dens (net_all.ce 0).ats) : (net_all.ce k).fn x = den net_all.F k (bodyOf Tryz.f198) (startAS (net_all.ce 0).ats x) (retK (net_all.F.c k) Tryz.f198.results.toList (net_all.ce 0).rts) := by kernel_rfl
theorem net_all.ob : Obl net_all.F (bodyOf Tryz.f198) (fun k => retK (net_all.F.c k) Tryz.f198.results.toList (net_all.ce 0).rts) := obl_of (by kernel_rfl)
/-! ### net_locNames: function 199 -/
def net_locNames.l0 : Nat → (List ByteArray) → (List S84) → Int → Int → Option (List ByteArray)
 | 0, _, _, _, _ => none
 | k + 1, x3, x7, x8, x9 => if x9 < x8 then (if 0 ≤ x9 then (if x9 < (x7.length : Int) then (if x3.length < 8796093022208 then (net_locNames.l0 k (x3 ++ [(rd_T84 x7 x9).f0]) x7 x8 (w64 (x9 + 1))) else (none)) else (none)) else (none)) else (some x3)
def net_locNames.f (k : Nat) (l0_0 : ByteArray) (l0_1 : List S84) (l0_2 : List S79) : Option (List ByteArray) := net_locNames.l0 k ([] : List ByteArray) l0_1 (l0_1.length : Int) 0
def net_locNames.ce (k : Nat) : CallE := ⟨[⟨true, T76⟩], [⟨false, [.o 9 .str]⟩], fun (x : S76) => net_locNames.f k x.f0 x.f1 x.f2⟩
def net_locNames.F : Fam (RT.dens (net_locNames.ce 0).rts) := ⟨fun k => ⟨TT0, GL0, callT [], cmpT CM0, [], BLD0, ioT []⟩, [(4, ⟨⟨[(3, .o 9 .str), (7, .v false (.list T84)), (8, .v false (.int .i64)), (9, .v false (.int .i64))], []⟩, fun k s => net_locNames.l0 k s.1.1 s.1.2.1 s.1.2.2.1 s.1.2.2.2.1⟩)]⟩
theorem net_locNames.is (k : Nat) (x : AT.dens (net_locNames.ce 0).ats) : (net_locNames.ce k).fn x = den net_locNames.F k (bodyOf Tryz.f199) (startAS (net_locNames.ce 0).ats x) (retK (net_locNames.F.c k) Tryz.f199.results.toList (net_locNames.ce 0).rts) := by kernel_rfl
theorem net_locNames.ob : Obl net_locNames.F (bodyOf Tryz.f199) (fun k => retK (net_locNames.F.c k) Tryz.f199.results.toList (net_locNames.ce 0).rts) := obl_of (by kernel_rfl)
/-! ### net_names: function 68 -/
def net_names.l0 : Nat → (List S76) → Int → Int → Option Int
 | 0, _, _, _ => none
 | k + 1, x10, x11, x12 => if x12 < x11 then (if 0 ≤ x12 then (if x12 < (x10.length : Int) then ((net_locNames.f k ((rd_T76 x10 x12).f0) ((rd_T76 x10 x12).f1) ((rd_T76 x10 x12).f2)).bind fun t3 => ((net_given.f k t3).bind fun t4 => (if (!t4) = true then (some 112) else (net_names.l0 k x10 x11 (w64 (x12 + 1)))))) else (none)) else (none)) else (some 0)
def net_names.f (k : Nat) (l0_0 : List ByteArray) (l0_1 : List S86) (l0_2 : List ByteArray) (l0_3 : List S76) : Option Int := (net_all.f k l0_0 l0_1 l0_2 l0_3).bind fun t1 => ((net_given.f k t1).bind fun t2 => (if (!t2) = true then (some 112) else (net_names.l0 k l0_3 (l0_3.length : Int) 0)))
def net_names.ce (k : Nat) : CallE := ⟨[⟨true, T26⟩], [⟨false, [.v (.int .i64)]⟩], fun (x : S26) => net_names.f k x.f0 x.f1 x.f2 x.f3⟩
def net_names.F : Fam (RT.dens (net_names.ce 0).rts) := ⟨fun k => ⟨TT0, GL0, callT [(197, [], net_given.ce k), (198, [], net_all.ce k), (199, [], net_locNames.ce k)], cmpT CM0, [], BLD0, ioT []⟩, [(5, ⟨⟨[(10, .v false (.list T76)), (11, .v false (.int .i64)), (12, .v false (.int .i64))], []⟩, fun k s => net_names.l0 k s.1.1 s.1.2.1 s.1.2.2.1⟩)]⟩
theorem net_names.is (k : Nat) (x : AT.dens (net_names.ce 0).ats) : (net_names.ce k).fn x = den net_names.F k (bodyOf Tryz.f68) (startAS (net_names.ce 0).ats x) (retK (net_names.F.c k) Tryz.f68.results.toList (net_names.ce 0).rts) := by kernel_rfl
theorem net_names.ob : Obl net_names.F (bodyOf Tryz.f68) (fun k => retK (net_names.F.c k) Tryz.f68.results.toList (net_names.ce 0).rts) := obl_of (by kernel_rfl)
/-! ### net_vars: function 69 -/
def net_vars.l0 : Nat → (List S86) → Int → Int → Option Int
 | 0, _, _, _ => none
 | k + 1, x6, x7, x8 => if x8 < x7 then (if 0 ≤ x8 then (if x8 < (x6.length : Int) then (if ((rd_T86 x6 x8).f1) > ((rd_T86 x6 x8).f3) then (some 124) else (if ((rd_T86 x6 x8).f3) > ((rd_T86 x6 x8).f2) then (some 124) else (if ((rd_T86 x6 x8).f1) < (-1048576) then (some 124) else (if ((rd_T86 x6 x8).f2) > 1048576 then (some 124) else (net_vars.l0 k x6 x7 (w64 (x8 + 1))))))) else (none)) else (none)) else (some 0)
def net_vars.f (k : Nat) (l0_0 : List ByteArray) (l0_1 : List S86) (l0_2 : List ByteArray) (l0_3 : List S76) : Option Int := net_vars.l0 k l0_1 (l0_1.length : Int) 0
def net_vars.ce (k : Nat) : CallE := ⟨[⟨true, T26⟩], [⟨false, [.v (.int .i64)]⟩], fun (x : S26) => net_vars.f k x.f0 x.f1 x.f2 x.f3⟩
def net_vars.F : Fam (RT.dens (net_vars.ce 0).rts) := ⟨fun k => ⟨TT0, GL0, callT [], cmpT CM0, [], BLD0, ioT []⟩, [(3, ⟨⟨[(6, .v false (.list T86)), (7, .v false (.int .i64)), (8, .v false (.int .i64))], []⟩, fun k s => net_vars.l0 k s.1.1 s.1.2.1 s.1.2.2.1⟩)]⟩
theorem net_vars.is (k : Nat) (x : AT.dens (net_vars.ce 0).ats) : (net_vars.ce k).fn x = den net_vars.F k (bodyOf Tryz.f69) (startAS (net_vars.ce 0).ats x) (retK (net_vars.F.c k) Tryz.f69.results.toList (net_vars.ce 0).rts) := by kernel_rfl
theorem net_vars.ob : Obl net_vars.F (bodyOf Tryz.f69) (fun k => retK (net_vars.F.c k) Tryz.f69.results.toList (net_vars.ce 0).rts) := obl_of (by kernel_rfl)
/-! ### net_locs: function 70 -/
mutual
def net_locs.l0 : Nat → (List S76) → Int → Int → Option Int
 | 0, _, _, _ => none
 | k + 1, x8, x9, x10 => if x10 < x9 then (if 0 ≤ x10 then (if x10 < (x8.length : Int) then (net_locs.l1 k x8 x9 x10 ((rd_T76 x8 x10).f1) (((rd_T76 x8 x10).f1).length : Int) 0) else (none)) else (none)) else (some 0)
def net_locs.l1 : Nat → (List S76) → Int → Int → (List S84) → Int → Int → Option Int
 | 0, _, _, _, _, _, _ => none
 | k + 1, x8, x9, x10, x15, x16, x17 => if x17 < x16 then (if 0 ≤ x17 then (if x17 < (x15.length : Int) then (if ((rd_T84 x15 x17).f1) > 2 then (some 122) else (net_locs.l1 k x8 x9 x10 x15 x16 (w64 (x17 + 1)))) else (none)) else (none)) else (net_locs.l0 k x8 x9 (w64 (x10 + 1)))
end
def net_locs.f (k : Nat) (l0_0 : List ByteArray) (l0_1 : List S86) (l0_2 : List ByteArray) (l0_3 : List S76) : Option Int := net_locs.l0 k l0_3 (l0_3.length : Int) 0
def net_locs.ce (k : Nat) : CallE := ⟨[⟨true, T26⟩], [⟨false, [.v (.int .i64)]⟩], fun (x : S26) => net_locs.f k x.f0 x.f1 x.f2 x.f3⟩
def net_locs.F : Fam (RT.dens (net_locs.ce 0).rts) := ⟨fun k => ⟨TT0, GL0, callT [], cmpT CM0, [], BLD0, ioT []⟩, [(3, ⟨⟨[(8, .v false (.list T76)), (9, .v false (.int .i64)), (10, .v false (.int .i64))], []⟩, fun k s => net_locs.l0 k s.1.1 s.1.2.1 s.1.2.2.1⟩), (6, ⟨⟨[(8, .v false (.list T76)), (9, .v false (.int .i64)), (10, .v false (.int .i64)), (15, .v false (.list T84)), (16, .v false (.int .i64)), (17, .v false (.int .i64))], []⟩, fun k s => net_locs.l1 k s.1.1 s.1.2.1 s.1.2.2.1 s.1.2.2.2.1 s.1.2.2.2.2.1 s.1.2.2.2.2.2.1⟩)]⟩
theorem net_locs.is (k : Nat) (x : AT.dens (net_locs.ce 0).ats) : (net_locs.ce k).fn x = den net_locs.F k (bodyOf Tryz.f70) (startAS (net_locs.ce 0).ats x) (retK (net_locs.F.c k) Tryz.f70.results.toList (net_locs.ce 0).rts) := by kernel_rfl
theorem net_locs.ob : Obl net_locs.F (bodyOf Tryz.f70) (fun k => retK (net_locs.F.c k) Tryz.f70.results.toList (net_locs.ce 0).rts) := obl_of (by kernel_rfl)
/-! ### net_edges_1: function 200 -/
def net_edges_1.f (a0 : Int) (a1 : S76) : Option Bool := if a0 ≥ 0 then (some (decide (a0 < (a1.f1.length : Int)))) else (some false)
def net_edges_1.ce : CallE := ⟨[⟨false, (.int .i64)⟩, ⟨false, (.ref T76)⟩], [⟨false, [.v .bool]⟩], fun (x : Int × S76) => net_edges_1.f x.1 x.2⟩
def net_edges_1.F : Fam (RT.dens (net_edges_1.ce).rts) := ⟨fun k => ⟨TT0, GL0, callT [], cmpT CM0, [], BLD0, ioT []⟩, []⟩
theorem net_edges_1.is (k : Nat) (x : AT.dens (net_edges_1.ce).ats) : (net_edges_1.ce).fn x = den net_edges_1.F k (bodyOf Tryz.f200) (startAS (net_edges_1.ce).ats x) (retK (net_edges_1.F.c k) Tryz.f200.results.toList (net_edges_1.ce).rts) := by kernel_rfl
theorem net_edges_1.ob : Obl net_edges_1.F (bodyOf Tryz.f200) (fun k => retK (net_edges_1.F.c k) Tryz.f200.results.toList (net_edges_1.ce).rts) := obl_of (by kernel_rfl)
/-! ### net_edges: function 71 -/
mutual
def net_edges.l0 : Nat → (List S76) → Int → Int → (List ByteArray) → (List S86) → (List ByteArray) → (List S76) → Option Int
 | 0, _, _, _, _, _, _, _ => none
 | k + 1, x9, x10, x11, x1_0, x1_1, x1_2, x1_3 => if x11 < x10 then (if 0 ≤ x11 then (if x11 < (x9.length : Int) then (net_edges.l1 k (rd_T76 x9 x11) x9 x10 x11 ((rd_T76 x9 x11).f2) (((rd_T76 x9 x11).f2).length : Int) 0 x1_0 x1_1 x1_2 x1_3) else (none)) else (none)) else (some 0)
def net_edges.l1 : Nat → S76 → (List S76) → Int → Int → (List S79) → Int → Int → (List ByteArray) → (List S86) → (List ByteArray) → (List S76) → Option Int
 | 0, _, _, _, _, _, _, _, _, _, _, _ => none
 | k + 1, x5, x9, x10, x11, x17, x18, x19, x1_0, x1_1, x1_2, x1_3 => if x19 < x18 then (if 0 ≤ x19 then (if x19 < (x17.length : Int) then ((net_edges_1.f ((rd_T79 x17 x19).f0) x5).bind fun t1 => (if (!t1) = true then (some 123) else ((net_edges_1.f ((rd_T79 x17 x19).f1) x5).bind fun t2 => (if (!t2) = true then (some 123) else (if ((rd_T79 x17 x19).f4) < 0 then (some 123) else (if ((rd_T79 x17 x19).f4) > (x1_2.length : Int) then (some 123) else (if ((rd_T79 x17 x19).f5) = true then (if ((rd_T79 x17 x19).f4) = 0 then (some 123) else (net_edges.l1 k x5 x9 x10 x11 x17 x18 (w64 (x19 + 1)) x1_0 x1_1 x1_2 x1_3)) else (net_edges.l1 k x5 x9 x10 x11 x17 x18 (w64 (x19 + 1)) x1_0 x1_1 x1_2 x1_3)))))))) else (none)) else (none)) else (net_edges.l0 k x9 x10 (w64 (x11 + 1)) x1_0 x1_1 x1_2 x1_3)
end
def net_edges.f (k : Nat) (l0_0 : List ByteArray) (l0_1 : List S86) (l0_2 : List ByteArray) (l0_3 : List S76) : Option Int := net_edges.l0 k l0_3 (l0_3.length : Int) 0 l0_0 l0_1 l0_2 l0_3
def net_edges.ce (k : Nat) : CallE := ⟨[⟨true, T26⟩], [⟨false, [.v (.int .i64)]⟩], fun (x : S26) => net_edges.f k x.f0 x.f1 x.f2 x.f3⟩
def net_edges.F : Fam (RT.dens (net_edges.ce 0).rts) := ⟨fun k => ⟨TT0, GL0, callT [(200, [], net_edges_1.ce)], cmpT CM0, [], BLD0, ioT []⟩, [(3, ⟨⟨[(1, .k (.ptr 64 0)), (9, .v false (.list T76)), (10, .v false (.int .i64)), (11, .v false (.int .i64))], [(64, [.v (.list .str), .v (.list T86), .v (.list .str), .v (.list T76)])]⟩, fun k s => net_edges.l0 k s.1.1 s.1.2.1 s.1.2.2.1 s.2.1.1 s.2.1.2.1 s.2.1.2.2.1 s.2.1.2.2.2.1⟩), (7, ⟨⟨[(1, .k (.ptr 64 0)), (5, .v false (.fn 200 [(false, 1)] (.ref T76))), (9, .v false (.list T76)), (10, .v false (.int .i64)), (11, .v false (.int .i64)), (17, .v false (.list T79)), (18, .v false (.int .i64)), (19, .v false (.int .i64))], [(64, [.v (.list .str), .v (.list T86), .v (.list .str), .v (.list T76)])]⟩, fun k s => net_edges.l1 k s.1.1 s.1.2.1 s.1.2.2.1 s.1.2.2.2.1 s.1.2.2.2.2.1 s.1.2.2.2.2.2.1 s.1.2.2.2.2.2.2.1 s.2.1.1 s.2.1.2.1 s.2.1.2.2.1 s.2.1.2.2.2.1⟩)]⟩
theorem net_edges.is (k : Nat) (x : AT.dens (net_edges.ce 0).ats) : (net_edges.ce k).fn x = den net_edges.F k (bodyOf Tryz.f71) (startAS (net_edges.ce 0).ats x) (retK (net_edges.F.c k) Tryz.f71.results.toList (net_edges.ce 0).rts) := by kernel_rfl
theorem net_edges.ob : Obl net_edges.F (bodyOf Tryz.f71) (fun k => retK (net_edges.F.c k) Tryz.f71.results.toList (net_edges.ce 0).rts) := obl_of (by kernel_rfl)
/-! ### net_isClock: function 203 -/
def net_isClock.f (l0_0 : List ByteArray) (l0_1 : List S86) (l0_2 : List ByteArray) (l0_3 : List S76) (a1 : Int) : Option Bool := if a1 ≥ 1 then (some (decide (a1 ≤ (l0_0.length : Int)))) else (some false)
def net_isClock.ce : CallE := ⟨[⟨true, T26⟩, ⟨false, (.int .i64)⟩], [⟨false, [.v .bool]⟩], fun (x : S26 × Int) => net_isClock.f x.1.f0 x.1.f1 x.1.f2 x.1.f3 x.2⟩
def net_isClock.F : Fam (RT.dens (net_isClock.ce).rts) := ⟨fun k => ⟨TT0, GL0, callT [], cmpT CM0, [], BLD0, ioT []⟩, []⟩
theorem net_isClock.is (k : Nat) (x : AT.dens (net_isClock.ce).ats) : (net_isClock.ce).fn x = den net_isClock.F k (bodyOf Tryz.f203) (startAS (net_isClock.ce).ats x) (retK (net_isClock.F.c k) Tryz.f203.results.toList (net_isClock.ce).rts) := by kernel_rfl
theorem net_isClock.ob : Obl net_isClock.F (bodyOf Tryz.f203) (fun k => retK (net_isClock.F.c k) Tryz.f203.results.toList (net_isClock.ce).rts) := obl_of (by kernel_rfl)
/-! ### net_clocksOf: function 86 -/
def net_clocksOf.l0 : Nat → (List S43) → Int → Int → (List ByteArray) → (List S86) → (List ByteArray) → (List S76) → Option Int
 | 0, _, _, _, _, _, _, _ => none
 | k + 1, x7, x8, x9, x2_0, x2_1, x2_2, x2_3 => if x9 < x8 then (if 0 ≤ x9 then (if x9 < (x7.length : Int) then ((net_isClock.f x2_0 x2_1 x2_2 x2_3 ((rd_T43 x7 x9).f0)).bind fun t1 => (if (!t1) = true then (some 12) else (if ((rd_T43 x7 x9).f1) = 0 then (net_clocksOf.l0 k x7 x8 (w64 (x9 + 1)) x2_0 x2_1 x2_2 x2_3) else ((net_isClock.f x2_0 x2_1 x2_2 x2_3 ((rd_T43 x7 x9).f1)).bind fun t2 => (if (!t2) = true then (some 12) else (net_clocksOf.l0 k x7 x8 (w64 (x9 + 1)) x2_0 x2_1 x2_2 x2_3)))))) else (none)) else (none)) else (some 0)
def net_clocksOf.f (k : Nat) (l0_0 : List ByteArray) (l0_1 : List S86) (l0_2 : List ByteArray) (l0_3 : List S76) (a1 : List S43) : Option Int := net_clocksOf.l0 k a1 (a1.length : Int) 0 l0_0 l0_1 l0_2 l0_3
def net_clocksOf.ce (k : Nat) : CallE := ⟨[⟨true, T26⟩, ⟨false, (.list T43)⟩], [⟨false, [.v (.int .i64)]⟩], fun (x : S26 × (List S43)) => net_clocksOf.f k x.1.f0 x.1.f1 x.1.f2 x.1.f3 x.2⟩
def net_clocksOf.F : Fam (RT.dens (net_clocksOf.ce 0).rts) := ⟨fun k => ⟨TT0, GL0, callT [(203, [], net_isClock.ce)], cmpT CM0, [], BLD0, ioT []⟩, [(3, ⟨⟨[(2, .k (.ptr 128 0)), (7, .v false (.list T43)), (8, .v false (.int .i64)), (9, .v false (.int .i64))], [(128, [.v (.list .str), .v (.list T86), .v (.list .str), .v (.list T76)])]⟩, fun k s => net_clocksOf.l0 k s.1.1 s.1.2.1 s.1.2.2.1 s.2.1.1 s.2.1.2.1 s.2.1.2.2.1 s.2.1.2.2.2.1⟩)]⟩
theorem net_clocksOf.is (k : Nat) (x : AT.dens (net_clocksOf.ce 0).ats) : (net_clocksOf.ce k).fn x = den net_clocksOf.F k (bodyOf Tryz.f86) (startAS (net_clocksOf.ce 0).ats x) (retK (net_clocksOf.F.c k) Tryz.f86.results.toList (net_clocksOf.ce 0).rts) := by kernel_rfl
theorem net_clocksOf.ob : Obl net_clocksOf.F (bodyOf Tryz.f86) (fun k => retK (net_clocksOf.F.c k) Tryz.f86.results.toList (net_clocksOf.ce 0).rts) := obl_of (by kernel_rfl)
/-! ### net_guards: function 201 -/
mutual
def net_guards.l0 : Nat → (List S43) → (List S76) → Int → Int → Option (List S43)
 | 0, _, _, _, _ => none
 | k + 1, x3, x11, x12, x13 => if x13 < x12 then (if 0 ≤ x13 then (if x13 < (x11.length : Int) then (net_guards.l1 k x3 x11 x12 x13 ((rd_T76 x11 x13).f1) (((rd_T76 x11 x13).f1).length : Int) 0 ((rd_T76 x11 x13).f0) ((rd_T76 x11 x13).f1) ((rd_T76 x11 x13).f2)) else (none)) else (none)) else (some x3)
def net_guards.l1 : Nat → (List S43) → (List S76) → Int → Int → (List S84) → Int → Int → ByteArray → (List S84) → (List S79) → Option (List S43)
 | 0, _, _, _, _, _, _, _, _, _, _ => none
 | k + 1, x3, x11, x12, x13, x18, x19, x20, x5_0, x5_1, x5_2 => if x20 < x19 then (if 0 ≤ x20 then (if x20 < (x18.length : Int) then (if x3.length + ((rd_T84 x18 x20).f2).length ≤ 4398046511104 then (net_guards.l1 k (x3 ++ (rd_T84 x18 x20).f2) x11 x12 x13 x18 x19 (w64 (x20 + 1)) x5_0 x5_1 x5_2) else (none)) else (none)) else (none)) else (net_guards.l2 k x3 x11 x12 x13 x5_2 (x5_2.length : Int) 0)
def net_guards.l2 : Nat → (List S43) → (List S76) → Int → Int → (List S79) → Int → Int → Option (List S43)
 | 0, _, _, _, _, _, _, _ => none
 | k + 1, x3, x11, x12, x13, x30, x31, x32 => if x32 < x31 then (if 0 ≤ x32 then (if x32 < (x30.length : Int) then (if x3.length + ((rd_T79 x30 x32).f2).length ≤ 4398046511104 then (net_guards.l2 k (x3 ++ (rd_T79 x30 x32).f2) x11 x12 x13 x30 x31 (w64 (x32 + 1))) else (none)) else (none)) else (none)) else (net_guards.l0 k x3 x11 x12 (w64 (x13 + 1)))
end
def net_guards.f (k : Nat) (l0_0 : List ByteArray) (l0_1 : List S86) (l0_2 : List ByteArray) (l0_3 : List S76) : Option (List S43) := net_guards.l0 k ([] : List S43) l0_3 (l0_3.length : Int) 0
def net_guards.ce (k : Nat) : CallE := ⟨[⟨true, T26⟩], [⟨false, [.o 43 T43]⟩], fun (x : S26) => net_guards.f k x.f0 x.f1 x.f2 x.f3⟩
def net_guards.F : Fam (RT.dens (net_guards.ce 0).rts) := ⟨fun k => ⟨TT0, GL0, callT [], cmpT CM0, [], BLD0, ioT []⟩, [(4, ⟨⟨[(3, .o 43 T43), (11, .v false (.list T76)), (12, .v false (.int .i64)), (13, .v false (.int .i64))], []⟩, fun k s => net_guards.l0 k s.1.1 s.1.2.1 s.1.2.2.1 s.1.2.2.2.1⟩), (7, ⟨⟨[(3, .o 43 T43), (5, .k (.ptr 320 0)), (11, .v false (.list T76)), (12, .v false (.int .i64)), (13, .v false (.int .i64)), (18, .v false (.list T84)), (19, .v false (.int .i64)), (20, .v false (.int .i64))], [(320, [.v .str, .v (.list T84), .v (.list T79)])]⟩, fun k s => net_guards.l1 k s.1.1 s.1.2.1 s.1.2.2.1 s.1.2.2.2.1 s.1.2.2.2.2.1 s.1.2.2.2.2.2.1 s.1.2.2.2.2.2.2.1 s.2.1.1 s.2.1.2.1 s.2.1.2.2.1⟩), (12, ⟨⟨[(3, .o 43 T43), (11, .v false (.list T76)), (12, .v false (.int .i64)), (13, .v false (.int .i64)), (30, .v false (.list T79)), (31, .v false (.int .i64)), (32, .v false (.int .i64))], []⟩, fun k s => net_guards.l2 k s.1.1 s.1.2.1 s.1.2.2.1 s.1.2.2.2.1 s.1.2.2.2.2.1 s.1.2.2.2.2.2.1 s.1.2.2.2.2.2.2.1⟩)]⟩
theorem net_guards.is (k : Nat) (x : AT.dens (net_guards.ce 0).ats) : (net_guards.ce k).fn x = den net_guards.F k (bodyOf Tryz.f201) (startAS (net_guards.ce 0).ats x) (retK (net_guards.F.c k) Tryz.f201.results.toList (net_guards.ce 0).rts) := by kernel_rfl
theorem net_guards.ob : Obl net_guards.F (bodyOf Tryz.f201) (fun k => retK (net_guards.F.c k) Tryz.f201.results.toList (net_guards.ce 0).rts) := obl_of (by kernel_rfl)
/-! ### net_sets: function 202 -/
mutual
def net_sets.l0 : Nat → (List S81) → (List S76) → Int → Int → Option (List S81)
 | 0, _, _, _, _ => none
 | k + 1, x3, x9, x10, x11 => if x11 < x10 then (if 0 ≤ x11 then (if x11 < (x9.length : Int) then (net_sets.l1 k x3 x9 x10 x11 ((rd_T76 x9 x11).f2) (((rd_T76 x9 x11).f2).length : Int) 0) else (none)) else (none)) else (some x3)
def net_sets.l1 : Nat → (List S81) → (List S76) → Int → Int → (List S79) → Int → Int → Option (List S81)
 | 0, _, _, _, _, _, _, _ => none
 | k + 1, x3, x9, x10, x11, x16, x17, x18 => if x18 < x17 then (if 0 ≤ x18 then (if x18 < (x16.length : Int) then (if x3.length + ((rd_T79 x16 x18).f6).length ≤ 2932031007402 then (net_sets.l1 k (x3 ++ (rd_T79 x16 x18).f6) x9 x10 x11 x16 x17 (w64 (x18 + 1))) else (none)) else (none)) else (none)) else (net_sets.l0 k x3 x9 x10 (w64 (x11 + 1)))
end
def net_sets.f (k : Nat) (l0_0 : List ByteArray) (l0_1 : List S86) (l0_2 : List ByteArray) (l0_3 : List S76) : Option (List S81) := net_sets.l0 k ([] : List S81) l0_3 (l0_3.length : Int) 0
def net_sets.ce (k : Nat) : CallE := ⟨[⟨true, T26⟩], [⟨false, [.o 81 T81]⟩], fun (x : S26) => net_sets.f k x.f0 x.f1 x.f2 x.f3⟩
def net_sets.F : Fam (RT.dens (net_sets.ce 0).rts) := ⟨fun k => ⟨TT0, GL0, callT [], cmpT CM0, [], BLD0, ioT []⟩, [(4, ⟨⟨[(3, .o 81 T81), (9, .v false (.list T76)), (10, .v false (.int .i64)), (11, .v false (.int .i64))], []⟩, fun k s => net_sets.l0 k s.1.1 s.1.2.1 s.1.2.2.1 s.1.2.2.2.1⟩), (7, ⟨⟨[(3, .o 81 T81), (9, .v false (.list T76)), (10, .v false (.int .i64)), (11, .v false (.int .i64)), (16, .v false (.list T79)), (17, .v false (.int .i64)), (18, .v false (.int .i64))], []⟩, fun k s => net_sets.l1 k s.1.1 s.1.2.1 s.1.2.2.1 s.1.2.2.2.1 s.1.2.2.2.2.1 s.1.2.2.2.2.2.1 s.1.2.2.2.2.2.2.1⟩)]⟩
theorem net_sets.is (k : Nat) (x : AT.dens (net_sets.ce 0).ats) : (net_sets.ce k).fn x = den net_sets.F k (bodyOf Tryz.f202) (startAS (net_sets.ce 0).ats x) (retK (net_sets.F.c k) Tryz.f202.results.toList (net_sets.ce 0).rts) := by kernel_rfl
theorem net_sets.ob : Obl net_sets.F (bodyOf Tryz.f202) (fun k => retK (net_sets.F.c k) Tryz.f202.results.toList (net_sets.ce 0).rts) := obl_of (by kernel_rfl)
/-! ### net_clocks: function 72 -/
def net_clocks.l0 : Nat → (List S81) → Int → Int → (List ByteArray) → (List S86) → (List ByteArray) → (List S76) → Option Int
 | 0, _, _, _, _, _, _, _ => none
 | k + 1, x14, x15, x16, x1_0, x1_1, x1_2, x1_3 => if x16 < x15 then (if 0 ≤ x16 then (if x16 < (x14.length : Int) then (if ((rd_T81 x14 x16).f0) = 0 then (net_clocks.l0 k x14 x15 (w64 (x16 + 1)) x1_0 x1_1 x1_2 x1_3) else ((net_isClock.f x1_0 x1_1 x1_2 x1_3 ((rd_T81 x14 x16).f0)).bind fun t4 => (if (!t4) = true then (some 12) else (net_clocks.l0 k x14 x15 (w64 (x16 + 1)) x1_0 x1_1 x1_2 x1_3)))) else (none)) else (none)) else (some 0)
def net_clocks.f (k : Nat) (l0_0 : List ByteArray) (l0_1 : List S86) (l0_2 : List ByteArray) (l0_3 : List S76) : Option Int := (net_guards.f k l0_0 l0_1 l0_2 l0_3).bind fun t1 => ((net_clocksOf.f k l0_0 l0_1 l0_2 l0_3 t1).bind fun t2 => (if t2 = 0 then ((net_sets.f k l0_0 l0_1 l0_2 l0_3).bind fun t3 => (net_clocks.l0 k t3 (t3.length : Int) 0 l0_0 l0_1 l0_2 l0_3)) else (some t2)))
def net_clocks.ce (k : Nat) : CallE := ⟨[⟨true, T26⟩], [⟨false, [.v (.int .i64)]⟩], fun (x : S26) => net_clocks.f k x.f0 x.f1 x.f2 x.f3⟩
def net_clocks.F : Fam (RT.dens (net_clocks.ce 0).rts) := ⟨fun k => ⟨TT0, GL0, callT [(86, [], net_clocksOf.ce k), (201, [], net_guards.ce k), (202, [], net_sets.ce k), (203, [], net_isClock.ce)], cmpT CM0, [], BLD0, ioT []⟩, [(6, ⟨⟨[(1, .k (.ptr 64 0)), (14, .o 81 T81), (15, .v false (.int .i64)), (16, .v false (.int .i64))], [(64, [.v (.list .str), .v (.list T86), .v (.list .str), .v (.list T76)])]⟩, fun k s => net_clocks.l0 k s.1.1 s.1.2.1 s.1.2.2.1 s.2.1.1 s.2.1.2.1 s.2.1.2.2.1 s.2.1.2.2.2.1⟩)]⟩
theorem net_clocks.is (k : Nat) (x : AT.dens (net_clocks.ce 0).ats) : (net_clocks.ce k).fn x = den net_clocks.F k (bodyOf Tryz.f72) (startAS (net_clocks.ce 0).ats x) (retK (net_clocks.F.c k) Tryz.f72.results.toList (net_clocks.ce 0).rts) := by kernel_rfl
theorem net_clocks.ob : Obl net_clocks.F (bodyOf Tryz.f72) (fun k => retK (net_clocks.F.c k) Tryz.f72.results.toList (net_clocks.ce 0).rts) := obl_of (by kernel_rfl)
/-! ### net_cmps: function 88 -/
def net_cmps.l0 : Nat → (List S43) → Int → Int → Option Int
 | 0, _, _, _ => none
 | k + 1, x5, x6, x7 => if x7 < x6 then (if 0 ≤ x7 then (if x7 < (x5.length : Int) then (if ((rd_T43 x5 x7).f2) < 1 then (some 7) else (if ((rd_T43 x5 x7).f2) > 5 then (some 7) else (net_cmps.l0 k x5 x6 (w64 (x7 + 1))))) else (none)) else (none)) else (some 0)
def net_cmps.f (k : Nat) (a0 : List S43) : Option Int := net_cmps.l0 k a0 (a0.length : Int) 0
def net_cmps.ce (k : Nat) : CallE := ⟨[⟨false, (.list T43)⟩], [⟨false, [.v (.int .i64)]⟩], fun (x : (List S43)) => net_cmps.f k x⟩
def net_cmps.F : Fam (RT.dens (net_cmps.ce 0).rts) := ⟨fun k => ⟨TT0, GL0, callT [], cmpT CM0, [], BLD0, ioT []⟩, [(3, ⟨⟨[(5, .v false (.list T43)), (6, .v false (.int .i64)), (7, .v false (.int .i64))], []⟩, fun k s => net_cmps.l0 k s.1.1 s.1.2.1 s.1.2.2.1⟩)]⟩
theorem net_cmps.is (k : Nat) (x : AT.dens (net_cmps.ce 0).ats) : (net_cmps.ce k).fn x = den net_cmps.F k (bodyOf Tryz.f88) (startAS (net_cmps.ce 0).ats x) (retK (net_cmps.F.c k) Tryz.f88.results.toList (net_cmps.ce 0).rts) := by kernel_rfl
theorem net_cmps.ob : Obl net_cmps.F (bodyOf Tryz.f88) (fun k => retK (net_cmps.F.c k) Tryz.f88.results.toList (net_cmps.ce 0).rts) := obl_of (by kernel_rfl)
/-! ### net_forms: function 73 -/
def net_forms.l0 : Nat → (List S81) → Int → Int → Option Int
 | 0, _, _, _ => none
 | k + 1, x13, x14, x15 => if x15 < x14 then (if 0 ≤ x15 then (if x15 < (x13.length : Int) then (if ((rd_T81 x13 x15).f0) = 0 then (if ((rd_T81 x13 x15).f1) = 0 then (if ((rd_T81 x13 x15).f0) = 0 then (net_forms.l0 k x13 x14 (w64 (x15 + 1))) else (if ((rd_T81 x13 x15).f2) = 0 then (if (((rd_T81 x13 x15).f3).length : Int) > 0 then (some 7) else (net_forms.l0 k x13 x14 (w64 (x15 + 1)))) else (some 7))) else (some 7)) else (if ((rd_T81 x13 x15).f0) = 0 then (net_forms.l0 k x13 x14 (w64 (x15 + 1))) else (if ((rd_T81 x13 x15).f2) = 0 then (if (((rd_T81 x13 x15).f3).length : Int) > 0 then (some 7) else (net_forms.l0 k x13 x14 (w64 (x15 + 1)))) else (some 7)))) else (none)) else (none)) else (some 0)
def net_forms.f (k : Nat) (l0_0 : List ByteArray) (l0_1 : List S86) (l0_2 : List ByteArray) (l0_3 : List S76) : Option Int := (net_guards.f k l0_0 l0_1 l0_2 l0_3).bind fun t1 => ((net_cmps.f k t1).bind fun t2 => (if t2 = 0 then ((net_sets.f k l0_0 l0_1 l0_2 l0_3).bind fun t3 => (net_forms.l0 k t3 (t3.length : Int) 0)) else (some t2)))
def net_forms.ce (k : Nat) : CallE := ⟨[⟨true, T26⟩], [⟨false, [.v (.int .i64)]⟩], fun (x : S26) => net_forms.f k x.f0 x.f1 x.f2 x.f3⟩
def net_forms.F : Fam (RT.dens (net_forms.ce 0).rts) := ⟨fun k => ⟨TT0, GL0, callT [(88, [], net_cmps.ce k), (201, [], net_guards.ce k), (202, [], net_sets.ce k)], cmpT CM0, [], BLD0, ioT []⟩, [(6, ⟨⟨[(13, .o 81 T81), (14, .v false (.int .i64)), (15, .v false (.int .i64))], []⟩, fun k s => net_forms.l0 k s.1.1 s.1.2.1 s.1.2.2.1⟩)]⟩
theorem net_forms.is (k : Nat) (x : AT.dens (net_forms.ce 0).ats) : (net_forms.ce k).fn x = den net_forms.F k (bodyOf Tryz.f73) (startAS (net_forms.ce 0).ats x) (retK (net_forms.F.c k) Tryz.f73.results.toList (net_forms.ce 0).rts) := by kernel_rfl
theorem net_forms.ob : Obl net_forms.F (bodyOf Tryz.f73) (fun k => retK (net_forms.F.c k) Tryz.f73.results.toList (net_forms.ce 0).rts) := obl_of (by kernel_rfl)
/-! ### expr_of: function 260 -/
def expr_of.f (a0 : Int) : Option (Int × Bool × Bool × ByteArray × Int × Bool) := if a0 < 1 then (some (0, false, false, (⟨#[]⟩ : ByteArray), 0, false)) else (if a0 > 14 then (some (0, false, false, (⟨#[]⟩ : ByteArray), 0, false)) else (if 0 ≤ a0 then (if a0 < (expr_kinds.length : Int) then (some ((rd_T296 expr_kinds a0).f0, (rd_T296 expr_kinds a0).f1, (rd_T296 expr_kinds a0).f2, (rd_T296 expr_kinds a0).f3, (rd_T296 expr_kinds a0).f4, true)) else (none)) else (none)))
def expr_of.ce : CallE := ⟨[⟨false, (.int .u8)⟩], [⟨true, [.v (.int .i64), .v .bool, .v .bool, .v .str, .v (.int .i64)]⟩, ⟨false, [.v .bool]⟩], fun (x : Int) => expr_of.f x⟩
def expr_of.F : Fam (RT.dens (expr_of.ce).rts) := ⟨fun k => ⟨TT0, GL0, callT [], cmpT CM0, [], BLD0, ioT []⟩, []⟩
theorem expr_of.is (k : Nat) (x : AT.dens (expr_of.ce).ats) : (expr_of.ce).fn x = den expr_of.F k (bodyOf Tryz.f260) (startAS (expr_of.ce).ats x) (retK (expr_of.F.c k) Tryz.f260.results.toList (expr_of.ce).rts) := by kernel_rfl
theorem expr_of.ob : Obl expr_of.F (bodyOf Tryz.f260) (fun k => retK (expr_of.F.c k) Tryz.f260.results.toList (expr_of.ce).rts) := obl_of (by kernel_rfl)
/-! ### expr_End: function 259 -/
def expr_End.l0 : Nat → (List S151) → Int → Int → Option Int
 | 0, _, _, _ => none
 | k + 1, x0, x1, x5 => if x5 > 0 then (if x1 ≥ (x0.length : Int) then (some 0) else (if 0 ≤ x1 then (if x1 < (x0.length : Int) then ((expr_of.f ((rd_T151 x0 x1).f0)).bind fun t1 => (expr_End.l0 k x0 (w64 (x1 + 1)) (w64 ((w64 (x5 + t1.1)) - 1)))) else (none)) else (none))) else (some x1)
def expr_End.f (k : Nat) (a0 : List S151) (a1 : Int) : Option Int := if a1 < 0 then (some 0) else (expr_End.l0 k a0 a1 1)
def expr_End.ce (k : Nat) : CallE := ⟨[⟨false, (.list T151)⟩, ⟨false, (.int .i64)⟩], [⟨false, [.v (.int .i64)]⟩], fun (x : (List S151) × Int) => expr_End.f k x.1 x.2⟩
def expr_End.F : Fam (RT.dens (expr_End.ce 0).rts) := ⟨fun k => ⟨TT0, GL0, callT [(260, [], expr_of.ce)], cmpT CM0, [], BLD0, ioT []⟩, [(5, ⟨⟨[(0, .v false (.list T151)), (1, .v false (.int .i64)), (5, .v false (.int .i64))], []⟩, fun k s => expr_End.l0 k s.1.1 s.1.2.1 s.1.2.2.1⟩)]⟩
theorem expr_End.is (k : Nat) (x : AT.dens (expr_End.ce 0).ats) : (expr_End.ce k).fn x = den expr_End.F k (bodyOf Tryz.f259) (startAS (expr_End.ce 0).ats x) (retK (expr_End.F.c k) Tryz.f259.results.toList (expr_End.ce 0).rts) := by kernel_rfl
theorem expr_End.ob : Obl expr_End.F (bodyOf Tryz.f259) (fun k => retK (expr_End.F.c k) Tryz.f259.results.toList (expr_End.ce 0).rts) := obl_of (by kernel_rfl)
/-! ### expr_Right: function 204 -/
mutual
def expr_Right.j0 : Nat → (List S151) → Int → Option Int
 | 0, _, _ => none
 | k + 1, x0, x1 => expr_Right.l1 k x0 x1 x0 (x0.length : Int) 0
def expr_Right.l1 : Nat → (List S151) → Int → (List S151) → Int → Int → Option Int
 | 0, _, _, _, _, _ => none
 | k + 1, x0, x1, x28, x29, x30 => if x30 < x29 then (if 0 ≤ x30 then (if x30 < (x28.length : Int) then ((expr_of.f ((rd_T151 x28 x30).f0)).bind fun t2 => (if ((rd_T151 x28 x30).f0) = 1 then (expr_Right.j2 k x0 x1 x30 t2.2.2.2.2.2 1048576 x28 x29 x30 ((rd_T151 x28 x30).f0) ((rd_T151 x28 x30).f1) t2.1 t2.2.1 t2.2.2.1 t2.2.2.2.1 t2.2.2.2.2.1) else (if ((rd_T151 x28 x30).f0) = 2 then (expr_Right.j2 k x0 x1 x30 t2.2.2.2.2.2 (w64 ((if 0 > x1 then 0 else x1) - 1)) x28 x29 x30 ((rd_T151 x28 x30).f0) ((rd_T151 x28 x30).f1) t2.1 t2.2.1 t2.2.2.1 t2.2.2.2.1 t2.2.2.2.2.1) else (expr_Right.j2 k x0 x1 x30 t2.2.2.2.2.2 0 x28 x29 x30 ((rd_T151 x28 x30).f0) ((rd_T151 x28 x30).f1) t2.1 t2.2.1 t2.2.2.1 t2.2.2.2.1 t2.2.2.2.2.1)))) else (none)) else (none)) else (some 0)
def expr_Right.j2 : Nat → (List S151) → Int → Int → Bool → Int → (List S151) → Int → Int → Int → Int → Int → Bool → Bool → ByteArray → Int → Option Int
 | 0, _, _, _, _, _, _, _, _, _, _, _, _, _, _, _ => none
 | k + 1, x0, x1, x5, x8, x9, x28, x29, x30, x6_0, x6_1, x7_0, x7_1, x7_2, x7_3, x7_4 => if (!x8) = true then (some 121) else (if x6_1 < 0 then (some 121) else (if x6_1 > x9 then (some 121) else (expr_Right.j3 k x0 x1 x5 x28 x29 x30 x7_0 x7_1 x7_2 x7_3 x7_4)))
def expr_Right.j3 : Nat → (List S151) → Int → Int → (List S151) → Int → Int → Int → Bool → Bool → ByteArray → Int → Option Int
 | 0, _, _, _, _, _, _, _, _, _, _, _ => none
 | k + 1, x0, x1, x5, x28, x29, x30, x7_0, x7_1, x7_2, x7_3, x7_4 => expr_Right.l4 k x0 x1 (w64 (x5 + 1)) x28 x29 x30 x7_0 0 x7_0 x7_1 x7_2 x7_3 x7_4
def expr_Right.l4 : Nat → (List S151) → Int → Int → (List S151) → Int → Int → Int → Int → Int → Bool → Bool → ByteArray → Int → Option Int
 | 0, _, _, _, _, _, _, _, _, _, _, _, _, _ => none
 | k + 1, x0, x1, x10, x28, x29, x30, x66, x67, x7_0, x7_1, x7_2, x7_3, x7_4 => if x67 < x66 then (if 0 ≤ x10 then (if x10 < (x0.length : Int) then ((expr_of.f ((rd_T151 x0 x10).f0)).bind fun t3 => (if t3.2.1 = x7_2 then ((expr_End.f k x0 x10).bind fun t4 => (expr_Right.l4 k x0 x1 t4 x28 x29 x30 x66 (w64 (x67 + 1)) x7_0 x7_1 x7_2 x7_3 x7_4)) else (some 121))) else (none)) else (none)) else (expr_Right.l1 k x0 x1 x28 x29 (w64 (x30 + 1)))
end
def expr_Right.f (k : Nat) (a0 : List S151) (a1 : Int) : Option Int := if (a0.length : Int) = 0 then (some 121) else (if (a0.length : Int) > 64 then (some 121) else ((expr_End.f k a0 0).bind fun t1 => (if t1 = (a0.length : Int) then (expr_Right.j0 k a0 a1) else (some 121))))
def expr_Right.ce (k : Nat) : CallE := ⟨[⟨false, (.list T151)⟩, ⟨false, (.int .i64)⟩], [⟨false, [.v (.int .i64)]⟩], fun (x : (List S151) × Int) => expr_Right.f k x.1 x.2⟩
def expr_Right.F : Fam (RT.dens (expr_Right.ce 0).rts) := ⟨fun k => ⟨TT0, GL0, callT [(259, [], expr_End.ce k), (260, [], expr_of.ce)], cmpT CM0, [], BLD0, ioT []⟩, [(1000004, ⟨⟨[(0, .v false (.list T151)), (1, .v false (.int .i64))], []⟩, fun k s => expr_Right.j0 k s.1.1 s.1.2.1⟩), (5, ⟨⟨[(0, .v false (.list T151)), (1, .v false (.int .i64)), (28, .v false (.list T151)), (29, .v false (.int .i64)), (30, .v false (.int .i64))], []⟩, fun k s => expr_Right.l1 k s.1.1 s.1.2.1 s.1.2.2.1 s.1.2.2.2.1 s.1.2.2.2.2.1⟩), (1000014, ⟨⟨[(0, .v false (.list T151)), (1, .v false (.int .i64)), (5, .v false (.int .i64)), (6, .k (.ptr 384 0)), (7, .k (.ptr 448 0)), (8, .v false .bool), (9, .v false (.int .i64)), (28, .v false (.list T151)), (29, .v false (.int .i64)), (30, .v false (.int .i64))], [(384, [.v (.int .u8), .v (.int .i64)]), (448, [.v (.int .i64), .v .bool, .v .bool, .v .str, .v (.int .i64)])]⟩, fun k s => expr_Right.j2 k s.1.1 s.1.2.1 s.1.2.2.1 s.1.2.2.2.1 s.1.2.2.2.2.1 s.1.2.2.2.2.2.1 s.1.2.2.2.2.2.2.1 s.1.2.2.2.2.2.2.2.1 s.2.1.1 s.2.1.2.1 s.2.2.1.1 s.2.2.1.2.1 s.2.2.1.2.2.1 s.2.2.1.2.2.2.1 s.2.2.1.2.2.2.2.1⟩), (1000016, ⟨⟨[(0, .v false (.list T151)), (1, .v false (.int .i64)), (5, .v false (.int .i64)), (7, .k (.ptr 448 0)), (28, .v false (.list T151)), (29, .v false (.int .i64)), (30, .v false (.int .i64))], [(448, [.v (.int .i64), .v .bool, .v .bool, .v .str, .v (.int .i64)])]⟩, fun k s => expr_Right.j3 k s.1.1 s.1.2.1 s.1.2.2.1 s.1.2.2.2.1 s.1.2.2.2.2.1 s.1.2.2.2.2.2.1 s.2.1.1 s.2.1.2.1 s.2.1.2.2.1 s.2.1.2.2.2.1 s.2.1.2.2.2.2.1⟩), (18, ⟨⟨[(0, .v false (.list T151)), (1, .v false (.int .i64)), (7, .k (.ptr 448 0)), (10, .v false (.int .i64)), (28, .v false (.list T151)), (29, .v false (.int .i64)), (30, .v false (.int .i64)), (66, .v false (.int .i64)), (67, .v false (.int .i64))], [(448, [.v (.int .i64), .v .bool, .v .bool, .v .str, .v (.int .i64)])]⟩, fun k s => expr_Right.l4 k s.1.1 s.1.2.1 s.1.2.2.1 s.1.2.2.2.1 s.1.2.2.2.2.1 s.1.2.2.2.2.2.1 s.1.2.2.2.2.2.2.1 s.1.2.2.2.2.2.2.2.1 s.2.1.1 s.2.1.2.1 s.2.1.2.2.1 s.2.1.2.2.2.1 s.2.1.2.2.2.2.1⟩)]⟩
theorem expr_Right.is (k : Nat) (x : AT.dens (expr_Right.ce 0).ats) : (expr_Right.ce k).fn x = den expr_Right.F k (bodyOf Tryz.f204) (startAS (expr_Right.ce 0).ats x) (retK (expr_Right.F.c k) Tryz.f204.results.toList (expr_Right.ce 0).rts) := by kernel_rfl
theorem expr_Right.ob : Obl expr_Right.F (bodyOf Tryz.f204) (fun k => retK (expr_Right.F.c k) Tryz.f204.results.toList (expr_Right.ce 0).rts) := obl_of (by kernel_rfl)
/-! ### expr_IsTruth: function 205 -/
def expr_IsTruth.f (a0 : List S151) : Option Bool := if (a0.length : Int) = 0 then (some false) else (if 0 ≤ 0 then (if 0 < (a0.length : Int) then ((expr_of.f ((rd_T151 a0 0).f0)).bind fun t1 => (some t1.2.1)) else (none)) else (none))
def expr_IsTruth.ce : CallE := ⟨[⟨false, (.list T151)⟩], [⟨false, [.v .bool]⟩], fun (x : (List S151)) => expr_IsTruth.f x⟩
def expr_IsTruth.F : Fam (RT.dens (expr_IsTruth.ce).rts) := ⟨fun k => ⟨TT0, GL0, callT [(260, [], expr_of.ce)], cmpT CM0, [], BLD0, ioT []⟩, []⟩
theorem expr_IsTruth.is (k : Nat) (x : AT.dens (expr_IsTruth.ce).ats) : (expr_IsTruth.ce).fn x = den expr_IsTruth.F k (bodyOf Tryz.f205) (startAS (expr_IsTruth.ce).ats x) (retK (expr_IsTruth.F.c k) Tryz.f205.results.toList (expr_IsTruth.ce).rts) := by kernel_rfl
theorem expr_IsTruth.ob : Obl expr_IsTruth.F (bodyOf Tryz.f205) (fun k => retK (expr_IsTruth.F.c k) Tryz.f205.results.toList (expr_IsTruth.ce).rts) := obl_of (by kernel_rfl)
/-! ### net_truth: function 90 -/
def net_truth.f (k : Nat) (l0_0 : List ByteArray) (l0_1 : List S86) (l0_2 : List ByteArray) (l0_3 : List S76) (a1 : List S151) : Option Int := if (a1.length : Int) > 0 then ((expr_Right.f k a1 (l0_1.length : Int)).bind fun t1 => (if t1 = 0 then ((expr_IsTruth.f a1).bind fun t2 => (if (!t2) = true then (some 121) else (some 0))) else (some 121))) else (some 0)
def net_truth.ce (k : Nat) : CallE := ⟨[⟨true, T26⟩, ⟨false, (.list T151)⟩], [⟨false, [.v (.int .i64)]⟩], fun (x : S26 × (List S151)) => net_truth.f k x.1.f0 x.1.f1 x.1.f2 x.1.f3 x.2⟩
def net_truth.F : Fam (RT.dens (net_truth.ce 0).rts) := ⟨fun k => ⟨TT0, GL0, callT [(204, [], expr_Right.ce k), (205, [], expr_IsTruth.ce)], cmpT CM0, [], BLD0, ioT []⟩, []⟩
theorem net_truth.is (k : Nat) (x : AT.dens (net_truth.ce 0).ats) : (net_truth.ce k).fn x = den net_truth.F k (bodyOf Tryz.f90) (startAS (net_truth.ce 0).ats x) (retK (net_truth.F.c k) Tryz.f90.results.toList (net_truth.ce 0).rts) := by kernel_rfl
theorem net_truth.ob : Obl net_truth.F (bodyOf Tryz.f90) (fun k => retK (net_truth.F.c k) Tryz.f90.results.toList (net_truth.ce 0).rts) := obl_of (by kernel_rfl)
/-! ### net_tests: function 74 -/
mutual
def net_tests.l0 : Nat → (List S76) → Int → Int → (List ByteArray) → (List S86) → (List ByteArray) → (List S76) → Option Int
 | 0, _, _, _, _, _, _, _ => none
 | k + 1, x11, x12, x13, x1_0, x1_1, x1_2, x1_3 => if x13 < x12 then (if 0 ≤ x13 then (if x13 < (x11.length : Int) then (net_tests.l1 k x11 x12 x13 ((rd_T76 x11 x13).f2) (((rd_T76 x11 x13).f2).length : Int) 0 x1_0 x1_1 x1_2 x1_3) else (none)) else (none)) else ((net_sets.f k x1_0 x1_1 x1_2 x1_3).bind fun t2 => (net_tests.l2 k t2 (t2.length : Int) 0 x1_0 x1_1 x1_2 x1_3))
def net_tests.l1 : Nat → (List S76) → Int → Int → (List S79) → Int → Int → (List ByteArray) → (List S86) → (List ByteArray) → (List S76) → Option Int
 | 0, _, _, _, _, _, _, _, _, _, _ => none
 | k + 1, x11, x12, x13, x18, x19, x20, x1_0, x1_1, x1_2, x1_3 => if x20 < x19 then (if 0 ≤ x20 then (if x20 < (x18.length : Int) then ((net_truth.f k x1_0 x1_1 x1_2 x1_3 ((rd_T79 x18 x20).f3)).bind fun t1 => (if t1 = 0 then (net_tests.l1 k x11 x12 x13 x18 x19 (w64 (x20 + 1)) x1_0 x1_1 x1_2 x1_3) else (some t1))) else (none)) else (none)) else (net_tests.l0 k x11 x12 (w64 (x13 + 1)) x1_0 x1_1 x1_2 x1_3)
def net_tests.l2 : Nat → (List S81) → Int → Int → (List ByteArray) → (List S86) → (List ByteArray) → (List S76) → Option Int
 | 0, _, _, _, _, _, _, _ => none
 | k + 1, x34, x35, x36, x1_0, x1_1, x1_2, x1_3 => if x36 < x35 then (if 0 ≤ x36 then (if x36 < (x34.length : Int) then (if ((rd_T81 x34 x36).f0) = 0 then (if ((rd_T81 x34 x36).f2) < 0 then (some 121) else (if ((rd_T81 x34 x36).f2) ≥ (x1_1.length : Int) then (some 121) else ((expr_Right.f k ((rd_T81 x34 x36).f3) (x1_1.length : Int)).bind fun t3 => (if t3 = 0 then ((expr_IsTruth.f ((rd_T81 x34 x36).f3)).bind fun t4 => (if t4 = true then (some 121) else (net_tests.l2 k x34 x35 (w64 (x36 + 1)) x1_0 x1_1 x1_2 x1_3))) else (some 121))))) else (net_tests.l2 k x34 x35 (w64 (x36 + 1)) x1_0 x1_1 x1_2 x1_3)) else (none)) else (none)) else (some 0)
end
def net_tests.f (k : Nat) (l0_0 : List ByteArray) (l0_1 : List S86) (l0_2 : List ByteArray) (l0_3 : List S76) : Option Int := net_tests.l0 k l0_3 (l0_3.length : Int) 0 l0_0 l0_1 l0_2 l0_3
def net_tests.ce (k : Nat) : CallE := ⟨[⟨true, T26⟩], [⟨false, [.v (.int .i64)]⟩], fun (x : S26) => net_tests.f k x.f0 x.f1 x.f2 x.f3⟩
def net_tests.F : Fam (RT.dens (net_tests.ce 0).rts) := ⟨fun k => ⟨TT0, GL0, callT [(90, [], net_truth.ce k), (202, [], net_sets.ce k), (204, [], expr_Right.ce k), (205, [], expr_IsTruth.ce)], cmpT CM0, [], BLD0, ioT []⟩, [(3, ⟨⟨[(1, .k (.ptr 64 0)), (11, .v false (.list T76)), (12, .v false (.int .i64)), (13, .v false (.int .i64))], [(64, [.v (.list .str), .v (.list T86), .v (.list .str), .v (.list T76)])]⟩, fun k s => net_tests.l0 k s.1.1 s.1.2.1 s.1.2.2.1 s.2.1.1 s.2.1.2.1 s.2.1.2.2.1 s.2.1.2.2.2.1⟩), (6, ⟨⟨[(1, .k (.ptr 64 0)), (11, .v false (.list T76)), (12, .v false (.int .i64)), (13, .v false (.int .i64)), (18, .v false (.list T79)), (19, .v false (.int .i64)), (20, .v false (.int .i64))], [(64, [.v (.list .str), .v (.list T86), .v (.list .str), .v (.list T76)])]⟩, fun k s => net_tests.l1 k s.1.1 s.1.2.1 s.1.2.2.1 s.1.2.2.2.1 s.1.2.2.2.2.1 s.1.2.2.2.2.2.1 s.2.1.1 s.2.1.2.1 s.2.1.2.2.1 s.2.1.2.2.2.1⟩), (14, ⟨⟨[(1, .k (.ptr 64 0)), (34, .o 81 T81), (35, .v false (.int .i64)), (36, .v false (.int .i64))], [(64, [.v (.list .str), .v (.list T86), .v (.list .str), .v (.list T76)])]⟩, fun k s => net_tests.l2 k s.1.1 s.1.2.1 s.1.2.2.1 s.2.1.1 s.2.1.2.1 s.2.1.2.2.1 s.2.1.2.2.2.1⟩)]⟩
theorem net_tests.is (k : Nat) (x : AT.dens (net_tests.ce 0).ats) : (net_tests.ce k).fn x = den net_tests.F k (bodyOf Tryz.f74) (startAS (net_tests.ce 0).ats x) (retK (net_tests.F.c k) Tryz.f74.results.toList (net_tests.ce 0).rts) := by kernel_rfl
theorem net_tests.ob : Obl net_tests.F (bodyOf Tryz.f74) (fun k => retK (net_tests.F.c k) Tryz.f74.results.toList (net_tests.ce 0).rts) := obl_of (by kernel_rfl)
/-! ### net_Whole: function 14 -/
def net_Whole.l0 : Nat → (List DA0) → Int → Int → (List ByteArray) → (List S86) → (List ByteArray) → (List S76) → Option Int
 | 0, _, _, _, _, _, _, _ => none
 | k + 1, x8, x9, x10, x1_0, x1_1, x1_2, x1_3 => if x10 < x9 then (if 0 ≤ x10 then (if x10 < (x8.length : Int) then ((Sum.elim (fun (_ : Bool) => net_some.f k x1_0 x1_1 x1_2 x1_3) (Sum.elim (fun (_ : Bool) => net_sizes.f k x1_0 x1_1 x1_2 x1_3) (Sum.elim (fun (_ : Bool) => net_names.f k x1_0 x1_1 x1_2 x1_3) (Sum.elim (fun (_ : Bool) => net_vars.f k x1_0 x1_1 x1_2 x1_3) (Sum.elim (fun (_ : Bool) => net_locs.f k x1_0 x1_1 x1_2 x1_3) (Sum.elim (fun (_ : Bool) => net_edges.f k x1_0 x1_1 x1_2 x1_3) (Sum.elim (fun (_ : Bool) => net_clocks.f k x1_0 x1_1 x1_2 x1_3) (Sum.elim (fun (_ : Bool) => net_forms.f k x1_0 x1_1 x1_2 x1_3) (Sum.elim (fun (_ : Bool) => net_tests.f k x1_0 x1_1 x1_2 x1_3) (fun _ => none))))))))) (rdT A0 x8 x10)).bind fun t1 => (if t1 = 0 then (net_Whole.l0 k x8 x9 (w64 (x10 + 1)) x1_0 x1_1 x1_2 x1_3) else (some t1))) else (none)) else (none)) else (some 0)
def net_Whole.f (k : Nat) (l0_0 : List ByteArray) (l0_1 : List S86) (l0_2 : List ByteArray) (l0_3 : List S76) : Option Int := net_Whole.l0 k ([(Sum.inl false), (Sum.inr (Sum.inl false)), (Sum.inr (Sum.inr (Sum.inl false))), (Sum.inr (Sum.inr (Sum.inr (Sum.inl false)))), (Sum.inr (Sum.inr (Sum.inr (Sum.inr (Sum.inl false))))), (Sum.inr (Sum.inr (Sum.inr (Sum.inr (Sum.inr (Sum.inl false)))))), (Sum.inr (Sum.inr (Sum.inr (Sum.inr (Sum.inr (Sum.inr (Sum.inl false))))))), (Sum.inr (Sum.inr (Sum.inr (Sum.inr (Sum.inr (Sum.inr (Sum.inr (Sum.inl false)))))))), (Sum.inr (Sum.inr (Sum.inr (Sum.inr (Sum.inr (Sum.inr (Sum.inr (Sum.inr (Sum.inl false)))))))))] : List DA0) (([(Sum.inl false), (Sum.inr (Sum.inl false)), (Sum.inr (Sum.inr (Sum.inl false))), (Sum.inr (Sum.inr (Sum.inr (Sum.inl false)))), (Sum.inr (Sum.inr (Sum.inr (Sum.inr (Sum.inl false))))), (Sum.inr (Sum.inr (Sum.inr (Sum.inr (Sum.inr (Sum.inl false)))))), (Sum.inr (Sum.inr (Sum.inr (Sum.inr (Sum.inr (Sum.inr (Sum.inl false))))))), (Sum.inr (Sum.inr (Sum.inr (Sum.inr (Sum.inr (Sum.inr (Sum.inr (Sum.inl false)))))))), (Sum.inr (Sum.inr (Sum.inr (Sum.inr (Sum.inr (Sum.inr (Sum.inr (Sum.inr (Sum.inl false)))))))))] : List DA0).length : Int) 0 l0_0 l0_1 l0_2 l0_3
def net_Whole.ce (k : Nat) : CallE := ⟨[⟨true, T26⟩], [⟨false, [.v (.int .i64)]⟩], fun (x : S26) => net_Whole.f k x.f0 x.f1 x.f2 x.f3⟩
def net_Whole.F : Fam (RT.dens (net_Whole.ce 0).rts) := ⟨fun k => ⟨TT0, GL0, callT [(66, [], net_some.ce k), (67, [], net_sizes.ce k), (68, [], net_names.ce k), (69, [], net_vars.ce k), (70, [], net_locs.ce k), (71, [], net_edges.ce k), (72, [], net_clocks.ce k), (73, [], net_forms.ce k), (74, [], net_tests.ce k)], cmpT CM0, [], BLD0, ioT []⟩, [(4, ⟨⟨[(1, .k (.ptr 64 0)), (8, .o 30 A0), (9, .v false (.int .i64)), (10, .v false (.int .i64))], [(64, [.v (.list .str), .v (.list T86), .v (.list .str), .v (.list T76)])]⟩, fun k s => net_Whole.l0 k s.1.1 s.1.2.1 s.1.2.2.1 s.2.1.1 s.2.1.2.1 s.2.1.2.2.1 s.2.1.2.2.2.1⟩)]⟩
theorem net_Whole.is (k : Nat) (x : AT.dens (net_Whole.ce 0).ats) : (net_Whole.ce k).fn x = den net_Whole.F k (bodyOf Tryz.f14) (startAS (net_Whole.ce 0).ats x) (retK (net_Whole.F.c k) Tryz.f14.results.toList (net_Whole.ce 0).rts) := by kernel_rfl
theorem net_Whole.ob : Obl net_Whole.F (bodyOf Tryz.f14) (fun k => retK (net_Whole.F.c k) Tryz.f14.results.toList (net_Whole.ce 0).rts) := obl_of (by kernel_rfl)
/-! ### net_Right: function 16 -/
def net_Right.f (k : Nat) (l0_0 : List ByteArray) (l0_1 : List S86) (l0_2 : List ByteArray) (l0_3 : List S76) : Option Bool := (net_Whole.f k l0_0 l0_1 l0_2 l0_3).bind fun t1 => (some (decide (t1 = 0)))
def net_Right.ce (k : Nat) : CallE := ⟨[⟨true, T26⟩], [⟨false, [.v .bool]⟩], fun (x : S26) => net_Right.f k x.f0 x.f1 x.f2 x.f3⟩
def net_Right.F : Fam (RT.dens (net_Right.ce 0).rts) := ⟨fun k => ⟨TT0, GL0, callT [(14, [], net_Whole.ce k)], cmpT CM0, [], BLD0, ioT []⟩, []⟩
theorem net_Right.is (k : Nat) (x : AT.dens (net_Right.ce 0).ats) : (net_Right.ce k).fn x = den net_Right.F k (bodyOf Tryz.f16) (startAS (net_Right.ce 0).ats x) (retK (net_Right.F.c k) Tryz.f16.results.toList (net_Right.ce 0).rts) := by kernel_rfl
theorem net_Right.ob : Obl net_Right.F (bodyOf Tryz.f16) (fun k => retK (net_Right.F.c k) Tryz.f16.results.toList (net_Right.ce 0).rts) := obl_of (by kernel_rfl)
/-! ### moves_edge: function 226 -/
def moves_edge.f (l0_0 : List ByteArray) (l0_1 : List S86) (l0_2 : List ByteArray) (l0_3 : List S76) (a1 : Int) (a2 : Int) : Option (Int × Int × (List S43) × (List S151) × Int × Bool × (List S81) × Bool) := if a1 < 0 then (some (0, 0, ([] : List S43), ([] : List S151), 0, false, ([] : List S81), false)) else (if a1 ≥ (l0_3.length : Int) then (some (0, 0, ([] : List S43), ([] : List S151), 0, false, ([] : List S81), false)) else (if a2 < 0 then (some (0, 0, ([] : List S43), ([] : List S151), 0, false, ([] : List S81), false)) else (if 0 ≤ a1 then (if a1 < (l0_3.length : Int) then (if a2 ≥ (((rd_T76 l0_3 a1).f2).length : Int) then (some (0, 0, ([] : List S43), ([] : List S151), 0, false, ([] : List S81), false)) else (if 0 ≤ a1 then (if a1 < (l0_3.length : Int) then (if 0 ≤ a2 then (if a2 < (((rd_T76 l0_3 a1).f2).length : Int) then (some ((rd_T79 ((rd_T76 l0_3 a1).f2) a2).f0, (rd_T79 ((rd_T76 l0_3 a1).f2) a2).f1, (rd_T79 ((rd_T76 l0_3 a1).f2) a2).f2, (rd_T79 ((rd_T76 l0_3 a1).f2) a2).f3, (rd_T79 ((rd_T76 l0_3 a1).f2) a2).f4, (rd_T79 ((rd_T76 l0_3 a1).f2) a2).f5, (rd_T79 ((rd_T76 l0_3 a1).f2) a2).f6, true)) else (none)) else (none)) else (none)) else (none))) else (none)) else (none))))
def moves_edge.ce : CallE := ⟨[⟨true, T26⟩, ⟨false, (.int .i64)⟩, ⟨false, (.int .i64)⟩], [⟨true, [.v (.int .i64), .v (.int .i64), .v (.list T43), .v (.list T151), .v (.int .i64), .v .bool, .v (.list T81)]⟩, ⟨false, [.v .bool]⟩], fun (x : S26 × Int × Int) => moves_edge.f x.1.f0 x.1.f1 x.1.f2 x.1.f3 x.2.1 x.2.2⟩
def moves_edge.F : Fam (RT.dens (moves_edge.ce).rts) := ⟨fun k => ⟨TT0, GL0, callT [], cmpT CM0, [], BLD0, ioT []⟩, []⟩
theorem moves_edge.is (k : Nat) (x : AT.dens (moves_edge.ce).ats) : (moves_edge.ce).fn x = den moves_edge.F k (bodyOf Tryz.f226) (startAS (moves_edge.ce).ats x) (retK (moves_edge.F.c k) Tryz.f226.results.toList (moves_edge.ce).rts) := by kernel_rfl
theorem moves_edge.ob : Obl moves_edge.F (bodyOf Tryz.f226) (fun k => retK (moves_edge.F.c k) Tryz.f226.results.toList (moves_edge.ce).rts) := obl_of (by kernel_rfl)
/-! ### moves_sides: function 160 -/
def moves_sides.j0 : Nat → Int → Int → Int → Int → Int → Int → (List S43) → (List S151) → Int → Bool → (List S81) → Int → Int → (List S43) → (List S151) → Int → Bool → (List S81) → Option ((List S257) × Bool)
 | 0, _, _, _, _, _, _, _, _, _, _, _, _, _, _, _, _, _, _ => none
 | k + 1, x3_0, x3_1, x3_2, x3_3, x6_0, x6_1, x6_2, x6_3, x6_4, x6_5, x6_6, x8_0, x8_1, x8_2, x8_3, x8_4, x8_5, x8_6 => (some (([(⟨x3_0, (⟨x6_0, x6_1, x6_2, x6_3, x6_4, x6_5, x6_6⟩ : S79)⟩ : S257), (⟨w64 (x3_2 - 1), (⟨x8_0, x8_1, x8_2, x8_3, x8_4, x8_5, x8_6⟩ : S79)⟩ : S257)] : List S257), true))
def moves_sides.f (k : Nat) (l0_0 : List ByteArray) (l0_1 : List S86) (l0_2 : List ByteArray) (l0_3 : List S76) (l1_0 : Int) (l1_1 : Int) (l1_2 : Int) (l1_3 : Int) : Option ((List S257) × Bool) := (moves_edge.f l0_0 l0_1 l0_2 l0_3 l1_0 l1_1).bind fun t1 => (if (!t1.2.2.2.2.2.2.2) = true then (some (([] : List S257), false)) else (if l1_2 = 0 then (if t1.2.2.2.2.1 = 0 then (some (([(⟨l1_0, (⟨t1.1, t1.2.1, t1.2.2.1, t1.2.2.2.1, t1.2.2.2.2.1, t1.2.2.2.2.2.1, t1.2.2.2.2.2.2.1⟩ : S79)⟩ : S257)] : List S257), decide (l1_3 = 0))) else (some (([(⟨l1_0, (⟨t1.1, t1.2.1, t1.2.2.1, t1.2.2.2.1, t1.2.2.2.2.1, t1.2.2.2.2.2.1, t1.2.2.2.2.2.2.1⟩ : S79)⟩ : S257)] : List S257), false))) else ((moves_edge.f l0_0 l0_1 l0_2 l0_3 (w64 (l1_2 - 1)) l1_3).bind fun t2 => (if (!t2.2.2.2.2.2.2.2) = true then (some (([] : List S257), false)) else (if (w64 (l1_2 - 1)) = l1_0 then (some (([] : List S257), false)) else (if t1.2.2.2.2.1 = 0 then (some (([] : List S257), false)) else (if t1.2.2.2.2.1 = t2.2.2.2.2.1 then (if (!t1.2.2.2.2.2.1) = true then (some (([] : List S257), false)) else (if t2.2.2.2.2.2.1 = true then (some (([] : List S257), false)) else (moves_sides.j0 k l1_0 l1_1 l1_2 l1_3 t1.1 t1.2.1 t1.2.2.1 t1.2.2.2.1 t1.2.2.2.2.1 t1.2.2.2.2.2.1 t1.2.2.2.2.2.2.1 t2.1 t2.2.1 t2.2.2.1 t2.2.2.2.1 t2.2.2.2.2.1 t2.2.2.2.2.2.1 t2.2.2.2.2.2.2.1))) else (some (([] : List S257), false)))))))))
def moves_sides.ce (k : Nat) : CallE := ⟨[⟨true, T26⟩, ⟨true, T192⟩], [⟨false, [.o 257 T257]⟩, ⟨false, [.v .bool]⟩], fun (x : S26 × S192) => moves_sides.f k x.1.f0 x.1.f1 x.1.f2 x.1.f3 x.2.f0 x.2.f1 x.2.f2 x.2.f3⟩
def moves_sides.F : Fam (RT.dens (moves_sides.ce 0).rts) := ⟨fun k => ⟨TT0, GL0, callT [(226, [], moves_edge.ce)], cmpT CM0, [], BLD0, ioT []⟩, [(1000010, ⟨⟨[(3, .k (.ptr 192 0)), (6, .k (.ptr 384 0)), (8, .k (.ptr 512 0))], [(192, [.v (.int .i64), .v (.int .i64), .v (.int .i64), .v (.int .i64)]), (384, [.v (.int .i64), .v (.int .i64), .v (.list T43), .v (.list T151), .v (.int .i64), .v .bool, .v (.list T81)]), (512, [.v (.int .i64), .v (.int .i64), .v (.list T43), .v (.list T151), .v (.int .i64), .v .bool, .v (.list T81)])]⟩, fun k s => moves_sides.j0 k s.2.1.1 s.2.1.2.1 s.2.1.2.2.1 s.2.1.2.2.2.1 s.2.2.1.1 s.2.2.1.2.1 s.2.2.1.2.2.1 s.2.2.1.2.2.2.1 s.2.2.1.2.2.2.2.1 s.2.2.1.2.2.2.2.2.1 s.2.2.1.2.2.2.2.2.2.1 s.2.2.2.1.1 s.2.2.2.1.2.1 s.2.2.2.1.2.2.1 s.2.2.2.1.2.2.2.1 s.2.2.2.1.2.2.2.2.1 s.2.2.2.1.2.2.2.2.2.1 s.2.2.2.1.2.2.2.2.2.2.1⟩)]⟩
theorem moves_sides.is (k : Nat) (x : AT.dens (moves_sides.ce 0).ats) : (moves_sides.ce k).fn x = den moves_sides.F k (bodyOf Tryz.f160) (startAS (moves_sides.ce 0).ats x) (retK (moves_sides.F.c k) Tryz.f160.results.toList (moves_sides.ce 0).rts) := by kernel_rfl
theorem moves_sides.ob : Obl moves_sides.F (bodyOf Tryz.f160) (fun k => retK (moves_sides.F.c k) Tryz.f160.results.toList (moves_sides.ce 0).rts) := obl_of (by kernel_rfl)
/-! ### math_bits_Mul64: function 280 -/
def math_bits_Mul64.f (a0 : Int) (a1 : Int) : Option (Int × Int) := (some (wk .u64 ((wk .u64 ((wk .u64 ((a0 / 4294967296) * (a1 / 4294967296))) + ((wk .u64 ((wk .u64 ((a0 / 4294967296) * (Wr.and .u64 a1 4294967295))) + ((wk .u64 ((Wr.and .u64 a0 4294967295) * (Wr.and .u64 a1 4294967295))) / 4294967296))) / 4294967296))) + ((wk .u64 ((Wr.and .u64 (wk .u64 ((wk .u64 ((a0 / 4294967296) * (Wr.and .u64 a1 4294967295))) + ((wk .u64 ((Wr.and .u64 a0 4294967295) * (Wr.and .u64 a1 4294967295))) / 4294967296))) 4294967295) + (wk .u64 ((Wr.and .u64 a0 4294967295) * (a1 / 4294967296))))) / 4294967296)), wk .u64 (a0 * a1)))
def math_bits_Mul64.ce : CallE := ⟨[⟨false, (.int .u64)⟩, ⟨false, (.int .u64)⟩], [⟨false, [.v (.int .u64)]⟩, ⟨false, [.v (.int .u64)]⟩], fun (x : Int × Int) => math_bits_Mul64.f x.1 x.2⟩
def math_bits_Mul64.F : Fam (RT.dens (math_bits_Mul64.ce).rts) := ⟨fun k => ⟨TT0, GL0, callT [], cmpT CM0, [], BLD0, ioT []⟩, []⟩
theorem math_bits_Mul64.is (k : Nat) (x : AT.dens (math_bits_Mul64.ce).ats) : (math_bits_Mul64.ce).fn x = den math_bits_Mul64.F k (bodyOf Tryz.f280) (startAS (math_bits_Mul64.ce).ats x) (retK (math_bits_Mul64.F.c k) Tryz.f280.results.toList (math_bits_Mul64.ce).rts) := by kernel_rfl
theorem math_bits_Mul64.ob : Obl math_bits_Mul64.F (bodyOf Tryz.f280) (fun k => retK (math_bits_Mul64.F.c k) Tryz.f280.results.toList (math_bits_Mul64.ce).rts) := obl_of (by kernel_rfl)
/-! ### moves_Print: function 57 -/
def moves_Print.l0 : Nat → (List ByteArray) → (List S192) → Int → Int → (List ByteArray) → (List S86) → (List ByteArray) → (List S76) → Option (ByteArray × Int)
 | 0, _, _, _, _, _, _, _, _ => none
 | k + 1, x6, x15, x16, x17, x2_0, x2_1, x2_2, x2_3 => if x17 < x16 then (if 0 ≤ x17 then (if x17 < (x15.length : Int) then ((moves_sides.f k x2_0 x2_1 x2_2 x2_3 ((rd_T192 x15 x17).f0) ((rd_T192 x15 x17).f1) ((rd_T192 x15 x17).f2) ((rd_T192 x15 x17).f3)).bind fun t2 => (if (!t2.2) = true then (some ((⟨#[]⟩ : ByteArray), 213)) else (if 0 ≤ (rd_T192 x15 x17).f0 then (if (rd_T192 x15 x17).f0 < (x2_3.length : Int) then (if ((rd_T76 x2_3 ((rd_T192 x15 x17).f0)).f0).size + (⟨#[46]⟩ : ByteArray).size ≤ 9223372036854775807 then ((strconv_Itoa.f ((rd_T192 x15 x17).f1)).bind fun t3 => (if (((rd_T76 x2_3 ((rd_T192 x15 x17).f0)).f0) ++ (⟨#[46]⟩ : ByteArray)).size + t3.size ≤ 9223372036854775807 then (if ((rd_T192 x15 x17).f2) > 0 then (if 0 ≤ w64 (((rd_T192 x15 x17).f2) - 1) then (if w64 (((rd_T192 x15 x17).f2) - 1) < (x2_3.length : Int) then (if (⟨#[32]⟩ : ByteArray).size + ((rd_T76 x2_3 (w64 (((rd_T192 x15 x17).f2) - 1))).f0).size ≤ 9223372036854775807 then (if ((⟨#[32]⟩ : ByteArray) ++ ((rd_T76 x2_3 (w64 (((rd_T192 x15 x17).f2) - 1))).f0)).size + (⟨#[46]⟩ : ByteArray).size ≤ 9223372036854775807 then ((strconv_Itoa.f ((rd_T192 x15 x17).f3)).bind fun t4 => (if (((⟨#[32]⟩ : ByteArray) ++ ((rd_T76 x2_3 (w64 (((rd_T192 x15 x17).f2) - 1))).f0)) ++ (⟨#[46]⟩ : ByteArray)).size + t4.size ≤ 9223372036854775807 then (if ((((rd_T76 x2_3 ((rd_T192 x15 x17).f0)).f0) ++ (⟨#[46]⟩ : ByteArray)) ++ t3).size + ((((⟨#[32]⟩ : ByteArray) ++ ((rd_T76 x2_3 (w64 (((rd_T192 x15 x17).f2) - 1))).f0)) ++ (⟨#[46]⟩ : ByteArray)) ++ t4).size ≤ 9223372036854775807 then (if x6.length < 8796093022208 then (moves_Print.l0 k (x6 ++ [(((((rd_T76 x2_3 ((rd_T192 x15 x17).f0)).f0) ++ (⟨#[46]⟩ : ByteArray)) ++ t3) ++ ((((⟨#[32]⟩ : ByteArray) ++ ((rd_T76 x2_3 (w64 (((rd_T192 x15 x17).f2) - 1))).f0)) ++ (⟨#[46]⟩ : ByteArray)) ++ t4))]) x15 x16 (w64 (x17 + 1)) x2_0 x2_1 x2_2 x2_3) else (none)) else (none)) else (none))) else (none)) else (none)) else (none)) else (none)) else (if x6.length < 8796093022208 then (moves_Print.l0 k (x6 ++ [((((rd_T76 x2_3 ((rd_T192 x15 x17).f0)).f0) ++ (⟨#[46]⟩ : ByteArray)) ++ t3)]) x15 x16 (w64 (x17 + 1)) x2_0 x2_1 x2_2 x2_3) else (none))) else (none))) else (none)) else (none)) else (none)))) else (none)) else (none)) else ((strings_Join.f x6 (⟨#[44, 32]⟩ : ByteArray)).bind fun t5 => (some (t5, 0)))
def moves_Print.f (k : Nat) (l0_0 : List ByteArray) (l0_1 : List S86) (l0_2 : List ByteArray) (l0_3 : List S76) (a1 : List S192) : Option (ByteArray × Int) := (net_Right.f k l0_0 l0_1 l0_2 l0_3).bind fun t1 => (if (!t1) = true then (some ((⟨#[]⟩ : ByteArray), 7)) else (moves_Print.l0 k ([] : List ByteArray) a1 (a1.length : Int) 0 l0_0 l0_1 l0_2 l0_3))
def moves_Print.ce (k : Nat) : CallE := ⟨[⟨true, T26⟩, ⟨false, (.list T192)⟩], [⟨false, [.v .str]⟩, ⟨false, [.v (.int .i64)]⟩], fun (x : S26 × (List S192)) => moves_Print.f k x.1.f0 x.1.f1 x.1.f2 x.1.f3 x.2⟩
def moves_Print.F : Fam (RT.dens (moves_Print.ce 0).rts) := ⟨fun k => ⟨TT0, GL0, callT [(16, [], net_Right.ce k), (111, [], strings_Join.ce), (112, [], strconv_Itoa.ce), (160, [], moves_sides.ce k)], cmpT CM0, [], BLD0, ioT []⟩, [(6, ⟨⟨[(2, .k (.ptr 128 0)), (6, .o 9 .str), (15, .v false (.list T192)), (16, .v false (.int .i64)), (17, .v false (.int .i64))], [(128, [.v (.list .str), .v (.list T86), .v (.list .str), .v (.list T76)])]⟩, fun k s => moves_Print.l0 k s.1.1 s.1.2.1 s.1.2.2.1 s.1.2.2.2.1 s.2.1.1 s.2.1.2.1 s.2.1.2.2.1 s.2.1.2.2.2.1⟩)]⟩
theorem moves_Print.is (k : Nat) (x : AT.dens (moves_Print.ce 0).ats) : (moves_Print.ce k).fn x = den moves_Print.F k (bodyOf Tryz.f57) (startAS (moves_Print.ce 0).ats x) (retK (moves_Print.F.c k) Tryz.f57.results.toList (moves_Print.ce 0).rts) := by kernel_rfl
theorem moves_Print.ob : Obl moves_Print.F (bodyOf Tryz.f57) (fun k => retK (moves_Print.F.c k) Tryz.f57.results.toList (moves_Print.ce 0).rts) := obl_of (by kernel_rfl)
/-! ### gnomonmem_SameMoves: function 42 -/
def gnomonmem_SameMoves.l0 : Nat → (List S192) → (List S192) → Int → Option Bool
 | 0, _, _, _ => none
 | k + 1, x0, x1, x5 => if x5 < (x0.length : Int) then (if 0 ≤ x5 then (if x5 < (x0.length : Int) then (if 0 ≤ x5 then (if x5 < (x1.length : Int) then (if (rd_T192 x0 x5) = (rd_T192 x1 x5) then (gnomonmem_SameMoves.l0 k x0 x1 (w64 (x5 + 1))) else (some false)) else (none)) else (none)) else (none)) else (none)) else (some true)
def gnomonmem_SameMoves.f (k : Nat) (a0 : List S192) (a1 : List S192) : Option Bool := if (a0.length : Int) = (a1.length : Int) then (gnomonmem_SameMoves.l0 k a0 a1 0) else (some false)
def gnomonmem_SameMoves.ce (k : Nat) : CallE := ⟨[⟨false, (.list T192)⟩, ⟨false, (.list T192)⟩], [⟨false, [.v .bool]⟩], fun (x : (List S192) × (List S192)) => gnomonmem_SameMoves.f k x.1 x.2⟩
def gnomonmem_SameMoves.F : Fam (RT.dens (gnomonmem_SameMoves.ce 0).rts) := ⟨fun k => ⟨TT0, GL0, callT [], cmpT CM0, [], BLD0, ioT []⟩, [(5, ⟨⟨[(0, .v false (.list T192)), (1, .v false (.list T192)), (5, .v false (.int .i64))], []⟩, fun k s => gnomonmem_SameMoves.l0 k s.1.1 s.1.2.1 s.1.2.2.1⟩)]⟩
theorem gnomonmem_SameMoves.is (k : Nat) (x : AT.dens (gnomonmem_SameMoves.ce 0).ats) : (gnomonmem_SameMoves.ce k).fn x = den gnomonmem_SameMoves.F k (bodyOf Tryz.f42) (startAS (gnomonmem_SameMoves.ce 0).ats x) (retK (gnomonmem_SameMoves.F.c k) Tryz.f42.results.toList (gnomonmem_SameMoves.ce 0).rts) := by kernel_rfl
theorem gnomonmem_SameMoves.ob : Obl gnomonmem_SameMoves.F (bodyOf Tryz.f42) (fun k => retK (gnomonmem_SameMoves.F.c k) Tryz.f42.results.toList (gnomonmem_SameMoves.ce 0).rts) := obl_of (by kernel_rfl)
/-! ### gnomonmem_HandMoves: function 49 -/
mutual
def gnomonmem_HandMoves.l0 : Nat → (List S192) → (List S192) → Int → Option (List S192 × List S192)
 | 0, _, _, _ => none
 | k + 1, x0, x3, x4 => if x4 < (x0.length : Int) then (if 0 ≤ x4 then (if x4 < (x0.length : Int) then (if 0 ≤ x4 then (if x4 < (x3.length : Int) then (gnomonmem_HandMoves.l0 k x0 (x3.set (Int.toNat (x4)) (rd_T192 x0 x4)) (w64 (x4 + 1))) else (none)) else (none)) else (none)) else (none)) else (gnomonmem_HandMoves.l1 k x0 x3 (x0.length : Int))
def gnomonmem_HandMoves.l1 : Nat → (List S192) → (List S192) → Int → Option (List S192 × List S192)
 | 0, _, _, _ => none
 | k + 1, x0, x3, x5 => if x5 < (x3.length : Int) then (if 0 ≤ x5 then (if x5 < (x3.length : Int) then (gnomonmem_HandMoves.l1 k x0 (x3.set (Int.toNat (x5)) (⟨w64 ((w64 ((-700) - x5)) + (x0.length : Int)), 0, 0, 0⟩ : S192)) (w64 (x5 + 1))) else (none)) else (none)) else (if 0 ≤ (x0.length : Int) then (if (x0.length : Int) ≤ (x3.length : Int) then (some (List.take (Int.toNat ((x0.length : Int))) x3, List.drop (Int.toNat ((x0.length : Int))) x3)) else (none)) else (none))
end
def gnomonmem_HandMoves.f (k : Nat) (a0 : List S192) : Option (List S192 × List S192) := if 0 ≤ w64 ((a0.length : Int) + 9) then (if w64 ((a0.length : Int) + 9) ≤ 4398046511104 then (gnomonmem_HandMoves.l0 k a0 (List.replicate (Int.toNat (w64 ((a0.length : Int) + 9))) (⟨0, 0, 0, 0⟩ : S192)) 0) else (none)) else (none)
def gnomonmem_HandMoves.ce (k : Nat) : CallE := ⟨[⟨false, (.list T192)⟩], [⟨false, [.v (.rl T192)]⟩], fun (x : (List S192)) => gnomonmem_HandMoves.f k x⟩
def gnomonmem_HandMoves.F : Fam (RT.dens (gnomonmem_HandMoves.ce 0).rts) := ⟨fun k => ⟨TT1, GL0, callT [], cmpT CM0, [1000043], BLD0, ioT []⟩, [(4, ⟨⟨[(0, .v false (.list T192)), (3, .o 192 T192), (4, .v false (.int .i64))], []⟩, fun k s => gnomonmem_HandMoves.l0 k s.1.1 s.1.2.1 s.1.2.2.1⟩), (8, ⟨⟨[(0, .v false (.list T192)), (3, .o 192 T192), (5, .v false (.int .i64))], []⟩, fun k s => gnomonmem_HandMoves.l1 k s.1.1 s.1.2.1 s.1.2.2.1⟩)]⟩
theorem gnomonmem_HandMoves.is (k : Nat) (x : AT.dens (gnomonmem_HandMoves.ce 0).ats) : (gnomonmem_HandMoves.ce k).fn x = den gnomonmem_HandMoves.F k (bodyOf Tryz.f49) (startAS (gnomonmem_HandMoves.ce 0).ats x) (retK (gnomonmem_HandMoves.F.c k) Tryz.f49.results.toList (gnomonmem_HandMoves.ce 0).rts) := by kernel_rfl
theorem gnomonmem_HandMoves.ob : Obl gnomonmem_HandMoves.F (bodyOf Tryz.f49) (fun k => retK (gnomonmem_HandMoves.F.c k) Tryz.f49.results.toList (gnomonmem_HandMoves.ce 0).rts) := obl_of (by kernel_rfl)
/-! ### gnomonmem_HandRats: function 50 -/
mutual
def gnomonmem_HandRats.l0 : Nat → (List S103) → (List S103) → Int → Option (List S103 × List S103)
 | 0, _, _, _ => none
 | k + 1, x0, x3, x4 => if x4 < (x0.length : Int) then (if 0 ≤ x4 then (if x4 < (x0.length : Int) then (if 0 ≤ x4 then (if x4 < (x3.length : Int) then (gnomonmem_HandRats.l0 k x0 (x3.set (Int.toNat (x4)) (rd_T103 x0 x4)) (w64 (x4 + 1))) else (none)) else (none)) else (none)) else (none)) else (gnomonmem_HandRats.l1 k x0 x3 (x0.length : Int))
def gnomonmem_HandRats.l1 : Nat → (List S103) → (List S103) → Int → Option (List S103 × List S103)
 | 0, _, _, _ => none
 | k + 1, x0, x3, x5 => if x5 < (x3.length : Int) then (if 0 ≤ x5 then (if x5 < (x3.length : Int) then (gnomonmem_HandRats.l1 k x0 (x3.set (Int.toNat (x5)) (⟨w64 ((w64 ((-700) - x5)) + (x0.length : Int)), 77⟩ : S103)) (w64 (x5 + 1))) else (none)) else (none)) else (if 0 ≤ (x0.length : Int) then (if (x0.length : Int) ≤ (x3.length : Int) then (some (List.take (Int.toNat ((x0.length : Int))) x3, List.drop (Int.toNat ((x0.length : Int))) x3)) else (none)) else (none))
end
def gnomonmem_HandRats.f (k : Nat) (a0 : List S103) : Option (List S103 × List S103) := if 0 ≤ w64 ((a0.length : Int) + 9) then (if w64 ((a0.length : Int) + 9) ≤ 8796093022208 then (gnomonmem_HandRats.l0 k a0 (List.replicate (Int.toNat (w64 ((a0.length : Int) + 9))) (⟨0, 0⟩ : S103)) 0) else (none)) else (none)
def gnomonmem_HandRats.ce (k : Nat) : CallE := ⟨[⟨false, (.list T103)⟩], [⟨false, [.v (.rl T103)]⟩], fun (x : (List S103)) => gnomonmem_HandRats.f k x⟩
def gnomonmem_HandRats.F : Fam (RT.dens (gnomonmem_HandRats.ce 0).rts) := ⟨fun k => ⟨TT1, GL0, callT [], cmpT CM0, [1000043], BLD0, ioT []⟩, [(4, ⟨⟨[(0, .v false (.list T103)), (3, .o 103 T103), (4, .v false (.int .i64))], []⟩, fun k s => gnomonmem_HandRats.l0 k s.1.1 s.1.2.1 s.1.2.2.1⟩), (8, ⟨⟨[(0, .v false (.list T103)), (3, .o 103 T103), (5, .v false (.int .i64))], []⟩, fun k s => gnomonmem_HandRats.l1 k s.1.1 s.1.2.1 s.1.2.2.1⟩)]⟩
theorem gnomonmem_HandRats.is (k : Nat) (x : AT.dens (gnomonmem_HandRats.ce 0).ats) : (gnomonmem_HandRats.ce k).fn x = den gnomonmem_HandRats.F k (bodyOf Tryz.f50) (startAS (gnomonmem_HandRats.ce 0).ats x) (retK (gnomonmem_HandRats.F.c k) Tryz.f50.results.toList (gnomonmem_HandRats.ce 0).rts) := by kernel_rfl
theorem gnomonmem_HandRats.ob : Obl gnomonmem_HandRats.F (bodyOf Tryz.f50) (fun k => retK (gnomonmem_HandRats.F.c k) Tryz.f50.results.toList (gnomonmem_HandRats.ce 0).rts) := obl_of (by kernel_rfl)
/-! ### rat_Of: function 172 -/
def rat_Of.f (a0 : Int) : Option (Int × Int) := (some (a0, 1))
def rat_Of.ce : CallE := ⟨[⟨false, (.int .i64)⟩], [⟨true, [.v (.int .i64), .v (.int .i64)]⟩], fun (x : Int) => rat_Of.f x⟩
def rat_Of.F : Fam (RT.dens (rat_Of.ce).rts) := ⟨fun k => ⟨TT0, GL0, callT [], cmpT CM0, [], BLD0, ioT []⟩, []⟩
theorem rat_Of.is (k : Nat) (x : AT.dens (rat_Of.ce).ats) : (rat_Of.ce).fn x = den rat_Of.F k (bodyOf Tryz.f172) (startAS (rat_Of.ce).ats x) (retK (rat_Of.F.c k) Tryz.f172.results.toList (rat_Of.ce).rts) := by kernel_rfl
theorem rat_Of.ob : Obl rat_Of.F (bodyOf Tryz.f172) (fun k => retK (rat_Of.F.c k) Tryz.f172.results.toList (rat_Of.ce).rts) := obl_of (by kernel_rfl)
/-! ### rat_size_isZero: function 238 -/
def rat_size_isZero.f (l0_0 : Int) (l0_1 : Int) : Option Bool := if l0_0 = 0 then (some (decide (l0_1 = 0))) else (some false)
def rat_size_isZero.ce : CallE := ⟨[⟨true, T269⟩], [⟨false, [.v .bool]⟩], fun (x : S269) => rat_size_isZero.f x.f0 x.f1⟩
def rat_size_isZero.F : Fam (RT.dens (rat_size_isZero.ce).rts) := ⟨fun k => ⟨TT0, GL0, callT [], cmpT CM0, [], BLD0, ioT []⟩, []⟩
theorem rat_size_isZero.is (k : Nat) (x : AT.dens (rat_size_isZero.ce).ats) : (rat_size_isZero.ce).fn x = den rat_size_isZero.F k (bodyOf Tryz.f238) (startAS (rat_size_isZero.ce).ats x) (retK (rat_size_isZero.F.c k) Tryz.f238.results.toList (rat_size_isZero.ce).rts) := by kernel_rfl
theorem rat_size_isZero.ob : Obl rat_size_isZero.F (bodyOf Tryz.f238) (fun k => retK (rat_size_isZero.F.c k) Tryz.f238.results.toList (rat_size_isZero.ce).rts) := obl_of (by kernel_rfl)
/-! ### cmp_Or_int: function 320 -/
def cmp_Or_int.l0 : Nat → Int → (List Int) → Int → Int → Option Int
 | 0, _, _, _, _ => none
 | k + 1, x3, x6, x7, x8 => if x8 < x7 then (if 0 ≤ x8 then (if x8 < (x6.length : Int) then (if (rd x6 x8) = x3 then (cmp_Or_int.l0 k x3 x6 x7 (w64 (x8 + 1))) else (some (rd x6 x8))) else (none)) else (none)) else (some x3)
def cmp_Or_int.f (k : Nat) (a0 : List Int) : Option Int := cmp_Or_int.l0 k 0 a0 (a0.length : Int) 0
def cmp_Or_int.ce (k : Nat) : CallE := ⟨[⟨false, (.list (.int .i64))⟩], [⟨false, [.v (.int .i64)]⟩], fun (x : (List Int)) => cmp_Or_int.f k x⟩
def cmp_Or_int.F : Fam (RT.dens (cmp_Or_int.ce 0).rts) := ⟨fun k => ⟨TT0, GL0, callT [], cmpT CM0, [], BLD0, ioT []⟩, [(4, ⟨⟨[(3, .v false (.int .i64)), (6, .v false (.list (.int .i64))), (7, .v false (.int .i64)), (8, .v false (.int .i64))], []⟩, fun k s => cmp_Or_int.l0 k s.1.1 s.1.2.1 s.1.2.2.1 s.1.2.2.2.1⟩)]⟩
theorem cmp_Or_int.is (k : Nat) (x : AT.dens (cmp_Or_int.ce 0).ats) : (cmp_Or_int.ce k).fn x = den cmp_Or_int.F k (bodyOf Tryz.f320) (startAS (cmp_Or_int.ce 0).ats x) (retK (cmp_Or_int.F.c k) Tryz.f320.results.toList (cmp_Or_int.ce 0).rts) := by kernel_rfl
theorem cmp_Or_int.ob : Obl cmp_Or_int.F (bodyOf Tryz.f320) (fun k => retK (cmp_Or_int.F.c k) Tryz.f320.results.toList (cmp_Or_int.ce 0).rts) := obl_of (by kernel_rfl)
/-! ### cmp_isNaN_uint64: function 338 -/
def cmp_isNaN_uint64.f (a0 : Int) : Option Bool := (some (!decide (a0 = a0)))
def cmp_isNaN_uint64.ce : CallE := ⟨[⟨false, (.int .u64)⟩], [⟨false, [.v .bool]⟩], fun (x : Int) => cmp_isNaN_uint64.f x⟩
def cmp_isNaN_uint64.F : Fam (RT.dens (cmp_isNaN_uint64.ce).rts) := ⟨fun k => ⟨TT0, GL0, callT [], cmpT CM0, [], BLD0, ioT []⟩, []⟩
theorem cmp_isNaN_uint64.is (k : Nat) (x : AT.dens (cmp_isNaN_uint64.ce).ats) : (cmp_isNaN_uint64.ce).fn x = den cmp_isNaN_uint64.F k (bodyOf Tryz.f338) (startAS (cmp_isNaN_uint64.ce).ats x) (retK (cmp_isNaN_uint64.F.c k) Tryz.f338.results.toList (cmp_isNaN_uint64.ce).rts) := by kernel_rfl
theorem cmp_isNaN_uint64.ob : Obl cmp_isNaN_uint64.F (bodyOf Tryz.f338) (fun k => retK (cmp_isNaN_uint64.F.c k) Tryz.f338.results.toList (cmp_isNaN_uint64.ce).rts) := obl_of (by kernel_rfl)
/-! ### cmp_Compare_uint64: function 321 -/
def cmp_Compare_uint64.f (a0 : Int) (a1 : Int) : Option Int := (cmp_isNaN_uint64.f a0).bind fun t1 => ((cmp_isNaN_uint64.f a1).bind fun t2 => (if t1 = true then (if t2 = true then (some 0) else (some (-1))) else (if t2 = true then (some 1) else (if a0 < a1 then (some (-1)) else (if a0 > a1 then (some 1) else (some 0))))))
def cmp_Compare_uint64.ce : CallE := ⟨[⟨false, (.int .u64)⟩, ⟨false, (.int .u64)⟩], [⟨false, [.v (.int .i64)]⟩], fun (x : Int × Int) => cmp_Compare_uint64.f x.1 x.2⟩
def cmp_Compare_uint64.F : Fam (RT.dens (cmp_Compare_uint64.ce).rts) := ⟨fun k => ⟨TT0, GL0, callT [(338, [], cmp_isNaN_uint64.ce)], cmpT CM0, [], BLD0, ioT []⟩, []⟩
theorem cmp_Compare_uint64.is (k : Nat) (x : AT.dens (cmp_Compare_uint64.ce).ats) : (cmp_Compare_uint64.ce).fn x = den cmp_Compare_uint64.F k (bodyOf Tryz.f321) (startAS (cmp_Compare_uint64.ce).ats x) (retK (cmp_Compare_uint64.F.c k) Tryz.f321.results.toList (cmp_Compare_uint64.ce).rts) := by kernel_rfl
theorem cmp_Compare_uint64.ob : Obl cmp_Compare_uint64.F (bodyOf Tryz.f321) (fun k => retK (cmp_Compare_uint64.F.c k) Tryz.f321.results.toList (cmp_Compare_uint64.ce).rts) := obl_of (by kernel_rfl)
/-! ### rat_size_compare: function 282 -/
def rat_size_compare.f (k : Nat) (l0_0 : Int) (l0_1 : Int) (l1_0 : Int) (l1_1 : Int) : Option Int := (cmp_Compare_uint64.f l0_0 l1_0).bind fun t1 => ((cmp_Compare_uint64.f l0_1 l1_1).bind fun t2 => ((cmp_Or_int.f k ([t1, t2] : List Int)).bind fun t3 => (some t3)))
def rat_size_compare.ce (k : Nat) : CallE := ⟨[⟨true, T269⟩, ⟨true, T269⟩], [⟨false, [.v (.int .i64)]⟩], fun (x : S269 × S269) => rat_size_compare.f k x.1.f0 x.1.f1 x.2.f0 x.2.f1⟩
def rat_size_compare.F : Fam (RT.dens (rat_size_compare.ce 0).rts) := ⟨fun k => ⟨TT0, GL0, callT [(320, [], cmp_Or_int.ce k), (321, [], cmp_Compare_uint64.ce)], cmpT CM0, [], BLD0, ioT []⟩, []⟩
theorem rat_size_compare.is (k : Nat) (x : AT.dens (rat_size_compare.ce 0).ats) : (rat_size_compare.ce k).fn x = den rat_size_compare.F k (bodyOf Tryz.f282) (startAS (rat_size_compare.ce 0).ats x) (retK (rat_size_compare.F.c k) Tryz.f282.results.toList (rat_size_compare.ce 0).rts) := by kernel_rfl
theorem rat_size_compare.ob : Obl rat_size_compare.F (bodyOf Tryz.f282) (fun k => retK (rat_size_compare.F.c k) Tryz.f282.results.toList (rat_size_compare.ce 0).rts) := obl_of (by kernel_rfl)
/-! ### rat_size_less: function 283 -/
def rat_size_less.f (l0_0 : Int) (l0_1 : Int) (l1_0 : Int) (l1_1 : Int) : Option (Int × Int) := (math_bits_Sub64.f l0_1 l1_1 0).bind fun t1 => ((math_bits_Sub64.f l0_0 l1_0 t1.2).bind fun t2 => (some (t2.1, t1.1)))
def rat_size_less.ce : CallE := ⟨[⟨true, T269⟩, ⟨true, T269⟩], [⟨true, [.v (.int .u64), .v (.int .u64)]⟩], fun (x : S269 × S269) => rat_size_less.f x.1.f0 x.1.f1 x.2.f0 x.2.f1⟩
def rat_size_less.F : Fam (RT.dens (rat_size_less.ce).rts) := ⟨fun k => ⟨TT0, GL0, callT [(322, [], math_bits_Sub64.ce)], cmpT CM0, [], BLD0, ioT []⟩, []⟩
theorem rat_size_less.is (k : Nat) (x : AT.dens (rat_size_less.ce).ats) : (rat_size_less.ce).fn x = den rat_size_less.F k (bodyOf Tryz.f283) (startAS (rat_size_less.ce).ats x) (retK (rat_size_less.F.c k) Tryz.f283.results.toList (rat_size_less.ce).rts) := by kernel_rfl
theorem rat_size_less.ob : Obl rat_size_less.F (bodyOf Tryz.f283) (fun k => retK (rat_size_less.F.c k) Tryz.f283.results.toList (rat_size_less.ce).rts) := obl_of (by kernel_rfl)
/-! ### rat_size_over: function 285 -/
mutual
def rat_size_over.l0 : Nat → Int → Int → Int → Int → Int → Int → Int → Int → Int → Int → Int → Int → Int → Option (Int × Int × Int × Int)
 | 0, _, _, _, _, _, _, _, _, _, _, _, _, _ => none
 | k + 1, x8, x2_0, x2_1, x3_0, x3_1, x4_0, x4_1, x5_0, x5_1, x6_0, x6_1, x7_0, x7_1 => if x8 ≥ 0 then (if 0 ≤ x8 then (if x8 > 63 then (if 0 ≤ (w64 (x8 - 64)) then (rat_size_over.j1 k x8 (Wr.and .u64 (Wr.shr .u64 x2_0 (w64 (x8 - 64))) 1) x2_0 x2_1 x3_0 x3_1 x4_0 x4_1 x5_0 x5_1 x6_0 x6_1 (Wr.or .u64 (wk .u64 (x7_0 * 2)) (x7_1 / 9223372036854775808)) (wk .u64 (x7_1 * 2))) else (none)) else (rat_size_over.j1 k x8 (Wr.and .u64 (Wr.shr .u64 x2_1 x8) 1) x2_0 x2_1 x3_0 x3_1 x4_0 x4_1 x5_0 x5_1 x6_0 x6_1 (Wr.or .u64 (wk .u64 (x7_0 * 2)) (x7_1 / 9223372036854775808)) (wk .u64 (x7_1 * 2)))) else (none)) else (some (x6_0, x6_1, x7_0, x7_1))
def rat_size_over.j1 : Nat → Int → Int → Int → Int → Int → Int → Int → Int → Int → Int → Int → Int → Int → Int → Option (Int × Int × Int × Int)
 | 0, _, _, _, _, _, _, _, _, _, _, _, _, _, _ => none
 | k + 1, x8, x9, x2_0, x2_1, x3_0, x3_1, x4_0, x4_1, x5_0, x5_1, x6_0, x6_1, x7_0, x7_1 => (rat_size_compare.f k x7_0 (Wr.or .u64 x7_1 x9) x3_0 x3_1).bind fun t1 => (if t1 ≥ 0 then ((rat_size_less.f x7_0 (Wr.or .u64 x7_1 x9) x3_0 x3_1).bind fun t2 => (if x8 > 63 then (if 0 ≤ (w64 (x8 - 64)) then (rat_size_over.l0 k (w64 (x8 - 1)) x2_0 x2_1 x3_0 x3_1 x4_0 x4_1 x5_0 x5_1 (Wr.or .u64 x6_0 (Wr.shl .u64 1 (w64 (x8 - 64)))) x6_1 t2.1 t2.2) else (none)) else (if 0 ≤ x8 then (rat_size_over.l0 k (w64 (x8 - 1)) x2_0 x2_1 x3_0 x3_1 x4_0 x4_1 x5_0 x5_1 x6_0 (Wr.or .u64 x6_1 (Wr.shl .u64 1 x8)) t2.1 t2.2) else (none)))) else (rat_size_over.l0 k (w64 (x8 - 1)) x2_0 x2_1 x3_0 x3_1 x4_0 x4_1 x5_0 x5_1 x6_0 x6_1 x7_0 (Wr.or .u64 x7_1 x9)))
end
def rat_size_over.f (k : Nat) (l0_0 : Int) (l0_1 : Int) (l1_0 : Int) (l1_1 : Int) : Option (Int × Int × Int × Int) := rat_size_over.l0 k 127 l0_0 l0_1 l1_0 l1_1 0 0 0 0 0 0 0 0
def rat_size_over.ce (k : Nat) : CallE := ⟨[⟨true, T269⟩, ⟨true, T269⟩], [⟨true, [.v (.int .u64), .v (.int .u64)]⟩, ⟨true, [.v (.int .u64), .v (.int .u64)]⟩], fun (x : S269 × S269) => rat_size_over.f k x.1.f0 x.1.f1 x.2.f0 x.2.f1⟩
def rat_size_over.F : Fam (RT.dens (rat_size_over.ce 0).rts) := ⟨fun k => ⟨TT0, GL0, callT [(282, [], rat_size_compare.ce k), (283, [], rat_size_less.ce)], cmpT CM0, [], BLD0, ioT []⟩, [(4, ⟨⟨[(2, .k (.ptr 128 0)), (3, .k (.ptr 192 0)), (4, .k (.ptr 256 0)), (5, .k (.ptr 320 0)), (6, .k (.ptr 384 0)), (7, .k (.ptr 448 0)), (8, .v false (.int .i64))], [(128, [.v (.int .u64), .v (.int .u64)]), (192, [.v (.int .u64), .v (.int .u64)]), (256, [.v (.int .u64), .v (.int .u64)]), (320, [.v (.int .u64), .v (.int .u64)]), (384, [.v (.int .u64), .v (.int .u64)]), (448, [.v (.int .u64), .v (.int .u64)])]⟩, fun k s => rat_size_over.l0 k s.1.1 s.2.1.1 s.2.1.2.1 s.2.2.1.1 s.2.2.1.2.1 s.2.2.2.1.1 s.2.2.2.1.2.1 s.2.2.2.2.1.1 s.2.2.2.2.1.2.1 s.2.2.2.2.2.1.1 s.2.2.2.2.2.1.2.1 s.2.2.2.2.2.2.1.1 s.2.2.2.2.2.2.1.2.1⟩), (1000010, ⟨⟨[(2, .k (.ptr 128 0)), (3, .k (.ptr 192 0)), (4, .k (.ptr 256 0)), (5, .k (.ptr 320 0)), (6, .k (.ptr 384 0)), (7, .k (.ptr 448 0)), (8, .v false (.int .i64)), (9, .v false (.int .u64))], [(128, [.v (.int .u64), .v (.int .u64)]), (192, [.v (.int .u64), .v (.int .u64)]), (256, [.v (.int .u64), .v (.int .u64)]), (320, [.v (.int .u64), .v (.int .u64)]), (384, [.v (.int .u64), .v (.int .u64)]), (448, [.v (.int .u64), .v (.int .u64)])]⟩, fun k s => rat_size_over.j1 k s.1.1 s.1.2.1 s.2.1.1 s.2.1.2.1 s.2.2.1.1 s.2.2.1.2.1 s.2.2.2.1.1 s.2.2.2.1.2.1 s.2.2.2.2.1.1 s.2.2.2.2.1.2.1 s.2.2.2.2.2.1.1 s.2.2.2.2.2.1.2.1 s.2.2.2.2.2.2.1.1 s.2.2.2.2.2.2.1.2.1⟩)]⟩
theorem rat_size_over.is (k : Nat) (x : AT.dens (rat_size_over.ce 0).ats) : (rat_size_over.ce k).fn x = den rat_size_over.F k (bodyOf Tryz.f285) (startAS (rat_size_over.ce 0).ats x) (retK (rat_size_over.F.c k) Tryz.f285.results.toList (rat_size_over.ce 0).rts) := by kernel_rfl
theorem rat_size_over.ob : Obl rat_size_over.F (bodyOf Tryz.f285) (fun k => retK (rat_size_over.F.c k) Tryz.f285.results.toList (rat_size_over.ce 0).rts) := obl_of (by kernel_rfl)
/-! ### rat_common: function 284 -/
def rat_common.l0 : Nat → Int → Int → Int → Int → Int → Int → Option (Int × Int)
 | 0, _, _, _, _, _, _ => none
 | k + 1, x2_0, x2_1, x3_0, x3_1, x4_0, x4_1 => (rat_size_isZero.f x3_0 x3_1).bind fun t1 => (if (!t1) = true then ((rat_size_over.f k x2_0 x2_1 x3_0 x3_1).bind fun t2 => (rat_common.l0 k x3_0 x3_1 t2.2.2.1 t2.2.2.2 x4_0 x4_1)) else (some (x2_0, x2_1)))
def rat_common.f (k : Nat) (l0_0 : Int) (l0_1 : Int) (l1_0 : Int) (l1_1 : Int) : Option (Int × Int) := rat_common.l0 k l0_0 l0_1 l1_0 l1_1 0 0
def rat_common.ce (k : Nat) : CallE := ⟨[⟨true, T269⟩, ⟨true, T269⟩], [⟨true, [.v (.int .u64), .v (.int .u64)]⟩], fun (x : S269 × S269) => rat_common.f k x.1.f0 x.1.f1 x.2.f0 x.2.f1⟩
def rat_common.F : Fam (RT.dens (rat_common.ce 0).rts) := ⟨fun k => ⟨TT0, GL0, callT [(238, [], rat_size_isZero.ce), (285, [], rat_size_over.ce k)], cmpT CM0, [], BLD0, ioT []⟩, [(2, ⟨⟨[(2, .k (.ptr 128 0)), (3, .k (.ptr 192 0)), (4, .k (.ptr 256 0))], [(128, [.v (.int .u64), .v (.int .u64)]), (192, [.v (.int .u64), .v (.int .u64)]), (256, [.v (.int .u64), .v (.int .u64)])]⟩, fun k s => rat_common.l0 k s.2.1.1 s.2.1.2.1 s.2.2.1.1 s.2.2.1.2.1 s.2.2.2.1.1 s.2.2.2.1.2.1⟩)]⟩
theorem rat_common.is (k : Nat) (x : AT.dens (rat_common.ce 0).ats) : (rat_common.ce k).fn x = den rat_common.F k (bodyOf Tryz.f284) (startAS (rat_common.ce 0).ats x) (retK (rat_common.F.c k) Tryz.f284.results.toList (rat_common.ce 0).rts) := by kernel_rfl
theorem rat_common.ob : Obl rat_common.F (bodyOf Tryz.f284) (fun k => retK (rat_common.F.c k) Tryz.f284.results.toList (rat_common.ce 0).rts) := obl_of (by kernel_rfl)
/-! ### rat_wide_number: function 286 -/
def rat_wide_number.j0 : Nat → Int → Int → Bool → Option (Int × Bool)
 | 0, _, _, _ => none
 | k + 1, x1_0, x1_1, x1_2 => if x1_2 = true then (some (w64 (wk .u64 (0 - x1_1)), true)) else (some (w64 (x1_1), true))
def rat_wide_number.f (k : Nat) (l0_0 : S269) (l0_1 : Bool) : Option (Int × Bool) := if l0_0.f0 > 0 then (some (0, false)) else (if l0_0.f1 > 9223372036854775808 then (some (0, false)) else (if l0_0.f1 = 9223372036854775808 then (if (!l0_1) = true then (some (0, false)) else (rat_wide_number.j0 k l0_0.f0 l0_0.f1 l0_1)) else (rat_wide_number.j0 k l0_0.f0 l0_0.f1 l0_1)))
def rat_wide_number.ce (k : Nat) : CallE := ⟨[⟨true, T271⟩], [⟨false, [.v (.int .i64)]⟩, ⟨false, [.v .bool]⟩], fun (x : S271) => rat_wide_number.f k x.f0 x.f1⟩
def rat_wide_number.F : Fam (RT.dens (rat_wide_number.ce 0).rts) := ⟨fun k => ⟨TT0, GL0, callT [], cmpT CM0, [], BLD0, ioT []⟩, [(1000004, ⟨⟨[(1, .k (.ptr 64 0))], [(64, [.v (.int .u64), .v (.int .u64), .v .bool])]⟩, fun k s => rat_wide_number.j0 k s.2.1.1 s.2.1.2.1 s.2.1.2.2.1⟩)]⟩
theorem rat_wide_number.is (k : Nat) (x : AT.dens (rat_wide_number.ce 0).ats) : (rat_wide_number.ce k).fn x = den rat_wide_number.F k (bodyOf Tryz.f286) (startAS (rat_wide_number.ce 0).ats x) (retK (rat_wide_number.F.c k) Tryz.f286.results.toList (rat_wide_number.ce 0).rts) := by kernel_rfl
theorem rat_wide_number.ob : Obl rat_wide_number.F (bodyOf Tryz.f286) (fun k => retK (rat_wide_number.F.c k) Tryz.f286.results.toList (rat_wide_number.ce 0).rts) := obl_of (by kernel_rfl)
/-! ### rat_made: function 239 -/
def rat_made.j0 : Nat → Bool → Int → Int → Int → Int → Int → Int → Option (Int × Int × Int)
 | 0, _, _, _, _, _, _, _ => none
 | k + 1, x11, x4_0, x4_1, x7_0, x7_1, x9_0, x9_1 => (rat_wide_number.f k (⟨x7_0, x7_1⟩ : S269) x11).bind fun t4 => ((rat_wide_number.f k (⟨x9_0, x9_1⟩ : S269) false).bind fun t5 => (if (!t4.2) = true then (some (0, 0, 20)) else (if (!t5.2) = true then (some (0, 0, 20)) else (some (t4.1, t5.1, 0)))))
def rat_made.f (k : Nat) (l0_0 : S269) (l0_1 : Bool) (l1_0 : S269) (l1_1 : Bool) : Option (Int × Int × Int) := (rat_common.f k l0_0.f0 l0_0.f1 l1_0.f0 l1_0.f1).bind fun t1 => ((rat_size_over.f k l0_0.f0 l0_0.f1 t1.1 t1.2).bind fun t2 => ((rat_size_over.f k l1_0.f0 l1_0.f1 t1.1 t1.2).bind fun t3 => (if l0_1 = l1_1 then (rat_made.j0 k false 0 0 t2.1 t2.2.1 t3.1 t3.2.1) else ((rat_size_isZero.f t2.1 t2.2.1).bind fun t6 => (rat_made.j0 k (!t6) 0 0 t2.1 t2.2.1 t3.1 t3.2.1)))))
def rat_made.ce (k : Nat) : CallE := ⟨[⟨true, T271⟩, ⟨true, T271⟩], [⟨true, [.v (.int .i64), .v (.int .i64)]⟩, ⟨false, [.v (.int .i64)]⟩], fun (x : S271 × S271) => rat_made.f k x.1.f0 x.1.f1 x.2.f0 x.2.f1⟩
def rat_made.F : Fam (RT.dens (rat_made.ce 0).rts) := ⟨fun k => ⟨TT0, GL0, callT [(238, [], rat_size_isZero.ce), (284, [], rat_common.ce k), (285, [], rat_size_over.ce k), (286, [], rat_wide_number.ce k)], cmpT CM0, [], BLD0, ioT []⟩, [(1000006, ⟨⟨[(4, .k (.ptr 256 0)), (7, .k (.ptr 448 0)), (9, .k (.ptr 576 0)), (11, .v false .bool)], [(256, [.v (.int .i64), .v (.int .i64)]), (448, [.v (.int .u64), .v (.int .u64)]), (576, [.v (.int .u64), .v (.int .u64)])]⟩, fun k s => rat_made.j0 k s.1.1 s.2.1.1 s.2.1.2.1 s.2.2.1.1 s.2.2.1.2.1 s.2.2.2.1.1 s.2.2.2.1.2.1⟩)]⟩
theorem rat_made.is (k : Nat) (x : AT.dens (rat_made.ce 0).ats) : (rat_made.ce k).fn x = den rat_made.F k (bodyOf Tryz.f239) (startAS (rat_made.ce 0).ats x) (retK (rat_made.F.c k) Tryz.f239.results.toList (rat_made.ce 0).rts) := by kernel_rfl
theorem rat_made.ob : Obl rat_made.F (bodyOf Tryz.f239) (fun k => retK (rat_made.F.c k) Tryz.f239.results.toList (rat_made.ce 0).rts) := obl_of (by kernel_rfl)
/-! ### rat_of: function 279 -/
def rat_of.f (a0 : Int) : Option (S269 × Bool) := if a0 < 0 then (some ((⟨0, wk .u64 (0 - (wk .u64 (a0)))⟩ : S269), true)) else (some ((⟨0, wk .u64 (a0)⟩ : S269), false))
def rat_of.ce : CallE := ⟨[⟨false, (.int .i64)⟩], [⟨true, [.v T269, .v .bool]⟩], fun (x : Int) => rat_of.f x⟩
def rat_of.F : Fam (RT.dens (rat_of.ce).rts) := ⟨fun k => ⟨TT0, GL0, callT [], cmpT CM0, [], BLD0, ioT []⟩, []⟩
theorem rat_of.is (k : Nat) (x : AT.dens (rat_of.ce).ats) : (rat_of.ce).fn x = den rat_of.F k (bodyOf Tryz.f279) (startAS (rat_of.ce).ats x) (retK (rat_of.F.c k) Tryz.f279.results.toList (rat_of.ce).rts) := by kernel_rfl
theorem rat_of.ob : Obl rat_of.F (bodyOf Tryz.f279) (fun k => retK (rat_of.F.c k) Tryz.f279.results.toList (rat_of.ce).rts) := obl_of (by kernel_rfl)
/-! ### rat_New: function 233 -/
def rat_New.f (k : Nat) (a0 : Int) (a1 : Int) : Option (Int × Int × Int) := if a1 = 0 then (some (0, 0, 21)) else ((rat_of.f a0).bind fun t1 => ((rat_of.f a1).bind fun t2 => ((rat_made.f k t1.1 t1.2 t2.1 t2.2).bind fun t3 => (some (t3.1, t3.2.1, t3.2.2)))))
def rat_New.ce (k : Nat) : CallE := ⟨[⟨false, (.int .i64)⟩, ⟨false, (.int .i64)⟩], [⟨true, [.v (.int .i64), .v (.int .i64)]⟩, ⟨false, [.v (.int .i64)]⟩], fun (x : Int × Int) => rat_New.f k x.1 x.2⟩
def rat_New.F : Fam (RT.dens (rat_New.ce 0).rts) := ⟨fun k => ⟨TT0, GL0, callT [(239, [], rat_made.ce k), (279, [], rat_of.ce)], cmpT CM0, [], BLD0, ioT []⟩, []⟩
theorem rat_New.is (k : Nat) (x : AT.dens (rat_New.ce 0).ats) : (rat_New.ce k).fn x = den rat_New.F k (bodyOf Tryz.f233) (startAS (rat_New.ce 0).ats x) (retK (rat_New.F.c k) Tryz.f233.results.toList (rat_New.ce 0).rts) := by kernel_rfl
theorem rat_New.ob : Obl rat_New.F (bodyOf Tryz.f233) (fun k => retK (rat_New.F.c k) Tryz.f233.results.toList (rat_New.ce 0).rts) := obl_of (by kernel_rfl)
/-! ### rat_Right: function 173 -/
def rat_Right.f (k : Nat) (l0_0 : Int) (l0_1 : Int) : Option Bool := if l0_1 < 1 then (some false) else ((rat_New.f k l0_0 l0_1).bind fun t1 => (if t1.2.2 = 0 then (some (decide ((⟨t1.1, t1.2.1⟩ : S103) = (⟨l0_0, l0_1⟩ : S103)))) else (some false)))
def rat_Right.ce (k : Nat) : CallE := ⟨[⟨true, T103⟩], [⟨false, [.v .bool]⟩], fun (x : S103) => rat_Right.f k x.f0 x.f1⟩
def rat_Right.F : Fam (RT.dens (rat_Right.ce 0).rts) := ⟨fun k => ⟨TT0, GL0, callT [(233, [], rat_New.ce k)], cmpT CM0, [], BLD0, ioT []⟩, []⟩
theorem rat_Right.is (k : Nat) (x : AT.dens (rat_Right.ce 0).ats) : (rat_Right.ce k).fn x = den rat_Right.F k (bodyOf Tryz.f173) (startAS (rat_Right.ce 0).ats x) (retK (rat_Right.F.c k) Tryz.f173.results.toList (rat_Right.ce 0).rts) := by kernel_rfl
theorem rat_Right.ob : Obl rat_Right.F (bodyOf Tryz.f173) (fun k => retK (rat_Right.F.c k) Tryz.f173.results.toList (rat_Right.ce 0).rts) := obl_of (by kernel_rfl)
/-! ### rat_both: function 234 -/
def rat_both.f (k : Nat) (l0_0 : Int) (l0_1 : Int) (l1_0 : Int) (l1_1 : Int) : Option Bool := (rat_Right.f k l0_0 l0_1).bind fun t1 => (if t1 = true then ((rat_Right.f k l1_0 l1_1).bind fun t2 => (some t2)) else (some false))
def rat_both.ce (k : Nat) : CallE := ⟨[⟨true, T103⟩, ⟨true, T103⟩], [⟨false, [.v .bool]⟩], fun (x : S103 × S103) => rat_both.f k x.1.f0 x.1.f1 x.2.f0 x.2.f1⟩
def rat_both.F : Fam (RT.dens (rat_both.ce 0).rts) := ⟨fun k => ⟨TT0, GL0, callT [(173, [], rat_Right.ce k)], cmpT CM0, [], BLD0, ioT []⟩, []⟩
theorem rat_both.is (k : Nat) (x : AT.dens (rat_both.ce 0).ats) : (rat_both.ce k).fn x = den rat_both.F k (bodyOf Tryz.f234) (startAS (rat_both.ce 0).ats x) (retK (rat_both.F.c k) Tryz.f234.results.toList (rat_both.ce 0).rts) := by kernel_rfl
theorem rat_both.ob : Obl rat_both.F (bodyOf Tryz.f234) (fun k => retK (rat_both.F.c k) Tryz.f234.results.toList (rat_both.ce 0).rts) := obl_of (by kernel_rfl)
/-! ### rat_times: function 235 -/
def rat_times.f (a0 : Int) (a1 : Int) : Option (S269 × Bool) := (rat_of.f a0).bind fun t1 => ((rat_of.f a1).bind fun t2 => ((math_bits_Mul64.f t1.1.f1 t2.1.f1).bind fun t3 => (if t1.2 = t2.2 then (some ((⟨t3.1, t3.2⟩ : S269), false)) else ((rat_size_isZero.f t3.1 t3.2).bind fun t4 => (some ((⟨t3.1, t3.2⟩ : S269), !t4))))))
def rat_times.ce : CallE := ⟨[⟨false, (.int .i64)⟩, ⟨false, (.int .i64)⟩], [⟨true, [.v T269, .v .bool]⟩], fun (x : Int × Int) => rat_times.f x.1 x.2⟩
def rat_times.F : Fam (RT.dens (rat_times.ce).rts) := ⟨fun k => ⟨TT0, GL0, callT [(238, [], rat_size_isZero.ce), (279, [], rat_of.ce), (280, [], math_bits_Mul64.ce)], cmpT CM0, [], BLD0, ioT []⟩, []⟩
theorem rat_times.is (k : Nat) (x : AT.dens (rat_times.ce).ats) : (rat_times.ce).fn x = den rat_times.F k (bodyOf Tryz.f235) (startAS (rat_times.ce).ats x) (retK (rat_times.F.c k) Tryz.f235.results.toList (rat_times.ce).rts) := by kernel_rfl
theorem rat_times.ob : Obl rat_times.F (bodyOf Tryz.f235) (fun k => retK (rat_times.F.c k) Tryz.f235.results.toList (rat_times.ce).rts) := obl_of (by kernel_rfl)
/-! ### rat_size_plus: function 281 -/
def rat_size_plus.f (l0_0 : Int) (l0_1 : Int) (l1_0 : Int) (l1_1 : Int) : Option (Int × Int) := (math_bits_Add64.f l0_1 l1_1 0).bind fun t1 => ((math_bits_Add64.f l0_0 l1_0 t1.2).bind fun t2 => (some (t2.1, t1.1)))
def rat_size_plus.ce : CallE := ⟨[⟨true, T269⟩, ⟨true, T269⟩], [⟨true, [.v (.int .u64), .v (.int .u64)]⟩], fun (x : S269 × S269) => rat_size_plus.f x.1.f0 x.1.f1 x.2.f0 x.2.f1⟩
def rat_size_plus.F : Fam (RT.dens (rat_size_plus.ce).rts) := ⟨fun k => ⟨TT0, GL0, callT [(319, [], math_bits_Add64.ce)], cmpT CM0, [], BLD0, ioT []⟩, []⟩
theorem rat_size_plus.is (k : Nat) (x : AT.dens (rat_size_plus.ce).ats) : (rat_size_plus.ce).fn x = den rat_size_plus.F k (bodyOf Tryz.f281) (startAS (rat_size_plus.ce).ats x) (retK (rat_size_plus.F.c k) Tryz.f281.results.toList (rat_size_plus.ce).rts) := by kernel_rfl
theorem rat_size_plus.ob : Obl rat_size_plus.F (bodyOf Tryz.f281) (fun k => retK (rat_size_plus.F.c k) Tryz.f281.results.toList (rat_size_plus.ce).rts) := obl_of (by kernel_rfl)
/-! ### rat_wide_sum: function 236 -/
def rat_wide_sum.f (k : Nat) (l0_0 : S269) (l0_1 : Bool) (l1_0 : S269) (l1_1 : Bool) : Option (S269 × Bool) := if l0_1 = l1_1 then ((rat_size_plus.f l0_0.f0 l0_0.f1 l1_0.f0 l1_0.f1).bind fun t1 => (some ((⟨t1.1, t1.2⟩ : S269), l0_1))) else ((rat_size_compare.f k l0_0.f0 l0_0.f1 l1_0.f0 l1_0.f1).bind fun t2 => (if t2 = 0 then (some ((⟨0, 0⟩ : S269), false)) else (if t2 = 1 then ((rat_size_less.f l0_0.f0 l0_0.f1 l1_0.f0 l1_0.f1).bind fun t3 => (some ((⟨t3.1, t3.2⟩ : S269), l0_1))) else ((rat_size_less.f l1_0.f0 l1_0.f1 l0_0.f0 l0_0.f1).bind fun t4 => (some ((⟨t4.1, t4.2⟩ : S269), l1_1))))))
def rat_wide_sum.ce (k : Nat) : CallE := ⟨[⟨true, T271⟩, ⟨true, T271⟩], [⟨true, [.v T269, .v .bool]⟩], fun (x : S271 × S271) => rat_wide_sum.f k x.1.f0 x.1.f1 x.2.f0 x.2.f1⟩
def rat_wide_sum.F : Fam (RT.dens (rat_wide_sum.ce 0).rts) := ⟨fun k => ⟨TT0, GL0, callT [(281, [], rat_size_plus.ce), (282, [], rat_size_compare.ce k), (283, [], rat_size_less.ce)], cmpT CM0, [], BLD0, ioT []⟩, []⟩
theorem rat_wide_sum.is (k : Nat) (x : AT.dens (rat_wide_sum.ce 0).ats) : (rat_wide_sum.ce k).fn x = den rat_wide_sum.F k (bodyOf Tryz.f236) (startAS (rat_wide_sum.ce 0).ats x) (retK (rat_wide_sum.F.c k) Tryz.f236.results.toList (rat_wide_sum.ce 0).rts) := by kernel_rfl
theorem rat_wide_sum.ob : Obl rat_wide_sum.F (bodyOf Tryz.f236) (fun k => retK (rat_wide_sum.F.c k) Tryz.f236.results.toList (rat_wide_sum.ce 0).rts) := obl_of (by kernel_rfl)
/-! ### rat_wide_opposite: function 237 -/
def rat_wide_opposite.f (l0_0 : S269) (l0_1 : Bool) : Option (S269 × Bool) := if (!l0_1) = true then ((rat_size_isZero.f l0_0.f0 l0_0.f1).bind fun t1 => (some (l0_0, !t1))) else (some (l0_0, false))
def rat_wide_opposite.ce : CallE := ⟨[⟨true, T271⟩], [⟨true, [.v T269, .v .bool]⟩], fun (x : S271) => rat_wide_opposite.f x.f0 x.f1⟩
def rat_wide_opposite.F : Fam (RT.dens (rat_wide_opposite.ce).rts) := ⟨fun k => ⟨TT0, GL0, callT [(238, [], rat_size_isZero.ce)], cmpT CM0, [], BLD0, ioT []⟩, []⟩
theorem rat_wide_opposite.is (k : Nat) (x : AT.dens (rat_wide_opposite.ce).ats) : (rat_wide_opposite.ce).fn x = den rat_wide_opposite.F k (bodyOf Tryz.f237) (startAS (rat_wide_opposite.ce).ats x) (retK (rat_wide_opposite.F.c k) Tryz.f237.results.toList (rat_wide_opposite.ce).rts) := by kernel_rfl
theorem rat_wide_opposite.ob : Obl rat_wide_opposite.F (bodyOf Tryz.f237) (fun k => retK (rat_wide_opposite.F.c k) Tryz.f237.results.toList (rat_wide_opposite.ce).rts) := obl_of (by kernel_rfl)
/-! ### rat_Compare: function 174 -/
def rat_Compare.f (k : Nat) (l0_0 : Int) (l0_1 : Int) (l1_0 : Int) (l1_1 : Int) : Option Int := (rat_both.f k l0_0 l0_1 l1_0 l1_1).bind fun t1 => (if (!t1) = true then (some 0) else ((rat_times.f l0_0 l1_1).bind fun t2 => ((rat_times.f l1_0 l0_1).bind fun t3 => ((rat_wide_opposite.f t3.1 t3.2).bind fun t4 => ((rat_wide_sum.f k t2.1 t2.2 t4.1 t4.2).bind fun t5 => ((rat_size_isZero.f t5.1.f0 t5.1.f1).bind fun t6 => (if t6 = true then (some 0) else (if t5.2 = true then (some (-1)) else (some 1)))))))))
def rat_Compare.ce (k : Nat) : CallE := ⟨[⟨true, T103⟩, ⟨true, T103⟩], [⟨false, [.v (.int .i64)]⟩], fun (x : S103 × S103) => rat_Compare.f k x.1.f0 x.1.f1 x.2.f0 x.2.f1⟩
def rat_Compare.F : Fam (RT.dens (rat_Compare.ce 0).rts) := ⟨fun k => ⟨TT0, GL0, callT [(234, [], rat_both.ce k), (235, [], rat_times.ce), (236, [], rat_wide_sum.ce k), (237, [], rat_wide_opposite.ce), (238, [], rat_size_isZero.ce)], cmpT CM0, [], BLD0, ioT []⟩, []⟩
theorem rat_Compare.is (k : Nat) (x : AT.dens (rat_Compare.ce 0).ats) : (rat_Compare.ce k).fn x = den rat_Compare.F k (bodyOf Tryz.f174) (startAS (rat_Compare.ce 0).ats x) (retK (rat_Compare.F.c k) Tryz.f174.results.toList (rat_Compare.ce 0).rts) := by kernel_rfl
theorem rat_Compare.ob : Obl rat_Compare.F (bodyOf Tryz.f174) (fun k => retK (rat_Compare.F.c k) Tryz.f174.results.toList (rat_Compare.ce 0).rts) := obl_of (by kernel_rfl)
/-! ### rat_Sub: function 175 -/
def rat_Sub.f (k : Nat) (l0_0 : Int) (l0_1 : Int) (l1_0 : Int) (l1_1 : Int) : Option (Int × Int × Int) := (rat_both.f k l0_0 l0_1 l1_0 l1_1).bind fun t1 => (if (!t1) = true then (some (0, 0, 7)) else ((rat_times.f l0_0 l1_1).bind fun t2 => ((rat_times.f l1_0 l0_1).bind fun t3 => ((rat_wide_opposite.f t3.1 t3.2).bind fun t4 => ((rat_wide_sum.f k t2.1 t2.2 t4.1 t4.2).bind fun t5 => ((rat_times.f l0_1 l1_1).bind fun t6 => ((rat_made.f k t5.1 t5.2 t6.1 t6.2).bind fun t7 => (some (t7.1, t7.2.1, t7.2.2)))))))))
def rat_Sub.ce (k : Nat) : CallE := ⟨[⟨true, T103⟩, ⟨true, T103⟩], [⟨true, [.v (.int .i64), .v (.int .i64)]⟩, ⟨false, [.v (.int .i64)]⟩], fun (x : S103 × S103) => rat_Sub.f k x.1.f0 x.1.f1 x.2.f0 x.2.f1⟩
def rat_Sub.F : Fam (RT.dens (rat_Sub.ce 0).rts) := ⟨fun k => ⟨TT0, GL0, callT [(234, [], rat_both.ce k), (235, [], rat_times.ce), (236, [], rat_wide_sum.ce k), (237, [], rat_wide_opposite.ce), (239, [], rat_made.ce k)], cmpT CM0, [], BLD0, ioT []⟩, []⟩
theorem rat_Sub.is (k : Nat) (x : AT.dens (rat_Sub.ce 0).ats) : (rat_Sub.ce k).fn x = den rat_Sub.F k (bodyOf Tryz.f175) (startAS (rat_Sub.ce 0).ats x) (retK (rat_Sub.F.c k) Tryz.f175.results.toList (rat_Sub.ce 0).rts) := by kernel_rfl
theorem rat_Sub.ob : Obl rat_Sub.F (bodyOf Tryz.f175) (fun k => retK (rat_Sub.F.c k) Tryz.f175.results.toList (rat_Sub.ce 0).rts) := obl_of (by kernel_rfl)
/-! ### run_OfTimes: function 51 -/
mutual
def run_OfTimes.l0 : Nat → (List S192) → (List S103) → (List S103) → Int → Int → (List S208) → Int → Int → Int → Int → Option ((List S208) × S103 × Int)
 | 0, _, _, _, _, _, _, _, _, _, _ => none
 | k + 1, x0, x1, x22, x23, x24, x4_0, x4_1, x4_2, x6_0, x6_1 => if x24 < x23 then (if 0 ≤ x24 then (if x24 < (x22.length : Int) then ((rat_Right.f k ((rd_T103 x22 x24).f0) ((rd_T103 x22 x24).f1)).bind fun t2 => (if (!t2) = true then (some (([] : List S208), (⟨0, 0⟩ : S103), 210)) else ((rat_Compare.f k ((rd_T103 x22 x24).f0) ((rd_T103 x22 x24).f1) x6_0 x6_1).bind fun t3 => (if t3 < 0 then (some (([] : List S208), (⟨0, 0⟩ : S103), 210)) else (run_OfTimes.l0 k x0 x1 x22 x23 (w64 (x24 + 1)) x4_0 x4_1 x4_2 ((rd_T103 x22 x24).f0) ((rd_T103 x22 x24).f1)))))) else (none)) else (none)) else ((rat_Of.f 0).bind fun t4 => (run_OfTimes.l1 k x0 x1 (x1.length : Int) 0 x4_0 x4_1 x4_2 t4.1 t4.2 ([] : List S208) 0 0))
def run_OfTimes.l1 : Nat → (List S192) → (List S103) → Int → Int → (List S208) → Int → Int → Int → Int → (List S208) → Int → Int → Option ((List S208) × S103 × Int)
 | 0, _, _, _, _, _, _, _, _, _, _, _, _ => none
 | k + 1, x0, x41, x42, x43, x4_0, x4_1, x4_2, x6_0, x6_1, x9_0, x9_1, x9_2 => if x43 < x42 then (if 0 ≤ x43 then (if x43 < (x41.length : Int) then ((rat_Sub.f k ((rd_T103 x41 x43).f0) ((rd_T103 x41 x43).f1) x6_0 x6_1).bind fun t5 => (if t5.2.2 = 0 then (if x43 < (x0.length : Int) then (if 0 ≤ x43 then (if x43 < (x0.length : Int) then (if x9_0.length < 2932031007402 then (run_OfTimes.l1 k x0 x41 x42 (w64 (x43 + 1)) x4_0 x4_1 x4_2 ((rd_T103 x41 x43).f0) ((rd_T103 x41 x43).f1) (x9_0 ++ [(⟨(⟨t5.1, t5.2.1⟩ : S103), (rd_T192 x0 x43)⟩ : S208)]) x9_1 x9_2) else (none)) else (none)) else (none)) else (run_OfTimes.l1 k x0 x41 x42 (w64 (x43 + 1)) x4_0 x4_1 x4_2 ((rd_T103 x41 x43).f0) ((rd_T103 x41 x43).f1) x9_0 t5.1 t5.2.1)) else (some (([] : List S208), (⟨0, 0⟩ : S103), t5.2.2)))) else (none)) else (none)) else (some (x9_0, (⟨x9_1, x9_2⟩ : S103), 0))
end
def run_OfTimes.f (k : Nat) (a0 : List S192) (a1 : List S103) : Option ((List S208) × S103 × Int) := if (a1.length : Int) = (w64 ((a0.length : Int) + 1)) then ((rat_Of.f 0).bind fun t1 => (run_OfTimes.l0 k a0 a1 a1 (a1.length : Int) 0 ([] : List S208) 0 0 t1.1 t1.2)) else (some (([] : List S208), (⟨0, 0⟩ : S103), 6))
def run_OfTimes.ce (k : Nat) : CallE := ⟨[⟨false, (.list T192)⟩, ⟨false, (.list T103)⟩], [⟨true, [.o 208 T208, .v T103]⟩, ⟨false, [.v (.int .i64)]⟩], fun (x : (List S192) × (List S103)) => run_OfTimes.f k x.1 x.2⟩
def run_OfTimes.F : Fam (RT.dens (run_OfTimes.ce 0).rts) := ⟨fun k => ⟨TT0, GL0, callT [(172, [], rat_Of.ce), (173, [], rat_Right.ce k), (174, [], rat_Compare.ce k), (175, [], rat_Sub.ce k)], cmpT CM0, [], BLD0, ioT []⟩, [(6, ⟨⟨[(0, .v false (.list T192)), (1, .v false (.list T103)), (4, .k (.ptr 256 0)), (6, .k (.ptr 384 0)), (22, .v false (.list T103)), (23, .v false (.int .i64)), (24, .v false (.int .i64))], [(256, [.o 208 T208, .v (.int .i64), .v (.int .i64)]), (384, [.v (.int .i64), .v (.int .i64)])]⟩, fun k s => run_OfTimes.l0 k s.1.1 s.1.2.1 s.1.2.2.1 s.1.2.2.2.1 s.1.2.2.2.2.1 s.2.1.1 s.2.1.2.1 s.2.1.2.2.1 s.2.2.1.1 s.2.2.1.2.1⟩), (15, ⟨⟨[(0, .v false (.list T192)), (4, .k (.ptr 256 0)), (6, .k (.ptr 384 0)), (9, .k (.ptr 576 0)), (41, .v false (.list T103)), (42, .v false (.int .i64)), (43, .v false (.int .i64))], [(256, [.o 208 T208, .v (.int .i64), .v (.int .i64)]), (384, [.v (.int .i64), .v (.int .i64)]), (576, [.o 208 T208, .v (.int .i64), .v (.int .i64)])]⟩, fun k s => run_OfTimes.l1 k s.1.1 s.1.2.1 s.1.2.2.1 s.1.2.2.2.1 s.2.1.1 s.2.1.2.1 s.2.1.2.2.1 s.2.2.1.1 s.2.2.1.2.1 s.2.2.2.1.1 s.2.2.2.1.2.1 s.2.2.2.1.2.2.1⟩)]⟩
theorem run_OfTimes.is (k : Nat) (x : AT.dens (run_OfTimes.ce 0).ats) : (run_OfTimes.ce k).fn x = den run_OfTimes.F k (bodyOf Tryz.f51) (startAS (run_OfTimes.ce 0).ats x) (retK (run_OfTimes.F.c k) Tryz.f51.results.toList (run_OfTimes.ce 0).rts) := by kernel_rfl
theorem run_OfTimes.ob : Obl run_OfTimes.F (bodyOf Tryz.f51) (fun k => retK (run_OfTimes.F.c k) Tryz.f51.results.toList (run_OfTimes.ce 0).rts) := obl_of (by kernel_rfl)
/-! ### gnomonref02_below: function 243 -/
def gnomonref02_below.f (l0_0 : Int) (l0_1 : Int) (l1_0 : Int) (l1_1 : Int) : Option Bool := if l0_0 < l1_0 then (some true) else (if l0_0 = l1_0 then (some (decide (l0_1 < l1_1))) else (some false))
def gnomonref02_below.ce : CallE := ⟨[⟨true, T277⟩, ⟨true, T277⟩], [⟨false, [.v .bool]⟩], fun (x : S277 × S277) => gnomonref02_below.f x.1.f0 x.1.f1 x.2.f0 x.2.f1⟩
def gnomonref02_below.F : Fam (RT.dens (gnomonref02_below.ce).rts) := ⟨fun k => ⟨TT0, GL0, callT [], cmpT CM0, [], BLD0, ioT []⟩, []⟩
theorem gnomonref02_below.is (k : Nat) (x : AT.dens (gnomonref02_below.ce).ats) : (gnomonref02_below.ce).fn x = den gnomonref02_below.F k (bodyOf Tryz.f243) (startAS (gnomonref02_below.ce).ats x) (retK (gnomonref02_below.F.c k) Tryz.f243.results.toList (gnomonref02_below.ce).rts) := by kernel_rfl
theorem gnomonref02_below.ob : Obl gnomonref02_below.F (bodyOf Tryz.f243) (fun k => retK (gnomonref02_below.F.c k) Tryz.f243.results.toList (gnomonref02_below.ce).rts) := obl_of (by kernel_rfl)
/-! ### gnomonref02_minus: function 290 -/
def gnomonref02_minus.f (l0_0 : Int) (l0_1 : Int) (l1_0 : Int) (l1_1 : Int) : Option (Int × Int) := (math_bits_Sub64.f l0_1 l1_1 0).bind fun t1 => ((math_bits_Sub64.f l0_0 l1_0 t1.2).bind fun t2 => (some (t2.1, t1.1)))
def gnomonref02_minus.ce : CallE := ⟨[⟨true, T277⟩, ⟨true, T277⟩], [⟨true, [.v (.int .u64), .v (.int .u64)]⟩], fun (x : S277 × S277) => gnomonref02_minus.f x.1.f0 x.1.f1 x.2.f0 x.2.f1⟩
def gnomonref02_minus.F : Fam (RT.dens (gnomonref02_minus.ce).rts) := ⟨fun k => ⟨TT0, GL0, callT [(322, [], math_bits_Sub64.ce)], cmpT CM0, [], BLD0, ioT []⟩, []⟩
theorem gnomonref02_minus.is (k : Nat) (x : AT.dens (gnomonref02_minus.ce).ats) : (gnomonref02_minus.ce).fn x = den gnomonref02_minus.F k (bodyOf Tryz.f290) (startAS (gnomonref02_minus.ce).ats x) (retK (gnomonref02_minus.F.c k) Tryz.f290.results.toList (gnomonref02_minus.ce).rts) := by kernel_rfl
theorem gnomonref02_minus.ob : Obl gnomonref02_minus.F (bodyOf Tryz.f290) (fun k => retK (gnomonref02_minus.F.c k) Tryz.f290.results.toList (gnomonref02_minus.ce).rts) := obl_of (by kernel_rfl)
/-! ### gnomonref02_divide: function 287 -/
mutual
def gnomonref02_divide.l0 : Nat → Int → Int → Int → Int → Int → Int → Int → Int → Int → Int → Int → Int → Int → Option (Int × Int × Int × Int)
 | 0, _, _, _, _, _, _, _, _, _, _, _, _, _ => none
 | k + 1, x8, x2_0, x2_1, x3_0, x3_1, x4_0, x4_1, x5_0, x5_1, x6_0, x6_1, x7_0, x7_1 => if x8 ≥ 0 then (if 0 ≤ (wk .u64 ((Int.tmod x8 64))) then (if x8 ≥ 64 then (if 0 ≤ (wk .u64 (w64 (x8 - 64))) then (gnomonref02_divide.j1 k x8 (Wr.and .u64 (Wr.shr .u64 x2_0 (wk .u64 (w64 (x8 - 64)))) 1) x2_0 x2_1 x3_0 x3_1 x4_0 x4_1 x5_0 x5_1 x6_0 x6_1 x7_0 x7_1) else (none)) else (gnomonref02_divide.j1 k x8 (Wr.and .u64 (Wr.shr .u64 x2_1 (wk .u64 ((Int.tmod x8 64)))) 1) x2_0 x2_1 x3_0 x3_1 x4_0 x4_1 x5_0 x5_1 x6_0 x6_1 x7_0 x7_1)) else (none)) else (some (x6_0, x6_1, x7_0, x7_1))
def gnomonref02_divide.j1 : Nat → Int → Int → Int → Int → Int → Int → Int → Int → Int → Int → Int → Int → Int → Int → Option (Int × Int × Int × Int)
 | 0, _, _, _, _, _, _, _, _, _, _, _, _, _, _ => none
 | k + 1, x8, x9, x2_0, x2_1, x3_0, x3_1, x4_0, x4_1, x5_0, x5_1, x6_0, x6_1, x7_0, x7_1 => if (x7_0 / 9223372036854775808) = 1 then ((gnomonref02_minus.f (Wr.or .u64 (wk .u64 (x7_0 * 2)) (x7_1 / 9223372036854775808)) (Wr.or .u64 (wk .u64 (x7_1 * 2)) x9) x3_0 x3_1).bind fun t1 => (gnomonref02_divide.l0 k (w64 (x8 - 1)) x2_0 x2_1 x3_0 x3_1 x4_0 x4_1 x5_0 x5_1 (Wr.or .u64 (wk .u64 (x6_0 * 2)) (x6_1 / 9223372036854775808)) (Wr.or .u64 (wk .u64 (x6_1 * 2)) 1) t1.1 t1.2)) else ((gnomonref02_below.f (Wr.or .u64 (wk .u64 (x7_0 * 2)) (x7_1 / 9223372036854775808)) (Wr.or .u64 (wk .u64 (x7_1 * 2)) x9) x3_0 x3_1).bind fun t2 => (if (!t2) = true then ((gnomonref02_minus.f (Wr.or .u64 (wk .u64 (x7_0 * 2)) (x7_1 / 9223372036854775808)) (Wr.or .u64 (wk .u64 (x7_1 * 2)) x9) x3_0 x3_1).bind fun t3 => (gnomonref02_divide.l0 k (w64 (x8 - 1)) x2_0 x2_1 x3_0 x3_1 x4_0 x4_1 x5_0 x5_1 (Wr.or .u64 (wk .u64 (x6_0 * 2)) (x6_1 / 9223372036854775808)) (Wr.or .u64 (wk .u64 (x6_1 * 2)) 1) t3.1 t3.2)) else (gnomonref02_divide.l0 k (w64 (x8 - 1)) x2_0 x2_1 x3_0 x3_1 x4_0 x4_1 x5_0 x5_1 (Wr.or .u64 (wk .u64 (x6_0 * 2)) (x6_1 / 9223372036854775808)) (wk .u64 (x6_1 * 2)) (Wr.or .u64 (wk .u64 (x7_0 * 2)) (x7_1 / 9223372036854775808)) (Wr.or .u64 (wk .u64 (x7_1 * 2)) x9))))
end
def gnomonref02_divide.f (k : Nat) (l0_0 : Int) (l0_1 : Int) (l1_0 : Int) (l1_1 : Int) : Option (Int × Int × Int × Int) := gnomonref02_divide.l0 k 127 l0_0 l0_1 l1_0 l1_1 0 0 0 0 0 0 0 0
def gnomonref02_divide.ce (k : Nat) : CallE := ⟨[⟨true, T277⟩, ⟨true, T277⟩], [⟨true, [.v (.int .u64), .v (.int .u64)]⟩, ⟨true, [.v (.int .u64), .v (.int .u64)]⟩], fun (x : S277 × S277) => gnomonref02_divide.f k x.1.f0 x.1.f1 x.2.f0 x.2.f1⟩
def gnomonref02_divide.F : Fam (RT.dens (gnomonref02_divide.ce 0).rts) := ⟨fun k => ⟨TT0, GL0, callT [(243, [], gnomonref02_below.ce), (290, [], gnomonref02_minus.ce)], cmpT CM0, [], BLD0, ioT []⟩, [(4, ⟨⟨[(2, .k (.ptr 128 0)), (3, .k (.ptr 192 0)), (4, .k (.ptr 256 0)), (5, .k (.ptr 320 0)), (6, .k (.ptr 384 0)), (7, .k (.ptr 448 0)), (8, .v false (.int .i64))], [(128, [.v (.int .u64), .v (.int .u64)]), (192, [.v (.int .u64), .v (.int .u64)]), (256, [.v (.int .u64), .v (.int .u64)]), (320, [.v (.int .u64), .v (.int .u64)]), (384, [.v (.int .u64), .v (.int .u64)]), (448, [.v (.int .u64), .v (.int .u64)])]⟩, fun k s => gnomonref02_divide.l0 k s.1.1 s.2.1.1 s.2.1.2.1 s.2.2.1.1 s.2.2.1.2.1 s.2.2.2.1.1 s.2.2.2.1.2.1 s.2.2.2.2.1.1 s.2.2.2.2.1.2.1 s.2.2.2.2.2.1.1 s.2.2.2.2.2.1.2.1 s.2.2.2.2.2.2.1.1 s.2.2.2.2.2.2.1.2.1⟩), (1000009, ⟨⟨[(2, .k (.ptr 128 0)), (3, .k (.ptr 192 0)), (4, .k (.ptr 256 0)), (5, .k (.ptr 320 0)), (6, .k (.ptr 384 0)), (7, .k (.ptr 448 0)), (8, .v false (.int .i64)), (9, .v false (.int .u64))], [(128, [.v (.int .u64), .v (.int .u64)]), (192, [.v (.int .u64), .v (.int .u64)]), (256, [.v (.int .u64), .v (.int .u64)]), (320, [.v (.int .u64), .v (.int .u64)]), (384, [.v (.int .u64), .v (.int .u64)]), (448, [.v (.int .u64), .v (.int .u64)])]⟩, fun k s => gnomonref02_divide.j1 k s.1.1 s.1.2.1 s.2.1.1 s.2.1.2.1 s.2.2.1.1 s.2.2.1.2.1 s.2.2.2.1.1 s.2.2.2.1.2.1 s.2.2.2.2.1.1 s.2.2.2.2.1.2.1 s.2.2.2.2.2.1.1 s.2.2.2.2.2.1.2.1 s.2.2.2.2.2.2.1.1 s.2.2.2.2.2.2.1.2.1⟩)]⟩
theorem gnomonref02_divide.is (k : Nat) (x : AT.dens (gnomonref02_divide.ce 0).ats) : (gnomonref02_divide.ce k).fn x = den gnomonref02_divide.F k (bodyOf Tryz.f287) (startAS (gnomonref02_divide.ce 0).ats x) (retK (gnomonref02_divide.F.c k) Tryz.f287.results.toList (gnomonref02_divide.ce 0).rts) := by kernel_rfl
theorem gnomonref02_divide.ob : Obl gnomonref02_divide.F (bodyOf Tryz.f287) (fun k => retK (gnomonref02_divide.F.c k) Tryz.f287.results.toList (gnomonref02_divide.ce 0).rts) := obl_of (by kernel_rfl)
/-! ### gnomonref02_common: function 240 -/
def gnomonref02_common.l0 : Nat → Int → Int → Int → Int → Int → Int → Option (Int × Int)
 | 0, _, _, _, _, _, _ => none
 | k + 1, x2_0, x2_1, x3_0, x3_1, x4_0, x4_1 => if (⟨x3_0, x3_1⟩ : S277) = (⟨0, 0⟩ : S277) then (some (x2_0, x2_1)) else ((gnomonref02_divide.f k x2_0 x2_1 x3_0 x3_1).bind fun t1 => (gnomonref02_common.l0 k x3_0 x3_1 t1.2.2.1 t1.2.2.2 x4_0 x4_1))
def gnomonref02_common.f (k : Nat) (l0_0 : Int) (l0_1 : Int) (l1_0 : Int) (l1_1 : Int) : Option (Int × Int) := gnomonref02_common.l0 k l0_0 l0_1 l1_0 l1_1 0 0
def gnomonref02_common.ce (k : Nat) : CallE := ⟨[⟨true, T277⟩, ⟨true, T277⟩], [⟨true, [.v (.int .u64), .v (.int .u64)]⟩], fun (x : S277 × S277) => gnomonref02_common.f k x.1.f0 x.1.f1 x.2.f0 x.2.f1⟩
def gnomonref02_common.F : Fam (RT.dens (gnomonref02_common.ce 0).rts) := ⟨fun k => ⟨TT0, GL0, callT [(287, [], gnomonref02_divide.ce k)], cmpT CM0, [], BLD0, ioT []⟩, [(2, ⟨⟨[(2, .k (.ptr 128 0)), (3, .k (.ptr 192 0)), (4, .k (.ptr 256 0))], [(128, [.v (.int .u64), .v (.int .u64)]), (192, [.v (.int .u64), .v (.int .u64)]), (256, [.v (.int .u64), .v (.int .u64)])]⟩, fun k s => gnomonref02_common.l0 k s.2.1.1 s.2.1.2.1 s.2.2.1.1 s.2.2.1.2.1 s.2.2.2.1.1 s.2.2.2.1.2.1⟩)]⟩
theorem gnomonref02_common.is (k : Nat) (x : AT.dens (gnomonref02_common.ce 0).ats) : (gnomonref02_common.ce k).fn x = den gnomonref02_common.F k (bodyOf Tryz.f240) (startAS (gnomonref02_common.ce 0).ats x) (retK (gnomonref02_common.F.c k) Tryz.f240.results.toList (gnomonref02_common.ce 0).rts) := by kernel_rfl
theorem gnomonref02_common.ob : Obl gnomonref02_common.F (bodyOf Tryz.f240) (fun k => retK (gnomonref02_common.F.c k) Tryz.f240.results.toList (gnomonref02_common.ce 0).rts) := obl_of (by kernel_rfl)
/-! ### gnomonref02_size: function 241 -/
def gnomonref02_size.f (a0 : Int) : Option Int := if a0 < 0 then (some (wk .u64 (0 - (wk .u64 (a0))))) else (some (wk .u64 (a0)))
def gnomonref02_size.ce : CallE := ⟨[⟨false, (.int .i64)⟩], [⟨false, [.v (.int .u64)]⟩], fun (x : Int) => gnomonref02_size.f x⟩
def gnomonref02_size.F : Fam (RT.dens (gnomonref02_size.ce).rts) := ⟨fun k => ⟨TT0, GL0, callT [], cmpT CM0, [], BLD0, ioT []⟩, []⟩
theorem gnomonref02_size.is (k : Nat) (x : AT.dens (gnomonref02_size.ce).ats) : (gnomonref02_size.ce).fn x = den gnomonref02_size.F k (bodyOf Tryz.f241) (startAS (gnomonref02_size.ce).ats x) (retK (gnomonref02_size.F.c k) Tryz.f241.results.toList (gnomonref02_size.ce).rts) := by kernel_rfl
theorem gnomonref02_size.ob : Obl gnomonref02_size.F (bodyOf Tryz.f241) (fun k => retK (gnomonref02_size.F.c k) Tryz.f241.results.toList (gnomonref02_size.ce).rts) := obl_of (by kernel_rfl)
/-! ### gnomonref02_Right: function 176 -/
def gnomonref02_Right.f (k : Nat) (l0_0 : Int) (l0_1 : Int) : Option Bool := if l0_1 > 0 then ((gnomonref02_size.f l0_0).bind fun t1 => ((gnomonref02_common.f k 0 t1 0 (wk .u64 (l0_1))).bind fun t2 => (some (decide ((⟨t2.1, t2.2⟩ : S277) = (⟨0, 1⟩ : S277)))))) else (some false)
def gnomonref02_Right.ce (k : Nat) : CallE := ⟨[⟨true, T103⟩], [⟨false, [.v .bool]⟩], fun (x : S103) => gnomonref02_Right.f k x.f0 x.f1⟩
def gnomonref02_Right.F : Fam (RT.dens (gnomonref02_Right.ce 0).rts) := ⟨fun k => ⟨TT0, GL0, callT [(240, [], gnomonref02_common.ce k), (241, [], gnomonref02_size.ce)], cmpT CM0, [], BLD0, ioT []⟩, []⟩
theorem gnomonref02_Right.is (k : Nat) (x : AT.dens (gnomonref02_Right.ce 0).ats) : (gnomonref02_Right.ce k).fn x = den gnomonref02_Right.F k (bodyOf Tryz.f176) (startAS (gnomonref02_Right.ce 0).ats x) (retK (gnomonref02_Right.F.c k) Tryz.f176.results.toList (gnomonref02_Right.ce 0).rts) := by kernel_rfl
theorem gnomonref02_Right.ob : Obl gnomonref02_Right.F (bodyOf Tryz.f176) (fun k => retK (gnomonref02_Right.F.c k) Tryz.f176.results.toList (gnomonref02_Right.ce 0).rts) := obl_of (by kernel_rfl)
/-! ### gnomonref02_mul: function 242 -/
def gnomonref02_mul.f (a0 : Int) (a1 : Int) : Option (Int × Int) := (math_bits_Mul64.f a0 a1).bind fun t1 => (some (t1.1, t1.2))
def gnomonref02_mul.ce : CallE := ⟨[⟨false, (.int .u64)⟩, ⟨false, (.int .u64)⟩], [⟨true, [.v (.int .u64), .v (.int .u64)]⟩], fun (x : Int × Int) => gnomonref02_mul.f x.1 x.2⟩
def gnomonref02_mul.F : Fam (RT.dens (gnomonref02_mul.ce).rts) := ⟨fun k => ⟨TT0, GL0, callT [(280, [], math_bits_Mul64.ce)], cmpT CM0, [], BLD0, ioT []⟩, []⟩
theorem gnomonref02_mul.is (k : Nat) (x : AT.dens (gnomonref02_mul.ce).ats) : (gnomonref02_mul.ce).fn x = den gnomonref02_mul.F k (bodyOf Tryz.f242) (startAS (gnomonref02_mul.ce).ats x) (retK (gnomonref02_mul.F.c k) Tryz.f242.results.toList (gnomonref02_mul.ce).rts) := by kernel_rfl
theorem gnomonref02_mul.ob : Obl gnomonref02_mul.F (bodyOf Tryz.f242) (fun k => retK (gnomonref02_mul.F.c k) Tryz.f242.results.toList (gnomonref02_mul.ce).rts) := obl_of (by kernel_rfl)
/-! ### gnomonref02_Compare: function 177 -/
mutual
def gnomonref02_Compare.j0 : Nat → Int → Int → Int → Int → Option Int
 | 0, _, _, _, _ => none
 | k + 1, x2_0, x2_1, x3_0, x3_1 => (gnomonref02_size.f x2_0).bind fun t3 => ((gnomonref02_mul.f t3 (wk .u64 (x3_1))).bind fun t4 => ((gnomonref02_size.f x3_0).bind fun t5 => ((gnomonref02_mul.f t5 (wk .u64 (x2_1))).bind fun t6 => (if x2_0 < 0 then (if x3_0 < 0 then (gnomonref02_Compare.j1 k x2_0 x2_1 x3_0 x3_1 t6.1 t6.2 t4.1 t4.2) else (gnomonref02_Compare.j1 k x2_0 x2_1 x3_0 x3_1 t4.1 t4.2 t6.1 t6.2)) else (gnomonref02_Compare.j1 k x2_0 x2_1 x3_0 x3_1 t4.1 t4.2 t6.1 t6.2)))))
def gnomonref02_Compare.j1 : Nat → Int → Int → Int → Int → Int → Int → Int → Int → Option Int
 | 0, _, _, _, _, _, _, _, _ => none
 | k + 1, x2_0, x2_1, x3_0, x3_1, x5_0, x5_1, x6_0, x6_1 => if x2_0 < 0 then (if x3_0 ≥ 0 then (gnomonref02_Compare.j2 k true x2_0 x2_1 x3_0 x3_1 x5_0 x5_1 x6_0 x6_1) else (if (decide (x2_0 < 0)) = (decide (x3_0 < 0)) then ((gnomonref02_below.f x5_0 x5_1 x6_0 x6_1).bind fun t9 => (gnomonref02_Compare.j2 k t9 x2_0 x2_1 x3_0 x3_1 x5_0 x5_1 x6_0 x6_1)) else (gnomonref02_Compare.j2 k false x2_0 x2_1 x3_0 x3_1 x5_0 x5_1 x6_0 x6_1))) else (if (decide (x2_0 < 0)) = (decide (x3_0 < 0)) then ((gnomonref02_below.f x5_0 x5_1 x6_0 x6_1).bind fun t10 => (gnomonref02_Compare.j2 k t10 x2_0 x2_1 x3_0 x3_1 x5_0 x5_1 x6_0 x6_1)) else (gnomonref02_Compare.j2 k false x2_0 x2_1 x3_0 x3_1 x5_0 x5_1 x6_0 x6_1))
def gnomonref02_Compare.j2 : Nat → Bool → Int → Int → Int → Int → Int → Int → Int → Int → Option Int
 | 0, _, _, _, _, _, _, _, _, _ => none
 | k + 1, x39, x2_0, x2_1, x3_0, x3_1, x5_0, x5_1, x6_0, x6_1 => if x39 = true then (some (-1)) else (if x2_0 ≥ 0 then (if x3_0 < 0 then (some 1) else ((gnomonref02_below.f x6_0 x6_1 x5_0 x5_1).bind fun t7 => (if t7 = true then (some 1) else (some 0)))) else ((gnomonref02_below.f x6_0 x6_1 x5_0 x5_1).bind fun t8 => (if t8 = true then (some 1) else (some 0))))
end
def gnomonref02_Compare.f (k : Nat) (l0_0 : Int) (l0_1 : Int) (l1_0 : Int) (l1_1 : Int) : Option Int := (gnomonref02_Right.f k l0_0 l0_1).bind fun t1 => (if (!t1) = true then (some 0) else ((gnomonref02_Right.f k l1_0 l1_1).bind fun t2 => (if (!t2) = true then (some 0) else (gnomonref02_Compare.j0 k l0_0 l0_1 l1_0 l1_1))))
def gnomonref02_Compare.ce (k : Nat) : CallE := ⟨[⟨true, T103⟩, ⟨true, T103⟩], [⟨false, [.v (.int .i64)]⟩], fun (x : S103 × S103) => gnomonref02_Compare.f k x.1.f0 x.1.f1 x.2.f0 x.2.f1⟩
def gnomonref02_Compare.F : Fam (RT.dens (gnomonref02_Compare.ce 0).rts) := ⟨fun k => ⟨TT0, GL0, callT [(176, [], gnomonref02_Right.ce k), (241, [], gnomonref02_size.ce), (242, [], gnomonref02_mul.ce), (243, [], gnomonref02_below.ce)], cmpT CM0, [], BLD0, ioT []⟩, [(1000004, ⟨⟨[(2, .k (.ptr 128 0)), (3, .k (.ptr 192 0))], [(128, [.v (.int .i64), .v (.int .i64)]), (192, [.v (.int .i64), .v (.int .i64)])]⟩, fun k s => gnomonref02_Compare.j0 k s.2.1.1 s.2.1.2.1 s.2.2.1.1 s.2.2.1.2.1⟩), (1000008, ⟨⟨[(2, .k (.ptr 128 0)), (3, .k (.ptr 192 0)), (5, .k (.ptr 320 0)), (6, .k (.ptr 384 0))], [(128, [.v (.int .i64), .v (.int .i64)]), (192, [.v (.int .i64), .v (.int .i64)]), (320, [.v (.int .u64), .v (.int .u64)]), (384, [.v (.int .u64), .v (.int .u64)])]⟩, fun k s => gnomonref02_Compare.j1 k s.2.1.1 s.2.1.2.1 s.2.2.1.1 s.2.2.1.2.1 s.2.2.2.1.1 s.2.2.2.1.2.1 s.2.2.2.2.1.1 s.2.2.2.2.1.2.1⟩), (1000009, ⟨⟨[(2, .k (.ptr 128 0)), (3, .k (.ptr 192 0)), (5, .k (.ptr 320 0)), (6, .k (.ptr 384 0)), (39, .v false .bool)], [(128, [.v (.int .i64), .v (.int .i64)]), (192, [.v (.int .i64), .v (.int .i64)]), (320, [.v (.int .u64), .v (.int .u64)]), (384, [.v (.int .u64), .v (.int .u64)])]⟩, fun k s => gnomonref02_Compare.j2 k s.1.1 s.2.1.1 s.2.1.2.1 s.2.2.1.1 s.2.2.1.2.1 s.2.2.2.1.1 s.2.2.2.1.2.1 s.2.2.2.2.1.1 s.2.2.2.2.1.2.1⟩)]⟩
theorem gnomonref02_Compare.is (k : Nat) (x : AT.dens (gnomonref02_Compare.ce 0).ats) : (gnomonref02_Compare.ce k).fn x = den gnomonref02_Compare.F k (bodyOf Tryz.f177) (startAS (gnomonref02_Compare.ce 0).ats x) (retK (gnomonref02_Compare.F.c k) Tryz.f177.results.toList (gnomonref02_Compare.ce 0).rts) := by kernel_rfl
theorem gnomonref02_Compare.ob : Obl gnomonref02_Compare.F (bodyOf Tryz.f177) (fun k => retK (gnomonref02_Compare.F.c k) Tryz.f177.results.toList (gnomonref02_Compare.ce 0).rts) := obl_of (by kernel_rfl)
/-! ### gnomonref02_held: function 288 -/
mutual
def gnomonref02_held.j0 : Nat → Bool → Int → Int → Int → Int → Int → Int → Int → Option (Int × Int × Int)
 | 0, _, _, _, _, _, _, _, _ => none
 | k + 1, x0, x13, x6_0, x6_1, x9_0, x9_1, x11_0, x11_1 => if x9_0 = 0 then (if x9_1 > x13 then (some (0, 0, 20)) else (if x11_0 = 0 then (if x11_1 > 9223372036854775807 then (some (0, 0, 20)) else (gnomonref02_held.j1 k x0 x6_0 x6_1 x9_0 x9_1 x11_0 x11_1)) else (some (0, 0, 20)))) else (some (0, 0, 20))
def gnomonref02_held.j1 : Nat → Bool → Int → Int → Int → Int → Int → Int → Option (Int × Int × Int)
 | 0, _, _, _, _, _, _, _ => none
 | k + 1, x0, x6_0, x6_1, x9_0, x9_1, x11_0, x11_1 => if x0 = true then (some (w64 (wk .u64 (0 - x9_1)), w64 (x11_1), 0)) else (some (w64 (x9_1), w64 (x11_1), 0))
end
def gnomonref02_held.f (k : Nat) (a0 : Bool) (l1_0 : Int) (l1_1 : Int) (l2_0 : Int) (l2_1 : Int) : Option (Int × Int × Int) := if (⟨l2_0, l2_1⟩ : S277) = (⟨0, 0⟩ : S277) then (some (0, 0, 21)) else ((gnomonref02_common.f k l1_0 l1_1 l2_0 l2_1).bind fun t1 => ((gnomonref02_divide.f k l1_0 l1_1 t1.1 t1.2).bind fun t2 => ((gnomonref02_divide.f k l2_0 l2_1 t1.1 t1.2).bind fun t3 => (if a0 = true then (gnomonref02_held.j0 k a0 (wk .u64 (9223372036854775807 + 1)) 0 0 t2.1 t2.2.1 t3.1 t3.2.1) else (gnomonref02_held.j0 k a0 9223372036854775807 0 0 t2.1 t2.2.1 t3.1 t3.2.1)))))
def gnomonref02_held.ce (k : Nat) : CallE := ⟨[⟨false, .bool⟩, ⟨true, T277⟩, ⟨true, T277⟩], [⟨true, [.v (.int .i64), .v (.int .i64)]⟩, ⟨false, [.v (.int .i64)]⟩], fun (x : Bool × S277 × S277) => gnomonref02_held.f k x.1 x.2.1.f0 x.2.1.f1 x.2.2.f0 x.2.2.f1⟩
def gnomonref02_held.F : Fam (RT.dens (gnomonref02_held.ce 0).rts) := ⟨fun k => ⟨TT0, GL0, callT [(240, [], gnomonref02_common.ce k), (287, [], gnomonref02_divide.ce k)], cmpT CM0, [], BLD0, ioT []⟩, [(1000010, ⟨⟨[(0, .v false .bool), (6, .k (.ptr 384 0)), (9, .k (.ptr 576 0)), (11, .k (.ptr 704 0)), (13, .v false (.int .u64))], [(384, [.v (.int .i64), .v (.int .i64)]), (576, [.v (.int .u64), .v (.int .u64)]), (704, [.v (.int .u64), .v (.int .u64)])]⟩, fun k s => gnomonref02_held.j0 k s.1.1 s.1.2.1 s.2.1.1 s.2.1.2.1 s.2.2.1.1 s.2.2.1.2.1 s.2.2.2.1.1 s.2.2.2.1.2.1⟩), (1000012, ⟨⟨[(0, .v false .bool), (6, .k (.ptr 384 0)), (9, .k (.ptr 576 0)), (11, .k (.ptr 704 0))], [(384, [.v (.int .i64), .v (.int .i64)]), (576, [.v (.int .u64), .v (.int .u64)]), (704, [.v (.int .u64), .v (.int .u64)])]⟩, fun k s => gnomonref02_held.j1 k s.1.1 s.2.1.1 s.2.1.2.1 s.2.2.1.1 s.2.2.1.2.1 s.2.2.2.1.1 s.2.2.2.1.2.1⟩)]⟩
theorem gnomonref02_held.is (k : Nat) (x : AT.dens (gnomonref02_held.ce 0).ats) : (gnomonref02_held.ce k).fn x = den gnomonref02_held.F k (bodyOf Tryz.f288) (startAS (gnomonref02_held.ce 0).ats x) (retK (gnomonref02_held.F.c k) Tryz.f288.results.toList (gnomonref02_held.ce 0).rts) := by kernel_rfl
theorem gnomonref02_held.ob : Obl gnomonref02_held.F (bodyOf Tryz.f288) (fun k => retK (gnomonref02_held.F.c k) Tryz.f288.results.toList (gnomonref02_held.ce 0).rts) := obl_of (by kernel_rfl)
/-! ### gnomonref02_plus: function 289 -/
def gnomonref02_plus.f (l0_0 : Int) (l0_1 : Int) (l1_0 : Int) (l1_1 : Int) : Option (Int × Int) := (math_bits_Add64.f l0_1 l1_1 0).bind fun t1 => ((math_bits_Add64.f l0_0 l1_0 t1.2).bind fun t2 => (some (t2.1, t1.1)))
def gnomonref02_plus.ce : CallE := ⟨[⟨true, T277⟩, ⟨true, T277⟩], [⟨true, [.v (.int .u64), .v (.int .u64)]⟩], fun (x : S277 × S277) => gnomonref02_plus.f x.1.f0 x.1.f1 x.2.f0 x.2.f1⟩
def gnomonref02_plus.F : Fam (RT.dens (gnomonref02_plus.ce).rts) := ⟨fun k => ⟨TT0, GL0, callT [(319, [], math_bits_Add64.ce)], cmpT CM0, [], BLD0, ioT []⟩, []⟩
theorem gnomonref02_plus.is (k : Nat) (x : AT.dens (gnomonref02_plus.ce).ats) : (gnomonref02_plus.ce).fn x = den gnomonref02_plus.F k (bodyOf Tryz.f289) (startAS (gnomonref02_plus.ce).ats x) (retK (gnomonref02_plus.F.c k) Tryz.f289.results.toList (gnomonref02_plus.ce).rts) := by kernel_rfl
theorem gnomonref02_plus.ob : Obl gnomonref02_plus.F (bodyOf Tryz.f289) (fun k => retK (gnomonref02_plus.F.c k) Tryz.f289.results.toList (gnomonref02_plus.ce).rts) := obl_of (by kernel_rfl)
/-! ### gnomonref02_less: function 244 -/
def gnomonref02_less.f (k : Nat) (l0_0 : Int) (l0_1 : Int) (l1_0 : Int) (l1_1 : Int) : Option (Int × Int × Int) := (gnomonref02_size.f l0_0).bind fun t1 => ((gnomonref02_mul.f t1 (wk .u64 (l1_1))).bind fun t2 => ((gnomonref02_size.f l1_0).bind fun t3 => ((gnomonref02_mul.f t3 (wk .u64 (l0_1))).bind fun t4 => ((gnomonref02_mul.f (wk .u64 (l0_1)) (wk .u64 (l1_1))).bind fun t5 => (if (decide (l0_0 < 0)) = (decide (l1_0 < 0)) then ((gnomonref02_below.f t2.1 t2.2 t4.1 t4.2).bind fun t6 => (if t6 = true then ((gnomonref02_minus.f t4.1 t4.2 t2.1 t2.2).bind fun t7 => ((gnomonref02_held.f k (decide (l0_0 ≥ 0)) t7.1 t7.2 t5.1 t5.2).bind fun t8 => (some (t8.1, t8.2.1, t8.2.2)))) else ((gnomonref02_minus.f t2.1 t2.2 t4.1 t4.2).bind fun t9 => ((gnomonref02_held.f k (decide (l0_0 < 0)) t9.1 t9.2 t5.1 t5.2).bind fun t10 => (some (t10.1, t10.2.1, t10.2.2)))))) else ((gnomonref02_plus.f t2.1 t2.2 t4.1 t4.2).bind fun t11 => ((gnomonref02_held.f k (decide (l0_0 < 0)) t11.1 t11.2 t5.1 t5.2).bind fun t12 => (some (t12.1, t12.2.1, t12.2.2)))))))))
def gnomonref02_less.ce (k : Nat) : CallE := ⟨[⟨true, T103⟩, ⟨true, T103⟩], [⟨true, [.v (.int .i64), .v (.int .i64)]⟩, ⟨false, [.v (.int .i64)]⟩], fun (x : S103 × S103) => gnomonref02_less.f k x.1.f0 x.1.f1 x.2.f0 x.2.f1⟩
def gnomonref02_less.F : Fam (RT.dens (gnomonref02_less.ce 0).rts) := ⟨fun k => ⟨TT0, GL0, callT [(241, [], gnomonref02_size.ce), (242, [], gnomonref02_mul.ce), (243, [], gnomonref02_below.ce), (288, [], gnomonref02_held.ce k), (289, [], gnomonref02_plus.ce), (290, [], gnomonref02_minus.ce)], cmpT CM0, [], BLD0, ioT []⟩, []⟩
theorem gnomonref02_less.is (k : Nat) (x : AT.dens (gnomonref02_less.ce 0).ats) : (gnomonref02_less.ce k).fn x = den gnomonref02_less.F k (bodyOf Tryz.f244) (startAS (gnomonref02_less.ce 0).ats x) (retK (gnomonref02_less.F.c k) Tryz.f244.results.toList (gnomonref02_less.ce 0).rts) := by kernel_rfl
theorem gnomonref02_less.ob : Obl gnomonref02_less.F (bodyOf Tryz.f244) (fun k => retK (gnomonref02_less.F.c k) Tryz.f244.results.toList (gnomonref02_less.ce 0).rts) := obl_of (by kernel_rfl)
/-! ### gnomonref02_Sub: function 178 -/
def gnomonref02_Sub.f (k : Nat) (l0_0 : Int) (l0_1 : Int) (l1_0 : Int) (l1_1 : Int) : Option (Int × Int × Int) := (gnomonref02_Right.f k l0_0 l0_1).bind fun t1 => (if (!t1) = true then (some (0, 0, 7)) else ((gnomonref02_Right.f k l1_0 l1_1).bind fun t2 => (if (!t2) = true then (some (0, 0, 7)) else ((gnomonref02_less.f k l0_0 l0_1 l1_0 l1_1).bind fun t3 => (some (t3.1, t3.2.1, t3.2.2))))))
def gnomonref02_Sub.ce (k : Nat) : CallE := ⟨[⟨true, T103⟩, ⟨true, T103⟩], [⟨true, [.v (.int .i64), .v (.int .i64)]⟩, ⟨false, [.v (.int .i64)]⟩], fun (x : S103 × S103) => gnomonref02_Sub.f k x.1.f0 x.1.f1 x.2.f0 x.2.f1⟩
def gnomonref02_Sub.F : Fam (RT.dens (gnomonref02_Sub.ce 0).rts) := ⟨fun k => ⟨TT0, GL0, callT [(176, [], gnomonref02_Right.ce k), (244, [], gnomonref02_less.ce k)], cmpT CM0, [], BLD0, ioT []⟩, []⟩
theorem gnomonref02_Sub.is (k : Nat) (x : AT.dens (gnomonref02_Sub.ce 0).ats) : (gnomonref02_Sub.ce k).fn x = den gnomonref02_Sub.F k (bodyOf Tryz.f178) (startAS (gnomonref02_Sub.ce 0).ats x) (retK (gnomonref02_Sub.F.c k) Tryz.f178.results.toList (gnomonref02_Sub.ce 0).rts) := by kernel_rfl
theorem gnomonref02_Sub.ob : Obl gnomonref02_Sub.F (bodyOf Tryz.f178) (fun k => retK (gnomonref02_Sub.F.c k) Tryz.f178.results.toList (gnomonref02_Sub.ce 0).rts) := obl_of (by kernel_rfl)
/-! ### gnomonref20_OfTimes: function 52 -/
mutual
def gnomonref20_OfTimes.l0 : Nat → (List S192) → (List S103) → Int → (List S208) → Int → Int → Int → Int → Option ((List S208) × S103 × Int)
 | 0, _, _, _, _, _, _, _, _ => none
 | k + 1, x0, x1, x7, x4_0, x4_1, x4_2, x6_0, x6_1 => if x7 < (x1.length : Int) then (if 0 ≤ x7 then (if x7 < (x1.length : Int) then ((gnomonref02_Right.f k ((rd_T103 x1 x7).f0) ((rd_T103 x1 x7).f1)).bind fun t1 => (if (!t1) = true then (some (([] : List S208), (⟨0, 0⟩ : S103), 210)) else (if 0 ≤ x7 then (if x7 < (x1.length : Int) then ((gnomonref02_Compare.f k ((rd_T103 x1 x7).f0) ((rd_T103 x1 x7).f1) x6_0 x6_1).bind fun t2 => (if t2 < 0 then (some (([] : List S208), (⟨0, 0⟩ : S103), 210)) else (if 0 ≤ x7 then (if x7 < (x1.length : Int) then (gnomonref20_OfTimes.l0 k x0 x1 (w64 (x7 + 1)) x4_0 x4_1 x4_2 ((rd_T103 x1 x7).f0) ((rd_T103 x1 x7).f1)) else (none)) else (none)))) else (none)) else (none)))) else (none)) else (none)) else (gnomonref20_OfTimes.l1 k x0 x1 0 x4_0 x4_1 x4_2 0 1 ([] : List S208) 0 0)
def gnomonref20_OfTimes.l1 : Nat → (List S192) → (List S103) → Int → (List S208) → Int → Int → Int → Int → (List S208) → Int → Int → Option ((List S208) × S103 × Int)
 | 0, _, _, _, _, _, _, _, _, _, _, _ => none
 | k + 1, x0, x1, x9, x4_0, x4_1, x4_2, x6_0, x6_1, x8_0, x8_1, x8_2 => if x9 < (x1.length : Int) then (if 0 ≤ x9 then (if x9 < (x1.length : Int) then ((gnomonref02_Sub.f k ((rd_T103 x1 x9).f0) ((rd_T103 x1 x9).f1) x6_0 x6_1).bind fun t3 => (if t3.2.2 = 0 then (if 0 ≤ x9 then (if x9 < (x1.length : Int) then (if x9 < (x0.length : Int) then (if 0 ≤ x9 then (if x9 < (x0.length : Int) then (if x8_0.length < 2932031007402 then (gnomonref20_OfTimes.l1 k x0 x1 (w64 (x9 + 1)) x4_0 x4_1 x4_2 ((rd_T103 x1 x9).f0) ((rd_T103 x1 x9).f1) (x8_0 ++ [(⟨(⟨t3.1, t3.2.1⟩ : S103), (rd_T192 x0 x9)⟩ : S208)]) x8_1 x8_2) else (none)) else (none)) else (none)) else (gnomonref20_OfTimes.l1 k x0 x1 (w64 (x9 + 1)) x4_0 x4_1 x4_2 ((rd_T103 x1 x9).f0) ((rd_T103 x1 x9).f1) x8_0 t3.1 t3.2.1)) else (none)) else (none)) else (some (([] : List S208), (⟨0, 0⟩ : S103), t3.2.2)))) else (none)) else (none)) else (some (x8_0, (⟨x8_1, x8_2⟩ : S103), 0))
end
def gnomonref20_OfTimes.f (k : Nat) (a0 : List S192) (a1 : List S103) : Option ((List S208) × S103 × Int) := if (a1.length : Int) = (w64 ((a0.length : Int) + 1)) then (gnomonref20_OfTimes.l0 k a0 a1 0 ([] : List S208) 0 0 0 1) else (some (([] : List S208), (⟨0, 0⟩ : S103), 6))
def gnomonref20_OfTimes.ce (k : Nat) : CallE := ⟨[⟨false, (.list T192)⟩, ⟨false, (.list T103)⟩], [⟨true, [.o 208 T208, .v T103]⟩, ⟨false, [.v (.int .i64)]⟩], fun (x : (List S192) × (List S103)) => gnomonref20_OfTimes.f k x.1 x.2⟩
def gnomonref20_OfTimes.F : Fam (RT.dens (gnomonref20_OfTimes.ce 0).rts) := ⟨fun k => ⟨TT0, GL0, callT [(176, [], gnomonref02_Right.ce k), (177, [], gnomonref02_Compare.ce k), (178, [], gnomonref02_Sub.ce k)], cmpT CM0, [], BLD0, ioT []⟩, [(6, ⟨⟨[(0, .v false (.list T192)), (1, .v false (.list T103)), (4, .k (.ptr 256 0)), (6, .k (.ptr 384 0)), (7, .v false (.int .i64))], [(256, [.o 208 T208, .v (.int .i64), .v (.int .i64)]), (384, [.v (.int .i64), .v (.int .i64)])]⟩, fun k s => gnomonref20_OfTimes.l0 k s.1.1 s.1.2.1 s.1.2.2.1 s.2.1.1 s.2.1.2.1 s.2.1.2.2.1 s.2.2.1.1 s.2.2.1.2.1⟩), (14, ⟨⟨[(0, .v false (.list T192)), (1, .v false (.list T103)), (4, .k (.ptr 256 0)), (6, .k (.ptr 384 0)), (8, .k (.ptr 512 0)), (9, .v false (.int .i64))], [(256, [.o 208 T208, .v (.int .i64), .v (.int .i64)]), (384, [.v (.int .i64), .v (.int .i64)]), (512, [.o 208 T208, .v (.int .i64), .v (.int .i64)])]⟩, fun k s => gnomonref20_OfTimes.l1 k s.1.1 s.1.2.1 s.1.2.2.1 s.2.1.1 s.2.1.2.1 s.2.1.2.2.1 s.2.2.1.1 s.2.2.1.2.1 s.2.2.2.1.1 s.2.2.2.1.2.1 s.2.2.2.1.2.2.1⟩)]⟩
theorem gnomonref20_OfTimes.is (k : Nat) (x : AT.dens (gnomonref20_OfTimes.ce 0).ats) : (gnomonref20_OfTimes.ce k).fn x = den gnomonref20_OfTimes.F k (bodyOf Tryz.f52) (startAS (gnomonref20_OfTimes.ce 0).ats x) (retK (gnomonref20_OfTimes.F.c k) Tryz.f52.results.toList (gnomonref20_OfTimes.ce 0).rts) := by kernel_rfl
theorem gnomonref20_OfTimes.ob : Obl gnomonref20_OfTimes.F (bodyOf Tryz.f52) (fun k => retK (gnomonref20_OfTimes.F.c k) Tryz.f52.results.toList (gnomonref20_OfTimes.ce 0).rts) := obl_of (by kernel_rfl)
/-! ### run_delays: function 246 -/
def run_delays.l0 : Nat → (List S103) → (List S208) → Int → Int → (List S208) → Int → Int → Option (List S103)
 | 0, _, _, _, _, _, _, _ => none
 | k + 1, x3, x7, x8, x9, x1_0, x1_1, x1_2 => if x9 < x8 then (if 0 ≤ x9 then (if x9 < (x7.length : Int) then (if x3.length < 8796093022208 then (run_delays.l0 k (x3 ++ [((rd_T208 x7 x9).f0)]) x7 x8 (w64 (x9 + 1)) x1_0 x1_1 x1_2) else (none)) else (none)) else (none)) else (if x3.length < 8796093022208 then (some (x3 ++ [(⟨x1_1, x1_2⟩ : S103)])) else (none))
def run_delays.f (k : Nat) (l0_0 : List S208) (l0_1 : S103) : Option (List S103) := run_delays.l0 k ([] : List S103) l0_0 (l0_0.length : Int) 0 l0_0 l0_1.f0 l0_1.f1
def run_delays.ce (k : Nat) : CallE := ⟨[⟨true, T105⟩], [⟨false, [.o 103 T103]⟩], fun (x : S105) => run_delays.f k x.f0 x.f1⟩
def run_delays.F : Fam (RT.dens (run_delays.ce 0).rts) := ⟨fun k => ⟨TT0, GL0, callT [], cmpT CM0, [], BLD0, ioT []⟩, [(4, ⟨⟨[(1, .k (.ptr 64 0)), (3, .o 103 T103), (7, .v false (.list T208)), (8, .v false (.int .i64)), (9, .v false (.int .i64))], [(64, [.v (.list T208), .v (.int .i64), .v (.int .i64)])]⟩, fun k s => run_delays.l0 k s.1.1 s.1.2.1 s.1.2.2.1 s.1.2.2.2.1 s.2.1.1 s.2.1.2.1 s.2.1.2.2.1⟩)]⟩
theorem run_delays.is (k : Nat) (x : AT.dens (run_delays.ce 0).ats) : (run_delays.ce k).fn x = den run_delays.F k (bodyOf Tryz.f246) (startAS (run_delays.ce 0).ats x) (retK (run_delays.F.c k) Tryz.f246.results.toList (run_delays.ce 0).rts) := by kernel_rfl
theorem run_delays.ob : Obl run_delays.F (bodyOf Tryz.f246) (fun k => retK (run_delays.F.c k) Tryz.f246.results.toList (run_delays.ce 0).rts) := obl_of (by kernel_rfl)
/-! ### run_Moves: function 251 -/
def run_Moves.l0 : Nat → (List S192) → (List S208) → Int → Int → Option (List S192)
 | 0, _, _, _, _ => none
 | k + 1, x3, x7, x8, x9 => if x9 < x8 then (if 0 ≤ x9 then (if x9 < (x7.length : Int) then (if x3.length < 4398046511104 then (run_Moves.l0 k (x3 ++ [((rd_T208 x7 x9).f1)]) x7 x8 (w64 (x9 + 1))) else (none)) else (none)) else (none)) else (some x3)
def run_Moves.f (k : Nat) (l0_0 : List S208) (l0_1 : S103) : Option (List S192) := run_Moves.l0 k ([] : List S192) l0_0 (l0_0.length : Int) 0
def run_Moves.ce (k : Nat) : CallE := ⟨[⟨true, T105⟩], [⟨false, [.o 192 T192]⟩], fun (x : S105) => run_Moves.f k x.f0 x.f1⟩
def run_Moves.F : Fam (RT.dens (run_Moves.ce 0).rts) := ⟨fun k => ⟨TT0, GL0, callT [], cmpT CM0, [], BLD0, ioT []⟩, [(4, ⟨⟨[(3, .o 192 T192), (7, .v false (.list T208)), (8, .v false (.int .i64)), (9, .v false (.int .i64))], []⟩, fun k s => run_Moves.l0 k s.1.1 s.1.2.1 s.1.2.2.1 s.1.2.2.2.1⟩)]⟩
theorem run_Moves.is (k : Nat) (x : AT.dens (run_Moves.ce 0).ats) : (run_Moves.ce k).fn x = den run_Moves.F k (bodyOf Tryz.f251) (startAS (run_Moves.ce 0).ats x) (retK (run_Moves.F.c k) Tryz.f251.results.toList (run_Moves.ce 0).rts) := by kernel_rfl
theorem run_Moves.ob : Obl run_Moves.F (bodyOf Tryz.f251) (fun k => retK (run_Moves.F.c k) Tryz.f251.results.toList (run_Moves.ce 0).rts) := obl_of (by kernel_rfl)
/-! ### run_isDelay: function 249 -/
def run_isDelay.f (k : Nat) (l0_0 : Int) (l0_1 : Int) : Option Bool := (rat_Right.f k l0_0 l0_1).bind fun t1 => (if t1 = true then (some (decide (l0_0 ≥ 0))) else (some false))
def run_isDelay.ce (k : Nat) : CallE := ⟨[⟨true, T103⟩], [⟨false, [.v .bool]⟩], fun (x : S103) => run_isDelay.f k x.f0 x.f1⟩
def run_isDelay.F : Fam (RT.dens (run_isDelay.ce 0).rts) := ⟨fun k => ⟨TT0, GL0, callT [(173, [], rat_Right.ce k)], cmpT CM0, [], BLD0, ioT []⟩, []⟩
theorem run_isDelay.is (k : Nat) (x : AT.dens (run_isDelay.ce 0).ats) : (run_isDelay.ce k).fn x = den run_isDelay.F k (bodyOf Tryz.f249) (startAS (run_isDelay.ce 0).ats x) (retK (run_isDelay.F.c k) Tryz.f249.results.toList (run_isDelay.ce 0).rts) := by kernel_rfl
theorem run_isDelay.ob : Obl run_isDelay.F (bodyOf Tryz.f249) (fun k => retK (run_isDelay.F.c k) Tryz.f249.results.toList (run_isDelay.ce 0).rts) := obl_of (by kernel_rfl)
/-! ### run_Right_1: function 252 -/
def run_Right_1.f (k : Nat) (l0_0 : Int) (l0_1 : Int) : Option Bool := (run_isDelay.f k l0_0 l0_1).bind fun t1 => (some (!t1))
def run_Right_1.ce (k : Nat) : CallE := ⟨[⟨true, T103⟩], [⟨false, [.v .bool]⟩], fun (x : S103) => run_Right_1.f k x.f0 x.f1⟩
def run_Right_1.F : Fam (RT.dens (run_Right_1.ce 0).rts) := ⟨fun k => ⟨TT0, GL0, callT [(249, [], run_isDelay.ce k)], cmpT CM0, [], BLD0, ioT []⟩, []⟩
theorem run_Right_1.is (k : Nat) (x : AT.dens (run_Right_1.ce 0).ats) : (run_Right_1.ce k).fn x = den run_Right_1.F k (bodyOf Tryz.f252) (startAS (run_Right_1.ce 0).ats x) (retK (run_Right_1.F.c k) Tryz.f252.results.toList (run_Right_1.ce 0).rts) := by kernel_rfl
theorem run_Right_1.ob : Obl run_Right_1.F (bodyOf Tryz.f252) (fun k => retK (run_Right_1.F.c k) Tryz.f252.results.toList (run_Right_1.ce 0).rts) := obl_of (by kernel_rfl)
/-! ### slices_IndexFunc_api_Rat_api_Rat_at252: function 292 -/
def slices_IndexFunc_api_Rat_api_Rat_at252.l0 : Nat → (List S103) → Bool → Int → Int → Option Int
 | 0, _, _, _, _ => none
 | k + 1, x0, x1, x7, x8 => if x8 < x7 then (if 0 ≤ x8 then (if x8 < (x0.length : Int) then ((run_Right_1.f k ((rd_T103 x0 x8).f0) ((rd_T103 x0 x8).f1)).bind fun t1 => (if t1 = true then (some x8) else (slices_IndexFunc_api_Rat_api_Rat_at252.l0 k x0 x1 x7 (w64 (x8 + 1))))) else (none)) else (none)) else (some (-1))
def slices_IndexFunc_api_Rat_api_Rat_at252.f (k : Nat) (a0 : List S103) (a1 : Bool) : Option Int := slices_IndexFunc_api_Rat_api_Rat_at252.l0 k a0 a1 (a0.length : Int) 0
def slices_IndexFunc_api_Rat_api_Rat_at252.ce (k : Nat) : CallE := ⟨[⟨false, (.list T103)⟩, ⟨false, (.fn 252 [] .bool)⟩], [⟨false, [.v (.int .i64)]⟩], fun (x : (List S103) × Bool) => slices_IndexFunc_api_Rat_api_Rat_at252.f k x.1 x.2⟩
def slices_IndexFunc_api_Rat_api_Rat_at252.F : Fam (RT.dens (slices_IndexFunc_api_Rat_api_Rat_at252.ce 0).rts) := ⟨fun k => ⟨TT0, GL0, callT [(252, [], run_Right_1.ce k)], cmpT CM0, [], BLD0, ioT []⟩, [(3, ⟨⟨[(0, .v false (.list T103)), (1, .v false (.fn 252 [] .bool)), (7, .v false (.int .i64)), (8, .v false (.int .i64))], []⟩, fun k s => slices_IndexFunc_api_Rat_api_Rat_at252.l0 k s.1.1 s.1.2.1 s.1.2.2.1 s.1.2.2.2.1⟩)]⟩
theorem slices_IndexFunc_api_Rat_api_Rat_at252.is (k : Nat) (x : AT.dens (slices_IndexFunc_api_Rat_api_Rat_at252.ce 0).ats) : (slices_IndexFunc_api_Rat_api_Rat_at252.ce k).fn x = den slices_IndexFunc_api_Rat_api_Rat_at252.F k (bodyOf Tryz.f292) (startAS (slices_IndexFunc_api_Rat_api_Rat_at252.ce 0).ats x) (retK (slices_IndexFunc_api_Rat_api_Rat_at252.F.c k) Tryz.f292.results.toList (slices_IndexFunc_api_Rat_api_Rat_at252.ce 0).rts) := by kernel_rfl
theorem slices_IndexFunc_api_Rat_api_Rat_at252.ob : Obl slices_IndexFunc_api_Rat_api_Rat_at252.F (bodyOf Tryz.f292) (fun k => retK (slices_IndexFunc_api_Rat_api_Rat_at252.F.c k) Tryz.f292.results.toList (slices_IndexFunc_api_Rat_api_Rat_at252.ce 0).rts) := obl_of (by kernel_rfl)
/-! ### slices_ContainsFunc_api_Rat_api_Rat_at252: function 247 -/
def slices_ContainsFunc_api_Rat_api_Rat_at252.f (k : Nat) (a0 : List S103) (a1 : Bool) : Option Bool := (slices_IndexFunc_api_Rat_api_Rat_at252.f k a0 a1).bind fun t1 => (some (decide (t1 ≥ 0)))
def slices_ContainsFunc_api_Rat_api_Rat_at252.ce (k : Nat) : CallE := ⟨[⟨false, (.list T103)⟩, ⟨false, (.fn 252 [] .bool)⟩], [⟨false, [.v .bool]⟩], fun (x : (List S103) × Bool) => slices_ContainsFunc_api_Rat_api_Rat_at252.f k x.1 x.2⟩
def slices_ContainsFunc_api_Rat_api_Rat_at252.F : Fam (RT.dens (slices_ContainsFunc_api_Rat_api_Rat_at252.ce 0).rts) := ⟨fun k => ⟨TT0, GL0, callT [(292, [252], slices_IndexFunc_api_Rat_api_Rat_at252.ce k)], cmpT CM0, [], BLD0, ioT []⟩, []⟩
theorem slices_ContainsFunc_api_Rat_api_Rat_at252.is (k : Nat) (x : AT.dens (slices_ContainsFunc_api_Rat_api_Rat_at252.ce 0).ats) : (slices_ContainsFunc_api_Rat_api_Rat_at252.ce k).fn x = den slices_ContainsFunc_api_Rat_api_Rat_at252.F k (bodyOf Tryz.f247) (startAS (slices_ContainsFunc_api_Rat_api_Rat_at252.ce 0).ats x) (retK (slices_ContainsFunc_api_Rat_api_Rat_at252.F.c k) Tryz.f247.results.toList (slices_ContainsFunc_api_Rat_api_Rat_at252.ce 0).rts) := by kernel_rfl
theorem slices_ContainsFunc_api_Rat_api_Rat_at252.ob : Obl slices_ContainsFunc_api_Rat_api_Rat_at252.F (bodyOf Tryz.f247) (fun k => retK (slices_ContainsFunc_api_Rat_api_Rat_at252.F.c k) Tryz.f247.results.toList (slices_ContainsFunc_api_Rat_api_Rat_at252.ce 0).rts) := obl_of (by kernel_rfl)
/-! ### run_Right: function 182 -/
def run_Right.f (k : Nat) (l0_0 : List ByteArray) (l0_1 : List S86) (l0_2 : List ByteArray) (l0_3 : List S76) (l1_0 : List S208) (l1_1 : S103) : Option Int := (net_Right.f k l0_0 l0_1 l0_2 l0_3).bind fun t1 => (if (!t1) = true then (some 7) else (if (l1_0.length : Int) > 4096 then (some 6) else ((run_Moves.f k l1_0 l1_1).bind fun t2 => ((moves_Print.f k l0_0 l0_1 l0_2 l0_3 t2).bind fun t3 => (if t3.2 = 0 then ((run_delays.f k l1_0 l1_1).bind fun t4 => ((slices_ContainsFunc_api_Rat_api_Rat_at252.f k t4 false).bind fun t5 => (if t5 = true then (some 210) else (some 0)))) else (some t3.2))))))
def run_Right.ce (k : Nat) : CallE := ⟨[⟨true, T26⟩, ⟨true, T105⟩], [⟨false, [.v (.int .i64)]⟩], fun (x : S26 × S105) => run_Right.f k x.1.f0 x.1.f1 x.1.f2 x.1.f3 x.2.f0 x.2.f1⟩
def run_Right.F : Fam (RT.dens (run_Right.ce 0).rts) := ⟨fun k => ⟨TT0, GL0, callT [(16, [], net_Right.ce k), (57, [], moves_Print.ce k), (246, [], run_delays.ce k), (247, [252], slices_ContainsFunc_api_Rat_api_Rat_at252.ce k), (251, [], run_Moves.ce k)], cmpT CM0, [], BLD0, ioT []⟩, []⟩
theorem run_Right.is (k : Nat) (x : AT.dens (run_Right.ce 0).ats) : (run_Right.ce k).fn x = den run_Right.F k (bodyOf Tryz.f182) (startAS (run_Right.ce 0).ats x) (retK (run_Right.F.c k) Tryz.f182.results.toList (run_Right.ce 0).rts) := by kernel_rfl
theorem run_Right.ob : Obl run_Right.F (bodyOf Tryz.f182) (fun k => retK (run_Right.F.c k) Tryz.f182.results.toList (run_Right.ce 0).rts) := obl_of (by kernel_rfl)
/-! ### strconv_FormatInt: function 291 -/
def strconv_FormatInt.f (a0 : Int) (a1 : Int) : Option ByteArray := (internal_strconv_FormatInt.f a0 a1).bind fun t1 => (some t1)
def strconv_FormatInt.ce : CallE := ⟨[⟨false, (.int .i64)⟩, ⟨false, (.int .i64)⟩], [⟨false, [.v .str]⟩], fun (x : Int × Int) => strconv_FormatInt.f x.1 x.2⟩
def strconv_FormatInt.F : Fam (RT.dens (strconv_FormatInt.ce).rts) := ⟨fun k => ⟨TT0, GL0, callT [(268, [], internal_strconv_FormatInt.ce)], cmpT CM0, [], BLD0, ioT []⟩, []⟩
theorem strconv_FormatInt.is (k : Nat) (x : AT.dens (strconv_FormatInt.ce).ats) : (strconv_FormatInt.ce).fn x = den strconv_FormatInt.F k (bodyOf Tryz.f291) (startAS (strconv_FormatInt.ce).ats x) (retK (strconv_FormatInt.F.c k) Tryz.f291.results.toList (strconv_FormatInt.ce).rts) := by kernel_rfl
theorem strconv_FormatInt.ob : Obl strconv_FormatInt.F (bodyOf Tryz.f291) (fun k => retK (strconv_FormatInt.F.c k) Tryz.f291.results.toList (strconv_FormatInt.ce).rts) := obl_of (by kernel_rfl)
/-! ### rat_Print: function 245 -/
def rat_Print.f (k : Nat) (l0_0 : Int) (l0_1 : Int) : Option ByteArray := (rat_Right.f k l0_0 l0_1).bind fun t1 => (if (!t1) = true then (some (⟨#[]⟩ : ByteArray)) else (if l0_1 = 1 then ((strconv_FormatInt.f l0_0 10).bind fun t2 => (some t2)) else ((strconv_FormatInt.f l0_0 10).bind fun t3 => (if t3.size + (⟨#[47]⟩ : ByteArray).size ≤ 9223372036854775807 then ((strconv_FormatInt.f l0_1 10).bind fun t4 => (if (t3 ++ (⟨#[47]⟩ : ByteArray)).size + t4.size ≤ 9223372036854775807 then (some ((t3 ++ (⟨#[47]⟩ : ByteArray)) ++ t4)) else (none))) else (none)))))
def rat_Print.ce (k : Nat) : CallE := ⟨[⟨true, T103⟩], [⟨false, [.v .str]⟩], fun (x : S103) => rat_Print.f k x.f0 x.f1⟩
def rat_Print.F : Fam (RT.dens (rat_Print.ce 0).rts) := ⟨fun k => ⟨TT0, GL0, callT [(173, [], rat_Right.ce k), (291, [], strconv_FormatInt.ce)], cmpT CM0, [], BLD0, ioT []⟩, []⟩
theorem rat_Print.is (k : Nat) (x : AT.dens (rat_Print.ce 0).ats) : (rat_Print.ce k).fn x = den rat_Print.F k (bodyOf Tryz.f245) (startAS (rat_Print.ce 0).ats x) (retK (rat_Print.F.c k) Tryz.f245.results.toList (rat_Print.ce 0).rts) := by kernel_rfl
theorem rat_Print.ob : Obl rat_Print.F (bodyOf Tryz.f245) (fun k => retK (rat_Print.F.c k) Tryz.f245.results.toList (rat_Print.ce 0).rts) := obl_of (by kernel_rfl)
/-! ### run_Print: function 179 -/
def run_Print.l0 : Nat → (List S208) → Int → Int → (List ByteArray) → (List S86) → (List ByteArray) → (List S76) → (List S208) → Int → Int → (List Int) → Option (ByteArray × Int)
 | 0, _, _, _, _, _, _, _, _, _, _, _ => none
 | k + 1, x19, x20, x21, x2_0, x2_1, x2_2, x2_3, x3_0, x3_1, x3_2, x7_1 => if x21 < x20 then (if 0 ≤ x21 then (if x21 < (x19.length : Int) then ((moves_Print.f k x2_0 x2_1 x2_2 x2_3 ([((rd_T208 x19 x21).f1)] : List S192)).bind fun t2 => ((rat_Print.f k (((rd_T208 x19 x21).f0).f0) (((rd_T208 x19 x21).f0).f1)).bind fun t3 => (if t3.size + (⟨#[32]⟩ : ByteArray).size ≤ 9223372036854775807 then (if (t3 ++ (⟨#[32]⟩ : ByteArray)).size + t2.1.size ≤ 9223372036854775807 then (if ((t3 ++ (⟨#[32]⟩ : ByteArray)) ++ t2.1).size + (⟨#[10]⟩ : ByteArray).size ≤ 9223372036854775807 then ((if x7_1.length + (((t3 ++ (⟨#[32]⟩ : ByteArray)) ++ t2.1) ++ (⟨#[10]⟩ : ByteArray)).size ≤ 140737488355328 then some () else none).bind fun _ => (run_Print.l0 k x19 x20 (w64 (x21 + 1)) x2_0 x2_1 x2_2 x2_3 x3_0 x3_1 x3_2 (x7_1 ++ bytesOf (((t3 ++ (⟨#[32]⟩ : ByteArray)) ++ t2.1) ++ (⟨#[10]⟩ : ByteArray))))) else (none)) else (none)) else (none)))) else (none)) else (none)) else ((rat_Print.f k x3_1 x3_2).bind fun t4 => (if t4.size + (⟨#[32, 101, 110, 100, 10]⟩ : ByteArray).size ≤ 9223372036854775807 then ((if x7_1.length + (t4 ++ (⟨#[32, 101, 110, 100, 10]⟩ : ByteArray)).size ≤ 140737488355328 then some () else none).bind fun _ => ((if isBytes (x7_1 ++ bytesOf (t4 ++ (⟨#[32, 101, 110, 100, 10]⟩ : ByteArray))) = true then some () else none).bind fun _ => (some ((strOf (x7_1 ++ bytesOf (t4 ++ (⟨#[32, 101, 110, 100, 10]⟩ : ByteArray)))), 0)))) else (none)))
def run_Print.f (k : Nat) (l0_0 : List ByteArray) (l0_1 : List S86) (l0_2 : List ByteArray) (l0_3 : List S76) (l1_0 : List S208) (l1_1 : S103) : Option (ByteArray × Int) := (run_Right.f k l0_0 l0_1 l0_2 l0_3 l1_0 l1_1).bind fun t1 => (if t1 = 0 then (run_Print.l0 k l1_0 (l1_0.length : Int) 0 l0_0 l0_1 l0_2 l0_3 l1_0 l1_1.f0 l1_1.f1 ([] : List Int)) else (some ((⟨#[]⟩ : ByteArray), t1)))
def run_Print.ce (k : Nat) : CallE := ⟨[⟨true, T26⟩, ⟨true, T105⟩], [⟨false, [.v .str]⟩, ⟨false, [.v (.int .i64)]⟩], fun (x : S26 × S105) => run_Print.f k x.1.f0 x.1.f1 x.1.f2 x.1.f3 x.2.f0 x.2.f1⟩
def run_Print.F : Fam (RT.dens (run_Print.ce 0).rts) := ⟨fun k => ⟨TT0, GL0, callT [(57, [], moves_Print.ce k), (182, [], run_Right.ce k), (245, [], rat_Print.ce k)], cmpT CM0, [], BLD0, ioT []⟩, [(7, ⟨⟨[(2, .k (.ptr 128 0)), (3, .k (.ptr 192 0)), (7, .k (.ptr 448 0)), (19, .v false (.list T208)), (20, .v false (.int .i64)), (21, .v false (.int .i64))], [(128, [.v (.list .str), .v (.list T86), .v (.list .str), .v (.list T76)]), (192, [.v (.list T208), .v (.int .i64), .v (.int .i64)]), (448, [.k (.sq 157 448), .o 5 (.int .u8)])]⟩, fun k s => run_Print.l0 k s.1.1 s.1.2.1 s.1.2.2.1 s.2.1.1 s.2.1.2.1 s.2.1.2.2.1 s.2.1.2.2.2.1 s.2.2.1.1 s.2.2.1.2.1 s.2.2.1.2.2.1 s.2.2.2.1.1⟩)]⟩
theorem run_Print.is (k : Nat) (x : AT.dens (run_Print.ce 0).ats) : (run_Print.ce k).fn x = den run_Print.F k (bodyOf Tryz.f179) (startAS (run_Print.ce 0).ats x) (retK (run_Print.F.c k) Tryz.f179.results.toList (run_Print.ce 0).rts) := by kernel_rfl
theorem run_Print.ob : Obl run_Print.F (bodyOf Tryz.f179) (fun k => retK (run_Print.F.c k) Tryz.f179.results.toList (run_Print.ce 0).rts) := obl_of (by kernel_rfl)
/-! ### gnomonlaw20_small: function 180 -/
def gnomonlaw20_small.f : Option ((List ByteArray) × (List S86) × (List ByteArray) × (List S76)) := (some (([] : List ByteArray), ([] : List S86), ([] : List ByteArray), ([(⟨(⟨#[65]⟩ : ByteArray), ([(⟨(⟨#[97]⟩ : ByteArray), 0, ([] : List S43)⟩ : S84)] : List S84), ([(⟨0, 0, ([] : List S43), ([] : List S151), 0, false, ([] : List S81)⟩ : S79)] : List S79)⟩ : S76)] : List S76)))
def gnomonlaw20_small.ce : CallE := ⟨[], [⟨true, [.o 9 .str, .o 86 T86, .o 9 .str, .o 76 T76]⟩], fun (x : Unit) => gnomonlaw20_small.f⟩
def gnomonlaw20_small.F : Fam (RT.dens (gnomonlaw20_small.ce).rts) := ⟨fun k => ⟨TT0, GL0, callT [], cmpT CM0, [], BLD0, ioT []⟩, []⟩
theorem gnomonlaw20_small.is (k : Nat) (x : AT.dens (gnomonlaw20_small.ce).ats) : (gnomonlaw20_small.ce).fn x = den gnomonlaw20_small.F k (bodyOf Tryz.f180) (startAS (gnomonlaw20_small.ce).ats x) (retK (gnomonlaw20_small.F.c k) Tryz.f180.results.toList (gnomonlaw20_small.ce).rts) := by kernel_rfl
theorem gnomonlaw20_small.ob : Obl gnomonlaw20_small.F (bodyOf Tryz.f180) (fun k => retK (gnomonlaw20_small.F.c k) Tryz.f180.results.toList (gnomonlaw20_small.ce).rts) := obl_of (by kernel_rfl)
/-! ### rat_Add: function 250 -/
def rat_Add.f (k : Nat) (l0_0 : Int) (l0_1 : Int) (l1_0 : Int) (l1_1 : Int) : Option (Int × Int × Int) := (rat_both.f k l0_0 l0_1 l1_0 l1_1).bind fun t1 => (if (!t1) = true then (some (0, 0, 7)) else ((rat_times.f l0_0 l1_1).bind fun t2 => ((rat_times.f l1_0 l0_1).bind fun t3 => ((rat_wide_sum.f k t2.1 t2.2 t3.1 t3.2).bind fun t4 => ((rat_times.f l0_1 l1_1).bind fun t5 => ((rat_made.f k t4.1 t4.2 t5.1 t5.2).bind fun t6 => (some (t6.1, t6.2.1, t6.2.2))))))))
def rat_Add.ce (k : Nat) : CallE := ⟨[⟨true, T103⟩, ⟨true, T103⟩], [⟨true, [.v (.int .i64), .v (.int .i64)]⟩, ⟨false, [.v (.int .i64)]⟩], fun (x : S103 × S103) => rat_Add.f k x.1.f0 x.1.f1 x.2.f0 x.2.f1⟩
def rat_Add.F : Fam (RT.dens (rat_Add.ce 0).rts) := ⟨fun k => ⟨TT0, GL0, callT [(234, [], rat_both.ce k), (235, [], rat_times.ce), (236, [], rat_wide_sum.ce k), (239, [], rat_made.ce k)], cmpT CM0, [], BLD0, ioT []⟩, []⟩
theorem rat_Add.is (k : Nat) (x : AT.dens (rat_Add.ce 0).ats) : (rat_Add.ce k).fn x = den rat_Add.F k (bodyOf Tryz.f250) (startAS (rat_Add.ce 0).ats x) (retK (rat_Add.F.c k) Tryz.f250.results.toList (rat_Add.ce 0).rts) := by kernel_rfl
theorem rat_Add.ob : Obl rat_Add.F (bodyOf Tryz.f250) (fun k => retK (rat_Add.F.c k) Tryz.f250.results.toList (rat_Add.ce 0).rts) := obl_of (by kernel_rfl)
/-! ### run_Times_1: function 248 -/
def run_Times_1.f (k : Nat) (l0_0 : Int) (l0_1 : Int) : Option Bool := (run_isDelay.f k l0_0 l0_1).bind fun t1 => (some (!t1))
def run_Times_1.ce (k : Nat) : CallE := ⟨[⟨true, T103⟩], [⟨false, [.v .bool]⟩], fun (x : S103) => run_Times_1.f k x.f0 x.f1⟩
def run_Times_1.F : Fam (RT.dens (run_Times_1.ce 0).rts) := ⟨fun k => ⟨TT0, GL0, callT [(249, [], run_isDelay.ce k)], cmpT CM0, [], BLD0, ioT []⟩, []⟩
theorem run_Times_1.is (k : Nat) (x : AT.dens (run_Times_1.ce 0).ats) : (run_Times_1.ce k).fn x = den run_Times_1.F k (bodyOf Tryz.f248) (startAS (run_Times_1.ce 0).ats x) (retK (run_Times_1.F.c k) Tryz.f248.results.toList (run_Times_1.ce 0).rts) := by kernel_rfl
theorem run_Times_1.ob : Obl run_Times_1.F (bodyOf Tryz.f248) (fun k => retK (run_Times_1.F.c k) Tryz.f248.results.toList (run_Times_1.ce 0).rts) := obl_of (by kernel_rfl)
/-! ### slices_IndexFunc_api_Rat_api_Rat_at248: function 292 -/
def slices_IndexFunc_api_Rat_api_Rat_at248.l0 : Nat → (List S103) → Bool → Int → Int → Option Int
 | 0, _, _, _, _ => none
 | k + 1, x0, x1, x7, x8 => if x8 < x7 then (if 0 ≤ x8 then (if x8 < (x0.length : Int) then ((run_Times_1.f k ((rd_T103 x0 x8).f0) ((rd_T103 x0 x8).f1)).bind fun t1 => (if t1 = true then (some x8) else (slices_IndexFunc_api_Rat_api_Rat_at248.l0 k x0 x1 x7 (w64 (x8 + 1))))) else (none)) else (none)) else (some (-1))
def slices_IndexFunc_api_Rat_api_Rat_at248.f (k : Nat) (a0 : List S103) (a1 : Bool) : Option Int := slices_IndexFunc_api_Rat_api_Rat_at248.l0 k a0 a1 (a0.length : Int) 0
def slices_IndexFunc_api_Rat_api_Rat_at248.ce (k : Nat) : CallE := ⟨[⟨false, (.list T103)⟩, ⟨false, (.fn 248 [] .bool)⟩], [⟨false, [.v (.int .i64)]⟩], fun (x : (List S103) × Bool) => slices_IndexFunc_api_Rat_api_Rat_at248.f k x.1 x.2⟩
def slices_IndexFunc_api_Rat_api_Rat_at248.F : Fam (RT.dens (slices_IndexFunc_api_Rat_api_Rat_at248.ce 0).rts) := ⟨fun k => ⟨TT0, GL0, callT [(248, [], run_Times_1.ce k)], cmpT CM0, [], BLD0, ioT []⟩, [(3, ⟨⟨[(0, .v false (.list T103)), (1, .v false (.fn 248 [] .bool)), (7, .v false (.int .i64)), (8, .v false (.int .i64))], []⟩, fun k s => slices_IndexFunc_api_Rat_api_Rat_at248.l0 k s.1.1 s.1.2.1 s.1.2.2.1 s.1.2.2.2.1⟩)]⟩
theorem slices_IndexFunc_api_Rat_api_Rat_at248.is (k : Nat) (x : AT.dens (slices_IndexFunc_api_Rat_api_Rat_at248.ce 0).ats) : (slices_IndexFunc_api_Rat_api_Rat_at248.ce k).fn x = den slices_IndexFunc_api_Rat_api_Rat_at248.F k (bodyOf Tryz.f292) (startAS (slices_IndexFunc_api_Rat_api_Rat_at248.ce 0).ats x) (retK (slices_IndexFunc_api_Rat_api_Rat_at248.F.c k) Tryz.f292.results.toList (slices_IndexFunc_api_Rat_api_Rat_at248.ce 0).rts) := by kernel_rfl
theorem slices_IndexFunc_api_Rat_api_Rat_at248.ob : Obl slices_IndexFunc_api_Rat_api_Rat_at248.F (bodyOf Tryz.f292) (fun k => retK (slices_IndexFunc_api_Rat_api_Rat_at248.F.c k) Tryz.f292.results.toList (slices_IndexFunc_api_Rat_api_Rat_at248.ce 0).rts) := obl_of (by kernel_rfl)
/-! ### slices_ContainsFunc_api_Rat_api_Rat_at248: function 247 -/
def slices_ContainsFunc_api_Rat_api_Rat_at248.f (k : Nat) (a0 : List S103) (a1 : Bool) : Option Bool := (slices_IndexFunc_api_Rat_api_Rat_at248.f k a0 a1).bind fun t1 => (some (decide (t1 ≥ 0)))
def slices_ContainsFunc_api_Rat_api_Rat_at248.ce (k : Nat) : CallE := ⟨[⟨false, (.list T103)⟩, ⟨false, (.fn 248 [] .bool)⟩], [⟨false, [.v .bool]⟩], fun (x : (List S103) × Bool) => slices_ContainsFunc_api_Rat_api_Rat_at248.f k x.1 x.2⟩
def slices_ContainsFunc_api_Rat_api_Rat_at248.F : Fam (RT.dens (slices_ContainsFunc_api_Rat_api_Rat_at248.ce 0).rts) := ⟨fun k => ⟨TT0, GL0, callT [(292, [248], slices_IndexFunc_api_Rat_api_Rat_at248.ce k)], cmpT CM0, [], BLD0, ioT []⟩, []⟩
theorem slices_ContainsFunc_api_Rat_api_Rat_at248.is (k : Nat) (x : AT.dens (slices_ContainsFunc_api_Rat_api_Rat_at248.ce 0).ats) : (slices_ContainsFunc_api_Rat_api_Rat_at248.ce k).fn x = den slices_ContainsFunc_api_Rat_api_Rat_at248.F k (bodyOf Tryz.f247) (startAS (slices_ContainsFunc_api_Rat_api_Rat_at248.ce 0).ats x) (retK (slices_ContainsFunc_api_Rat_api_Rat_at248.F.c k) Tryz.f247.results.toList (slices_ContainsFunc_api_Rat_api_Rat_at248.ce 0).rts) := by kernel_rfl
theorem slices_ContainsFunc_api_Rat_api_Rat_at248.ob : Obl slices_ContainsFunc_api_Rat_api_Rat_at248.F (bodyOf Tryz.f247) (fun k => retK (slices_ContainsFunc_api_Rat_api_Rat_at248.F.c k) Tryz.f247.results.toList (slices_ContainsFunc_api_Rat_api_Rat_at248.ce 0).rts) := obl_of (by kernel_rfl)
/-! ### run_Times: function 181 -/
def run_Times.l0 : Nat → (List S103) → Int → Int → Int → Int → Option ((List S103) × Int)
 | 0, _, _, _, _, _ => none
 | k + 1, x4, x15, x16, x5_0, x5_1 => if x16 < x15 then (if 0 ≤ x16 then (if x16 < (x4.length : Int) then ((rat_Add.f k x5_0 x5_1 ((rd_T103 x4 x16).f0) ((rd_T103 x4 x16).f1)).bind fun t4 => (if t4.2.2 = 0 then (if 0 ≤ x16 then (if x16 < (x4.length : Int) then (run_Times.l0 k (x4.set (Int.toNat (x16)) (⟨t4.1, t4.2.1⟩ : S103)) x15 (w64 (x16 + 1)) t4.1 t4.2.1) else (none)) else (none)) else (some (([] : List S103), t4.2.2)))) else (none)) else (none)) else (some (x4, 0))
def run_Times.f (k : Nat) (l0_0 : List S208) (l0_1 : S103) : Option ((List S103) × Int) := (run_delays.f k l0_0 l0_1).bind fun t1 => ((slices_ContainsFunc_api_Rat_api_Rat_at248.f k t1 false).bind fun t2 => (if t2 = true then (some (([] : List S103), 210)) else ((rat_Of.f 0).bind fun t3 => (run_Times.l0 k t1 (t1.length : Int) 0 t3.1 t3.2))))
def run_Times.ce (k : Nat) : CallE := ⟨[⟨true, T105⟩], [⟨false, [.v (.list T103)]⟩, ⟨false, [.v (.int .i64)]⟩], fun (x : S105) => run_Times.f k x.f0 x.f1⟩
def run_Times.F : Fam (RT.dens (run_Times.ce 0).rts) := ⟨fun k => ⟨TT0, GL0, callT [(172, [], rat_Of.ce), (246, [], run_delays.ce k), (247, [248], slices_ContainsFunc_api_Rat_api_Rat_at248.ce k), (250, [], rat_Add.ce k)], cmpT CM0, [], BLD0, ioT []⟩, [(7, ⟨⟨[(4, .o 103 T103), (5, .k (.ptr 320 0)), (14, .al 4), (15, .v false (.int .i64)), (16, .v false (.int .i64))], [(320, [.v (.int .i64), .v (.int .i64)])]⟩, fun k s => run_Times.l0 k s.1.1 s.1.2.1 s.1.2.2.1 s.2.1.1 s.2.1.2.1⟩)]⟩
theorem run_Times.is (k : Nat) (x : AT.dens (run_Times.ce 0).ats) : (run_Times.ce k).fn x = den run_Times.F k (bodyOf Tryz.f181) (startAS (run_Times.ce 0).ats x) (retK (run_Times.F.c k) Tryz.f181.results.toList (run_Times.ce 0).rts) := by kernel_rfl
theorem run_Times.ob : Obl run_Times.F (bodyOf Tryz.f181) (fun k => retK (run_Times.F.c k) Tryz.f181.results.toList (run_Times.ce 0).rts) := obl_of (by kernel_rfl)
/-! ### gnomonlaw20_live: function 53 -/
def gnomonlaw20_live.f (k : Nat) : Option Bool := (gnomonlaw20_small.f).bind fun t1 => ((run_Print.f k t1.1 t1.2.1 t1.2.2.1 t1.2.2.2 ([(⟨(⟨3, 1⟩ : S103), (⟨0, 0, 0, 0⟩ : S192)⟩ : S208)] : List S208) (⟨0, 1⟩ : S103)).bind fun t2 => ((run_Times.f k ([(⟨(⟨3, 1⟩ : S103), (⟨0, 0, 0, 0⟩ : S192)⟩ : S208)] : List S208) (⟨0, 1⟩ : S103)).bind fun t3 => (if t2.2 = 0 then (if t2.1 = (⟨#[51, 32, 65, 46, 48, 10, 48, 32, 101, 110, 100, 10]⟩ : ByteArray) then (if t3.2 = 0 then (if (t3.1.length : Int) = 2 then (if 0 ≤ 0 then (if 0 < (t3.1.length : Int) then (if (rd_T103 t3.1 0) = (⟨3, 1⟩ : S103) then (if 0 ≤ 1 then (if 1 < (t3.1.length : Int) then (if 0 ≤ 0 then (if 0 < (t3.1.length : Int) then (if (rd_T103 t3.1 1) = (rd_T103 t3.1 0) then ((gnomonlaw20_small.f).bind fun t4 => ((run_Right.f k t4.1 t4.2.1 t4.2.2.1 t4.2.2.2 ([] : List S208) (⟨0, 0⟩ : S103)).bind fun t5 => (some (decide (t5 = 210))))) else (some false)) else (none)) else (none)) else (none)) else (none)) else (some false)) else (none)) else (none)) else (some false)) else (some false)) else (some false)) else (some false))))
def gnomonlaw20_live.ce (k : Nat) : CallE := ⟨[], [⟨false, [.v .bool]⟩], fun (x : Unit) => gnomonlaw20_live.f k⟩
def gnomonlaw20_live.F : Fam (RT.dens (gnomonlaw20_live.ce 0).rts) := ⟨fun k => ⟨TT0, GL0, callT [(179, [], run_Print.ce k), (180, [], gnomonlaw20_small.ce), (181, [], run_Times.ce k), (182, [], run_Right.ce k)], cmpT CM0, [], BLD0, ioT []⟩, []⟩
theorem gnomonlaw20_live.is (k : Nat) (x : AT.dens (gnomonlaw20_live.ce 0).ats) : (gnomonlaw20_live.ce k).fn x = den gnomonlaw20_live.F k (bodyOf Tryz.f53) (startAS (gnomonlaw20_live.ce 0).ats x) (retK (gnomonlaw20_live.F.c k) Tryz.f53.results.toList (gnomonlaw20_live.ce 0).rts) := by kernel_rfl
theorem gnomonlaw20_live.ob : Obl gnomonlaw20_live.F (bodyOf Tryz.f53) (fun k => retK (gnomonlaw20_live.F.c k) Tryz.f53.results.toList (gnomonlaw20_live.ce 0).rts) := obl_of (by kernel_rfl)
/-! ### gnomonmem_SameSteps: function 183 -/
def gnomonmem_SameSteps.l0 : Nat → (List S208) → (List S208) → Int → Option Bool
 | 0, _, _, _ => none
 | k + 1, x0, x1, x5 => if x5 < (x0.length : Int) then (if 0 ≤ x5 then (if x5 < (x0.length : Int) then (if 0 ≤ x5 then (if x5 < (x1.length : Int) then (if (⟨((rd_T208 x0 x5).f0), ((rd_T208 x0 x5).f1)⟩ : S208) = (⟨((rd_T208 x1 x5).f0), ((rd_T208 x1 x5).f1)⟩ : S208) then (gnomonmem_SameSteps.l0 k x0 x1 (w64 (x5 + 1))) else (some false)) else (none)) else (none)) else (none)) else (none)) else (some true)
def gnomonmem_SameSteps.f (k : Nat) (a0 : List S208) (a1 : List S208) : Option Bool := if (a0.length : Int) = (a1.length : Int) then (gnomonmem_SameSteps.l0 k a0 a1 0) else (some false)
def gnomonmem_SameSteps.ce (k : Nat) : CallE := ⟨[⟨false, (.list T208)⟩, ⟨false, (.list T208)⟩], [⟨false, [.v .bool]⟩], fun (x : (List S208) × (List S208)) => gnomonmem_SameSteps.f k x.1 x.2⟩
def gnomonmem_SameSteps.F : Fam (RT.dens (gnomonmem_SameSteps.ce 0).rts) := ⟨fun k => ⟨TT0, GL0, callT [], cmpT CM0, [], BLD0, ioT []⟩, [(5, ⟨⟨[(0, .v false (.list T208)), (1, .v false (.list T208)), (5, .v false (.int .i64))], []⟩, fun k s => gnomonmem_SameSteps.l0 k s.1.1 s.1.2.1 s.1.2.2.1⟩)]⟩
theorem gnomonmem_SameSteps.is (k : Nat) (x : AT.dens (gnomonmem_SameSteps.ce 0).ats) : (gnomonmem_SameSteps.ce k).fn x = den gnomonmem_SameSteps.F k (bodyOf Tryz.f183) (startAS (gnomonmem_SameSteps.ce 0).ats x) (retK (gnomonmem_SameSteps.F.c k) Tryz.f183.results.toList (gnomonmem_SameSteps.ce 0).rts) := by kernel_rfl
theorem gnomonmem_SameSteps.ob : Obl gnomonmem_SameSteps.F (bodyOf Tryz.f183) (fun k => retK (gnomonmem_SameSteps.F.c k) Tryz.f183.results.toList (gnomonmem_SameSteps.ce 0).rts) := obl_of (by kernel_rfl)
/-! ### gnomonmem_SameRun: function 54 -/
def gnomonmem_SameRun.f (k : Nat) (l0_0 : List S208) (l0_1 : S103) (l1_0 : List S208) (l1_1 : S103) : Option Bool := (gnomonmem_SameSteps.f k l0_0 l1_0).bind fun t1 => (if t1 = true then (some (decide (l0_1 = l1_1))) else (some false))
def gnomonmem_SameRun.ce (k : Nat) : CallE := ⟨[⟨true, T105⟩, ⟨true, T105⟩], [⟨false, [.v .bool]⟩], fun (x : S105 × S105) => gnomonmem_SameRun.f k x.1.f0 x.1.f1 x.2.f0 x.2.f1⟩
def gnomonmem_SameRun.F : Fam (RT.dens (gnomonmem_SameRun.ce 0).rts) := ⟨fun k => ⟨TT0, GL0, callT [(183, [], gnomonmem_SameSteps.ce k)], cmpT CM0, [], BLD0, ioT []⟩, []⟩
theorem gnomonmem_SameRun.is (k : Nat) (x : AT.dens (gnomonmem_SameRun.ce 0).ats) : (gnomonmem_SameRun.ce k).fn x = den gnomonmem_SameRun.F k (bodyOf Tryz.f54) (startAS (gnomonmem_SameRun.ce 0).ats x) (retK (gnomonmem_SameRun.F.c k) Tryz.f54.results.toList (gnomonmem_SameRun.ce 0).rts) := by kernel_rfl
theorem gnomonmem_SameRun.ob : Obl gnomonmem_SameRun.F (bodyOf Tryz.f54) (fun k => retK (gnomonmem_SameRun.F.c k) Tryz.f54.results.toList (gnomonmem_SameRun.ce 0).rts) := obl_of (by kernel_rfl)
/-! ### gnomonmem_KeptMoves: function 55 -/
def gnomonmem_KeptMoves.l0 : Nat → (List S192) → (List S192) → Int → Option Bool
 | 0, _, _, _ => none
 | k + 1, x1, x5, x6 => if x6 < (x5.length : Int) then (if 0 ≤ x6 then (if x6 < (x5.length : Int) then (if (rd_T192 x5 x6) = (⟨w64 ((w64 ((-700) - x6)) + (x1.length : Int)), 0, 0, 0⟩ : S192) then (gnomonmem_KeptMoves.l0 k x1 x5 (w64 (x6 + 1))) else (some false)) else (none)) else (none)) else (some true)
def gnomonmem_KeptMoves.f (k : Nat) (a0 : (List S192 × List S192)) (a1 : List S192) : Option Bool := (gnomonmem_SameMoves.f k a0.1 a1).bind fun t1 => (if (!t1) = true then (some false) else (if 0 ≤ w64 ((a1.length : Int) + 9) then (if w64 ((a1.length : Int) + 9) ≤ ((List.append a0.1 a0.2).length : Int) then (gnomonmem_KeptMoves.l0 k a1 (List.take (Int.toNat (w64 ((a1.length : Int) + 9))) (List.append a0.1 a0.2)) (a1.length : Int)) else (none)) else (none)))
def gnomonmem_KeptMoves.ce (k : Nat) : CallE := ⟨[⟨false, (.rl T192)⟩, ⟨false, (.list T192)⟩], [⟨false, [.v .bool]⟩], fun (x : (List S192 × List S192) × (List S192)) => gnomonmem_KeptMoves.f k x.1 x.2⟩
def gnomonmem_KeptMoves.F : Fam (RT.dens (gnomonmem_KeptMoves.ce 0).rts) := ⟨fun k => ⟨TT0, GL0, callT [(42, [], gnomonmem_SameMoves.ce k)], cmpT CM0, [], BLD0, ioT []⟩, [(6, ⟨⟨[(1, .v false (.list T192)), (5, .v false (.list T192)), (6, .v false (.int .i64))], []⟩, fun k s => gnomonmem_KeptMoves.l0 k s.1.1 s.1.2.1 s.1.2.2.1⟩)]⟩
theorem gnomonmem_KeptMoves.is (k : Nat) (x : AT.dens (gnomonmem_KeptMoves.ce 0).ats) : (gnomonmem_KeptMoves.ce k).fn x = den gnomonmem_KeptMoves.F k (bodyOf Tryz.f55) (startAS (gnomonmem_KeptMoves.ce 0).ats x) (retK (gnomonmem_KeptMoves.F.c k) Tryz.f55.results.toList (gnomonmem_KeptMoves.ce 0).rts) := by kernel_rfl
theorem gnomonmem_KeptMoves.ob : Obl gnomonmem_KeptMoves.F (bodyOf Tryz.f55) (fun k => retK (gnomonmem_KeptMoves.F.c k) Tryz.f55.results.toList (gnomonmem_KeptMoves.ce 0).rts) := obl_of (by kernel_rfl)
/-! ### gnomonmem_SameRats: function 184 -/
def gnomonmem_SameRats.l0 : Nat → (List S103) → (List S103) → Int → Option Bool
 | 0, _, _, _ => none
 | k + 1, x0, x1, x5 => if x5 < (x0.length : Int) then (if 0 ≤ x5 then (if x5 < (x0.length : Int) then (if 0 ≤ x5 then (if x5 < (x1.length : Int) then (if (rd_T103 x0 x5) = (rd_T103 x1 x5) then (gnomonmem_SameRats.l0 k x0 x1 (w64 (x5 + 1))) else (some false)) else (none)) else (none)) else (none)) else (none)) else (some true)
def gnomonmem_SameRats.f (k : Nat) (a0 : List S103) (a1 : List S103) : Option Bool := if (a0.length : Int) = (a1.length : Int) then (gnomonmem_SameRats.l0 k a0 a1 0) else (some false)
def gnomonmem_SameRats.ce (k : Nat) : CallE := ⟨[⟨false, (.list T103)⟩, ⟨false, (.list T103)⟩], [⟨false, [.v .bool]⟩], fun (x : (List S103) × (List S103)) => gnomonmem_SameRats.f k x.1 x.2⟩
def gnomonmem_SameRats.F : Fam (RT.dens (gnomonmem_SameRats.ce 0).rts) := ⟨fun k => ⟨TT0, GL0, callT [], cmpT CM0, [], BLD0, ioT []⟩, [(5, ⟨⟨[(0, .v false (.list T103)), (1, .v false (.list T103)), (5, .v false (.int .i64))], []⟩, fun k s => gnomonmem_SameRats.l0 k s.1.1 s.1.2.1 s.1.2.2.1⟩)]⟩
theorem gnomonmem_SameRats.is (k : Nat) (x : AT.dens (gnomonmem_SameRats.ce 0).ats) : (gnomonmem_SameRats.ce k).fn x = den gnomonmem_SameRats.F k (bodyOf Tryz.f184) (startAS (gnomonmem_SameRats.ce 0).ats x) (retK (gnomonmem_SameRats.F.c k) Tryz.f184.results.toList (gnomonmem_SameRats.ce 0).rts) := by kernel_rfl
theorem gnomonmem_SameRats.ob : Obl gnomonmem_SameRats.F (bodyOf Tryz.f184) (fun k => retK (gnomonmem_SameRats.F.c k) Tryz.f184.results.toList (gnomonmem_SameRats.ce 0).rts) := obl_of (by kernel_rfl)
/-! ### gnomonmem_KeptRats: function 56 -/
def gnomonmem_KeptRats.l0 : Nat → (List S103) → (List S103) → Int → Option Bool
 | 0, _, _, _ => none
 | k + 1, x1, x5, x6 => if x6 < (x5.length : Int) then (if 0 ≤ x6 then (if x6 < (x5.length : Int) then (if (rd_T103 x5 x6) = (⟨w64 ((w64 ((-700) - x6)) + (x1.length : Int)), 77⟩ : S103) then (gnomonmem_KeptRats.l0 k x1 x5 (w64 (x6 + 1))) else (some false)) else (none)) else (none)) else (some true)
def gnomonmem_KeptRats.f (k : Nat) (a0 : (List S103 × List S103)) (a1 : List S103) : Option Bool := (gnomonmem_SameRats.f k a0.1 a1).bind fun t1 => (if (!t1) = true then (some false) else (if 0 ≤ w64 ((a1.length : Int) + 9) then (if w64 ((a1.length : Int) + 9) ≤ ((List.append a0.1 a0.2).length : Int) then (gnomonmem_KeptRats.l0 k a1 (List.take (Int.toNat (w64 ((a1.length : Int) + 9))) (List.append a0.1 a0.2)) (a1.length : Int)) else (none)) else (none)))
def gnomonmem_KeptRats.ce (k : Nat) : CallE := ⟨[⟨false, (.rl T103)⟩, ⟨false, (.list T103)⟩], [⟨false, [.v .bool]⟩], fun (x : (List S103 × List S103) × (List S103)) => gnomonmem_KeptRats.f k x.1 x.2⟩
def gnomonmem_KeptRats.F : Fam (RT.dens (gnomonmem_KeptRats.ce 0).rts) := ⟨fun k => ⟨TT0, GL0, callT [(184, [], gnomonmem_SameRats.ce k)], cmpT CM0, [], BLD0, ioT []⟩, [(6, ⟨⟨[(1, .v false (.list T103)), (5, .v false (.list T103)), (6, .v false (.int .i64))], []⟩, fun k s => gnomonmem_KeptRats.l0 k s.1.1 s.1.2.1 s.1.2.2.1⟩)]⟩
theorem gnomonmem_KeptRats.is (k : Nat) (x : AT.dens (gnomonmem_KeptRats.ce 0).ats) : (gnomonmem_KeptRats.ce k).fn x = den gnomonmem_KeptRats.F k (bodyOf Tryz.f56) (startAS (gnomonmem_KeptRats.ce 0).ats x) (retK (gnomonmem_KeptRats.F.c k) Tryz.f56.results.toList (gnomonmem_KeptRats.ce 0).rts) := by kernel_rfl
theorem gnomonmem_KeptRats.ob : Obl gnomonmem_KeptRats.F (bodyOf Tryz.f56) (fun k => retK (gnomonmem_KeptRats.F.c k) Tryz.f56.results.toList (gnomonmem_KeptRats.ce 0).rts) := obl_of (by kernel_rfl)
/-! ### gnomonlaw20_RunOfTimes: function 9 -/
def gnomonlaw20_RunOfTimes.f (k : Nat) (a0 : List S192) (a1 : List S103) : Option Bool := (gnomonmem_HandMoves.f k a0).bind fun t1 => ((gnomonmem_HandRats.f k a1).bind fun t2 => ((run_OfTimes.f k t1.1 t2.1).bind fun t3 => ((gnomonref20_OfTimes.f k a0 a1).bind fun t4 => ((gnomonlaw20_live.f k).bind fun t5 => (if t5 = true then ((gnomonmem_SameRun.f k t3.1 t3.2.1 t4.1 t4.2.1).bind fun t6 => (if t6 = true then (if t3.2.2 = t4.2.2 then ((gnomonmem_KeptMoves.f k t1 a0).bind fun t7 => (if t7 = true then ((gnomonmem_KeptRats.f k t2 a1).bind fun t8 => (some t8)) else (some false))) else (some false)) else (some false))) else (some false))))))
def gnomonlaw20_RunOfTimes.ce (k : Nat) : CallE := ⟨[⟨false, (.list T192)⟩, ⟨false, (.list T103)⟩], [⟨false, [.v .bool]⟩], fun (x : (List S192) × (List S103)) => gnomonlaw20_RunOfTimes.f k x.1 x.2⟩
def gnomonlaw20_RunOfTimes.F : Fam (RT.dens (gnomonlaw20_RunOfTimes.ce 0).rts) := ⟨fun k => ⟨TT0, GL0, callT [(49, [], gnomonmem_HandMoves.ce k), (50, [], gnomonmem_HandRats.ce k), (51, [], run_OfTimes.ce k), (52, [], gnomonref20_OfTimes.ce k), (53, [], gnomonlaw20_live.ce k), (54, [], gnomonmem_SameRun.ce k), (55, [], gnomonmem_KeptMoves.ce k), (56, [], gnomonmem_KeptRats.ce k)], cmpT CM0, [], BLD0, ioT []⟩, []⟩
theorem gnomonlaw20_RunOfTimes.is (k : Nat) (x : AT.dens (gnomonlaw20_RunOfTimes.ce 0).ats) : (gnomonlaw20_RunOfTimes.ce k).fn x = den gnomonlaw20_RunOfTimes.F k (bodyOf Tryz.f9) (startAS (gnomonlaw20_RunOfTimes.ce 0).ats x) (retK (gnomonlaw20_RunOfTimes.F.c k) Tryz.f9.results.toList (gnomonlaw20_RunOfTimes.ce 0).rts) := by kernel_rfl
theorem gnomonlaw20_RunOfTimes.ob : Obl gnomonlaw20_RunOfTimes.F (bodyOf Tryz.f9) (fun k => retK (gnomonlaw20_RunOfTimes.F.c k) Tryz.f9.results.toList (gnomonlaw20_RunOfTimes.ce 0).rts) := obl_of (by kernel_rfl)
end
theorem TT0.ok : ∀ t i, TT.find TT0 t = some i → TIOK Tryz.prog t i :=
  tt_cons (TIOK.of rfl (by kernel_rfl) (by kernel_rfl) (by kernel_rfl) (kd_eq rfl (by kernel_rfl))) <|
  tt_cons (TIOK.of rfl (by kernel_rfl) (by kernel_rfl) (by kernel_rfl) (kd_eq rfl (by kernel_rfl))) <|
  tt_cons (TIOK.of rfl (by kernel_rfl) (by kernel_rfl) (by kernel_rfl) (kd_eq rfl (by kernel_rfl))) <|
  tt_cons (TIOK.of rfl (by kernel_rfl) (by kernel_rfl) (by kernel_rfl) (kd_eq rfl (by kernel_rfl))) <|
  tt_cons (TIOK.of rfl (by kernel_rfl) (by kernel_rfl) (by kernel_rfl) (kd_eq rfl (by kernel_rfl))) <|
  tt_cons (TIOK.of rfl (by kernel_rfl) (by kernel_rfl) (by kernel_rfl) (kd_eq rfl (by kernel_rfl))) <|
  tt_cons (TIOK.of rfl (by kernel_rfl) (by kernel_rfl) (by kernel_rfl) (kd_eq rfl (by kernel_rfl))) <|
  tt_cons (TIOK.of rfl (by kernel_rfl) (by kernel_rfl) (by kernel_rfl) (kd_eq rfl (by kernel_rfl))) <|
  tt_cons (TIOK.of rfl (by kernel_rfl) (by kernel_rfl) (by kernel_rfl) (kd_struct (by kernel_rfl))) <|
  tt_cons (TIOK.of rfl (by kernel_rfl) (by kernel_rfl) (by kernel_rfl) (kd_eq rfl (by kernel_rfl))) <|
  tt_cons (TIOK.of0 [.nilFunc] rfl (by kernel_rfl) (by kernel_rfl) (kd_func (by kernel_rfl))) <|
  tt_cons (TIOK.of rfl (by kernel_rfl) (by kernel_rfl) (by kernel_rfl) (kd_eq rfl (by kernel_rfl))) <|
  tt_cons (TIOK.of rfl (by kernel_rfl) (by kernel_rfl) (by kernel_rfl) (kd_struct (by kernel_rfl))) <|
  tt_cons (TIOK.of rfl (by kernel_rfl) (by kernel_rfl) (by kernel_rfl) (kd_eq rfl (by kernel_rfl))) <|
  tt_cons (TIOK.of rfl (by kernel_rfl) (by kernel_rfl) (by kernel_rfl) (kd_eq rfl (by kernel_rfl))) <|
  tt_cons (TIOK.of rfl (by kernel_rfl) (by kernel_rfl) (by kernel_rfl) (kd_eq rfl (by kernel_rfl))) <|
  tt_cons (TIOK.of rfl (by kernel_rfl) (by kernel_rfl) (by kernel_rfl) (kd_eq rfl (by kernel_rfl))) <|
  tt_cons (TIOK.of rfl (by kernel_rfl) (by kernel_rfl) (by kernel_rfl) (kd_eq rfl (by kernel_rfl))) <|
  tt_cons (TIOK.of rfl (by kernel_rfl) (by kernel_rfl) (by kernel_rfl) (kd_struct (by kernel_rfl))) <|
  tt_cons (TIOK.of rfl (by kernel_rfl) (by kernel_rfl) (by kernel_rfl) (kd_eq rfl (by kernel_rfl))) <|
  tt_cons (TIOK.of rfl (by kernel_rfl) (by kernel_rfl) (by kernel_rfl) (kd_struct (by kernel_rfl))) <|
  tt_cons (TIOK.of rfl (by kernel_rfl) (by kernel_rfl) (by kernel_rfl) (kd_struct (by kernel_rfl))) <|
  tt_cons (TIOK.of rfl (by kernel_rfl) (by kernel_rfl) (by kernel_rfl) (kd_eq rfl (by kernel_rfl))) <|
  tt_cons (TIOK.of rfl (by kernel_rfl) (by kernel_rfl) (by kernel_rfl) (kd_struct (by kernel_rfl))) <|
  tt_cons (TIOK.of rfl (by kernel_rfl) (by kernel_rfl) (by kernel_rfl) (kd_struct (by kernel_rfl))) <|
  tt_cons (TIOK.of rfl (by kernel_rfl) (by kernel_rfl) (by kernel_rfl) (kd_eq rfl (by kernel_rfl))) <|
  tt_cons (TIOK.of rfl (by kernel_rfl) (by kernel_rfl) (by kernel_rfl) (kd_eq rfl (by kernel_rfl))) <|
  tt_cons (TIOK.of rfl (by kernel_rfl) (by kernel_rfl) (by kernel_rfl) (kd_eq rfl (by kernel_rfl))) <|
  tt_cons (TIOK.of rfl (by kernel_rfl) (by kernel_rfl) (by kernel_rfl) (kd_eq rfl (by kernel_rfl))) <|
  tt_cons (TIOK.of rfl (by kernel_rfl) (by kernel_rfl) (by kernel_rfl) (kd_struct (by kernel_rfl))) <|
  tt_cons (TIOK.of rfl (by kernel_rfl) (by kernel_rfl) (by kernel_rfl) (kd_struct (by kernel_rfl))) <|
  tt_cons (TIOK.of0 [.slice none 0 0] rfl (by kernel_rfl) (by kernel_rfl) (kd_eq rfl (by kernel_rfl))) <|
  tt_cons (TIOK.of rfl (by kernel_rfl) (by kernel_rfl) (by kernel_rfl) (kd_eq rfl (by kernel_rfl))) <|
  tt_cons (TIOK.of rfl (by kernel_rfl) (by kernel_rfl) (by kernel_rfl) (kd_struct (by kernel_rfl))) <|
  tt_cons (TIOK.of0 [.pointer none, .slice none 0 0] rfl (by kernel_rfl) (by kernel_rfl) (kd_struct (by kernel_rfl))) <|
  tt_cons (TIOK.of rfl (by kernel_rfl) (by kernel_rfl) (by kernel_rfl) (kd_struct (by kernel_rfl))) <|
  tt_cons (TIOK.of rfl (by kernel_rfl) (by kernel_rfl) (by kernel_rfl) (kd_eq rfl (by kernel_rfl))) <|
  tt_cons (TIOK.of rfl (by kernel_rfl) (by kernel_rfl) (by kernel_rfl) (kd_struct (by kernel_rfl))) <|
  tt_cons (TIOK.of rfl (by kernel_rfl) (by kernel_rfl) (by kernel_rfl) (kd_struct (by kernel_rfl))) <|
  tt_cons (TIOK.of rfl (by kernel_rfl) (by kernel_rfl) (by kernel_rfl) (kd_eq rfl (by kernel_rfl))) <|
  tt_cons (TIOK.of rfl (by kernel_rfl) (by kernel_rfl) (by kernel_rfl) (kd_struct (by kernel_rfl))) <|
  tt_cons (TIOK.of rfl (by kernel_rfl) (by kernel_rfl) (by kernel_rfl) (kd_struct (by kernel_rfl))) <|
  tt_cons (TIOK.of rfl (by kernel_rfl) (by kernel_rfl) (by kernel_rfl) (kd_struct (by kernel_rfl))) <|
  tt_cons (TIOK.of0 [.map none] rfl (by kernel_rfl) (by kernel_rfl) (kd_smap (by kernel_rfl))) <|
  tt_cons (TIOK.of rfl (by kernel_rfl) (by kernel_rfl) (by kernel_rfl) (kd_struct (by kernel_rfl))) <|
  tt_cons (TIOK.of rfl (by kernel_rfl) (by kernel_rfl) (by kernel_rfl) (kd_eq rfl (by kernel_rfl))) <|
  tt_cons (TIOK.of rfl (by kernel_rfl) (by kernel_rfl) (by kernel_rfl) (kd_eq rfl (by kernel_rfl))) <|
  tt_cons (TIOK.of rfl (by kernel_rfl) (by kernel_rfl) (by kernel_rfl) (kd_eq rfl (by kernel_rfl))) <|
  tt_cons (TIOK.of rfl (by kernel_rfl) (by kernel_rfl) (by kernel_rfl) (kd_eq rfl (by kernel_rfl))) <|
  tt_nil
theorem TT1.ok : ∀ t i, TT.find TT1 t = some i → TIOK Tryz.prog t i :=
  tt_cons (TIOK.of rfl (by kernel_rfl) (by kernel_rfl) (by kernel_rfl) (kd_eq rfl (by kernel_rfl))) <|
  tt_cons (TIOK.of rfl (by kernel_rfl) (by kernel_rfl) (by kernel_rfl) (kd_eq rfl (by kernel_rfl))) <|
  tt_cons (TIOK.of rfl (by kernel_rfl) (by kernel_rfl) (by kernel_rfl) (kd_eq rfl (by kernel_rfl))) <|
  tt_cons (TIOK.of rfl (by kernel_rfl) (by kernel_rfl) (by kernel_rfl) (kd_eq rfl (by kernel_rfl))) <|
  tt_cons (TIOK.of rfl (by kernel_rfl) (by kernel_rfl) (by kernel_rfl) (kd_struct (by kernel_rfl))) <|
  tt_cons (TIOK.of rfl (by kernel_rfl) (by kernel_rfl) (by kernel_rfl) (kd_struct (by kernel_rfl))) <|
  tt_nil
theorem CM0.ok : ∀ t T, cmpT CM0 t = some T → cmpChk Tryz.prog t T = true := cm_cons (by kernel_rfl) <| cm_cons (by kernel_rfl) <| cm_cons (by kernel_rfl) <| cm_cons (by kernel_rfl) <| cm_nil
theorem BLD0.ok : ∀ q, BLD0 = some q → BldOK Tryz.prog q := fun q h => by cases h; exact bld_ok
theorem net_some_1.ok (k : Nat) : CallOK Tryz.prog GL0 196 (net_some_1.ce) := call_ok (F := net_some_1.F) (c := bodyOf Tryz.f196) (g := fun k => (net_some_1.ce).fn) (by kernel_rfl) (by kernel_rfl) (by kernel_rfl) (by kernel_rfl) (fun k => env_ok TT0.ok cl_nil CM0.ok BLD0.ok io_nil) (by kernel_rfl) (by kernel_rfl) (by kernel_rfl) net_some_1.ob net_some_1.is k
theorem slices_IndexFunc_api_Auto_api_Auto_at196.ok (k : Nat) : CallOK Tryz.prog GL0 193 (slices_IndexFunc_api_Auto_api_Auto_at196.ce k) := call_ok (F := slices_IndexFunc_api_Auto_api_Auto_at196.F) (c := bodyOf Tryz.f193) (g := fun k => (slices_IndexFunc_api_Auto_api_Auto_at196.ce k).fn) (by kernel_rfl) (by kernel_rfl) (by kernel_rfl) (by kernel_rfl) (fun k => env_ok TT0.ok (cl_cons (net_some_1.ok k) cl_nil) CM0.ok BLD0.ok io_nil) (by kernel_rfl) (by kernel_rfl) (by kernel_rfl) slices_IndexFunc_api_Auto_api_Auto_at196.ob slices_IndexFunc_api_Auto_api_Auto_at196.is k
theorem slices_ContainsFunc_api_Auto_api_Auto_at196.ok (k : Nat) : CallOK Tryz.prog GL0 195 (slices_ContainsFunc_api_Auto_api_Auto_at196.ce k) := call_ok (F := slices_ContainsFunc_api_Auto_api_Auto_at196.F) (c := bodyOf Tryz.f195) (g := fun k => (slices_ContainsFunc_api_Auto_api_Auto_at196.ce k).fn) (by kernel_rfl) (by kernel_rfl) (by kernel_rfl) (by kernel_rfl) (fun k => env_ok TT0.ok (cl_cons (slices_IndexFunc_api_Auto_api_Auto_at196.ok k) cl_nil) CM0.ok BLD0.ok io_nil) (by kernel_rfl) (by kernel_rfl) (by kernel_rfl) slices_ContainsFunc_api_Auto_api_Auto_at196.ob slices_ContainsFunc_api_Auto_api_Auto_at196.is k
theorem net_some.ok (k : Nat) : CallOK Tryz.prog GL0 66 (net_some.ce k) := call_ok (F := net_some.F) (c := bodyOf Tryz.f66) (g := fun k => (net_some.ce k).fn) (by kernel_rfl) (by kernel_rfl) (by kernel_rfl) (by kernel_rfl) (fun k => env_ok TT0.ok (cl_cons (slices_ContainsFunc_api_Auto_api_Auto_at196.ok k) cl_nil) CM0.ok BLD0.ok io_nil) (by kernel_rfl) (by kernel_rfl) (by kernel_rfl) net_some.ob net_some.is k
theorem net_sizes.ok (k : Nat) : CallOK Tryz.prog GL0 67 (net_sizes.ce k) := call_ok (F := net_sizes.F) (c := bodyOf Tryz.f67) (g := fun k => (net_sizes.ce k).fn) (by kernel_rfl) (by kernel_rfl) (by kernel_rfl) (by kernel_rfl) (fun k => env_ok TT0.ok cl_nil CM0.ok BLD0.ok io_nil) (by kernel_rfl) (by kernel_rfl) (by kernel_rfl) net_sizes.ob net_sizes.is k
theorem lex_of.ok (k : Nat) : CallOK Tryz.prog GL0 300 (lex_of.ce k) := call_ok (F := lex_of.F) (c := bodyOf Tryz.f300) (g := fun k => (lex_of.ce k).fn) (by kernel_rfl) (by kernel_rfl) (by kernel_rfl) (by kernel_rfl) (fun k => env_ok TT0.ok cl_nil CM0.ok BLD0.ok io_nil) (by kernel_rfl) (by kernel_rfl) (by kernel_rfl) lex_of.ob lex_of.is k
theorem lex_word.ok (k : Nat) : CallOK Tryz.prog GL0 301 (lex_word.ce k) := call_ok (F := lex_word.F) (c := bodyOf Tryz.f301) (g := fun k => (lex_word.ce k).fn) (by kernel_rfl) (by kernel_rfl) (by kernel_rfl) (by kernel_rfl) (fun k => env_ok TT0.ok (cl_cons (lex_of.ok k) cl_nil) CM0.ok BLD0.ok io_nil) (by kernel_rfl) (by kernel_rfl) (by kernel_rfl) lex_word.ob lex_word.is k
theorem slices_Index_string_string.ok (k : Nat) : CallOK Tryz.prog GL0 191 (slices_Index_string_string.ce k) := call_ok (F := slices_Index_string_string.F) (c := bodyOf Tryz.f191) (g := fun k => (slices_Index_string_string.ce k).fn) (by kernel_rfl) (by kernel_rfl) (by kernel_rfl) (by kernel_rfl) (fun k => env_ok TT0.ok cl_nil CM0.ok BLD0.ok io_nil) (by kernel_rfl) (by kernel_rfl) (by kernel_rfl) slices_Index_string_string.ob slices_Index_string_string.is k
theorem slices_Contains_string_string.ok (k : Nat) : CallOK Tryz.prog GL0 302 (slices_Contains_string_string.ce k) := call_ok (F := slices_Contains_string_string.F) (c := bodyOf Tryz.f302) (g := fun k => (slices_Contains_string_string.ce k).fn) (by kernel_rfl) (by kernel_rfl) (by kernel_rfl) (by kernel_rfl) (fun k => env_ok TT0.ok (cl_cons (slices_Index_string_string.ok k) cl_nil) CM0.ok BLD0.ok io_nil) (by kernel_rfl) (by kernel_rfl) (by kernel_rfl) slices_Contains_string_string.ob slices_Contains_string_string.is k
theorem lex_IsName.ok (k : Nat) : CallOK Tryz.prog GL0 257 (lex_IsName.ce k) := call_ok (F := lex_IsName.F) (c := bodyOf Tryz.f257) (g := fun k => (lex_IsName.ce k).fn) (by kernel_rfl) (by kernel_rfl) (by kernel_rfl) (by kernel_rfl) (fun k => env_ok TT0.ok (cl_cons (lex_of.ok k) (cl_cons (lex_word.ok k) (cl_cons (slices_Contains_string_string.ok k) cl_nil))) CM0.ok BLD0.ok io_nil) (by kernel_rfl) (by kernel_rfl) (by kernel_rfl) lex_IsName.ob lex_IsName.is k
theorem net_given.ok (k : Nat) : CallOK Tryz.prog GL0 197 (net_given.ce k) := call_ok (F := net_given.F) (c := bodyOf Tryz.f197) (g := fun k => (net_given.ce k).fn) (by kernel_rfl) (by kernel_rfl) (by kernel_rfl) (by kernel_rfl) (fun k => env_ok TT0.ok (cl_cons (lex_IsName.ok k) cl_nil) CM0.ok BLD0.ok io_nil) (by kernel_rfl) (by kernel_rfl) (by kernel_rfl) net_given.ob net_given.is k
theorem net_Names.ok (k : Nat) : CallOK Tryz.prog GL0 192 (net_Names.ce k) := call_ok (F := net_Names.F) (c := bodyOf Tryz.f192) (g := fun k => (net_Names.ce k).fn) (by kernel_rfl) (by kernel_rfl) (by kernel_rfl) (by kernel_rfl) (fun k => env_ok TT0.ok cl_nil CM0.ok BLD0.ok io_nil) (by kernel_rfl) (by kernel_rfl) (by kernel_rfl) net_Names.ob net_Names.is k
theorem slices_Grow_string_string.ok (k : Nat) : CallOK Tryz.prog GL0 303 (slices_Grow_string_string.ce) := call_ok (F := slices_Grow_string_string.F) (c := bodyOf Tryz.f303) (g := fun k => (slices_Grow_string_string.ce).fn) (by kernel_rfl) (by kernel_rfl) (by kernel_rfl) (by kernel_rfl) (fun k => env_ok TT0.ok cl_nil CM0.ok BLD0.ok io_nil) (by kernel_rfl) (by kernel_rfl) (by kernel_rfl) slices_Grow_string_string.ob slices_Grow_string_string.is k
theorem slices_Concat_string_string.ok (k : Nat) : CallOK Tryz.prog GL0 258 (slices_Concat_string_string.ce k) := call_ok (F := slices_Concat_string_string.F) (c := bodyOf Tryz.f258) (g := fun k => (slices_Concat_string_string.ce k).fn) (by kernel_rfl) (by kernel_rfl) (by kernel_rfl) (by kernel_rfl) (fun k => env_ok TT0.ok (cl_cons (slices_Grow_string_string.ok k) cl_nil) CM0.ok BLD0.ok io_nil) (by kernel_rfl) (by kernel_rfl) (by kernel_rfl) slices_Concat_string_string.ob slices_Concat_string_string.is k
theorem net_all.ok (k : Nat) : CallOK Tryz.prog GL0 198 (net_all.ce k) := call_ok (F := net_all.F) (c := bodyOf Tryz.f198) (g := fun k => (net_all.ce k).fn) (by kernel_rfl) (by kernel_rfl) (by kernel_rfl) (by kernel_rfl) (fun k => env_ok TT0.ok (cl_cons (net_Names.ok k) (cl_cons (slices_Concat_string_string.ok k) cl_nil)) CM0.ok BLD0.ok io_nil) (by kernel_rfl) (by kernel_rfl) (by kernel_rfl) net_all.ob net_all.is k
theorem net_locNames.ok (k : Nat) : CallOK Tryz.prog GL0 199 (net_locNames.ce k) := call_ok (F := net_locNames.F) (c := bodyOf Tryz.f199) (g := fun k => (net_locNames.ce k).fn) (by kernel_rfl) (by kernel_rfl) (by kernel_rfl) (by kernel_rfl) (fun k => env_ok TT0.ok cl_nil CM0.ok BLD0.ok io_nil) (by kernel_rfl) (by kernel_rfl) (by kernel_rfl) net_locNames.ob net_locNames.is k
theorem net_names.ok (k : Nat) : CallOK Tryz.prog GL0 68 (net_names.ce k) := call_ok (F := net_names.F) (c := bodyOf Tryz.f68) (g := fun k => (net_names.ce k).fn) (by kernel_rfl) (by kernel_rfl) (by kernel_rfl) (by kernel_rfl) (fun k => env_ok TT0.ok (cl_cons (net_given.ok k) (cl_cons (net_all.ok k) (cl_cons (net_locNames.ok k) cl_nil))) CM0.ok BLD0.ok io_nil) (by kernel_rfl) (by kernel_rfl) (by kernel_rfl) net_names.ob net_names.is k
theorem net_vars.ok (k : Nat) : CallOK Tryz.prog GL0 69 (net_vars.ce k) := call_ok (F := net_vars.F) (c := bodyOf Tryz.f69) (g := fun k => (net_vars.ce k).fn) (by kernel_rfl) (by kernel_rfl) (by kernel_rfl) (by kernel_rfl) (fun k => env_ok TT0.ok cl_nil CM0.ok BLD0.ok io_nil) (by kernel_rfl) (by kernel_rfl) (by kernel_rfl) net_vars.ob net_vars.is k
theorem net_locs.ok (k : Nat) : CallOK Tryz.prog GL0 70 (net_locs.ce k) := call_ok (F := net_locs.F) (c := bodyOf Tryz.f70) (g := fun k => (net_locs.ce k).fn) (by kernel_rfl) (by kernel_rfl) (by kernel_rfl) (by kernel_rfl) (fun k => env_ok TT0.ok cl_nil CM0.ok BLD0.ok io_nil) (by kernel_rfl) (by kernel_rfl) (by kernel_rfl) net_locs.ob net_locs.is k
theorem net_edges_1.ok (k : Nat) : CallOK Tryz.prog GL0 200 (net_edges_1.ce) := call_ok (F := net_edges_1.F) (c := bodyOf Tryz.f200) (g := fun k => (net_edges_1.ce).fn) (by kernel_rfl) (by kernel_rfl) (by kernel_rfl) (by kernel_rfl) (fun k => env_ok TT0.ok cl_nil CM0.ok BLD0.ok io_nil) (by kernel_rfl) (by kernel_rfl) (by kernel_rfl) net_edges_1.ob net_edges_1.is k
theorem net_edges.ok (k : Nat) : CallOK Tryz.prog GL0 71 (net_edges.ce k) := call_ok (F := net_edges.F) (c := bodyOf Tryz.f71) (g := fun k => (net_edges.ce k).fn) (by kernel_rfl) (by kernel_rfl) (by kernel_rfl) (by kernel_rfl) (fun k => env_ok TT0.ok (cl_cons (net_edges_1.ok k) cl_nil) CM0.ok BLD0.ok io_nil) (by kernel_rfl) (by kernel_rfl) (by kernel_rfl) net_edges.ob net_edges.is k
theorem net_isClock.ok (k : Nat) : CallOK Tryz.prog GL0 203 (net_isClock.ce) := call_ok (F := net_isClock.F) (c := bodyOf Tryz.f203) (g := fun k => (net_isClock.ce).fn) (by kernel_rfl) (by kernel_rfl) (by kernel_rfl) (by kernel_rfl) (fun k => env_ok TT0.ok cl_nil CM0.ok BLD0.ok io_nil) (by kernel_rfl) (by kernel_rfl) (by kernel_rfl) net_isClock.ob net_isClock.is k
theorem net_clocksOf.ok (k : Nat) : CallOK Tryz.prog GL0 86 (net_clocksOf.ce k) := call_ok (F := net_clocksOf.F) (c := bodyOf Tryz.f86) (g := fun k => (net_clocksOf.ce k).fn) (by kernel_rfl) (by kernel_rfl) (by kernel_rfl) (by kernel_rfl) (fun k => env_ok TT0.ok (cl_cons (net_isClock.ok k) cl_nil) CM0.ok BLD0.ok io_nil) (by kernel_rfl) (by kernel_rfl) (by kernel_rfl) net_clocksOf.ob net_clocksOf.is k
theorem net_guards.ok (k : Nat) : CallOK Tryz.prog GL0 201 (net_guards.ce k) := call_ok (F := net_guards.F) (c := bodyOf Tryz.f201) (g := fun k => (net_guards.ce k).fn) (by kernel_rfl) (by kernel_rfl) (by kernel_rfl) (by kernel_rfl) (fun k => env_ok TT0.ok cl_nil CM0.ok BLD0.ok io_nil) (by kernel_rfl) (by kernel_rfl) (by kernel_rfl) net_guards.ob net_guards.is k
theorem net_sets.ok (k : Nat) : CallOK Tryz.prog GL0 202 (net_sets.ce k) := call_ok (F := net_sets.F) (c := bodyOf Tryz.f202) (g := fun k => (net_sets.ce k).fn) (by kernel_rfl) (by kernel_rfl) (by kernel_rfl) (by kernel_rfl) (fun k => env_ok TT0.ok cl_nil CM0.ok BLD0.ok io_nil) (by kernel_rfl) (by kernel_rfl) (by kernel_rfl) net_sets.ob net_sets.is k
theorem net_clocks.ok (k : Nat) : CallOK Tryz.prog GL0 72 (net_clocks.ce k) := call_ok (F := net_clocks.F) (c := bodyOf Tryz.f72) (g := fun k => (net_clocks.ce k).fn) (by kernel_rfl) (by kernel_rfl) (by kernel_rfl) (by kernel_rfl) (fun k => env_ok TT0.ok (cl_cons (net_clocksOf.ok k) (cl_cons (net_guards.ok k) (cl_cons (net_sets.ok k) (cl_cons (net_isClock.ok k) cl_nil)))) CM0.ok BLD0.ok io_nil) (by kernel_rfl) (by kernel_rfl) (by kernel_rfl) net_clocks.ob net_clocks.is k
theorem net_cmps.ok (k : Nat) : CallOK Tryz.prog GL0 88 (net_cmps.ce k) := call_ok (F := net_cmps.F) (c := bodyOf Tryz.f88) (g := fun k => (net_cmps.ce k).fn) (by kernel_rfl) (by kernel_rfl) (by kernel_rfl) (by kernel_rfl) (fun k => env_ok TT0.ok cl_nil CM0.ok BLD0.ok io_nil) (by kernel_rfl) (by kernel_rfl) (by kernel_rfl) net_cmps.ob net_cmps.is k
theorem net_forms.ok (k : Nat) : CallOK Tryz.prog GL0 73 (net_forms.ce k) := call_ok (F := net_forms.F) (c := bodyOf Tryz.f73) (g := fun k => (net_forms.ce k).fn) (by kernel_rfl) (by kernel_rfl) (by kernel_rfl) (by kernel_rfl) (fun k => env_ok TT0.ok (cl_cons (net_cmps.ok k) (cl_cons (net_guards.ok k) (cl_cons (net_sets.ok k) cl_nil))) CM0.ok BLD0.ok io_nil) (by kernel_rfl) (by kernel_rfl) (by kernel_rfl) net_forms.ob net_forms.is k
theorem expr_of.ok (k : Nat) : CallOK Tryz.prog GL0 260 (expr_of.ce) := call_ok (F := expr_of.F) (c := bodyOf Tryz.f260) (g := fun k => (expr_of.ce).fn) (by kernel_rfl) (by kernel_rfl) (by kernel_rfl) (by kernel_rfl) (fun k => env_ok TT0.ok cl_nil CM0.ok BLD0.ok io_nil) (by kernel_rfl) (by kernel_rfl) (by kernel_rfl) expr_of.ob expr_of.is k
theorem expr_End.ok (k : Nat) : CallOK Tryz.prog GL0 259 (expr_End.ce k) := call_ok (F := expr_End.F) (c := bodyOf Tryz.f259) (g := fun k => (expr_End.ce k).fn) (by kernel_rfl) (by kernel_rfl) (by kernel_rfl) (by kernel_rfl) (fun k => env_ok TT0.ok (cl_cons (expr_of.ok k) cl_nil) CM0.ok BLD0.ok io_nil) (by kernel_rfl) (by kernel_rfl) (by kernel_rfl) expr_End.ob expr_End.is k
theorem expr_Right.ok (k : Nat) : CallOK Tryz.prog GL0 204 (expr_Right.ce k) := call_ok (F := expr_Right.F) (c := bodyOf Tryz.f204) (g := fun k => (expr_Right.ce k).fn) (by kernel_rfl) (by kernel_rfl) (by kernel_rfl) (by kernel_rfl) (fun k => env_ok TT0.ok (cl_cons (expr_End.ok k) (cl_cons (expr_of.ok k) cl_nil)) CM0.ok BLD0.ok io_nil) (by kernel_rfl) (by kernel_rfl) (by kernel_rfl) expr_Right.ob expr_Right.is k
theorem expr_IsTruth.ok (k : Nat) : CallOK Tryz.prog GL0 205 (expr_IsTruth.ce) := call_ok (F := expr_IsTruth.F) (c := bodyOf Tryz.f205) (g := fun k => (expr_IsTruth.ce).fn) (by kernel_rfl) (by kernel_rfl) (by kernel_rfl) (by kernel_rfl) (fun k => env_ok TT0.ok (cl_cons (expr_of.ok k) cl_nil) CM0.ok BLD0.ok io_nil) (by kernel_rfl) (by kernel_rfl) (by kernel_rfl) expr_IsTruth.ob expr_IsTruth.is k
theorem net_truth.ok (k : Nat) : CallOK Tryz.prog GL0 90 (net_truth.ce k) := call_ok (F := net_truth.F) (c := bodyOf Tryz.f90) (g := fun k => (net_truth.ce k).fn) (by kernel_rfl) (by kernel_rfl) (by kernel_rfl) (by kernel_rfl) (fun k => env_ok TT0.ok (cl_cons (expr_Right.ok k) (cl_cons (expr_IsTruth.ok k) cl_nil)) CM0.ok BLD0.ok io_nil) (by kernel_rfl) (by kernel_rfl) (by kernel_rfl) net_truth.ob net_truth.is k
theorem net_tests.ok (k : Nat) : CallOK Tryz.prog GL0 74 (net_tests.ce k) := call_ok (F := net_tests.F) (c := bodyOf Tryz.f74) (g := fun k => (net_tests.ce k).fn) (by kernel_rfl) (by kernel_rfl) (by kernel_rfl) (by kernel_rfl) (fun k => env_ok TT0.ok (cl_cons (net_truth.ok k) (cl_cons (net_sets.ok k) (cl_cons (expr_Right.ok k) (cl_cons (expr_IsTruth.ok k) cl_nil)))) CM0.ok BLD0.ok io_nil) (by kernel_rfl) (by kernel_rfl) (by kernel_rfl) net_tests.ob net_tests.is k
theorem net_Whole.ok (k : Nat) : CallOK Tryz.prog GL0 14 (net_Whole.ce k) := call_ok (F := net_Whole.F) (c := bodyOf Tryz.f14) (g := fun k => (net_Whole.ce k).fn) (by kernel_rfl) (by kernel_rfl) (by kernel_rfl) (by kernel_rfl) (fun k => env_ok TT0.ok (cl_cons (net_some.ok k) (cl_cons (net_sizes.ok k) (cl_cons (net_names.ok k) (cl_cons (net_vars.ok k) (cl_cons (net_locs.ok k) (cl_cons (net_edges.ok k) (cl_cons (net_clocks.ok k) (cl_cons (net_forms.ok k) (cl_cons (net_tests.ok k) cl_nil))))))))) CM0.ok BLD0.ok io_nil) (by kernel_rfl) (by kernel_rfl) (by kernel_rfl) net_Whole.ob net_Whole.is k
theorem net_Right.ok (k : Nat) : CallOK Tryz.prog GL0 16 (net_Right.ce k) := call_ok (F := net_Right.F) (c := bodyOf Tryz.f16) (g := fun k => (net_Right.ce k).fn) (by kernel_rfl) (by kernel_rfl) (by kernel_rfl) (by kernel_rfl) (fun k => env_ok TT0.ok (cl_cons (net_Whole.ok k) cl_nil) CM0.ok BLD0.ok io_nil) (by kernel_rfl) (by kernel_rfl) (by kernel_rfl) net_Right.ob net_Right.is k
theorem moves_edge.ok (k : Nat) : CallOK Tryz.prog GL0 226 (moves_edge.ce) := call_ok (F := moves_edge.F) (c := bodyOf Tryz.f226) (g := fun k => (moves_edge.ce).fn) (by kernel_rfl) (by kernel_rfl) (by kernel_rfl) (by kernel_rfl) (fun k => env_ok TT0.ok cl_nil CM0.ok BLD0.ok io_nil) (by kernel_rfl) (by kernel_rfl) (by kernel_rfl) moves_edge.ob moves_edge.is k
theorem moves_sides.ok (k : Nat) : CallOK Tryz.prog GL0 160 (moves_sides.ce k) := call_ok (F := moves_sides.F) (c := bodyOf Tryz.f160) (g := fun k => (moves_sides.ce k).fn) (by kernel_rfl) (by kernel_rfl) (by kernel_rfl) (by kernel_rfl) (fun k => env_ok TT0.ok (cl_cons (moves_edge.ok k) cl_nil) CM0.ok BLD0.ok io_nil) (by kernel_rfl) (by kernel_rfl) (by kernel_rfl) moves_sides.ob moves_sides.is k
theorem math_bits_Mul64.ok (k : Nat) : CallOK Tryz.prog GL0 280 (math_bits_Mul64.ce) := call_ok (F := math_bits_Mul64.F) (c := bodyOf Tryz.f280) (g := fun k => (math_bits_Mul64.ce).fn) (by kernel_rfl) (by kernel_rfl) (by kernel_rfl) (by kernel_rfl) (fun k => env_ok TT0.ok cl_nil CM0.ok BLD0.ok io_nil) (by kernel_rfl) (by kernel_rfl) (by kernel_rfl) math_bits_Mul64.ob math_bits_Mul64.is k
theorem moves_Print.ok (k : Nat) : CallOK Tryz.prog GL0 57 (moves_Print.ce k) := call_ok (F := moves_Print.F) (c := bodyOf Tryz.f57) (g := fun k => (moves_Print.ce k).fn) (by kernel_rfl) (by kernel_rfl) (by kernel_rfl) (by kernel_rfl) (fun k => env_ok TT0.ok (cl_cons (net_Right.ok k) (cl_cons (strings_Join.ok k) (cl_cons (strconv_Itoa.ok k) (cl_cons (moves_sides.ok k) cl_nil)))) CM0.ok BLD0.ok io_nil) (by kernel_rfl) (by kernel_rfl) (by kernel_rfl) moves_Print.ob moves_Print.is k
theorem gnomonmem_SameMoves.ok (k : Nat) : CallOK Tryz.prog GL0 42 (gnomonmem_SameMoves.ce k) := call_ok (F := gnomonmem_SameMoves.F) (c := bodyOf Tryz.f42) (g := fun k => (gnomonmem_SameMoves.ce k).fn) (by kernel_rfl) (by kernel_rfl) (by kernel_rfl) (by kernel_rfl) (fun k => env_ok TT0.ok cl_nil CM0.ok BLD0.ok io_nil) (by kernel_rfl) (by kernel_rfl) (by kernel_rfl) gnomonmem_SameMoves.ob gnomonmem_SameMoves.is k
theorem gnomonmem_HandMoves.ok (k : Nat) : CallOK Tryz.prog GL0 49 (gnomonmem_HandMoves.ce k) := call_ok (F := gnomonmem_HandMoves.F) (c := bodyOf Tryz.f49) (g := fun k => (gnomonmem_HandMoves.ce k).fn) (by kernel_rfl) (by kernel_rfl) (by kernel_rfl) (by kernel_rfl) (fun k => env_ok TT1.ok cl_nil CM0.ok BLD0.ok io_nil) (by kernel_rfl) (by kernel_rfl) (by kernel_rfl) gnomonmem_HandMoves.ob gnomonmem_HandMoves.is k
theorem gnomonmem_HandRats.ok (k : Nat) : CallOK Tryz.prog GL0 50 (gnomonmem_HandRats.ce k) := call_ok (F := gnomonmem_HandRats.F) (c := bodyOf Tryz.f50) (g := fun k => (gnomonmem_HandRats.ce k).fn) (by kernel_rfl) (by kernel_rfl) (by kernel_rfl) (by kernel_rfl) (fun k => env_ok TT1.ok cl_nil CM0.ok BLD0.ok io_nil) (by kernel_rfl) (by kernel_rfl) (by kernel_rfl) gnomonmem_HandRats.ob gnomonmem_HandRats.is k
theorem rat_Of.ok (k : Nat) : CallOK Tryz.prog GL0 172 (rat_Of.ce) := call_ok (F := rat_Of.F) (c := bodyOf Tryz.f172) (g := fun k => (rat_Of.ce).fn) (by kernel_rfl) (by kernel_rfl) (by kernel_rfl) (by kernel_rfl) (fun k => env_ok TT0.ok cl_nil CM0.ok BLD0.ok io_nil) (by kernel_rfl) (by kernel_rfl) (by kernel_rfl) rat_Of.ob rat_Of.is k
theorem rat_size_isZero.ok (k : Nat) : CallOK Tryz.prog GL0 238 (rat_size_isZero.ce) := call_ok (F := rat_size_isZero.F) (c := bodyOf Tryz.f238) (g := fun k => (rat_size_isZero.ce).fn) (by kernel_rfl) (by kernel_rfl) (by kernel_rfl) (by kernel_rfl) (fun k => env_ok TT0.ok cl_nil CM0.ok BLD0.ok io_nil) (by kernel_rfl) (by kernel_rfl) (by kernel_rfl) rat_size_isZero.ob rat_size_isZero.is k
theorem cmp_Or_int.ok (k : Nat) : CallOK Tryz.prog GL0 320 (cmp_Or_int.ce k) := call_ok (F := cmp_Or_int.F) (c := bodyOf Tryz.f320) (g := fun k => (cmp_Or_int.ce k).fn) (by kernel_rfl) (by kernel_rfl) (by kernel_rfl) (by kernel_rfl) (fun k => env_ok TT0.ok cl_nil CM0.ok BLD0.ok io_nil) (by kernel_rfl) (by kernel_rfl) (by kernel_rfl) cmp_Or_int.ob cmp_Or_int.is k
theorem cmp_isNaN_uint64.ok (k : Nat) : CallOK Tryz.prog GL0 338 (cmp_isNaN_uint64.ce) := call_ok (F := cmp_isNaN_uint64.F) (c := bodyOf Tryz.f338) (g := fun k => (cmp_isNaN_uint64.ce).fn) (by kernel_rfl) (by kernel_rfl) (by kernel_rfl) (by kernel_rfl) (fun k => env_ok TT0.ok cl_nil CM0.ok BLD0.ok io_nil) (by kernel_rfl) (by kernel_rfl) (by kernel_rfl) cmp_isNaN_uint64.ob cmp_isNaN_uint64.is k
theorem cmp_Compare_uint64.ok (k : Nat) : CallOK Tryz.prog GL0 321 (cmp_Compare_uint64.ce) := call_ok (F := cmp_Compare_uint64.F) (c := bodyOf Tryz.f321) (g := fun k => (cmp_Compare_uint64.ce).fn) (by kernel_rfl) (by kernel_rfl) (by kernel_rfl) (by kernel_rfl) (fun k => env_ok TT0.ok (cl_cons (cmp_isNaN_uint64.ok k) cl_nil) CM0.ok BLD0.ok io_nil) (by kernel_rfl) (by kernel_rfl) (by kernel_rfl) cmp_Compare_uint64.ob cmp_Compare_uint64.is k
theorem rat_size_compare.ok (k : Nat) : CallOK Tryz.prog GL0 282 (rat_size_compare.ce k) := call_ok (F := rat_size_compare.F) (c := bodyOf Tryz.f282) (g := fun k => (rat_size_compare.ce k).fn) (by kernel_rfl) (by kernel_rfl) (by kernel_rfl) (by kernel_rfl) (fun k => env_ok TT0.ok (cl_cons (cmp_Or_int.ok k) (cl_cons (cmp_Compare_uint64.ok k) cl_nil)) CM0.ok BLD0.ok io_nil) (by kernel_rfl) (by kernel_rfl) (by kernel_rfl) rat_size_compare.ob rat_size_compare.is k
theorem rat_size_less.ok (k : Nat) : CallOK Tryz.prog GL0 283 (rat_size_less.ce) := call_ok (F := rat_size_less.F) (c := bodyOf Tryz.f283) (g := fun k => (rat_size_less.ce).fn) (by kernel_rfl) (by kernel_rfl) (by kernel_rfl) (by kernel_rfl) (fun k => env_ok TT0.ok (cl_ext (math_bits_Sub64.ok k) cl_nil) CM0.ok BLD0.ok io_nil) (by kernel_rfl) (by kernel_rfl) (by kernel_rfl) rat_size_less.ob rat_size_less.is k
theorem rat_size_over.ok (k : Nat) : CallOK Tryz.prog GL0 285 (rat_size_over.ce k) := call_ok (F := rat_size_over.F) (c := bodyOf Tryz.f285) (g := fun k => (rat_size_over.ce k).fn) (by kernel_rfl) (by kernel_rfl) (by kernel_rfl) (by kernel_rfl) (fun k => env_ok TT0.ok (cl_cons (rat_size_compare.ok k) (cl_cons (rat_size_less.ok k) cl_nil)) CM0.ok BLD0.ok io_nil) (by kernel_rfl) (by kernel_rfl) (by kernel_rfl) rat_size_over.ob rat_size_over.is k
theorem rat_common.ok (k : Nat) : CallOK Tryz.prog GL0 284 (rat_common.ce k) := call_ok (F := rat_common.F) (c := bodyOf Tryz.f284) (g := fun k => (rat_common.ce k).fn) (by kernel_rfl) (by kernel_rfl) (by kernel_rfl) (by kernel_rfl) (fun k => env_ok TT0.ok (cl_cons (rat_size_isZero.ok k) (cl_cons (rat_size_over.ok k) cl_nil)) CM0.ok BLD0.ok io_nil) (by kernel_rfl) (by kernel_rfl) (by kernel_rfl) rat_common.ob rat_common.is k
theorem rat_wide_number.ok (k : Nat) : CallOK Tryz.prog GL0 286 (rat_wide_number.ce k) := call_ok (F := rat_wide_number.F) (c := bodyOf Tryz.f286) (g := fun k => (rat_wide_number.ce k).fn) (by kernel_rfl) (by kernel_rfl) (by kernel_rfl) (by kernel_rfl) (fun k => env_ok TT0.ok cl_nil CM0.ok BLD0.ok io_nil) (by kernel_rfl) (by kernel_rfl) (by kernel_rfl) rat_wide_number.ob rat_wide_number.is k
theorem rat_made.ok (k : Nat) : CallOK Tryz.prog GL0 239 (rat_made.ce k) := call_ok (F := rat_made.F) (c := bodyOf Tryz.f239) (g := fun k => (rat_made.ce k).fn) (by kernel_rfl) (by kernel_rfl) (by kernel_rfl) (by kernel_rfl) (fun k => env_ok TT0.ok (cl_cons (rat_size_isZero.ok k) (cl_cons (rat_common.ok k) (cl_cons (rat_size_over.ok k) (cl_cons (rat_wide_number.ok k) cl_nil)))) CM0.ok BLD0.ok io_nil) (by kernel_rfl) (by kernel_rfl) (by kernel_rfl) rat_made.ob rat_made.is k
theorem rat_of.ok (k : Nat) : CallOK Tryz.prog GL0 279 (rat_of.ce) := call_ok (F := rat_of.F) (c := bodyOf Tryz.f279) (g := fun k => (rat_of.ce).fn) (by kernel_rfl) (by kernel_rfl) (by kernel_rfl) (by kernel_rfl) (fun k => env_ok TT0.ok cl_nil CM0.ok BLD0.ok io_nil) (by kernel_rfl) (by kernel_rfl) (by kernel_rfl) rat_of.ob rat_of.is k
theorem rat_New.ok (k : Nat) : CallOK Tryz.prog GL0 233 (rat_New.ce k) := call_ok (F := rat_New.F) (c := bodyOf Tryz.f233) (g := fun k => (rat_New.ce k).fn) (by kernel_rfl) (by kernel_rfl) (by kernel_rfl) (by kernel_rfl) (fun k => env_ok TT0.ok (cl_cons (rat_made.ok k) (cl_cons (rat_of.ok k) cl_nil)) CM0.ok BLD0.ok io_nil) (by kernel_rfl) (by kernel_rfl) (by kernel_rfl) rat_New.ob rat_New.is k
theorem rat_Right.ok (k : Nat) : CallOK Tryz.prog GL0 173 (rat_Right.ce k) := call_ok (F := rat_Right.F) (c := bodyOf Tryz.f173) (g := fun k => (rat_Right.ce k).fn) (by kernel_rfl) (by kernel_rfl) (by kernel_rfl) (by kernel_rfl) (fun k => env_ok TT0.ok (cl_cons (rat_New.ok k) cl_nil) CM0.ok BLD0.ok io_nil) (by kernel_rfl) (by kernel_rfl) (by kernel_rfl) rat_Right.ob rat_Right.is k
theorem rat_both.ok (k : Nat) : CallOK Tryz.prog GL0 234 (rat_both.ce k) := call_ok (F := rat_both.F) (c := bodyOf Tryz.f234) (g := fun k => (rat_both.ce k).fn) (by kernel_rfl) (by kernel_rfl) (by kernel_rfl) (by kernel_rfl) (fun k => env_ok TT0.ok (cl_cons (rat_Right.ok k) cl_nil) CM0.ok BLD0.ok io_nil) (by kernel_rfl) (by kernel_rfl) (by kernel_rfl) rat_both.ob rat_both.is k
theorem rat_times.ok (k : Nat) : CallOK Tryz.prog GL0 235 (rat_times.ce) := call_ok (F := rat_times.F) (c := bodyOf Tryz.f235) (g := fun k => (rat_times.ce).fn) (by kernel_rfl) (by kernel_rfl) (by kernel_rfl) (by kernel_rfl) (fun k => env_ok TT0.ok (cl_cons (rat_size_isZero.ok k) (cl_cons (rat_of.ok k) (cl_cons (math_bits_Mul64.ok k) cl_nil))) CM0.ok BLD0.ok io_nil) (by kernel_rfl) (by kernel_rfl) (by kernel_rfl) rat_times.ob rat_times.is k
theorem rat_size_plus.ok (k : Nat) : CallOK Tryz.prog GL0 281 (rat_size_plus.ce) := call_ok (F := rat_size_plus.F) (c := bodyOf Tryz.f281) (g := fun k => (rat_size_plus.ce).fn) (by kernel_rfl) (by kernel_rfl) (by kernel_rfl) (by kernel_rfl) (fun k => env_ok TT0.ok (cl_ext (math_bits_Add64.ok k) cl_nil) CM0.ok BLD0.ok io_nil) (by kernel_rfl) (by kernel_rfl) (by kernel_rfl) rat_size_plus.ob rat_size_plus.is k
theorem rat_wide_sum.ok (k : Nat) : CallOK Tryz.prog GL0 236 (rat_wide_sum.ce k) := call_ok (F := rat_wide_sum.F) (c := bodyOf Tryz.f236) (g := fun k => (rat_wide_sum.ce k).fn) (by kernel_rfl) (by kernel_rfl) (by kernel_rfl) (by kernel_rfl) (fun k => env_ok TT0.ok (cl_cons (rat_size_plus.ok k) (cl_cons (rat_size_compare.ok k) (cl_cons (rat_size_less.ok k) cl_nil))) CM0.ok BLD0.ok io_nil) (by kernel_rfl) (by kernel_rfl) (by kernel_rfl) rat_wide_sum.ob rat_wide_sum.is k
theorem rat_wide_opposite.ok (k : Nat) : CallOK Tryz.prog GL0 237 (rat_wide_opposite.ce) := call_ok (F := rat_wide_opposite.F) (c := bodyOf Tryz.f237) (g := fun k => (rat_wide_opposite.ce).fn) (by kernel_rfl) (by kernel_rfl) (by kernel_rfl) (by kernel_rfl) (fun k => env_ok TT0.ok (cl_cons (rat_size_isZero.ok k) cl_nil) CM0.ok BLD0.ok io_nil) (by kernel_rfl) (by kernel_rfl) (by kernel_rfl) rat_wide_opposite.ob rat_wide_opposite.is k
theorem rat_Compare.ok (k : Nat) : CallOK Tryz.prog GL0 174 (rat_Compare.ce k) := call_ok (F := rat_Compare.F) (c := bodyOf Tryz.f174) (g := fun k => (rat_Compare.ce k).fn) (by kernel_rfl) (by kernel_rfl) (by kernel_rfl) (by kernel_rfl) (fun k => env_ok TT0.ok (cl_cons (rat_both.ok k) (cl_cons (rat_times.ok k) (cl_cons (rat_wide_sum.ok k) (cl_cons (rat_wide_opposite.ok k) (cl_cons (rat_size_isZero.ok k) cl_nil))))) CM0.ok BLD0.ok io_nil) (by kernel_rfl) (by kernel_rfl) (by kernel_rfl) rat_Compare.ob rat_Compare.is k
theorem rat_Sub.ok (k : Nat) : CallOK Tryz.prog GL0 175 (rat_Sub.ce k) := call_ok (F := rat_Sub.F) (c := bodyOf Tryz.f175) (g := fun k => (rat_Sub.ce k).fn) (by kernel_rfl) (by kernel_rfl) (by kernel_rfl) (by kernel_rfl) (fun k => env_ok TT0.ok (cl_cons (rat_both.ok k) (cl_cons (rat_times.ok k) (cl_cons (rat_wide_sum.ok k) (cl_cons (rat_wide_opposite.ok k) (cl_cons (rat_made.ok k) cl_nil))))) CM0.ok BLD0.ok io_nil) (by kernel_rfl) (by kernel_rfl) (by kernel_rfl) rat_Sub.ob rat_Sub.is k
theorem run_OfTimes.ok (k : Nat) : CallOK Tryz.prog GL0 51 (run_OfTimes.ce k) := call_ok (F := run_OfTimes.F) (c := bodyOf Tryz.f51) (g := fun k => (run_OfTimes.ce k).fn) (by kernel_rfl) (by kernel_rfl) (by kernel_rfl) (by kernel_rfl) (fun k => env_ok TT0.ok (cl_cons (rat_Of.ok k) (cl_cons (rat_Right.ok k) (cl_cons (rat_Compare.ok k) (cl_cons (rat_Sub.ok k) cl_nil)))) CM0.ok BLD0.ok io_nil) (by kernel_rfl) (by kernel_rfl) (by kernel_rfl) run_OfTimes.ob run_OfTimes.is k
theorem gnomonref02_below.ok (k : Nat) : CallOK Tryz.prog GL0 243 (gnomonref02_below.ce) := call_ok (F := gnomonref02_below.F) (c := bodyOf Tryz.f243) (g := fun k => (gnomonref02_below.ce).fn) (by kernel_rfl) (by kernel_rfl) (by kernel_rfl) (by kernel_rfl) (fun k => env_ok TT0.ok cl_nil CM0.ok BLD0.ok io_nil) (by kernel_rfl) (by kernel_rfl) (by kernel_rfl) gnomonref02_below.ob gnomonref02_below.is k
theorem gnomonref02_minus.ok (k : Nat) : CallOK Tryz.prog GL0 290 (gnomonref02_minus.ce) := call_ok (F := gnomonref02_minus.F) (c := bodyOf Tryz.f290) (g := fun k => (gnomonref02_minus.ce).fn) (by kernel_rfl) (by kernel_rfl) (by kernel_rfl) (by kernel_rfl) (fun k => env_ok TT0.ok (cl_ext (math_bits_Sub64.ok k) cl_nil) CM0.ok BLD0.ok io_nil) (by kernel_rfl) (by kernel_rfl) (by kernel_rfl) gnomonref02_minus.ob gnomonref02_minus.is k
theorem gnomonref02_divide.ok (k : Nat) : CallOK Tryz.prog GL0 287 (gnomonref02_divide.ce k) := call_ok (F := gnomonref02_divide.F) (c := bodyOf Tryz.f287) (g := fun k => (gnomonref02_divide.ce k).fn) (by kernel_rfl) (by kernel_rfl) (by kernel_rfl) (by kernel_rfl) (fun k => env_ok TT0.ok (cl_cons (gnomonref02_below.ok k) (cl_cons (gnomonref02_minus.ok k) cl_nil)) CM0.ok BLD0.ok io_nil) (by kernel_rfl) (by kernel_rfl) (by kernel_rfl) gnomonref02_divide.ob gnomonref02_divide.is k
theorem gnomonref02_common.ok (k : Nat) : CallOK Tryz.prog GL0 240 (gnomonref02_common.ce k) := call_ok (F := gnomonref02_common.F) (c := bodyOf Tryz.f240) (g := fun k => (gnomonref02_common.ce k).fn) (by kernel_rfl) (by kernel_rfl) (by kernel_rfl) (by kernel_rfl) (fun k => env_ok TT0.ok (cl_cons (gnomonref02_divide.ok k) cl_nil) CM0.ok BLD0.ok io_nil) (by kernel_rfl) (by kernel_rfl) (by kernel_rfl) gnomonref02_common.ob gnomonref02_common.is k
theorem gnomonref02_size.ok (k : Nat) : CallOK Tryz.prog GL0 241 (gnomonref02_size.ce) := call_ok (F := gnomonref02_size.F) (c := bodyOf Tryz.f241) (g := fun k => (gnomonref02_size.ce).fn) (by kernel_rfl) (by kernel_rfl) (by kernel_rfl) (by kernel_rfl) (fun k => env_ok TT0.ok cl_nil CM0.ok BLD0.ok io_nil) (by kernel_rfl) (by kernel_rfl) (by kernel_rfl) gnomonref02_size.ob gnomonref02_size.is k
theorem gnomonref02_Right.ok (k : Nat) : CallOK Tryz.prog GL0 176 (gnomonref02_Right.ce k) := call_ok (F := gnomonref02_Right.F) (c := bodyOf Tryz.f176) (g := fun k => (gnomonref02_Right.ce k).fn) (by kernel_rfl) (by kernel_rfl) (by kernel_rfl) (by kernel_rfl) (fun k => env_ok TT0.ok (cl_cons (gnomonref02_common.ok k) (cl_cons (gnomonref02_size.ok k) cl_nil)) CM0.ok BLD0.ok io_nil) (by kernel_rfl) (by kernel_rfl) (by kernel_rfl) gnomonref02_Right.ob gnomonref02_Right.is k
theorem gnomonref02_mul.ok (k : Nat) : CallOK Tryz.prog GL0 242 (gnomonref02_mul.ce) := call_ok (F := gnomonref02_mul.F) (c := bodyOf Tryz.f242) (g := fun k => (gnomonref02_mul.ce).fn) (by kernel_rfl) (by kernel_rfl) (by kernel_rfl) (by kernel_rfl) (fun k => env_ok TT0.ok (cl_cons (math_bits_Mul64.ok k) cl_nil) CM0.ok BLD0.ok io_nil) (by kernel_rfl) (by kernel_rfl) (by kernel_rfl) gnomonref02_mul.ob gnomonref02_mul.is k
theorem gnomonref02_Compare.ok (k : Nat) : CallOK Tryz.prog GL0 177 (gnomonref02_Compare.ce k) := call_ok (F := gnomonref02_Compare.F) (c := bodyOf Tryz.f177) (g := fun k => (gnomonref02_Compare.ce k).fn) (by kernel_rfl) (by kernel_rfl) (by kernel_rfl) (by kernel_rfl) (fun k => env_ok TT0.ok (cl_cons (gnomonref02_Right.ok k) (cl_cons (gnomonref02_size.ok k) (cl_cons (gnomonref02_mul.ok k) (cl_cons (gnomonref02_below.ok k) cl_nil)))) CM0.ok BLD0.ok io_nil) (by kernel_rfl) (by kernel_rfl) (by kernel_rfl) gnomonref02_Compare.ob gnomonref02_Compare.is k
theorem gnomonref02_held.ok (k : Nat) : CallOK Tryz.prog GL0 288 (gnomonref02_held.ce k) := call_ok (F := gnomonref02_held.F) (c := bodyOf Tryz.f288) (g := fun k => (gnomonref02_held.ce k).fn) (by kernel_rfl) (by kernel_rfl) (by kernel_rfl) (by kernel_rfl) (fun k => env_ok TT0.ok (cl_cons (gnomonref02_common.ok k) (cl_cons (gnomonref02_divide.ok k) cl_nil)) CM0.ok BLD0.ok io_nil) (by kernel_rfl) (by kernel_rfl) (by kernel_rfl) gnomonref02_held.ob gnomonref02_held.is k
theorem gnomonref02_plus.ok (k : Nat) : CallOK Tryz.prog GL0 289 (gnomonref02_plus.ce) := call_ok (F := gnomonref02_plus.F) (c := bodyOf Tryz.f289) (g := fun k => (gnomonref02_plus.ce).fn) (by kernel_rfl) (by kernel_rfl) (by kernel_rfl) (by kernel_rfl) (fun k => env_ok TT0.ok (cl_ext (math_bits_Add64.ok k) cl_nil) CM0.ok BLD0.ok io_nil) (by kernel_rfl) (by kernel_rfl) (by kernel_rfl) gnomonref02_plus.ob gnomonref02_plus.is k
theorem gnomonref02_less.ok (k : Nat) : CallOK Tryz.prog GL0 244 (gnomonref02_less.ce k) := call_ok (F := gnomonref02_less.F) (c := bodyOf Tryz.f244) (g := fun k => (gnomonref02_less.ce k).fn) (by kernel_rfl) (by kernel_rfl) (by kernel_rfl) (by kernel_rfl) (fun k => env_ok TT0.ok (cl_cons (gnomonref02_size.ok k) (cl_cons (gnomonref02_mul.ok k) (cl_cons (gnomonref02_below.ok k) (cl_cons (gnomonref02_held.ok k) (cl_cons (gnomonref02_plus.ok k) (cl_cons (gnomonref02_minus.ok k) cl_nil)))))) CM0.ok BLD0.ok io_nil) (by kernel_rfl) (by kernel_rfl) (by kernel_rfl) gnomonref02_less.ob gnomonref02_less.is k
theorem gnomonref02_Sub.ok (k : Nat) : CallOK Tryz.prog GL0 178 (gnomonref02_Sub.ce k) := call_ok (F := gnomonref02_Sub.F) (c := bodyOf Tryz.f178) (g := fun k => (gnomonref02_Sub.ce k).fn) (by kernel_rfl) (by kernel_rfl) (by kernel_rfl) (by kernel_rfl) (fun k => env_ok TT0.ok (cl_cons (gnomonref02_Right.ok k) (cl_cons (gnomonref02_less.ok k) cl_nil)) CM0.ok BLD0.ok io_nil) (by kernel_rfl) (by kernel_rfl) (by kernel_rfl) gnomonref02_Sub.ob gnomonref02_Sub.is k
theorem gnomonref20_OfTimes.ok (k : Nat) : CallOK Tryz.prog GL0 52 (gnomonref20_OfTimes.ce k) := call_ok (F := gnomonref20_OfTimes.F) (c := bodyOf Tryz.f52) (g := fun k => (gnomonref20_OfTimes.ce k).fn) (by kernel_rfl) (by kernel_rfl) (by kernel_rfl) (by kernel_rfl) (fun k => env_ok TT0.ok (cl_cons (gnomonref02_Right.ok k) (cl_cons (gnomonref02_Compare.ok k) (cl_cons (gnomonref02_Sub.ok k) cl_nil))) CM0.ok BLD0.ok io_nil) (by kernel_rfl) (by kernel_rfl) (by kernel_rfl) gnomonref20_OfTimes.ob gnomonref20_OfTimes.is k
theorem run_delays.ok (k : Nat) : CallOK Tryz.prog GL0 246 (run_delays.ce k) := call_ok (F := run_delays.F) (c := bodyOf Tryz.f246) (g := fun k => (run_delays.ce k).fn) (by kernel_rfl) (by kernel_rfl) (by kernel_rfl) (by kernel_rfl) (fun k => env_ok TT0.ok cl_nil CM0.ok BLD0.ok io_nil) (by kernel_rfl) (by kernel_rfl) (by kernel_rfl) run_delays.ob run_delays.is k
theorem run_Moves.ok (k : Nat) : CallOK Tryz.prog GL0 251 (run_Moves.ce k) := call_ok (F := run_Moves.F) (c := bodyOf Tryz.f251) (g := fun k => (run_Moves.ce k).fn) (by kernel_rfl) (by kernel_rfl) (by kernel_rfl) (by kernel_rfl) (fun k => env_ok TT0.ok cl_nil CM0.ok BLD0.ok io_nil) (by kernel_rfl) (by kernel_rfl) (by kernel_rfl) run_Moves.ob run_Moves.is k
theorem run_isDelay.ok (k : Nat) : CallOK Tryz.prog GL0 249 (run_isDelay.ce k) := call_ok (F := run_isDelay.F) (c := bodyOf Tryz.f249) (g := fun k => (run_isDelay.ce k).fn) (by kernel_rfl) (by kernel_rfl) (by kernel_rfl) (by kernel_rfl) (fun k => env_ok TT0.ok (cl_cons (rat_Right.ok k) cl_nil) CM0.ok BLD0.ok io_nil) (by kernel_rfl) (by kernel_rfl) (by kernel_rfl) run_isDelay.ob run_isDelay.is k
theorem run_Right_1.ok (k : Nat) : CallOK Tryz.prog GL0 252 (run_Right_1.ce k) := call_ok (F := run_Right_1.F) (c := bodyOf Tryz.f252) (g := fun k => (run_Right_1.ce k).fn) (by kernel_rfl) (by kernel_rfl) (by kernel_rfl) (by kernel_rfl) (fun k => env_ok TT0.ok (cl_cons (run_isDelay.ok k) cl_nil) CM0.ok BLD0.ok io_nil) (by kernel_rfl) (by kernel_rfl) (by kernel_rfl) run_Right_1.ob run_Right_1.is k
theorem slices_IndexFunc_api_Rat_api_Rat_at252.ok (k : Nat) : CallOK Tryz.prog GL0 292 (slices_IndexFunc_api_Rat_api_Rat_at252.ce k) := call_ok (F := slices_IndexFunc_api_Rat_api_Rat_at252.F) (c := bodyOf Tryz.f292) (g := fun k => (slices_IndexFunc_api_Rat_api_Rat_at252.ce k).fn) (by kernel_rfl) (by kernel_rfl) (by kernel_rfl) (by kernel_rfl) (fun k => env_ok TT0.ok (cl_cons (run_Right_1.ok k) cl_nil) CM0.ok BLD0.ok io_nil) (by kernel_rfl) (by kernel_rfl) (by kernel_rfl) slices_IndexFunc_api_Rat_api_Rat_at252.ob slices_IndexFunc_api_Rat_api_Rat_at252.is k
theorem slices_ContainsFunc_api_Rat_api_Rat_at252.ok (k : Nat) : CallOK Tryz.prog GL0 247 (slices_ContainsFunc_api_Rat_api_Rat_at252.ce k) := call_ok (F := slices_ContainsFunc_api_Rat_api_Rat_at252.F) (c := bodyOf Tryz.f247) (g := fun k => (slices_ContainsFunc_api_Rat_api_Rat_at252.ce k).fn) (by kernel_rfl) (by kernel_rfl) (by kernel_rfl) (by kernel_rfl) (fun k => env_ok TT0.ok (cl_cons (slices_IndexFunc_api_Rat_api_Rat_at252.ok k) cl_nil) CM0.ok BLD0.ok io_nil) (by kernel_rfl) (by kernel_rfl) (by kernel_rfl) slices_ContainsFunc_api_Rat_api_Rat_at252.ob slices_ContainsFunc_api_Rat_api_Rat_at252.is k
theorem run_Right.ok (k : Nat) : CallOK Tryz.prog GL0 182 (run_Right.ce k) := call_ok (F := run_Right.F) (c := bodyOf Tryz.f182) (g := fun k => (run_Right.ce k).fn) (by kernel_rfl) (by kernel_rfl) (by kernel_rfl) (by kernel_rfl) (fun k => env_ok TT0.ok (cl_cons (net_Right.ok k) (cl_cons (moves_Print.ok k) (cl_cons (run_delays.ok k) (cl_cons (slices_ContainsFunc_api_Rat_api_Rat_at252.ok k) (cl_cons (run_Moves.ok k) cl_nil))))) CM0.ok BLD0.ok io_nil) (by kernel_rfl) (by kernel_rfl) (by kernel_rfl) run_Right.ob run_Right.is k
theorem strconv_FormatInt.ok (k : Nat) : CallOK Tryz.prog GL0 291 (strconv_FormatInt.ce) := call_ok (F := strconv_FormatInt.F) (c := bodyOf Tryz.f291) (g := fun k => (strconv_FormatInt.ce).fn) (by kernel_rfl) (by kernel_rfl) (by kernel_rfl) (by kernel_rfl) (fun k => env_ok TT0.ok (cl_cons (internal_strconv_FormatInt.ok k) cl_nil) CM0.ok BLD0.ok io_nil) (by kernel_rfl) (by kernel_rfl) (by kernel_rfl) strconv_FormatInt.ob strconv_FormatInt.is k
theorem rat_Print.ok (k : Nat) : CallOK Tryz.prog GL0 245 (rat_Print.ce k) := call_ok (F := rat_Print.F) (c := bodyOf Tryz.f245) (g := fun k => (rat_Print.ce k).fn) (by kernel_rfl) (by kernel_rfl) (by kernel_rfl) (by kernel_rfl) (fun k => env_ok TT0.ok (cl_cons (rat_Right.ok k) (cl_cons (strconv_FormatInt.ok k) cl_nil)) CM0.ok BLD0.ok io_nil) (by kernel_rfl) (by kernel_rfl) (by kernel_rfl) rat_Print.ob rat_Print.is k
theorem run_Print.ok (k : Nat) : CallOK Tryz.prog GL0 179 (run_Print.ce k) := call_ok (F := run_Print.F) (c := bodyOf Tryz.f179) (g := fun k => (run_Print.ce k).fn) (by kernel_rfl) (by kernel_rfl) (by kernel_rfl) (by kernel_rfl) (fun k => env_ok TT0.ok (cl_cons (moves_Print.ok k) (cl_cons (run_Right.ok k) (cl_cons (rat_Print.ok k) cl_nil))) CM0.ok BLD0.ok io_nil) (by kernel_rfl) (by kernel_rfl) (by kernel_rfl) run_Print.ob run_Print.is k
theorem gnomonlaw20_small.ok (k : Nat) : CallOK Tryz.prog GL0 180 (gnomonlaw20_small.ce) := call_ok (F := gnomonlaw20_small.F) (c := bodyOf Tryz.f180) (g := fun k => (gnomonlaw20_small.ce).fn) (by kernel_rfl) (by kernel_rfl) (by kernel_rfl) (by kernel_rfl) (fun k => env_ok TT0.ok cl_nil CM0.ok BLD0.ok io_nil) (by kernel_rfl) (by kernel_rfl) (by kernel_rfl) gnomonlaw20_small.ob gnomonlaw20_small.is k
theorem rat_Add.ok (k : Nat) : CallOK Tryz.prog GL0 250 (rat_Add.ce k) := call_ok (F := rat_Add.F) (c := bodyOf Tryz.f250) (g := fun k => (rat_Add.ce k).fn) (by kernel_rfl) (by kernel_rfl) (by kernel_rfl) (by kernel_rfl) (fun k => env_ok TT0.ok (cl_cons (rat_both.ok k) (cl_cons (rat_times.ok k) (cl_cons (rat_wide_sum.ok k) (cl_cons (rat_made.ok k) cl_nil)))) CM0.ok BLD0.ok io_nil) (by kernel_rfl) (by kernel_rfl) (by kernel_rfl) rat_Add.ob rat_Add.is k
theorem run_Times_1.ok (k : Nat) : CallOK Tryz.prog GL0 248 (run_Times_1.ce k) := call_ok (F := run_Times_1.F) (c := bodyOf Tryz.f248) (g := fun k => (run_Times_1.ce k).fn) (by kernel_rfl) (by kernel_rfl) (by kernel_rfl) (by kernel_rfl) (fun k => env_ok TT0.ok (cl_cons (run_isDelay.ok k) cl_nil) CM0.ok BLD0.ok io_nil) (by kernel_rfl) (by kernel_rfl) (by kernel_rfl) run_Times_1.ob run_Times_1.is k
theorem slices_IndexFunc_api_Rat_api_Rat_at248.ok (k : Nat) : CallOK Tryz.prog GL0 292 (slices_IndexFunc_api_Rat_api_Rat_at248.ce k) := call_ok (F := slices_IndexFunc_api_Rat_api_Rat_at248.F) (c := bodyOf Tryz.f292) (g := fun k => (slices_IndexFunc_api_Rat_api_Rat_at248.ce k).fn) (by kernel_rfl) (by kernel_rfl) (by kernel_rfl) (by kernel_rfl) (fun k => env_ok TT0.ok (cl_cons (run_Times_1.ok k) cl_nil) CM0.ok BLD0.ok io_nil) (by kernel_rfl) (by kernel_rfl) (by kernel_rfl) slices_IndexFunc_api_Rat_api_Rat_at248.ob slices_IndexFunc_api_Rat_api_Rat_at248.is k
theorem slices_ContainsFunc_api_Rat_api_Rat_at248.ok (k : Nat) : CallOK Tryz.prog GL0 247 (slices_ContainsFunc_api_Rat_api_Rat_at248.ce k) := call_ok (F := slices_ContainsFunc_api_Rat_api_Rat_at248.F) (c := bodyOf Tryz.f247) (g := fun k => (slices_ContainsFunc_api_Rat_api_Rat_at248.ce k).fn) (by kernel_rfl) (by kernel_rfl) (by kernel_rfl) (by kernel_rfl) (fun k => env_ok TT0.ok (cl_cons (slices_IndexFunc_api_Rat_api_Rat_at248.ok k) cl_nil) CM0.ok BLD0.ok io_nil) (by kernel_rfl) (by kernel_rfl) (by kernel_rfl) slices_ContainsFunc_api_Rat_api_Rat_at248.ob slices_ContainsFunc_api_Rat_api_Rat_at248.is k
theorem run_Times.ok (k : Nat) : CallOK Tryz.prog GL0 181 (run_Times.ce k) := call_ok (F := run_Times.F) (c := bodyOf Tryz.f181) (g := fun k => (run_Times.ce k).fn) (by kernel_rfl) (by kernel_rfl) (by kernel_rfl) (by kernel_rfl) (fun k => env_ok TT0.ok (cl_cons (rat_Of.ok k) (cl_cons (run_delays.ok k) (cl_cons (slices_ContainsFunc_api_Rat_api_Rat_at248.ok k) (cl_cons (rat_Add.ok k) cl_nil)))) CM0.ok BLD0.ok io_nil) (by kernel_rfl) (by kernel_rfl) (by kernel_rfl) run_Times.ob run_Times.is k
theorem gnomonlaw20_live.ok (k : Nat) : CallOK Tryz.prog GL0 53 (gnomonlaw20_live.ce k) := call_ok (F := gnomonlaw20_live.F) (c := bodyOf Tryz.f53) (g := fun k => (gnomonlaw20_live.ce k).fn) (by kernel_rfl) (by kernel_rfl) (by kernel_rfl) (by kernel_rfl) (fun k => env_ok TT0.ok (cl_cons (run_Print.ok k) (cl_cons (gnomonlaw20_small.ok k) (cl_cons (run_Times.ok k) (cl_cons (run_Right.ok k) cl_nil)))) CM0.ok BLD0.ok io_nil) (by kernel_rfl) (by kernel_rfl) (by kernel_rfl) gnomonlaw20_live.ob gnomonlaw20_live.is k
theorem gnomonmem_SameSteps.ok (k : Nat) : CallOK Tryz.prog GL0 183 (gnomonmem_SameSteps.ce k) := call_ok (F := gnomonmem_SameSteps.F) (c := bodyOf Tryz.f183) (g := fun k => (gnomonmem_SameSteps.ce k).fn) (by kernel_rfl) (by kernel_rfl) (by kernel_rfl) (by kernel_rfl) (fun k => env_ok TT0.ok cl_nil CM0.ok BLD0.ok io_nil) (by kernel_rfl) (by kernel_rfl) (by kernel_rfl) gnomonmem_SameSteps.ob gnomonmem_SameSteps.is k
theorem gnomonmem_SameRun.ok (k : Nat) : CallOK Tryz.prog GL0 54 (gnomonmem_SameRun.ce k) := call_ok (F := gnomonmem_SameRun.F) (c := bodyOf Tryz.f54) (g := fun k => (gnomonmem_SameRun.ce k).fn) (by kernel_rfl) (by kernel_rfl) (by kernel_rfl) (by kernel_rfl) (fun k => env_ok TT0.ok (cl_cons (gnomonmem_SameSteps.ok k) cl_nil) CM0.ok BLD0.ok io_nil) (by kernel_rfl) (by kernel_rfl) (by kernel_rfl) gnomonmem_SameRun.ob gnomonmem_SameRun.is k
theorem gnomonmem_KeptMoves.ok (k : Nat) : CallOK Tryz.prog GL0 55 (gnomonmem_KeptMoves.ce k) := call_ok (F := gnomonmem_KeptMoves.F) (c := bodyOf Tryz.f55) (g := fun k => (gnomonmem_KeptMoves.ce k).fn) (by kernel_rfl) (by kernel_rfl) (by kernel_rfl) (by kernel_rfl) (fun k => env_ok TT0.ok (cl_cons (gnomonmem_SameMoves.ok k) cl_nil) CM0.ok BLD0.ok io_nil) (by kernel_rfl) (by kernel_rfl) (by kernel_rfl) gnomonmem_KeptMoves.ob gnomonmem_KeptMoves.is k
theorem gnomonmem_SameRats.ok (k : Nat) : CallOK Tryz.prog GL0 184 (gnomonmem_SameRats.ce k) := call_ok (F := gnomonmem_SameRats.F) (c := bodyOf Tryz.f184) (g := fun k => (gnomonmem_SameRats.ce k).fn) (by kernel_rfl) (by kernel_rfl) (by kernel_rfl) (by kernel_rfl) (fun k => env_ok TT0.ok cl_nil CM0.ok BLD0.ok io_nil) (by kernel_rfl) (by kernel_rfl) (by kernel_rfl) gnomonmem_SameRats.ob gnomonmem_SameRats.is k
theorem gnomonmem_KeptRats.ok (k : Nat) : CallOK Tryz.prog GL0 56 (gnomonmem_KeptRats.ce k) := call_ok (F := gnomonmem_KeptRats.F) (c := bodyOf Tryz.f56) (g := fun k => (gnomonmem_KeptRats.ce k).fn) (by kernel_rfl) (by kernel_rfl) (by kernel_rfl) (by kernel_rfl) (fun k => env_ok TT0.ok (cl_cons (gnomonmem_SameRats.ok k) cl_nil) CM0.ok BLD0.ok io_nil) (by kernel_rfl) (by kernel_rfl) (by kernel_rfl) gnomonmem_KeptRats.ob gnomonmem_KeptRats.is k
theorem gnomonlaw20_RunOfTimes.ok (k : Nat) : CallOK Tryz.prog GL0 9 (gnomonlaw20_RunOfTimes.ce k) := call_ok (F := gnomonlaw20_RunOfTimes.F) (c := bodyOf Tryz.f9) (g := fun k => (gnomonlaw20_RunOfTimes.ce k).fn) (by kernel_rfl) (by kernel_rfl) (by kernel_rfl) (by kernel_rfl) (fun k => env_ok TT0.ok (cl_cons (gnomonmem_HandMoves.ok k) (cl_cons (gnomonmem_HandRats.ok k) (cl_cons (run_OfTimes.ok k) (cl_cons (gnomonref20_OfTimes.ok k) (cl_cons (gnomonlaw20_live.ok k) (cl_cons (gnomonmem_SameRun.ok k) (cl_cons (gnomonmem_KeptMoves.ok k) (cl_cons (gnomonmem_KeptRats.ok k) cl_nil)))))))) CM0.ok BLD0.ok io_nil) (by kernel_rfl) (by kernel_rfl) (by kernel_rfl) gnomonlaw20_RunOfTimes.ob gnomonlaw20_RunOfTimes.is k
end Go.Proofs.YtbjkfkifkglplaaGreatDoor.Q
