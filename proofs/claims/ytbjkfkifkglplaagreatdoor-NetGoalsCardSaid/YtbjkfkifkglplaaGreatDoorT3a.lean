/- Part of the proof: T3a. -/
import Derived.Test.YtbjkfkifkglplaaGreatDoorShelf
import Derived.Lib.AppendIntMem
import Derived.Shelf.Spec.BitsCarry
import Derived.Test.YtbjkfkifkglplaaGreatDoorBLD
import Derived.Test.YtbjkfkifkglplaaGreatDoorD4f
set_option linter.unusedSectionVars false
set_option linter.unusedSimpArgs false
set_option linter.unusedVariables false
set_option maxRecDepth 100000
namespace Go.Proofs.YtbjkfkifkglplaaGreatDoor.Q
open Go Go.Den Go.RowKit Go.Proofs
theorem cok {P : Program} {gl : GT} {f : FuncId} {fn : Func} {c : Code} {ats : List AT} {rts : List RT} {F : Fam (RT.dens rts)} (ho : Obl F c fun k => retK (F.c k) fn.results.toList rts) {g : Nat → AT.dens ats → Option (RT.dens rts)}
    (hg : ∀ k x, g k x = den F k c (startAS ats x) (retK (F.c k) fn.results.toList rts)) (hE : ∀ n, EnvOK P gl (F.c n)) (k : Nat) (hf : P.funcs[f]? = some fn := by kernel_rfl) (hb : fn.body = some c := by kernel_rfl) (hmo : P.follows .mixedOrders = true := by kernel_rfl) (hname : (fn.name == "runtime.NumGoroutine") = false := by kernel_rfl)
    (hcuts : F.cuts.all (fun p => shapeOk p.2.sh) = true := by kernel_rfl) (hc : codeOk fn.ntmps c = true := by kernel_rfl) (hats : Nat.ble ats.length fn.ntmps = true := by kernel_rfl) : CallOK P gl f ⟨ats, rts, g k⟩ :=
  call_ok F hf hb hmo hname hE hcuts hc hats ho hg k
def rd (xs : List Int) (i : Int) : Int := xs.getD i.toNat 0
@[reducible] def T296 : Ty := .prod (.int .i64) (.prod .bool (.prod .bool (.prod .str ((.int .i64)))))
abbrev S296 := Int × Bool × Bool × ByteArray × Int
abbrev S296.f0 (x : S296) : Int := x.1
abbrev S296.f1 (x : S296) : Bool := x.2.1
abbrev S296.f2 (x : S296) : Bool := x.2.2.1
abbrev S296.f3 (x : S296) : ByteArray := x.2.2.2.1
abbrev S296.f4 (x : S296) : Int := x.2.2.2.2
abbrev rd_T296 (xs : List S296) (i : Int) : S296 := rdT T296 xs i
@[reducible] def T43 : Ty := .prod (.int .i64) (.prod (.int .i64) (.prod (.int .u8) ((.int .i64))))
abbrev S43 := Int × Int × Int × Int
abbrev S43.f0 (x : S43) : Int := x.1
abbrev S43.f1 (x : S43) : Int := x.2.1
abbrev S43.f2 (x : S43) : Int := x.2.2.1
abbrev S43.f3 (x : S43) : Int := x.2.2.2
abbrev rd_T43 (xs : List S43) (i : Int) : S43 := rdT T43 xs i
@[reducible] def T151 : Ty := .prod (.int .u8) ((.int .i64))
abbrev S151 := Int × Int
abbrev S151.f0 (x : S151) : Int := x.1
abbrev S151.f1 (x : S151) : Int := x.2
abbrev rd_T151 (xs : List S151) (i : Int) : S151 := rdT T151 xs i
@[reducible] def T86 : Ty := .prod .str (.prod (.int .i64) (.prod (.int .i64) ((.int .i64))))
abbrev S86 := ByteArray × Int × Int × Int
abbrev S86.f0 (x : S86) : ByteArray := x.1
abbrev S86.f1 (x : S86) : Int := x.2.1
abbrev S86.f2 (x : S86) : Int := x.2.2.1
abbrev S86.f3 (x : S86) : Int := x.2.2.2
abbrev rd_T86 (xs : List S86) (i : Int) : S86 := rdT T86 xs i
@[reducible] def T84 : Ty := .prod .str (.prod (.int .u8) ((.list T43)))
abbrev S84 := ByteArray × Int × (List S43)
abbrev S84.f0 (x : S84) : ByteArray := x.1
abbrev S84.f1 (x : S84) : Int := x.2.1
abbrev S84.f2 (x : S84) : List S43 := x.2.2
abbrev rd_T84 (xs : List S84) (i : Int) : S84 := rdT T84 xs i
@[reducible] def T81 : Ty := .prod (.int .i64) (.prod (.int .i64) (.prod (.int .i64) ((.list T151))))
abbrev S81 := Int × Int × Int × (List S151)
abbrev S81.f0 (x : S81) : Int := x.1
abbrev S81.f1 (x : S81) : Int := x.2.1
abbrev S81.f2 (x : S81) : Int := x.2.2.1
abbrev S81.f3 (x : S81) : List S151 := x.2.2.2
abbrev rd_T81 (xs : List S81) (i : Int) : S81 := rdT T81 xs i
@[reducible] def T79 : Ty := .prod (.int .i64) (.prod (.int .i64) (.prod (.list T43) (.prod (.list T151) (.prod (.int .i64) (.prod .bool ((.list T81)))))))
abbrev S79 := Int × Int × (List S43) × (List S151) × Int × Bool × (List S81)
abbrev S79.f0 (x : S79) : Int := x.1
abbrev S79.f1 (x : S79) : Int := x.2.1
abbrev S79.f2 (x : S79) : List S43 := x.2.2.1
abbrev S79.f3 (x : S79) : List S151 := x.2.2.2.1
abbrev S79.f4 (x : S79) : Int := x.2.2.2.2.1
abbrev S79.f5 (x : S79) : Bool := x.2.2.2.2.2.1
abbrev S79.f6 (x : S79) : List S81 := x.2.2.2.2.2.2
abbrev rd_T79 (xs : List S79) (i : Int) : S79 := rdT T79 xs i
@[reducible] def T76 : Ty := .prod .str (.prod (.list T84) ((.list T79)))
abbrev S76 := ByteArray × (List S84) × (List S79)
abbrev S76.f0 (x : S76) : ByteArray := x.1
abbrev S76.f1 (x : S76) : List S84 := x.2.1
abbrev S76.f2 (x : S76) : List S79 := x.2.2
abbrev rd_T76 (xs : List S76) (i : Int) : S76 := rdT T76 xs i
@[reducible] def T26 : Ty := .prod (.list .str) (.prod (.list T86) (.prod (.list .str) ((.list T76))))
abbrev S26 := (List ByteArray) × (List S86) × (List ByteArray) × (List S76)
abbrev S26.f0 (x : S26) : List ByteArray := x.1
abbrev S26.f1 (x : S26) : List S86 := x.2.1
abbrev S26.f2 (x : S26) : List ByteArray := x.2.2.1
abbrev S26.f3 (x : S26) : List S76 := x.2.2.2
abbrev rd_T26 (xs : List S26) (i : Int) : S26 := rdT T26 xs i
@[reducible] def T10084 : Ty := .prod .str (.prod (.int .u8) ((.rl T43)))
abbrev S10084 := ByteArray × Int × (List S43 × List S43)
abbrev S10084.f0 (x : S10084) : ByteArray := x.1
abbrev S10084.f1 (x : S10084) : Int := x.2.1
abbrev S10084.f2 (x : S10084) : (List S43 × List S43) := x.2.2
abbrev rd_T10084 (xs : List S10084) (i : Int) : S10084 := rdT T10084 xs i
@[reducible] def T10081 : Ty := .prod (.int .i64) (.prod (.int .i64) (.prod (.int .i64) ((.rl T151))))
abbrev S10081 := Int × Int × Int × (List S151 × List S151)
abbrev S10081.f0 (x : S10081) : Int := x.1
abbrev S10081.f1 (x : S10081) : Int := x.2.1
abbrev S10081.f2 (x : S10081) : Int := x.2.2.1
abbrev S10081.f3 (x : S10081) : (List S151 × List S151) := x.2.2.2
abbrev rd_T10081 (xs : List S10081) (i : Int) : S10081 := rdT T10081 xs i
@[reducible] def T10079 : Ty := .prod (.int .i64) (.prod (.int .i64) (.prod (.rl T43) (.prod (.rl T151) (.prod (.int .i64) (.prod .bool ((.list T10081)))))))
abbrev S10079 := Int × Int × (List S43 × List S43) × (List S151 × List S151) × Int × Bool × (List S10081)
abbrev S10079.f0 (x : S10079) : Int := x.1
abbrev S10079.f1 (x : S10079) : Int := x.2.1
abbrev S10079.f2 (x : S10079) : (List S43 × List S43) := x.2.2.1
abbrev S10079.f3 (x : S10079) : (List S151 × List S151) := x.2.2.2.1
abbrev S10079.f4 (x : S10079) : Int := x.2.2.2.2.1
abbrev S10079.f5 (x : S10079) : Bool := x.2.2.2.2.2.1
abbrev S10079.f6 (x : S10079) : List S10081 := x.2.2.2.2.2.2
abbrev rd_T10079 (xs : List S10079) (i : Int) : S10079 := rdT T10079 xs i
@[reducible] def T10076 : Ty := .prod .str (.prod (.list T10084) ((.list T10079)))
abbrev S10076 := ByteArray × (List S10084) × (List S10079)
abbrev S10076.f0 (x : S10076) : ByteArray := x.1
abbrev S10076.f1 (x : S10076) : List S10084 := x.2.1
abbrev S10076.f2 (x : S10076) : List S10079 := x.2.2
abbrev rd_T10076 (xs : List S10076) (i : Int) : S10076 := rdT T10076 xs i
@[reducible] def T363 : Ty := .prod (.int .i64) (.prod .str (.prod (.int .i64) ((.int .i64))))
abbrev S363 := Int × ByteArray × Int × Int
abbrev S363.f0 (x : S363) : Int := x.1
abbrev S363.f1 (x : S363) : ByteArray := x.2.1
abbrev S363.f2 (x : S363) : Int := x.2.2.1
abbrev S363.f3 (x : S363) : Int := x.2.2.2
abbrev rd_T363 (xs : List S363) (i : Int) : S363 := rdT T363 xs i
@[reducible] def T10026 : Ty := .prod (.rl .str) (.prod (.list T86) (.prod (.rl .str) ((.list T10076))))
abbrev S10026 := (List ByteArray × List ByteArray) × (List S86) × (List ByteArray × List ByteArray) × (List S10076)
abbrev S10026.f0 (x : S10026) : (List ByteArray × List ByteArray) := x.1
abbrev S10026.f1 (x : S10026) : List S86 := x.2.1
abbrev S10026.f2 (x : S10026) : (List ByteArray × List ByteArray) := x.2.2.1
abbrev S10026.f3 (x : S10026) : List S10076 := x.2.2.2
abbrev rd_T10026 (xs : List S10026) (i : Int) : S10026 := rdT T10026 xs i
@[reducible] def T133 : Ty := .prod (.int .i64) ((.int .i64))
abbrev S133 := Int × Int
abbrev S133.f0 (x : S133) : Int := x.1
abbrev S133.f1 (x : S133) : Int := x.2
abbrev rd_T133 (xs : List S133) (i : Int) : S133 := rdT T133 xs i
@[reducible] def T72 : Ty := .prod (.list T133) (.prod (.list T43) ((.list T151)))
abbrev S72 := (List S133) × (List S43) × (List S151)
abbrev S72.f0 (x : S72) : List S133 := x.1
abbrev S72.f1 (x : S72) : List S43 := x.2.1
abbrev S72.f2 (x : S72) : List S151 := x.2.2
abbrev rd_T72 (xs : List S72) (i : Int) : S72 := rdT T72 xs i
@[reducible] def T10072 : Ty := .prod (.rl T133) (.prod (.rl T43) ((.rl T151)))
abbrev S10072 := (List S133 × List S133) × (List S43 × List S43) × (List S151 × List S151)
abbrev S10072.f0 (x : S10072) : (List S133 × List S133) := x.1
abbrev S10072.f1 (x : S10072) : (List S43 × List S43) := x.2.1
abbrev S10072.f2 (x : S10072) : (List S151 × List S151) := x.2.2
abbrev rd_T10072 (xs : List S10072) (i : Int) : S10072 := rdT T10072 xs i
@[reducible] def T103 : Ty := .prod (.int .i64) ((.int .i64))
abbrev S103 := Int × Int
abbrev S103.f0 (x : S103) : Int := x.1
abbrev S103.f1 (x : S103) : Int := x.2
abbrev rd_T103 (xs : List S103) (i : Int) : S103 := rdT T103 xs i
@[reducible] def T250 : Ty := .prod (.int .i64) (.prod (.int .i64) ((.int .i32)))
abbrev S250 := Int × Int × Int
abbrev S250.f0 (x : S250) : Int := x.1
abbrev S250.f1 (x : S250) : Int := x.2.1
abbrev S250.f2 (x : S250) : Int := x.2.2
abbrev rd_T250 (xs : List S250) (i : Int) : S250 := rdT T250 xs i
@[reducible] def T192 : Ty := .prod (.int .i64) (.prod (.int .i64) (.prod (.int .i64) ((.int .i64))))
abbrev S192 := Int × Int × Int × Int
abbrev S192.f0 (x : S192) : Int := x.1
abbrev S192.f1 (x : S192) : Int := x.2.1
abbrev S192.f2 (x : S192) : Int := x.2.2.1
abbrev S192.f3 (x : S192) : Int := x.2.2.2
abbrev rd_T192 (xs : List S192) (i : Int) : S192 := rdT T192 xs i
@[reducible] def T252 : Ty := .prod (.int .i64) (.prod (.int .i64) ((.int .i32)))
abbrev S252 := Int × Int × Int
abbrev S252.f0 (x : S252) : Int := x.1
abbrev S252.f1 (x : S252) : Int := x.2.1
abbrev S252.f2 (x : S252) : Int := x.2.2
abbrev rd_T252 (xs : List S252) (i : Int) : S252 := rdT T252 xs i
@[reducible] def T208 : Ty := .prod T103 (T192)
abbrev S208 := S103 × S192
abbrev S208.f0 (x : S208) : S103 := x.1
abbrev S208.f1 (x : S208) : S192 := x.2
abbrev rd_T208 (xs : List S208) (i : Int) : S208 := rdT T208 xs i
@[reducible] def T89 : Ty := .prod (.list (.int .i64)) ((.list (.int .i64)))
abbrev S89 := (List Int) × (List Int)
abbrev S89.f0 (x : S89) : List Int := x.1
abbrev S89.f1 (x : S89) : List Int := x.2
abbrev rd_T89 (xs : List S89) (i : Int) : S89 := rdT T89 xs i
@[reducible] def T257 : Ty := .prod (.int .i64) (T79)
abbrev S257 := Int × S79
abbrev S257.f0 (x : S257) : Int := x.1
abbrev S257.f1 (x : S257) : S79 := x.2
abbrev rd_T257 (xs : List S257) (i : Int) : S257 := rdT T257 xs i
@[reducible] def T308 : Ty := .prod (.int .i64) (.prod .bool (.bool))
abbrev S308 := Int × Bool × Bool
abbrev S308.f0 (x : S308) : Int := x.1
abbrev S308.f1 (x : S308) : Bool := x.2.1
abbrev S308.f2 (x : S308) : Bool := x.2.2
abbrev rd_T308 (xs : List S308) (i : Int) : S308 := rdT T308 xs i
@[reducible] def T10089 : Ty := .prod (.rl (.int .i64)) ((.rl (.int .i64)))
abbrev S10089 := (List Int × List Int) × (List Int × List Int)
abbrev S10089.f0 (x : S10089) : (List Int × List Int) := x.1
abbrev S10089.f1 (x : S10089) : (List Int × List Int) := x.2
abbrev rd_T10089 (xs : List S10089) (i : Int) : S10089 := rdT T10089 xs i
@[reducible] def T269 : Ty := .prod (.int .u64) ((.int .u64))
abbrev S269 := Int × Int
abbrev S269.f0 (x : S269) : Int := x.1
abbrev S269.f1 (x : S269) : Int := x.2
abbrev rd_T269 (xs : List S269) (i : Int) : S269 := rdT T269 xs i
@[reducible] def T271 : Ty := .prod T269 (.bool)
abbrev S271 := S269 × Bool
abbrev S271.f0 (x : S271) : S269 := x.1
abbrev S271.f1 (x : S271) : Bool := x.2
abbrev rd_T271 (xs : List S271) (i : Int) : S271 := rdT T271 xs i
@[reducible] def T105 : Ty := .prod (.list T208) (T103)
abbrev S105 := (List S208) × S103
abbrev S105.f0 (x : S105) : List S208 := x.1
abbrev S105.f1 (x : S105) : S103 := x.2
abbrev rd_T105 (xs : List S105) (i : Int) : S105 := rdT T105 xs i
@[reducible] def T277 : Ty := .prod (.int .u64) ((.int .u64))
abbrev S277 := Int × Int
abbrev S277.f0 (x : S277) : Int := x.1
abbrev S277.f1 (x : S277) : Int := x.2
abbrev rd_T277 (xs : List S277) (i : Int) : S277 := rdT T277 xs i
def wk10084 (x : S10084) : S84 := (x.f0, x.f1, x.f2.1)
def wk10081 (x : S10081) : S81 := (x.f0, x.f1, x.f2, x.f3.1)
def wk10079 (x : S10079) : S79 := (x.f0, x.f1, x.f2.1, x.f3.1, x.f4, x.f5, (List.map wk10081 x.f6))
def wk10076 (x : S10076) : S76 := (x.f0, (List.map wk10084 x.f1), (List.map wk10079 x.f2))
def wk10072 (x : S10072) : S72 := (x.f0.1, x.f1.1, x.f2.1)
@[reducible] def A2 : Ty := .alt (.fn 74 [] .bool) .fz
abbrev DA2 := Bool ⊕ Unit
@[reducible] def A3 : Ty := .alt (.fn 73 [] .bool) A2
abbrev DA3 := Bool ⊕ DA2
@[reducible] def A4 : Ty := .alt (.fn 72 [] .bool) A3
abbrev DA4 := Bool ⊕ DA3
@[reducible] def A5 : Ty := .alt (.fn 71 [] .bool) A4
abbrev DA5 := Bool ⊕ DA4
@[reducible] def A6 : Ty := .alt (.fn 70 [] .bool) A5
abbrev DA6 := Bool ⊕ DA5
@[reducible] def A7 : Ty := .alt (.fn 69 [] .bool) A6
abbrev DA7 := Bool ⊕ DA6
@[reducible] def A8 : Ty := .alt (.fn 68 [] .bool) A7
abbrev DA8 := Bool ⊕ DA7
@[reducible] def A9 : Ty := .alt (.fn 67 [] .bool) A8
abbrev DA9 := Bool ⊕ DA8
@[reducible] def A0 : Ty := .alt (.fn 66 [] .bool) A9
abbrev DA0 := Bool ⊕ DA9
@[reducible] def A10 : Ty := .alt (.fn 89 [(false, 1)] (.ref T26)) .fz
abbrev DA10 := S26 ⊕ Unit
@[reducible] def A11 : Ty := .alt (.fn 87 [] .bool) A10
abbrev DA11 := Bool ⊕ DA10
@[reducible] def A12 : Ty := .alt (.fn 85 [(false, 1)] (.ref T26)) A11
abbrev DA12 := S26 ⊕ DA11
@[reducible] def A13 : Ty := .alt (.fn 84 [(false, 1)] (.ref T26)) A12
abbrev DA13 := S26 ⊕ DA12
@[reducible] def A1 : Ty := .alt (.fn 83 [] .bool) A13
abbrev DA1 := Bool ⊕ DA13
def TT0 : TT := [(3, ⟨1, 8, [.i .i64 0], .int .i64, some (.int .i64)⟩),
  (4, ⟨1, 1, [.b false], .bool, some .bool⟩),
  (5, ⟨1, 1, [.i .u8 0], .int .u8, some (.int .u8)⟩),
  (9, ⟨1, 16, [.s ⟨#[]⟩], .str, some .str⟩),
  (22, ⟨1, 24, [.nl], .slice 9, some (.list .str)⟩),
  (23, ⟨1, 24, [.nl], .slice 86, some (.list T86)⟩),
  (24, ⟨1, 24, [.nl], .slice 76, some (.list T76)⟩),
  (26, ⟨4, 96, [.nl, .nl, .nl, .nl], .struct [(0, 22), (1, 23), (2, 22), (3, 24)], some T26⟩),
  (29, ⟨1, 8, [.i .i64 0], .int .i64, some (.int .i64)⟩),
  (30, ⟨1, 8, [.nf], .func, none⟩),
  (34, ⟨1, 24, [.nl], .slice 72, some (.list T72)⟩),
  (41, ⟨1, 1, [.i .u8 0], .int .u8, some (.int .u8)⟩),
  (43, ⟨4, 32, [.i .i64 0, .i .i64 0, .i .u8 0, .i .i64 0], .struct [(0, 3), (1, 3), (2, 41), (3, 3)], some T43⟩),
  (51, ⟨1, 24, [.nl], .slice 22, some (.list (.list .str))⟩),
  (68, ⟨1, 24, [.nl], .slice 133, some (.list T133)⟩),
  (69, ⟨1, 24, [.nl], .slice 43, some (.list T43)⟩),
  (70, ⟨1, 24, [.nl], .slice 151, some (.list T151)⟩),
  (72, ⟨3, 72, [.nl, .nl, .nl], .struct [(0, 68), (1, 69), (2, 70)], some T72⟩),
  (73, ⟨1, 24, [.nl], .slice 84, some (.list T84)⟩),
  (74, ⟨1, 24, [.nl], .slice 79, some (.list T79)⟩),
  (76, ⟨3, 64, [.s ⟨#[]⟩, .nl, .nl], .struct [(0, 9), (1, 73), (2, 74)], some T76⟩),
  (77, ⟨1, 24, [.nl], .slice 81, some (.list T81)⟩),
  (79, ⟨7, 104, [.i .i64 0, .i .i64 0, .nl, .nl, .i .i64 0, .b false, .nl], .struct [(0, 3), (1, 3), (2, 69), (3, 70), (4, 3), (5, 4), (6, 77)], some T79⟩),
  (81, ⟨4, 48, [.i .i64 0, .i .i64 0, .i .i64 0, .nl], .struct [(0, 3), (1, 3), (2, 3), (3, 70)], some T81⟩),
  (82, ⟨1, 1, [.i .u8 0], .int .u8, some (.int .u8)⟩),
  (84, ⟨3, 48, [.s ⟨#[]⟩, .i .u8 0, .nl], .struct [(0, 9), (1, 82), (2, 69)], some T84⟩),
  (86, ⟨4, 40, [.s ⟨#[]⟩, .i .i64 0, .i .i64 0, .i .i64 0], .struct [(0, 9), (1, 3), (2, 3), (3, 3)], some T86⟩),
  (120, ⟨1, 1, [.i .u8 0], .int .u8, some (.int .u8)⟩),
  (123, ⟨1, 24, [.nl], .slice 30, none⟩),
  (125, ⟨1, 24, [.nl], .slice 29, some (.list (.int .i64))⟩),
  (131, ⟨1, 8, [.nf], .func, none⟩),
  (133, ⟨2, 16, [.i .i64 0, .i .i64 0], .struct [(0, 3), (1, 3)], some T133⟩),
  (137, ⟨1, 24, [.nl], .slice 131, none⟩),
  (149, ⟨1, 1, [.i .u8 0], .int .u8, some (.int .u8)⟩),
  (151, ⟨2, 16, [.i .u8 0, .i .i64 0], .struct [(0, 149), (1, 3)], some T151⟩),
  (155, ⟨1, 24, [.nl], .slice 5, some (.list (.int .u8))⟩),
  (157, ⟨2, 32, [.np, .nl], .struct [(0, 154), (1, 155)], none⟩),
  (159, ⟨6, 128, [.np, .nl, .nl, .nl, .nl, .nl], .struct [(0, 157), (2, 26)], none⟩),
  (243, ⟨6, 96, [.s ⟨#[]⟩, .s ⟨#[]⟩, .s ⟨#[]⟩, .s ⟨#[]⟩, .s ⟨#[]⟩, .s ⟨#[]⟩], .arr 6 9, some (.prod .str (.prod .str (.prod .str (.prod .str (.prod .str .str)))))⟩),
  (291, ⟨1, 8, [.nm], .smap, none⟩),
  (296, ⟨5, 40, [.i .i64 0, .b false, .b false, .s ⟨#[]⟩, .i .i64 0], .struct [(0, 3), (1, 4), (2, 4), (3, 9), (4, 3)], some T296⟩),
  (331, ⟨1, 1, [.i .u8 0], .int .u8, some (.int .u8)⟩),
  (335, ⟨16, 256, [.s ⟨#[]⟩, .s ⟨#[]⟩, .s ⟨#[]⟩, .s ⟨#[]⟩, .s ⟨#[]⟩, .s ⟨#[]⟩, .s ⟨#[]⟩, .s ⟨#[]⟩, .s ⟨#[]⟩, .s ⟨#[]⟩, .s ⟨#[]⟩, .s ⟨#[]⟩, .s ⟨#[]⟩, .s ⟨#[]⟩, .s ⟨#[]⟩, .s ⟨#[]⟩], .arr 16 9, some (.prod .str (.prod .str (.prod .str (.prod .str (.prod .str (.prod .str (.prod .str (.prod .str (.prod .str (.prod .str (.prod .str (.prod .str (.prod .str (.prod .str (.prod .str .str)))))))))))))))⟩),
  (337, ⟨75, 600, [.i .i64 0, .b false, .b false, .s ⟨#[]⟩, .i .i64 0, .i .i64 0, .b false, .b false, .s ⟨#[]⟩, .i .i64 0, .i .i64 0, .b false, .b false, .s ⟨#[]⟩, .i .i64 0, .i .i64 0, .b false, .b false, .s ⟨#[]⟩, .i .i64 0, .i .i64 0, .b false, .b false, .s ⟨#[]⟩, .i .i64 0, .i .i64 0, .b false, .b false, .s ⟨#[]⟩, .i .i64 0, .i .i64 0, .b false, .b false, .s ⟨#[]⟩, .i .i64 0, .i .i64 0, .b false, .b false, .s ⟨#[]⟩, .i .i64 0, .i .i64 0, .b false, .b false, .s ⟨#[]⟩, .i .i64 0, .i .i64 0, .b false, .b false, .s ⟨#[]⟩, .i .i64 0, .i .i64 0, .b false, .b false, .s ⟨#[]⟩, .i .i64 0, .i .i64 0, .b false, .b false, .s ⟨#[]⟩, .i .i64 0, .i .i64 0, .b false, .b false, .s ⟨#[]⟩, .i .i64 0, .i .i64 0, .b false, .b false, .s ⟨#[]⟩, .i .i64 0, .i .i64 0, .b false, .b false, .s ⟨#[]⟩, .i .i64 0], .arr 15 296, some (.prod T296 (.prod T296 (.prod T296 (.prod T296 (.prod T296 (.prod T296 (.prod T296 (.prod T296 (.prod T296 (.prod T296 (.prod T296 (.prod T296 (.prod T296 (.prod T296 T296))))))))))))))⟩),
  (361, ⟨15, 240, [.s ⟨#[]⟩, .s ⟨#[]⟩, .s ⟨#[]⟩, .s ⟨#[]⟩, .s ⟨#[]⟩, .s ⟨#[]⟩, .s ⟨#[]⟩, .s ⟨#[]⟩, .s ⟨#[]⟩, .s ⟨#[]⟩, .s ⟨#[]⟩, .s ⟨#[]⟩, .s ⟨#[]⟩, .s ⟨#[]⟩, .s ⟨#[]⟩], .arr 15 9, some (.prod .str (.prod .str (.prod .str (.prod .str (.prod .str (.prod .str (.prod .str (.prod .str (.prod .str (.prod .str (.prod .str (.prod .str (.prod .str (.prod .str .str))))))))))))))⟩),
  (363, ⟨4, 40, [.i .i64 0, .s ⟨#[]⟩, .i .i64 0, .i .i64 0], .struct [(0, 3), (1, 9), (2, 3), (3, 3)], some T363⟩),
  (383, ⟨11, 176, [.s ⟨#[]⟩, .s ⟨#[]⟩, .s ⟨#[]⟩, .s ⟨#[]⟩, .s ⟨#[]⟩, .s ⟨#[]⟩, .s ⟨#[]⟩, .s ⟨#[]⟩, .s ⟨#[]⟩, .s ⟨#[]⟩, .s ⟨#[]⟩], .arr 11 9, some (.prod .str (.prod .str (.prod .str (.prod .str (.prod .str (.prod .str (.prod .str (.prod .str (.prod .str (.prod .str .str))))))))))⟩)]
def TT1 : TT := [(3, ⟨1, 8, [.i .i64 0], .int .i64, some (.int .i64)⟩),
  (9, ⟨1, 16, [.s ⟨#[]⟩], .str, some .str⟩),
  (22, ⟨1, 24, [.nl], .slice 9, some (.rl .str)⟩),
  (23, ⟨1, 24, [.nl], .slice 86, some (.list T86)⟩),
  (24, ⟨1, 24, [.nl], .slice 76, some (.list T10076)⟩),
  (26, ⟨4, 96, [.nl, .nl, .nl, .nl], .struct [(0, 22), (1, 23), (2, 22), (3, 24)], some T10026⟩),
  (34, ⟨1, 24, [.nl], .slice 72, some (.list T10072)⟩),
  (41, ⟨1, 1, [.i .u8 0], .int .u8, some (.int .u8)⟩),
  (43, ⟨4, 32, [.i .i64 0, .i .i64 0, .i .u8 0, .i .i64 0], .struct [(0, 3), (1, 3), (2, 41), (3, 3)], some T43⟩),
  (68, ⟨1, 24, [.nl], .slice 133, some (.rl T133)⟩),
  (69, ⟨1, 24, [.nl], .slice 43, some (.rl T43)⟩),
  (70, ⟨1, 24, [.nl], .slice 151, some (.rl T151)⟩),
  (72, ⟨3, 72, [.nl, .nl, .nl], .struct [(0, 68), (1, 69), (2, 70)], some T10072⟩),
  (73, ⟨1, 24, [.nl], .slice 84, some (.list T10084)⟩),
  (74, ⟨1, 24, [.nl], .slice 79, some (.list T10079)⟩),
  (76, ⟨3, 64, [.s ⟨#[]⟩, .nl, .nl], .struct [(0, 9), (1, 73), (2, 74)], some T10076⟩),
  (77, ⟨1, 24, [.nl], .slice 81, some (.list T10081)⟩),
  (79, ⟨7, 104, [.i .i64 0, .i .i64 0, .nl, .nl, .i .i64 0, .b false, .nl], .struct [(0, 3), (1, 3), (2, 69), (3, 70), (4, 3), (5, 4), (6, 77)], some T10079⟩),
  (81, ⟨4, 48, [.i .i64 0, .i .i64 0, .i .i64 0, .nl], .struct [(0, 3), (1, 3), (2, 3), (3, 70)], some T10081⟩),
  (84, ⟨3, 48, [.s ⟨#[]⟩, .i .u8 0, .nl], .struct [(0, 9), (1, 82), (2, 69)], some T10084⟩),
  (86, ⟨4, 40, [.s ⟨#[]⟩, .i .i64 0, .i .i64 0, .i .i64 0], .struct [(0, 9), (1, 3), (2, 3), (3, 3)], some T86⟩),
  (133, ⟨2, 16, [.i .i64 0, .i .i64 0], .struct [(0, 3), (1, 3)], some T133⟩),
  (149, ⟨1, 1, [.i .u8 0], .int .u8, some (.int .u8)⟩),
  (151, ⟨2, 16, [.i .u8 0, .i .i64 0], .struct [(0, 149), (1, 3)], some T151⟩)]
def CM0 : List (Nat × Ty) := [(43, T43), (86, T86), (133, T133), (151, T151)]
def lex_kept : List ByteArray := [(⟨#[99, 108, 111, 99, 107]⟩ : ByteArray), (⟨#[105, 110, 116]⟩ : ByteArray), (⟨#[99, 104, 97, 110]⟩ : ByteArray), (⟨#[97, 117, 116, 111]⟩ : ByteArray), (⟨#[108, 111, 99]⟩ : ByteArray), (⟨#[101, 100, 103, 101]⟩ : ByteArray), (⟨#[105, 110]⟩ : ByteArray), (⟨#[105, 110, 118]⟩ : ByteArray), (⟨#[119, 104, 101, 110]⟩ : ByteArray), (⟨#[115, 121, 110, 99]⟩ : ByteArray), (⟨#[100, 111]⟩ : ByteArray), (⟨#[117, 114, 103, 101, 110, 116]⟩ : ByteArray), (⟨#[99, 111, 109, 109, 105, 116, 116, 101, 100]⟩ : ByteArray), (⟨#[116, 114, 117, 101]⟩ : ByteArray), (⟨#[114, 101, 97, 99, 104]⟩ : ByteArray), (⟨#[110, 101, 118, 101, 114]⟩ : ByteArray)]
def expr_kinds : List S296 := [(⟨0, false, false, (⟨#[]⟩ : ByteArray), 0⟩ : S296), (⟨0, false, false, (⟨#[]⟩ : ByteArray), 9⟩ : S296), (⟨0, false, false, (⟨#[]⟩ : ByteArray), 9⟩ : S296), (⟨1, false, false, (⟨#[45]⟩ : ByteArray), 6⟩ : S296), (⟨2, false, false, (⟨#[43]⟩ : ByteArray), 4⟩ : S296), (⟨2, false, false, (⟨#[45]⟩ : ByteArray), 4⟩ : S296), (⟨2, false, false, (⟨#[42]⟩ : ByteArray), 5⟩ : S296), (⟨0, true, false, (⟨#[116, 114, 117, 101]⟩ : ByteArray), 9⟩ : S296), (⟨2, true, false, (⟨#[60]⟩ : ByteArray), 3⟩ : S296), (⟨2, true, false, (⟨#[60, 61]⟩ : ByteArray), 3⟩ : S296), (⟨2, true, false, (⟨#[61, 61]⟩ : ByteArray), 3⟩ : S296), (⟨2, true, false, (⟨#[33, 61]⟩ : ByteArray), 3⟩ : S296), (⟨1, true, true, (⟨#[33]⟩ : ByteArray), 9⟩ : S296), (⟨2, true, true, (⟨#[38, 38]⟩ : ByteArray), 2⟩ : S296), (⟨2, true, true, (⟨#[124, 124]⟩ : ByteArray), 1⟩ : S296)]
def GL0 : GT := fun g => bif Nat.beq g 0 then some (.tab .str lex_kept) else bif Nat.beq g 1 then some (.tab T296 expr_kinds) else bif Nat.beq g 3 then some (.arr .u64 Lib.pow10Tab) else none
def strconv_Itoa.f (n : Int) : Option ByteArray := if -9223372036854775808 ≤ n ∧ n ≤ 9223372036854775807 then some ⟨(Lib.itoa n).toArray⟩ else none
def strconv_Itoa.ce : CallE := ⟨[⟨false, .int .i64⟩], [⟨false, [.v .str]⟩], fun (x : Int) => strconv_Itoa.f x⟩
theorem strconv_Itoa.ok (k : Nat) : CallOK Tryz.prog GL0 112 strconv_Itoa.ce where
  there := ⟨_, Tryz.func112, by kernel_rfl, by kernel_rfl⟩
  calls := by
    intro x r hx w J args hJ hglob hargs
    have hx : strconv_Itoa.f x = some r := hx
    unfold strconv_Itoa.f at hx
    split at hx
    · rename_i hb
      cases hx
      obtain ⟨v, rfl, hv⟩ := hargs
      have hv : [v] = [Value.int .i64 x] := hv
      simp only [List.cons.injEq, and_true] at hv
      subst hv
      obtain ⟨_, e, fz, hg⟩ := hglob 3 (.arr .u64 Lib.pow10Tab) rfl
      refine (Tryz.strconv_Itoa x hb.1 hb.2 w (by unfold Lib.TabIs World.var?; rw [show Tryz.prog.globalNamed "internal/strconv.uint64pow10" = some 3 from by kernel_rfl]; simp [hg])).mono ?_
      rintro e w' ⟨rfl, k, os, rfl⟩
      exact ⟨_, rfl, Lib.below_grow _ _ (Nat.le_refl _) _ _, J, [_], [], [_], fun b h => .inl h, ⟨rfl, rfl⟩, List.nodup_nil, ⟨[_], [], _, [], rfl, rfl, rfl, rfl, rfl, rfl⟩, rfl⟩
    · cases hx
def strings_Join.f (l : List ByteArray) (sep : ByteArray) : Option ByteArray := if l.length ≤ 140737488355328 ∧ (Lib.join (l.map (·.data.toList)) sep.data.toList).length ≤ 140737488355328 then some ⟨(Lib.join (l.map (·.data.toList)) sep.data.toList).toArray⟩ else none
def strings_Join.ce : CallE := ⟨[⟨false, .list .str⟩, ⟨false, .str⟩], [⟨false, [.v .str]⟩], fun (x : List ByteArray × ByteArray) => strings_Join.f x.1 x.2⟩
theorem strings_Join.ok (k : Nat) : CallOK Tryz.prog GL0 111 strings_Join.ce where
  there := ⟨_, Tryz.func111, by kernel_rfl, by kernel_rfl⟩
  calls := by
    intro x r hx w J args hJ hglob hargs
    have hx : strings_Join.f x.1 x.2 = some r := hx
    obtain ⟨l, sep⟩ := x
    unfold strings_Join.f at hx
    split at hx
    · rename_i hb
      cases hx
      obtain ⟨v, q, rfl, hv, u, rfl, hu⟩ := hargs
      have hu : [u] = [Value.string sep] := hu
      simp only [List.cons.injEq, and_true] at hu
      subst hu
      have hv : K w J (.list .str) l [v] := hv
      obtain ⟨A, c, hv, hle, hcm, hr⟩ := hv
      simp only [List.cons.injEq, and_true] at hv
      subst hv
      have fin : ∀ (s : ByteArray) (w' : World), Below w.heap.size w w' → s = ⟨(Lib.join (l.map (·.data.toList)) sep.data.toList).toArray⟩ → ∃ v, Ending.returned (Value.string s) = .returned v ∧ Below w.heap.size w w' ∧ ResRep w.heap.size w' J [⟨false, [.v .str]⟩] (⟨(Lib.join (l.map (·.data.toList)) sep.data.toList).toArray⟩ : ByteArray) v := fun s w' hB hs => by
        subst hs
        exact ⟨_, rfl, hB, J, [_], [], [_], fun b h => .inl h, ⟨rfl, rfl⟩, List.nodup_nil, ⟨[_], [], _, [], rfl, rfl, rfl, rfl, rfl, rfl⟩, rfl⟩
      by_cases hl : l = []
      · subst hl
        refine (Tryz.strings_Join_none A c sep w).mono ?_
        rintro e w' ⟨rfl, rfl⟩
        exact fin _ _ (Below.refl _ _) rfl
      · rcases hr with hr | ⟨a, rfl, ⟨hI, hs⟩, hall⟩
        · exact absurd hr hl
        · obtain ⟨b, o, sp⟩ := a
          simp only at hs
          subst hs
          refine (Tryz.strings_Join b o c l sep w (fun j x hx => ?_) (hJ _ hI) hb.1 hle hb.2).mono ?_
          · obtain ⟨d, hd, hc⟩ := hall j x hx
            have hd : d = [Value.string x] := hd
            subst hd
            have := hc 0 _ rfl
            rw [add_add, add_mk] at this
            simpa [Ty.sz] using this
          · rintro e w' ⟨rfl, hB⟩
            exact fin _ _ hB rfl
    · cases hx
def BLD0 : Option BldC := some ⟨[(157, 0), (159, 4)], 5, 217, 116⟩
section
variable [Wr]
/-! ### 190 -/
def gm_text.f (a0 : Int) : Option ByteArray := if (⟨#[109, 97, 114, 107, 32]⟩ : ByteArray).size + (strOf ([wk .u8 (w64 (97 + (Int.tmod a0 26))), wk .u8 (w64 (97 + (Int.tmod (w64 (Int.tdiv a0 26)) 26))), wk .u8 (w64 (97 + (Int.tmod (w64 (Int.tdiv a0 676)) 26)))] : List Int)).size ≤ 9223372036854775807 then (some ((⟨#[109, 97, 114, 107, 32]⟩ : ByteArray) ++ (strOf ([wk .u8 (w64 (97 + (Int.tmod a0 26))), wk .u8 (w64 (97 + (Int.tmod (w64 (Int.tdiv a0 26)) 26))), wk .u8 (w64 (97 + (Int.tmod (w64 (Int.tdiv a0 676)) 26)))] : List Int)))) else (none)
def gm_text.ce : CallE := ⟨[⟨false, (.int .i64)⟩], [⟨false, [.v .str]⟩], fun (x : Int) => gm_text.f x⟩
def gm_text.F : Fam (RT.dens (gm_text.ce).rts) := ⟨fun k => ⟨TT0, GL0, callT [], cmpT CM0, [], BLD0, ioT []⟩, []⟩
theorem gm_text.is (k : Nat) (x : AT.dens (gm_text.ce).ats) : (gm_text.ce).fn x = den gm_text.F k (bodyOf Tryz.f190) (startAS (gm_text.ce).ats x) (retK (gm_text.F.c k) Tryz.f190.results.toList (gm_text.ce).rts) := by kernel_rfl
theorem gm_text.ob : Obl gm_text.F (bodyOf Tryz.f190) (fun k => retK (gm_text.F.c k) Tryz.f190.results.toList (gm_text.ce).rts) := obl_of (by kernel_rfl)
/-! ### 61 -/
mutual
def gm_HandTexts.l0 : Nat → (List ByteArray) → (List ByteArray) → Int → Option (List ByteArray × List ByteArray)
 | 0, _, _, _ => none
 | k + 1, x0, x3, x4 => if x4 < (x0.length : Int) then (if 0 ≤ x4 then (if x4 < (x0.length : Int) then (if 0 ≤ x4 then (if x4 < (x3.length : Int) then (gm_HandTexts.l0 k x0 (x3.set (Int.toNat (x4)) (rdT .str x0 x4)) (w64 (x4 + 1))) else (none)) else (none)) else (none)) else (none)) else (gm_HandTexts.l1 k x0 x3 (x0.length : Int))
def gm_HandTexts.l1 : Nat → (List ByteArray) → (List ByteArray) → Int → Option (List ByteArray × List ByteArray)
 | 0, _, _, _ => none
 | k + 1, x0, x3, x5 => if x5 < (x3.length : Int) then ((gm_text.f (w64 ((w64 (700 + x5)) - (x0.length : Int)))).bind fun t1 => (if 0 ≤ x5 then (if x5 < (x3.length : Int) then (gm_HandTexts.l1 k x0 (x3.set (Int.toNat (x5)) t1) (w64 (x5 + 1))) else (none)) else (none))) else (if 0 ≤ (x0.length : Int) then (if (x0.length : Int) ≤ (x3.length : Int) then (some (List.take (Int.toNat ((x0.length : Int))) x3, List.drop (Int.toNat ((x0.length : Int))) x3)) else (none)) else (none))
end
def gm_HandTexts.f (k : Nat) (a0 : List ByteArray) : Option (List ByteArray × List ByteArray) := if 0 ≤ w64 ((a0.length : Int) + 9) then (if w64 ((a0.length : Int) + 9) ≤ 8796093022208 then (gm_HandTexts.l0 k a0 (List.replicate (Int.toNat (w64 ((a0.length : Int) + 9))) (⟨#[]⟩ : ByteArray)) 0) else (none)) else (none)
def gm_HandTexts.ce (k : Nat) : CallE := ⟨[⟨false, (.list .str)⟩], [⟨false, [.v (.rl .str)]⟩], fun (x : (List ByteArray)) => gm_HandTexts.f k x⟩
def gm_HandTexts.F : Fam (RT.dens (gm_HandTexts.ce 0).rts) := ⟨fun k => ⟨TT1, GL0, callT [(190, [], gm_text.ce)], cmpT CM0, [1000043], BLD0, ioT []⟩, [(4, ⟨⟨[(0, .v false (.list .str)), (3, .o 9 .str), (4, .v false (.int .i64))], []⟩, fun k s => gm_HandTexts.l0 k s.1.1 s.1.2.1 s.1.2.2.1⟩), (8, ⟨⟨[(0, .v false (.list .str)), (3, .o 9 .str), (5, .v false (.int .i64))], []⟩, fun k s => gm_HandTexts.l1 k s.1.1 s.1.2.1 s.1.2.2.1⟩)]⟩
theorem gm_HandTexts.is (k : Nat) (x : AT.dens (gm_HandTexts.ce 0).ats) : (gm_HandTexts.ce k).fn x = den gm_HandTexts.F k (bodyOf Tryz.f61) (startAS (gm_HandTexts.ce 0).ats x) (retK (gm_HandTexts.F.c k) Tryz.f61.results.toList (gm_HandTexts.ce 0).rts) := by kernel_rfl
theorem gm_HandTexts.ob : Obl gm_HandTexts.F (bodyOf Tryz.f61) (fun k => retK (gm_HandTexts.F.c k) Tryz.f61.results.toList (gm_HandTexts.ce 0).rts) := obl_of (by kernel_rfl)
/-! ### 62 -/
mutual
def gm_HandGuards.l0 : Nat → (List S43) → (List S43) → Int → Option (List S43 × List S43)
 | 0, _, _, _ => none
 | k + 1, x0, x3, x4 => if x4 < (x0.length : Int) then (if 0 ≤ x4 then (if x4 < (x0.length : Int) then (if 0 ≤ x4 then (if x4 < (x3.length : Int) then (gm_HandGuards.l0 k x0 (x3.set (Int.toNat (x4)) (rd_T43 x0 x4)) (w64 (x4 + 1))) else (none)) else (none)) else (none)) else (none)) else (gm_HandGuards.l1 k x0 x3 (x0.length : Int))
def gm_HandGuards.l1 : Nat → (List S43) → (List S43) → Int → Option (List S43 × List S43)
 | 0, _, _, _ => none
 | k + 1, x0, x3, x5 => if x5 < (x3.length : Int) then (if 0 ≤ x5 then (if x5 < (x3.length : Int) then (gm_HandGuards.l1 k x0 (x3.set (Int.toNat (x5)) (⟨0, 0, 0, w64 ((w64 ((-700) - x5)) + (x0.length : Int))⟩ : S43)) (w64 (x5 + 1))) else (none)) else (none)) else (if 0 ≤ (x0.length : Int) then (if (x0.length : Int) ≤ (x3.length : Int) then (some (List.take (Int.toNat ((x0.length : Int))) x3, List.drop (Int.toNat ((x0.length : Int))) x3)) else (none)) else (none))
end
def gm_HandGuards.f (k : Nat) (a0 : List S43) : Option (List S43 × List S43) := if 0 ≤ w64 ((a0.length : Int) + 9) then (if w64 ((a0.length : Int) + 9) ≤ 4398046511104 then (gm_HandGuards.l0 k a0 (List.replicate (Int.toNat (w64 ((a0.length : Int) + 9))) (⟨0, 0, 0, 0⟩ : S43)) 0) else (none)) else (none)
def gm_HandGuards.ce (k : Nat) : CallE := ⟨[⟨false, (.list T43)⟩], [⟨false, [.v (.rl T43)]⟩], fun (x : (List S43)) => gm_HandGuards.f k x⟩
def gm_HandGuards.F : Fam (RT.dens (gm_HandGuards.ce 0).rts) := ⟨fun k => ⟨TT1, GL0, callT [], cmpT CM0, [1000043], BLD0, ioT []⟩, [(4, ⟨⟨[(0, .v false (.list T43)), (3, .o 43 T43), (4, .v false (.int .i64))], []⟩, fun k s => gm_HandGuards.l0 k s.1.1 s.1.2.1 s.1.2.2.1⟩), (8, ⟨⟨[(0, .v false (.list T43)), (3, .o 43 T43), (5, .v false (.int .i64))], []⟩, fun k s => gm_HandGuards.l1 k s.1.1 s.1.2.1 s.1.2.2.1⟩)]⟩
theorem gm_HandGuards.is (k : Nat) (x : AT.dens (gm_HandGuards.ce 0).ats) : (gm_HandGuards.ce k).fn x = den gm_HandGuards.F k (bodyOf Tryz.f62) (startAS (gm_HandGuards.ce 0).ats x) (retK (gm_HandGuards.F.c k) Tryz.f62.results.toList (gm_HandGuards.ce 0).rts) := by kernel_rfl
theorem gm_HandGuards.ob : Obl gm_HandGuards.F (bodyOf Tryz.f62) (fun k => retK (gm_HandGuards.F.c k) Tryz.f62.results.toList (gm_HandGuards.ce 0).rts) := obl_of (by kernel_rfl)
/-! ### 63 -/
mutual
def gm_HandNodes.l0 : Nat → (List S151) → (List S151) → Int → Option (List S151 × List S151)
 | 0, _, _, _ => none
 | k + 1, x0, x3, x4 => if x4 < (x0.length : Int) then (if 0 ≤ x4 then (if x4 < (x0.length : Int) then (if 0 ≤ x4 then (if x4 < (x3.length : Int) then (gm_HandNodes.l0 k x0 (x3.set (Int.toNat (x4)) (rd_T151 x0 x4)) (w64 (x4 + 1))) else (none)) else (none)) else (none)) else (none)) else (gm_HandNodes.l1 k x0 x3 (x0.length : Int))
def gm_HandNodes.l1 : Nat → (List S151) → (List S151) → Int → Option (List S151 × List S151)
 | 0, _, _, _ => none
 | k + 1, x0, x3, x5 => if x5 < (x3.length : Int) then (if 0 ≤ x5 then (if x5 < (x3.length : Int) then (gm_HandNodes.l1 k x0 (x3.set (Int.toNat (x5)) (⟨0, w64 ((w64 ((-700) - x5)) + (x0.length : Int))⟩ : S151)) (w64 (x5 + 1))) else (none)) else (none)) else (if 0 ≤ (x0.length : Int) then (if (x0.length : Int) ≤ (x3.length : Int) then (some (List.take (Int.toNat ((x0.length : Int))) x3, List.drop (Int.toNat ((x0.length : Int))) x3)) else (none)) else (none))
end
def gm_HandNodes.f (k : Nat) (a0 : List S151) : Option (List S151 × List S151) := if 0 ≤ w64 ((a0.length : Int) + 9) then (if w64 ((a0.length : Int) + 9) ≤ 8796093022208 then (gm_HandNodes.l0 k a0 (List.replicate (Int.toNat (w64 ((a0.length : Int) + 9))) (⟨0, 0⟩ : S151)) 0) else (none)) else (none)
def gm_HandNodes.ce (k : Nat) : CallE := ⟨[⟨false, (.list T151)⟩], [⟨false, [.v (.rl T151)]⟩], fun (x : (List S151)) => gm_HandNodes.f k x⟩
def gm_HandNodes.F : Fam (RT.dens (gm_HandNodes.ce 0).rts) := ⟨fun k => ⟨TT1, GL0, callT [], cmpT CM0, [1000043], BLD0, ioT []⟩, [(4, ⟨⟨[(0, .v false (.list T151)), (3, .o 151 T151), (4, .v false (.int .i64))], []⟩, fun k s => gm_HandNodes.l0 k s.1.1 s.1.2.1 s.1.2.2.1⟩), (8, ⟨⟨[(0, .v false (.list T151)), (3, .o 151 T151), (5, .v false (.int .i64))], []⟩, fun k s => gm_HandNodes.l1 k s.1.1 s.1.2.1 s.1.2.2.1⟩)]⟩
theorem gm_HandNodes.is (k : Nat) (x : AT.dens (gm_HandNodes.ce 0).ats) : (gm_HandNodes.ce k).fn x = den gm_HandNodes.F k (bodyOf Tryz.f63) (startAS (gm_HandNodes.ce 0).ats x) (retK (gm_HandNodes.F.c k) Tryz.f63.results.toList (gm_HandNodes.ce 0).rts) := by kernel_rfl
theorem gm_HandNodes.ob : Obl gm_HandNodes.F (bodyOf Tryz.f63) (fun k => retK (gm_HandNodes.F.c k) Tryz.f63.results.toList (gm_HandNodes.ce 0).rts) := obl_of (by kernel_rfl)
/-! ### 12 -/
mutual
def gm_HandNet.l0 : Nat → Int → (List ByteArray) → (List S86) → (List ByteArray) → (List S76) → (List ByteArray) → (List S86) → (List ByteArray) → (List S10076) → (List ByteArray × List ByteArray) → (List S86) → (List ByteArray × List ByteArray) → (List S10076) → Option ((List ByteArray × List ByteArray) × (List S86) × (List ByteArray × List ByteArray) × (List S10076))
 | 0, _, _, _, _, _, _, _, _, _, _, _, _, _ => none
 | k + 1, x4, x1_0, x1_1, x1_2, x1_3, x2_0, x2_1, x2_2, x2_3, x3_0, x3_1, x3_2, x3_3 => if x4 < (x1_3.length : Int) then (if 0 ≤ x4 then (if x4 < (x1_3.length : Int) then (gm_HandNet.l1 k x4 0 x1_0 x1_1 x1_2 x1_3 x2_0 x2_1 x2_2 x2_3 x3_0 x3_1 x3_2 x3_3 ((rd_T76 x1_3 x4).f0) ([] : List S10084) ([] : List S10079)) else (none)) else (none)) else (some (x3_0, x3_1, x3_2, x3_3))
def gm_HandNet.l1 : Nat → Int → Int → (List ByteArray) → (List S86) → (List ByteArray) → (List S76) → (List ByteArray) → (List S86) → (List ByteArray) → (List S10076) → (List ByteArray × List ByteArray) → (List S86) → (List ByteArray × List ByteArray) → (List S10076) → ByteArray → (List S10084) → (List S10079) → Option ((List ByteArray × List ByteArray) × (List S86) × (List ByteArray × List ByteArray) × (List S10076))
 | 0, _, _, _, _, _, _, _, _, _, _, _, _, _, _, _, _, _ => none
 | k + 1, x4, x6, x1_0, x1_1, x1_2, x1_3, x2_0, x2_1, x2_2, x2_3, x3_0, x3_1, x3_2, x3_3, x5_0, x5_1, x5_2 => if 0 ≤ x4 then (if x4 < (x1_3.length : Int) then (if x6 < (((rd_T76 x1_3 x4).f1).length : Int) then (if 0 ≤ x4 then (if x4 < (x1_3.length : Int) then (if 0 ≤ x6 then (if x6 < (((rd_T76 x1_3 x4).f1).length : Int) then ((gm_HandGuards.f k ((rd_T84 ((rd_T76 x1_3 x4).f1) x6).f2)).bind fun t3 => (if x5_1.length < 2932031007402 then (gm_HandNet.l1 k x4 (w64 (x6 + 1)) x1_0 x1_1 x1_2 x1_3 x2_0 x2_1 x2_2 x2_3 x3_0 x3_1 x3_2 x3_3 x5_0 (x5_1 ++ [(⟨(rd_T84 ((rd_T76 x1_3 x4).f1) x6).f0, (rd_T84 ((rd_T76 x1_3 x4).f1) x6).f1, t3⟩ : S10084)]) x5_2) else (none))) else (none)) else (none)) else (none)) else (none)) else (gm_HandNet.l2 k x4 0 x1_0 x1_1 x1_2 x1_3 x2_0 x2_1 x2_2 x2_3 x3_0 x3_1 x3_2 x3_3 x5_0 x5_1 x5_2)) else (none)) else (none)
def gm_HandNet.l2 : Nat → Int → Int → (List ByteArray) → (List S86) → (List ByteArray) → (List S76) → (List ByteArray) → (List S86) → (List ByteArray) → (List S10076) → (List ByteArray × List ByteArray) → (List S86) → (List ByteArray × List ByteArray) → (List S10076) → ByteArray → (List S10084) → (List S10079) → Option ((List ByteArray × List ByteArray) × (List S86) × (List ByteArray × List ByteArray) × (List S10076))
 | 0, _, _, _, _, _, _, _, _, _, _, _, _, _, _, _, _, _ => none
 | k + 1, x4, x8, x1_0, x1_1, x1_2, x1_3, x2_0, x2_1, x2_2, x2_3, x3_0, x3_1, x3_2, x3_3, x5_0, x5_1, x5_2 => if 0 ≤ x4 then (if x4 < (x1_3.length : Int) then (if x8 < (((rd_T76 x1_3 x4).f2).length : Int) then (if 0 ≤ x4 then (if x4 < (x1_3.length : Int) then (if 0 ≤ x8 then (if x8 < (((rd_T76 x1_3 x4).f2).length : Int) then ((gm_HandGuards.f k ((rd_T79 ((rd_T76 x1_3 x4).f2) x8).f2)).bind fun t4 => ((gm_HandNodes.f k ((rd_T79 ((rd_T76 x1_3 x4).f2) x8).f3)).bind fun t5 => (gm_HandNet.l3 k x4 x8 ([] : List S10081) 0 x1_0 x1_1 x1_2 x1_3 x2_0 x2_1 x2_2 x2_3 x3_0 x3_1 x3_2 x3_3 x5_0 x5_1 x5_2 ((rd_T79 ((rd_T76 x1_3 x4).f2) x8).f0) ((rd_T79 ((rd_T76 x1_3 x4).f2) x8).f1) t4 t5 ((rd_T79 ((rd_T76 x1_3 x4).f2) x8).f4) ((rd_T79 ((rd_T76 x1_3 x4).f2) x8).f5) ((rd_T79 ((rd_T76 x1_3 x4).f2) x8).f6)))) else (none)) else (none)) else (none)) else (none)) else (if x3_3.length < 2199023255552 then (gm_HandNet.l0 k (w64 (x4 + 1)) x1_0 x1_1 x1_2 x1_3 x2_0 x2_1 x2_2 x2_3 x3_0 x3_1 x3_2 (x3_3 ++ [(⟨x5_0, x5_1, x5_2⟩ : S10076)])) else (none))) else (none)) else (none)
def gm_HandNet.l3 : Nat → Int → Int → (List S10081) → Int → (List ByteArray) → (List S86) → (List ByteArray) → (List S76) → (List ByteArray) → (List S86) → (List ByteArray) → (List S10076) → (List ByteArray × List ByteArray) → (List S86) → (List ByteArray × List ByteArray) → (List S10076) → ByteArray → (List S10084) → (List S10079) → Int → Int → (List S43 × List S43) → (List S151 × List S151) → Int → Bool → (List S81) → Option ((List ByteArray × List ByteArray) × (List S86) × (List ByteArray × List ByteArray) × (List S10076))
 | 0, _, _, _, _, _, _, _, _, _, _, _, _, _, _, _, _, _, _, _, _, _, _, _, _, _, _ => none
 | k + 1, x4, x8, x10, x11, x1_0, x1_1, x1_2, x1_3, x2_0, x2_1, x2_2, x2_3, x3_0, x3_1, x3_2, x3_3, x5_0, x5_1, x5_2, x9_0, x9_1, x9_2, x9_3, x9_4, x9_5, x9_6 => if x11 < (x9_6.length : Int) then (if 0 ≤ x11 then (if x11 < (x9_6.length : Int) then ((gm_HandNodes.f k ((rd_T81 x9_6 x11).f3)).bind fun t6 => (if x10.length < 2932031007402 then (gm_HandNet.l3 k x4 x8 (x10 ++ [(⟨(rd_T81 x9_6 x11).f0, (rd_T81 x9_6 x11).f1, (rd_T81 x9_6 x11).f2, t6⟩ : S10081)]) (w64 (x11 + 1)) x1_0 x1_1 x1_2 x1_3 x2_0 x2_1 x2_2 x2_3 x3_0 x3_1 x3_2 x3_3 x5_0 x5_1 x5_2 x9_0 x9_1 x9_2 x9_3 x9_4 x9_5 x9_6) else (none))) else (none)) else (none)) else (if x5_2.length < 1353245080339 then (gm_HandNet.l2 k x4 (w64 (x8 + 1)) x1_0 x1_1 x1_2 x1_3 x2_0 x2_1 x2_2 x2_3 x3_0 x3_1 x3_2 x3_3 x5_0 x5_1 (x5_2 ++ [(⟨x9_0, x9_1, x9_2, x9_3, x9_4, x9_5, x10⟩ : S10079)])) else (none))
end
def gm_HandNet.f (k : Nat) (l0_0 : List ByteArray) (l0_1 : List S86) (l0_2 : List ByteArray) (l0_3 : List S76) : Option ((List ByteArray × List ByteArray) × (List S86) × (List ByteArray × List ByteArray) × (List S10076)) := (gm_HandTexts.f k l0_0).bind fun t1 => ((gm_HandTexts.f k l0_2).bind fun t2 => (if l0_1.length ≤ 3518437208883 then (gm_HandNet.l0 k 0 l0_0 l0_1 l0_2 l0_3 ([] : List ByteArray) ([] : List S86) ([] : List ByteArray) ([] : List S10076) t1 l0_1 t2 ([] : List S10076)) else (none)))
def gm_HandNet.ce (k : Nat) : CallE := ⟨[⟨true, T26⟩], [⟨true, [.v (.rl .str), .v (.list T86), .v (.rl .str), .v (.list T10076)]⟩], fun (x : S26) => gm_HandNet.f k x.f0 x.f1 x.f2 x.f3⟩
def gm_HandNet.F : Fam (RT.dens (gm_HandNet.ce 0).rts) := ⟨fun k => ⟨TT1, GL0, callT [(61, [], gm_HandTexts.ce k), (62, [], gm_HandGuards.ce k), (63, [], gm_HandNodes.ce k)], cmpT CM0, [], BLD0, ioT []⟩, [(5, ⟨⟨[(1, .k (.ptr 64 0)), (2, .k (.ptr 128 0)), (3, .k (.ptr 192 0)), (4, .v false (.int .i64))], [(64, [.v (.list .str), .v (.list T86), .v (.list .str), .v (.list T76)]), (128, [.o 9 .str, .o 86 T86, .o 9 .str, .o 76 T10076]), (192, [.v (.rl .str), .o 86 T86, .v (.rl .str), .o 76 T10076])]⟩, fun k s => gm_HandNet.l0 k s.1.1 s.2.1.1 s.2.1.2.1 s.2.1.2.2.1 s.2.1.2.2.2.1 s.2.2.1.1 s.2.2.1.2.1 s.2.2.1.2.2.1 s.2.2.1.2.2.2.1 s.2.2.2.1.1 s.2.2.2.1.2.1 s.2.2.2.1.2.2.1 s.2.2.2.1.2.2.2.1⟩), (9, ⟨⟨[(1, .k (.ptr 64 0)), (2, .k (.ptr 128 0)), (3, .k (.ptr 192 0)), (4, .v false (.int .i64)), (5, .k (.ptr 320 0)), (6, .v false (.int .i64))], [(64, [.v (.list .str), .v (.list T86), .v (.list .str), .v (.list T76)]), (128, [.o 9 .str, .o 86 T86, .o 9 .str, .o 76 T10076]), (192, [.v (.rl .str), .o 86 T86, .v (.rl .str), .o 76 T10076]), (320, [.v .str, .o 84 T10084, .o 79 T10079])]⟩, fun k s => gm_HandNet.l1 k s.1.1 s.1.2.1 s.2.1.1 s.2.1.2.1 s.2.1.2.2.1 s.2.1.2.2.2.1 s.2.2.1.1 s.2.2.1.2.1 s.2.2.1.2.2.1 s.2.2.1.2.2.2.1 s.2.2.2.1.1 s.2.2.2.1.2.1 s.2.2.2.1.2.2.1 s.2.2.2.1.2.2.2.1 s.2.2.2.2.1.1 s.2.2.2.2.1.2.1 s.2.2.2.2.1.2.2.1⟩), (15, ⟨⟨[(1, .k (.ptr 64 0)), (2, .k (.ptr 128 0)), (3, .k (.ptr 192 0)), (4, .v false (.int .i64)), (5, .k (.ptr 320 0)), (8, .v false (.int .i64))], [(64, [.v (.list .str), .v (.list T86), .v (.list .str), .v (.list T76)]), (128, [.o 9 .str, .o 86 T86, .o 9 .str, .o 76 T10076]), (192, [.v (.rl .str), .o 86 T86, .v (.rl .str), .o 76 T10076]), (320, [.v .str, .o 84 T10084, .o 79 T10079])]⟩, fun k s => gm_HandNet.l2 k s.1.1 s.1.2.1 s.2.1.1 s.2.1.2.1 s.2.1.2.2.1 s.2.1.2.2.2.1 s.2.2.1.1 s.2.2.1.2.1 s.2.2.1.2.2.1 s.2.2.1.2.2.2.1 s.2.2.2.1.1 s.2.2.2.1.2.1 s.2.2.2.1.2.2.1 s.2.2.2.1.2.2.2.1 s.2.2.2.2.1.1 s.2.2.2.2.1.2.1 s.2.2.2.2.1.2.2.1⟩), (22, ⟨⟨[(1, .k (.ptr 64 0)), (2, .k (.ptr 128 0)), (3, .k (.ptr 192 0)), (4, .v false (.int .i64)), (5, .k (.ptr 320 0)), (8, .v false (.int .i64)), (9, .k (.ptr 576 0)), (10, .o 81 T10081), (11, .v false (.int .i64))], [(64, [.v (.list .str), .v (.list T86), .v (.list .str), .v (.list T76)]), (128, [.o 9 .str, .o 86 T86, .o 9 .str, .o 76 T10076]), (192, [.v (.rl .str), .o 86 T86, .v (.rl .str), .o 76 T10076]), (320, [.v .str, .o 84 T10084, .o 79 T10079]), (576, [.v (.int .i64), .v (.int .i64), .v (.rl T43), .v (.rl T151), .v (.int .i64), .v .bool, .v (.list T81)])]⟩, fun k s => gm_HandNet.l3 k s.1.1 s.1.2.1 s.1.2.2.1 s.1.2.2.2.1 s.2.1.1 s.2.1.2.1 s.2.1.2.2.1 s.2.1.2.2.2.1 s.2.2.1.1 s.2.2.1.2.1 s.2.2.1.2.2.1 s.2.2.1.2.2.2.1 s.2.2.2.1.1 s.2.2.2.1.2.1 s.2.2.2.1.2.2.1 s.2.2.2.1.2.2.2.1 s.2.2.2.2.1.1 s.2.2.2.2.1.2.1 s.2.2.2.2.1.2.2.1 s.2.2.2.2.2.1.1 s.2.2.2.2.2.1.2.1 s.2.2.2.2.2.1.2.2.1 s.2.2.2.2.2.1.2.2.2.1 s.2.2.2.2.2.1.2.2.2.2.1 s.2.2.2.2.2.1.2.2.2.2.2.1 s.2.2.2.2.2.1.2.2.2.2.2.2.1⟩)]⟩
theorem gm_HandNet.is (k : Nat) (x : AT.dens (gm_HandNet.ce 0).ats) : (gm_HandNet.ce k).fn x = den gm_HandNet.F k (bodyOf Tryz.f12) (startAS (gm_HandNet.ce 0).ats x) (retK (gm_HandNet.F.c k) Tryz.f12.results.toList (gm_HandNet.ce 0).rts) := by kernel_rfl
theorem gm_HandNet.ob : Obl gm_HandNet.F (bodyOf Tryz.f12) (fun k => retK (gm_HandNet.F.c k) Tryz.f12.results.toList (gm_HandNet.ce 0).rts) := obl_of (by kernel_rfl)
/-! ### 196 -/
def net_some_1.f (l0_0 : ByteArray) (l0_1 : List S84) (l0_2 : List S79) : Option Bool := (some (decide ((l0_1.length : Int) = 0)))
def net_some_1.ce : CallE := ⟨[⟨true, T76⟩], [⟨false, [.v .bool]⟩], fun (x : S76) => net_some_1.f x.f0 x.f1 x.f2⟩
def net_some_1.F : Fam (RT.dens (net_some_1.ce).rts) := ⟨fun k => ⟨TT0, GL0, callT [], cmpT CM0, [], BLD0, ioT []⟩, []⟩
theorem net_some_1.is (k : Nat) (x : AT.dens (net_some_1.ce).ats) : (net_some_1.ce).fn x = den net_some_1.F k (bodyOf Tryz.f196) (startAS (net_some_1.ce).ats x) (retK (net_some_1.F.c k) Tryz.f196.results.toList (net_some_1.ce).rts) := by kernel_rfl
theorem net_some_1.ob : Obl net_some_1.F (bodyOf Tryz.f196) (fun k => retK (net_some_1.F.c k) Tryz.f196.results.toList (net_some_1.ce).rts) := obl_of (by kernel_rfl)
/-! ### 193 -/
def slX.l0 : Nat → (List S76) → Bool → Int → Int → Option Int
 | 0, _, _, _, _ => none
 | k + 1, x0, x1, x7, x8 => if x8 < x7 then (if 0 ≤ x8 then (if x8 < (x0.length : Int) then ((net_some_1.f ((rd_T76 x0 x8).f0) ((rd_T76 x0 x8).f1) ((rd_T76 x0 x8).f2)).bind fun t1 => (if t1 = true then (some x8) else (slX.l0 k x0 x1 x7 (w64 (x8 + 1))))) else (none)) else (none)) else (some (-1))
def slX.f (k : Nat) (a0 : List S76) (a1 : Bool) : Option Int := slX.l0 k a0 a1 (a0.length : Int) 0
def slX.ce (k : Nat) : CallE := ⟨[⟨false, (.list T76)⟩, ⟨false, (.fn 196 [] .bool)⟩], [⟨false, [.v (.int .i64)]⟩], fun (x : (List S76) × Bool) => slX.f k x.1 x.2⟩
def slX.F : Fam (RT.dens (slX.ce 0).rts) := ⟨fun k => ⟨TT0, GL0, callT [(196, [], net_some_1.ce)], cmpT CM0, [], BLD0, ioT []⟩, [(3, ⟨⟨[(0, .v false (.list T76)), (1, .v false (.fn 196 [] .bool)), (7, .v false (.int .i64)), (8, .v false (.int .i64))], []⟩, fun k s => slX.l0 k s.1.1 s.1.2.1 s.1.2.2.1 s.1.2.2.2.1⟩)]⟩
theorem slX.is (k : Nat) (x : AT.dens (slX.ce 0).ats) : (slX.ce k).fn x = den slX.F k (bodyOf Tryz.f193) (startAS (slX.ce 0).ats x) (retK (slX.F.c k) Tryz.f193.results.toList (slX.ce 0).rts) := by kernel_rfl
theorem slX.ob : Obl slX.F (bodyOf Tryz.f193) (fun k => retK (slX.F.c k) Tryz.f193.results.toList (slX.ce 0).rts) := obl_of (by kernel_rfl)
/-! ### 195 -/
def slY.f (k : Nat) (a0 : List S76) (a1 : Bool) : Option Bool := (slX.f k a0 a1).bind fun t1 => (some (decide (t1 ≥ 0)))
def slY.ce (k : Nat) : CallE := ⟨[⟨false, (.list T76)⟩, ⟨false, (.fn 196 [] .bool)⟩], [⟨false, [.v .bool]⟩], fun (x : (List S76) × Bool) => slY.f k x.1 x.2⟩
def slY.F : Fam (RT.dens (slY.ce 0).rts) := ⟨fun k => ⟨TT0, GL0, callT [(193, [196], slX.ce k)], cmpT CM0, [], BLD0, ioT []⟩, []⟩
theorem slY.is (k : Nat) (x : AT.dens (slY.ce 0).ats) : (slY.ce k).fn x = den slY.F k (bodyOf Tryz.f195) (startAS (slY.ce 0).ats x) (retK (slY.F.c k) Tryz.f195.results.toList (slY.ce 0).rts) := by kernel_rfl
theorem slY.ob : Obl slY.F (bodyOf Tryz.f195) (fun k => retK (slY.F.c k) Tryz.f195.results.toList (slY.ce 0).rts) := obl_of (by kernel_rfl)
/-! ### 66 -/
def net_some.f (k : Nat) (l0_0 : List ByteArray) (l0_1 : List S86) (l0_2 : List ByteArray) (l0_3 : List S76) : Option Int := if (l0_3.length : Int) = 0 then (some 2) else ((slY.f k l0_3 false).bind fun t1 => (if t1 = true then (some 2) else (some 0)))
def net_some.ce (k : Nat) : CallE := ⟨[⟨true, T26⟩], [⟨false, [.v (.int .i64)]⟩], fun (x : S26) => net_some.f k x.f0 x.f1 x.f2 x.f3⟩
def net_some.F : Fam (RT.dens (net_some.ce 0).rts) := ⟨fun k => ⟨TT0, GL0, callT [(195, [196], slY.ce k)], cmpT CM0, [], BLD0, ioT []⟩, []⟩
theorem net_some.is (k : Nat) (x : AT.dens (net_some.ce 0).ats) : (net_some.ce k).fn x = den net_some.F k (bodyOf Tryz.f66) (startAS (net_some.ce 0).ats x) (retK (net_some.F.c k) Tryz.f66.results.toList (net_some.ce 0).rts) := by kernel_rfl
theorem net_some.ob : Obl net_some.F (bodyOf Tryz.f66) (fun k => retK (net_some.F.c k) Tryz.f66.results.toList (net_some.ce 0).rts) := obl_of (by kernel_rfl)
/-! ### 67 -/
mutual
def net_sizes.j0 : Nat → (List ByteArray) → (List S86) → (List ByteArray) → (List S76) → Option Int
 | 0, _, _, _, _ => none
 | k + 1, x1_0, x1_1, x1_2, x1_3 => net_sizes.l1 k x1_3 (x1_3.length : Int) 0
def net_sizes.l1 : Nat → (List S76) → Int → Int → Option Int
 | 0, _, _, _ => none
 | k + 1, x34, x35, x36 => if x36 < x35 then (if 0 ≤ x36 then (if x36 < (x34.length : Int) then (if (((rd_T76 x34 x36).f1).length : Int) > 64 then (some 6) else (if (((rd_T76 x34 x36).f2).length : Int) > 256 then (some 6) else (net_sizes.j2 k x34 x35 x36 ((rd_T76 x34 x36).f0) ((rd_T76 x34 x36).f1) ((rd_T76 x34 x36).f2)))) else (none)) else (none)) else (some 0)
def net_sizes.j2 : Nat → (List S76) → Int → Int → ByteArray → (List S84) → (List S79) → Option Int
 | 0, _, _, _, _, _, _ => none
 | k + 1, x34, x35, x36, x4_0, x4_1, x4_2 => net_sizes.l3 k x34 x35 x36 x4_1 (x4_1.length : Int) 0 x4_0 x4_1 x4_2
def net_sizes.l3 : Nat → (List S76) → Int → Int → (List S84) → Int → Int → ByteArray → (List S84) → (List S79) → Option Int
 | 0, _, _, _, _, _, _, _, _, _ => none
 | k + 1, x34, x35, x36, x51, x52, x53, x4_0, x4_1, x4_2 => if x53 < x52 then (if 0 ≤ x53 then (if x53 < (x51.length : Int) then (if (((rd_T84 x51 x53).f2).length : Int) > 16 then (some 6) else (net_sizes.l3 k x34 x35 x36 x51 x52 (w64 (x53 + 1)) x4_0 x4_1 x4_2)) else (none)) else (none)) else (net_sizes.l4 k x34 x35 x36 x4_2 (x4_2.length : Int) 0)
def net_sizes.l4 : Nat → (List S76) → Int → Int → (List S79) → Int → Int → Option Int
 | 0, _, _, _, _, _, _ => none
 | k + 1, x34, x35, x36, x63, x64, x65 => if x65 < x64 then (if 0 ≤ x65 then (if x65 < (x63.length : Int) then (if (((rd_T79 x63 x65).f2).length : Int) > 16 then (some 6) else (if (((rd_T79 x63 x65).f6).length : Int) > 16 then (some 6) else (if (((rd_T79 x63 x65).f3).length : Int) > 64 then (some 6) else (net_sizes.j5 k x34 x35 x36 x63 x64 x65 ((rd_T79 x63 x65).f0) ((rd_T79 x63 x65).f1) ((rd_T79 x63 x65).f2) ((rd_T79 x63 x65).f3) ((rd_T79 x63 x65).f4) ((rd_T79 x63 x65).f5) ((rd_T79 x63 x65).f6))))) else (none)) else (none)) else (net_sizes.l1 k x34 x35 (w64 (x36 + 1)))
def net_sizes.j5 : Nat → (List S76) → Int → Int → (List S79) → Int → Int → Int → Int → (List S43) → (List S151) → Int → Bool → (List S81) → Option Int
 | 0, _, _, _, _, _, _, _, _, _, _, _, _, _ => none
 | k + 1, x34, x35, x36, x63, x64, x65, x8_0, x8_1, x8_2, x8_3, x8_4, x8_5, x8_6 => net_sizes.l6 k x34 x35 x36 x63 x64 x65 x8_6 (x8_6.length : Int) 0
def net_sizes.l6 : Nat → (List S76) → Int → Int → (List S79) → Int → Int → (List S81) → Int → Int → Option Int
 | 0, _, _, _, _, _, _, _, _, _ => none
 | k + 1, x34, x35, x36, x63, x64, x65, x86, x87, x88 => if x88 < x87 then (if 0 ≤ x88 then (if x88 < (x86.length : Int) then (if (((rd_T81 x86 x88).f3).length : Int) > 64 then (some 6) else (net_sizes.l6 k x34 x35 x36 x63 x64 x65 x86 x87 (w64 (x88 + 1)))) else (none)) else (none)) else (net_sizes.l4 k x34 x35 x36 x63 x64 (w64 (x65 + 1)))
end
def net_sizes.f (k : Nat) (l0_0 : List ByteArray) (l0_1 : List S86) (l0_2 : List ByteArray) (l0_3 : List S76) : Option Int := if (l0_0.length : Int) > 8 then (some 6) else (if (l0_1.length : Int) > 16 then (some 6) else (if (l0_2.length : Int) > 16 then (some 6) else (if (l0_3.length : Int) > 8 then (some 6) else (net_sizes.j0 k l0_0 l0_1 l0_2 l0_3))))
def net_sizes.ce (k : Nat) : CallE := ⟨[⟨true, T26⟩], [⟨false, [.v (.int .i64)]⟩], fun (x : S26) => net_sizes.f k x.f0 x.f1 x.f2 x.f3⟩
def net_sizes.F : Fam (RT.dens (net_sizes.ce 0).rts) := ⟨fun k => ⟨TT0, GL0, callT [], cmpT CM0, [], BLD0, ioT []⟩, [(1000004, ⟨⟨[(1, .k (.ptr 64 0))], [(64, [.v (.list .str), .v (.list T86), .v (.list .str), .v (.list T76)])]⟩, fun k s => net_sizes.j0 k s.2.1.1 s.2.1.2.1 s.2.1.2.2.1 s.2.1.2.2.2.1⟩), (5, ⟨⟨[(34, .v false (.list T76)), (35, .v false (.int .i64)), (36, .v false (.int .i64))], []⟩, fun k s => net_sizes.l1 k s.1.1 s.1.2.1 s.1.2.2.1⟩), (1000009, ⟨⟨[(4, .k (.ptr 256 0)), (34, .v false (.list T76)), (35, .v false (.int .i64)), (36, .v false (.int .i64))], [(256, [.v .str, .v (.list T84), .v (.list T79)])]⟩, fun k s => net_sizes.j2 k s.1.1 s.1.2.1 s.1.2.2.1 s.2.1.1 s.2.1.2.1 s.2.1.2.2.1⟩), (10, ⟨⟨[(4, .k (.ptr 256 0)), (34, .v false (.list T76)), (35, .v false (.int .i64)), (36, .v false (.int .i64)), (51, .v false (.list T84)), (52, .v false (.int .i64)), (53, .v false (.int .i64))], [(256, [.v .str, .v (.list T84), .v (.list T79)])]⟩, fun k s => net_sizes.l3 k s.1.1 s.1.2.1 s.1.2.2.1 s.1.2.2.2.1 s.1.2.2.2.2.1 s.1.2.2.2.2.2.1 s.2.1.1 s.2.1.2.1 s.2.1.2.2.1⟩), (16, ⟨⟨[(34, .v false (.list T76)), (35, .v false (.int .i64)), (36, .v false (.int .i64)), (63, .v false (.list T79)), (64, .v false (.int .i64)), (65, .v false (.int .i64))], []⟩, fun k s => net_sizes.l4 k s.1.1 s.1.2.1 s.1.2.2.1 s.1.2.2.2.1 s.1.2.2.2.2.1 s.1.2.2.2.2.2.1⟩), (1000020, ⟨⟨[(8, .k (.ptr 512 0)), (34, .v false (.list T76)), (35, .v false (.int .i64)), (36, .v false (.int .i64)), (63, .v false (.list T79)), (64, .v false (.int .i64)), (65, .v false (.int .i64))], [(512, [.v (.int .i64), .v (.int .i64), .v (.list T43), .v (.list T151), .v (.int .i64), .v .bool, .v (.list T81)])]⟩, fun k s => net_sizes.j5 k s.1.1 s.1.2.1 s.1.2.2.1 s.1.2.2.2.1 s.1.2.2.2.2.1 s.1.2.2.2.2.2.1 s.2.1.1 s.2.1.2.1 s.2.1.2.2.1 s.2.1.2.2.2.1 s.2.1.2.2.2.2.1 s.2.1.2.2.2.2.2.1 s.2.1.2.2.2.2.2.2.1⟩), (21, ⟨⟨[(34, .v false (.list T76)), (35, .v false (.int .i64)), (36, .v false (.int .i64)), (63, .v false (.list T79)), (64, .v false (.int .i64)), (65, .v false (.int .i64)), (86, .v false (.list T81)), (87, .v false (.int .i64)), (88, .v false (.int .i64))], []⟩, fun k s => net_sizes.l6 k s.1.1 s.1.2.1 s.1.2.2.1 s.1.2.2.2.1 s.1.2.2.2.2.1 s.1.2.2.2.2.2.1 s.1.2.2.2.2.2.2.1 s.1.2.2.2.2.2.2.2.1 s.1.2.2.2.2.2.2.2.2.1⟩)]⟩
theorem net_sizes.is (k : Nat) (x : AT.dens (net_sizes.ce 0).ats) : (net_sizes.ce k).fn x = den net_sizes.F k (bodyOf Tryz.f67) (startAS (net_sizes.ce 0).ats x) (retK (net_sizes.F.c k) Tryz.f67.results.toList (net_sizes.ce 0).rts) := by kernel_rfl
theorem net_sizes.ob : Obl net_sizes.F (bodyOf Tryz.f67) (fun k => retK (net_sizes.F.c k) Tryz.f67.results.toList (net_sizes.ce 0).rts) := obl_of (by kernel_rfl)
/-! ### 300 -/
def lex_of.j0 : Nat → Int → Bool → Option Int
 | 0, _, _ => none
 | k + 1, x0, x3 => if x3 = true then (some 1) else (if x0 = 35 then (some 4) else (if x0 ≥ 97 then (if x0 ≤ 122 then (if x0 ≤ 122 then (some 2) else (if x0 ≥ 48 then (if x0 ≤ 57 then (some 3) else (some 0)) else (some 0))) else (if x0 ≥ 65 then (if x0 ≤ 90 then (some 2) else (if x0 ≥ 48 then (if x0 ≤ 57 then (some 3) else (some 0)) else (some 0))) else (if x0 ≥ 48 then (if x0 ≤ 57 then (some 3) else (some 0)) else (some 0)))) else (if x0 ≥ 65 then (if x0 ≤ 90 then (some 2) else (if x0 ≥ 48 then (if x0 ≤ 57 then (some 3) else (some 0)) else (some 0))) else (if x0 ≥ 48 then (if x0 ≤ 57 then (some 3) else (some 0)) else (some 0)))))
def lex_of.f (k : Nat) (a0 : Int) : Option Int := if a0 = 32 then (lex_of.j0 k a0 (decide (a0 = 32))) else (if a0 = 9 then (lex_of.j0 k a0 (decide (a0 = 9))) else (if a0 = 13 then (lex_of.j0 k a0 (decide (a0 = 13))) else (lex_of.j0 k a0 (decide (a0 = 10)))))
def lex_of.ce (k : Nat) : CallE := ⟨[⟨false, (.int .u8)⟩], [⟨false, [.v (.int .u8)]⟩], fun (x : Int) => lex_of.f k x⟩
def lex_of.F : Fam (RT.dens (lex_of.ce 0).rts) := ⟨fun k => ⟨TT0, GL0, callT [], cmpT CM0, [], BLD0, ioT []⟩, [(1000006, ⟨⟨[(0, .v false (.int .u8)), (3, .v false .bool)], []⟩, fun k s => lex_of.j0 k s.1.1 s.1.2.1⟩)]⟩
theorem lex_of.is (k : Nat) (x : AT.dens (lex_of.ce 0).ats) : (lex_of.ce k).fn x = den lex_of.F k (bodyOf Tryz.f300) (startAS (lex_of.ce 0).ats x) (retK (lex_of.F.c k) Tryz.f300.results.toList (lex_of.ce 0).rts) := by kernel_rfl
theorem lex_of.ob : Obl lex_of.F (bodyOf Tryz.f300) (fun k => retK (lex_of.F.c k) Tryz.f300.results.toList (lex_of.ce 0).rts) := obl_of (by kernel_rfl)
/-! ### 301 -/
def lex_word.l0 : Nat → ByteArray → Int → Option Int
 | 0, _, _ => none
 | k + 1, x0, x3 => if x3 < (x0.size : Int) then (if 0 ≤ x3 then (if x3 < (x0.size : Int) then ((lex_of.f k (btI x0 x3)).bind fun t1 => (if t1 = 2 then (lex_word.l0 k x0 (w64 (x3 + 1))) else (if 0 ≤ x3 then (if x3 < (x0.size : Int) then ((lex_of.f k (btI x0 x3)).bind fun t2 => (if t2 = 3 then (lex_word.l0 k x0 (w64 (x3 + 1))) else (if 0 ≤ x3 then (if x3 < (x0.size : Int) then (if (btI x0 x3) = 95 then (lex_word.l0 k x0 (w64 (x3 + 1))) else (some x3)) else (none)) else (none)))) else (none)) else (none)))) else (none)) else (none)) else (some x3)
def lex_word.f (k : Nat) (a0 : ByteArray) : Option Int := lex_word.l0 k a0 1
def lex_word.ce (k : Nat) : CallE := ⟨[⟨false, .str⟩], [⟨false, [.v (.int .i64)]⟩], fun (x : ByteArray) => lex_word.f k x⟩
def lex_word.F : Fam (RT.dens (lex_word.ce 0).rts) := ⟨fun k => ⟨TT0, GL0, callT [(300, [], lex_of.ce k)], cmpT CM0, [], BLD0, ioT []⟩, [(3, ⟨⟨[(0, .v false .str), (3, .v false (.int .i64))], []⟩, fun k s => lex_word.l0 k s.1.1 s.1.2.1⟩)]⟩
theorem lex_word.is (k : Nat) (x : AT.dens (lex_word.ce 0).ats) : (lex_word.ce k).fn x = den lex_word.F k (bodyOf Tryz.f301) (startAS (lex_word.ce 0).ats x) (retK (lex_word.F.c k) Tryz.f301.results.toList (lex_word.ce 0).rts) := by kernel_rfl
theorem lex_word.ob : Obl lex_word.F (bodyOf Tryz.f301) (fun k => retK (lex_word.F.c k) Tryz.f301.results.toList (lex_word.ce 0).rts) := obl_of (by kernel_rfl)
/-! ### 191 -/
def slI.l0 : Nat → (List ByteArray) → ByteArray → Int → Int → Option Int
 | 0, _, _, _, _ => none
 | k + 1, x0, x1, x7, x8 => if x8 < x7 then (if 0 ≤ x8 then (if x8 < (x0.length : Int) then (if x1 = (rdT .str x0 x8) then (some x8) else (slI.l0 k x0 x1 x7 (w64 (x8 + 1)))) else (none)) else (none)) else (some (-1))
def slI.f (k : Nat) (a0 : List ByteArray) (a1 : ByteArray) : Option Int := slI.l0 k a0 a1 (a0.length : Int) 0
def slI.ce (k : Nat) : CallE := ⟨[⟨false, (.list .str)⟩, ⟨false, .str⟩], [⟨false, [.v (.int .i64)]⟩], fun (x : (List ByteArray) × ByteArray) => slI.f k x.1 x.2⟩
def slI.F : Fam (RT.dens (slI.ce 0).rts) := ⟨fun k => ⟨TT0, GL0, callT [], cmpT CM0, [], BLD0, ioT []⟩, [(3, ⟨⟨[(0, .v false (.list .str)), (1, .v false .str), (7, .v false (.int .i64)), (8, .v false (.int .i64))], []⟩, fun k s => slI.l0 k s.1.1 s.1.2.1 s.1.2.2.1 s.1.2.2.2.1⟩)]⟩
theorem slI.is (k : Nat) (x : AT.dens (slI.ce 0).ats) : (slI.ce k).fn x = den slI.F k (bodyOf Tryz.f191) (startAS (slI.ce 0).ats x) (retK (slI.F.c k) Tryz.f191.results.toList (slI.ce 0).rts) := by kernel_rfl
theorem slI.ob : Obl slI.F (bodyOf Tryz.f191) (fun k => retK (slI.F.c k) Tryz.f191.results.toList (slI.ce 0).rts) := obl_of (by kernel_rfl)
/-! ### 302 -/
def slN.f (k : Nat) (a0 : List ByteArray) (a1 : ByteArray) : Option Bool := (slI.f k a0 a1).bind fun t1 => (some (decide (t1 ≥ 0)))
def slN.ce (k : Nat) : CallE := ⟨[⟨false, (.list .str)⟩, ⟨false, .str⟩], [⟨false, [.v .bool]⟩], fun (x : (List ByteArray) × ByteArray) => slN.f k x.1 x.2⟩
def slN.F : Fam (RT.dens (slN.ce 0).rts) := ⟨fun k => ⟨TT0, GL0, callT [(191, [], slI.ce k)], cmpT CM0, [], BLD0, ioT []⟩, []⟩
theorem slN.is (k : Nat) (x : AT.dens (slN.ce 0).ats) : (slN.ce k).fn x = den slN.F k (bodyOf Tryz.f302) (startAS (slN.ce 0).ats x) (retK (slN.F.c k) Tryz.f302.results.toList (slN.ce 0).rts) := by kernel_rfl
theorem slN.ob : Obl slN.F (bodyOf Tryz.f302) (fun k => retK (slN.F.c k) Tryz.f302.results.toList (slN.ce 0).rts) := obl_of (by kernel_rfl)
/-! ### 257 -/
def lex_IsName.f (k : Nat) (a0 : ByteArray) : Option Bool := if a0 = (⟨#[]⟩ : ByteArray) then (some false) else (if (a0.size : Int) ≤ 16 then (if 0 ≤ 0 then (if 0 < (a0.size : Int) then ((lex_of.f k (btI a0 0)).bind fun t1 => (if t1 = 2 then ((lex_word.f k a0).bind fun t2 => (if t2 = (a0.size : Int) then ((slN.f k lex_kept a0).bind fun t3 => (some (!t3))) else (some false))) else (some false))) else (none)) else (none)) else (some false))
def lex_IsName.ce (k : Nat) : CallE := ⟨[⟨false, .str⟩], [⟨false, [.v .bool]⟩], fun (x : ByteArray) => lex_IsName.f k x⟩
def lex_IsName.F : Fam (RT.dens (lex_IsName.ce 0).rts) := ⟨fun k => ⟨TT0, GL0, callT [(300, [], lex_of.ce k), (301, [], lex_word.ce k), (302, [], slN.ce k)], cmpT CM0, [], BLD0, ioT []⟩, []⟩
theorem lex_IsName.is (k : Nat) (x : AT.dens (lex_IsName.ce 0).ats) : (lex_IsName.ce k).fn x = den lex_IsName.F k (bodyOf Tryz.f257) (startAS (lex_IsName.ce 0).ats x) (retK (lex_IsName.F.c k) Tryz.f257.results.toList (lex_IsName.ce 0).rts) := by kernel_rfl
theorem lex_IsName.ob : Obl lex_IsName.F (bodyOf Tryz.f257) (fun k => retK (lex_IsName.F.c k) Tryz.f257.results.toList (lex_IsName.ce 0).rts) := obl_of (by kernel_rfl)
/-! ### 197 -/
def net_given.l0 : Nat → (List ByteArray) → (List ByteArray) → Int → Int → Option Bool
 | 0, _, _, _, _ => none
 | k + 1, x3, x7, x8, x9 => if x9 < x8 then (if 0 ≤ x9 then (if x9 < (x7.length : Int) then ((lex_IsName.f k (rdT .str x7 x9)).bind fun t1 => (if (!t1) = true then (some false) else (if ((rdT .str x7 x9).size : Int) > 16 then (some false) else (if (rdT .str x7 x9).size ≤ 9223372036854775807 then (if (hasK (rdT .str x7 x9) x3) = true then (some false) else (if (rdT .str x7 x9).size ≤ 9223372036854775807 then (if x3.length < 9223372036854775807 then (net_given.l0 k ((rdT .str x7 x9) :: x3) x7 x8 (w64 (x9 + 1))) else (none)) else (none))) else (none))))) else (none)) else (none)) else (some true)
def net_given.f (k : Nat) (a0 : List ByteArray) : Option Bool := net_given.l0 k ([] : List ByteArray) a0 (a0.length : Int) 0
def net_given.ce (k : Nat) : CallE := ⟨[⟨false, (.list .str)⟩], [⟨false, [.v .bool]⟩], fun (x : (List ByteArray)) => net_given.f k x⟩
def net_given.F : Fam (RT.dens (net_given.ce 0).rts) := ⟨fun k => ⟨TT0, GL0, callT [(257, [], lex_IsName.ce k)], cmpT CM0, [], BLD0, ioT []⟩, [(4, ⟨⟨[(3, .m), (7, .v false (.list .str)), (8, .v false (.int .i64)), (9, .v false (.int .i64))], []⟩, fun k s => net_given.l0 k s.1.1 s.1.2.1 s.1.2.2.1 s.1.2.2.2.1⟩)]⟩
theorem net_given.is (k : Nat) (x : AT.dens (net_given.ce 0).ats) : (net_given.ce k).fn x = den net_given.F k (bodyOf Tryz.f197) (startAS (net_given.ce 0).ats x) (retK (net_given.F.c k) Tryz.f197.results.toList (net_given.ce 0).rts) := by kernel_rfl
theorem net_given.ob : Obl net_given.F (bodyOf Tryz.f197) (fun k => retK (net_given.F.c k) Tryz.f197.results.toList (net_given.ce 0).rts) := obl_of (by kernel_rfl)
/-! ### 192 -/
def net_Names.l0 : Nat → (List ByteArray) → (List S86) → Int → Int → Option (List ByteArray)
 | 0, _, _, _, _ => none
 | k + 1, x3, x7, x8, x9 => if x9 < x8 then (if 0 ≤ x9 then (if x9 < (x7.length : Int) then (if x3.length < 8796093022208 then (net_Names.l0 k (x3 ++ [(rd_T86 x7 x9).f0]) x7 x8 (w64 (x9 + 1))) else (none)) else (none)) else (none)) else (some x3)
def net_Names.f (k : Nat) (l0_0 : List ByteArray) (l0_1 : List S86) (l0_2 : List ByteArray) (l0_3 : List S76) : Option (List ByteArray) := net_Names.l0 k ([] : List ByteArray) l0_1 (l0_1.length : Int) 0
def net_Names.ce (k : Nat) : CallE := ⟨[⟨true, T26⟩], [⟨false, [.o 9 .str]⟩], fun (x : S26) => net_Names.f k x.f0 x.f1 x.f2 x.f3⟩
def net_Names.F : Fam (RT.dens (net_Names.ce 0).rts) := ⟨fun k => ⟨TT0, GL0, callT [], cmpT CM0, [], BLD0, ioT []⟩, [(4, ⟨⟨[(3, .o 9 .str), (7, .v false (.list T86)), (8, .v false (.int .i64)), (9, .v false (.int .i64))], []⟩, fun k s => net_Names.l0 k s.1.1 s.1.2.1 s.1.2.2.1 s.1.2.2.2.1⟩)]⟩
theorem net_Names.is (k : Nat) (x : AT.dens (net_Names.ce 0).ats) : (net_Names.ce k).fn x = den net_Names.F k (bodyOf Tryz.f192) (startAS (net_Names.ce 0).ats x) (retK (net_Names.F.c k) Tryz.f192.results.toList (net_Names.ce 0).rts) := by kernel_rfl
theorem net_Names.ob : Obl net_Names.F (bodyOf Tryz.f192) (fun k => retK (net_Names.F.c k) Tryz.f192.results.toList (net_Names.ce 0).rts) := obl_of (by kernel_rfl)
/-! ### 303 -/
def slG.f (a0 : Unit) (a1 : Int) : Option (List ByteArray) := if a1 < 0 then (none) else (if (w64 (a1 - (w64 (0 - 0)))) > 0 then (if 0 ≤ 0 then (if 0 ≤ 0 then (if 0 < w64 (a1 - (w64 (0 - 0))) then (if w64 (a1 - (w64 (0 - 0))) ≤ 8796093022208 then (if 0 ≤ 0 then (if 0 ≤ ((List.replicate (Int.toNat (w64 (a1 - (w64 (0 - 0))))) (⟨#[]⟩ : ByteArray)).length : Int) then (some (List.take (Int.toNat (0)) (List.replicate (Int.toNat (w64 (a1 - (w64 (0 - 0))))) (⟨#[]⟩ : ByteArray)))) else (none)) else (none)) else (none)) else (none)) else (none)) else (none)) else (some ([] : List ByteArray)))
def slG.ce : CallE := ⟨[⟨false, .nl⟩, ⟨false, (.int .i64)⟩], [⟨false, [.o 9 .str]⟩], fun (x : Unit × Int) => slG.f x.1 x.2⟩
def slG.F : Fam (RT.dens (slG.ce).rts) := ⟨fun k => ⟨TT0, GL0, callT [], cmpT CM0, [25], BLD0, ioT []⟩, []⟩
theorem slG.is (k : Nat) (x : AT.dens (slG.ce).ats) : (slG.ce).fn x = den slG.F k (bodyOf Tryz.f303) (startAS (slG.ce).ats x) (retK (slG.F.c k) Tryz.f303.results.toList (slG.ce).rts) := by kernel_rfl
theorem slG.ob : Obl slG.F (bodyOf Tryz.f303) (fun k => retK (slG.F.c k) Tryz.f303.results.toList (slG.ce).rts) := obl_of (by kernel_rfl)
/-! ### 258 -/
mutual
def slC.l0 : Nat → (List (List ByteArray)) → Int → (List (List ByteArray)) → Int → Int → Option (List ByteArray)
 | 0, _, _, _, _, _ => none
 | k + 1, x0, x3, x9, x10, x11 => if x11 < x10 then (if 0 ≤ x11 then (if x11 < (x9.length : Int) then (if (w64 (x3 + ((rdT (.list .str) x9 x11).length : Int))) < 0 then (none) else (slC.l0 k x0 (w64 (x3 + ((rdT (.list .str) x9 x11).length : Int))) x9 x10 (w64 (x11 + 1)))) else (none)) else (none)) else ((slG.f () x3).bind fun t1 => (slC.l1 k t1 x0 (x0.length : Int) 0))
def slC.l1 : Nat → (List ByteArray) → (List (List ByteArray)) → Int → Int → Option (List ByteArray)
 | 0, _, _, _, _ => none
 | k + 1, x6, x25, x26, x27 => if x27 < x26 then (if 0 ≤ x27 then (if x27 < (x25.length : Int) then (if x6.length + (rdT (.list .str) x25 x27).length ≤ 8796093022208 then (slC.l1 k (x6 ++ (rdT (.list .str) x25 x27)) x25 x26 (w64 (x27 + 1))) else (none)) else (none)) else (none)) else (some x6)
end
def slC.f (k : Nat) (a0 : List (List ByteArray)) : Option (List ByteArray) := slC.l0 k a0 0 a0 (a0.length : Int) 0
def slC.ce (k : Nat) : CallE := ⟨[⟨false, (.list (.list .str))⟩], [⟨false, [.o 9 .str]⟩], fun (x : (List (List ByteArray))) => slC.f k x⟩
def slC.F : Fam (RT.dens (slC.ce 0).rts) := ⟨fun k => ⟨TT0, GL0, callT [(303, [], slG.ce)], cmpT CM0, [], BLD0, ioT []⟩, [(4, ⟨⟨[(0, .v false (.list (.list .str))), (3, .v false (.int .i64)), (9, .v false (.list (.list .str))), (10, .v false (.int .i64)), (11, .v false (.int .i64))], []⟩, fun k s => slC.l0 k s.1.1 s.1.2.1 s.1.2.2.1 s.1.2.2.2.1 s.1.2.2.2.2.1⟩), (12, ⟨⟨[(6, .o 9 .str), (25, .v false (.list (.list .str))), (26, .v false (.int .i64)), (27, .v false (.int .i64))], []⟩, fun k s => slC.l1 k s.1.1 s.1.2.1 s.1.2.2.1 s.1.2.2.2.1⟩)]⟩
theorem slC.is (k : Nat) (x : AT.dens (slC.ce 0).ats) : (slC.ce k).fn x = den slC.F k (bodyOf Tryz.f258) (startAS (slC.ce 0).ats x) (retK (slC.F.c k) Tryz.f258.results.toList (slC.ce 0).rts) := by kernel_rfl
theorem slC.ob : Obl slC.F (bodyOf Tryz.f258) (fun k => retK (slC.F.c k) Tryz.f258.results.toList (slC.ce 0).rts) := obl_of (by kernel_rfl)
/-! ### 198 -/
def net_all.l0 : Nat → (List ByteArray) → (List S76) → Int → Int → Option (List ByteArray)
 | 0, _, _, _, _ => none
 | k + 1, x3, x15, x16, x17 => if x17 < x16 then (if 0 ≤ x17 then (if x17 < (x15.length : Int) then (if x3.length < 8796093022208 then (net_all.l0 k (x3 ++ [(rd_T76 x15 x17).f0]) x15 x16 (w64 (x17 + 1))) else (none)) else (none)) else (none)) else (some x3)
def net_all.f (k : Nat) (l0_0 : List ByteArray) (l0_1 : List S86) (l0_2 : List ByteArray) (l0_3 : List S76) : Option (List ByteArray) := (net_Names.f k l0_0 l0_1 l0_2 l0_3).bind fun t1 => ((slC.f k ([l0_0, t1, l0_2] : List (List ByteArray))).bind fun t2 => (net_all.l0 k t2 l0_3 (l0_3.length : Int) 0))
def net_all.ce (k : Nat) : CallE := ⟨[⟨true, T26⟩], [⟨false, [.o 9 .str]⟩], fun (x : S26) => net_all.f k x.f0 x.f1 x.f2 x.f3⟩
def net_all.F : Fam (RT.dens (net_all.ce 0).rts) := ⟨fun k => ⟨TT0, GL0, callT [(192, [], net_Names.ce k), (258, [], slC.ce k)], cmpT CM0, [], BLD0, ioT []⟩, [(4, ⟨⟨[(3, .o 9 .str), (15, .v false (.list T76)), (16, .v false (.int .i64)), (17, .v false (.int .i64))], []⟩, fun k s => net_all.l0 k s.1.1 s.1.2.1 s.1.2.2.1 s.1.2.2.2.1⟩)]⟩
theorem net_all.is (k : Nat) (x : AT.dens (net_all.ce 0).ats) : (net_all.ce k).fn x = den net_all.F k (bodyOf Tryz.f198) (startAS (net_all.ce 0).ats x) (retK (net_all.F.c k) Tryz.f198.results.toList (net_all.ce 0).rts) := by kernel_rfl
theorem net_all.ob : Obl net_all.F (bodyOf Tryz.f198) (fun k => retK (net_all.F.c k) Tryz.f198.results.toList (net_all.ce 0).rts) := obl_of (by kernel_rfl)
/-! ### 199 -/
def net_locNames.l0 : Nat → (List ByteArray) → (List S84) → Int → Int → Option (List ByteArray)
 | 0, _, _, _, _ => none
 | k + 1, x3, x7, x8, x9 => if x9 < x8 then (if 0 ≤ x9 then (if x9 < (x7.length : Int) then (if x3.length < 8796093022208 then (net_locNames.l0 k (x3 ++ [(rd_T84 x7 x9).f0]) x7 x8 (w64 (x9 + 1))) else (none)) else (none)) else (none)) else (some x3)
def net_locNames.f (k : Nat) (l0_0 : ByteArray) (l0_1 : List S84) (l0_2 : List S79) : Option (List ByteArray) := net_locNames.l0 k ([] : List ByteArray) l0_1 (l0_1.length : Int) 0
def net_locNames.ce (k : Nat) : CallE := ⟨[⟨true, T76⟩], [⟨false, [.o 9 .str]⟩], fun (x : S76) => net_locNames.f k x.f0 x.f1 x.f2⟩
def net_locNames.F : Fam (RT.dens (net_locNames.ce 0).rts) := ⟨fun k => ⟨TT0, GL0, callT [], cmpT CM0, [], BLD0, ioT []⟩, [(4, ⟨⟨[(3, .o 9 .str), (7, .v false (.list T84)), (8, .v false (.int .i64)), (9, .v false (.int .i64))], []⟩, fun k s => net_locNames.l0 k s.1.1 s.1.2.1 s.1.2.2.1 s.1.2.2.2.1⟩)]⟩
theorem net_locNames.is (k : Nat) (x : AT.dens (net_locNames.ce 0).ats) : (net_locNames.ce k).fn x = den net_locNames.F k (bodyOf Tryz.f199) (startAS (net_locNames.ce 0).ats x) (retK (net_locNames.F.c k) Tryz.f199.results.toList (net_locNames.ce 0).rts) := by kernel_rfl
theorem net_locNames.ob : Obl net_locNames.F (bodyOf Tryz.f199) (fun k => retK (net_locNames.F.c k) Tryz.f199.results.toList (net_locNames.ce 0).rts) := obl_of (by kernel_rfl)
/-! ### 68 -/
def net_names.l0 : Nat → (List S76) → Int → Int → Option Int
 | 0, _, _, _ => none
 | k + 1, x10, x11, x12 => if x12 < x11 then (if 0 ≤ x12 then (if x12 < (x10.length : Int) then ((net_locNames.f k ((rd_T76 x10 x12).f0) ((rd_T76 x10 x12).f1) ((rd_T76 x10 x12).f2)).bind fun t3 => ((net_given.f k t3).bind fun t4 => (if (!t4) = true then (some 112) else (net_names.l0 k x10 x11 (w64 (x12 + 1)))))) else (none)) else (none)) else (some 0)
def net_names.f (k : Nat) (l0_0 : List ByteArray) (l0_1 : List S86) (l0_2 : List ByteArray) (l0_3 : List S76) : Option Int := (net_all.f k l0_0 l0_1 l0_2 l0_3).bind fun t1 => ((net_given.f k t1).bind fun t2 => (if (!t2) = true then (some 112) else (net_names.l0 k l0_3 (l0_3.length : Int) 0)))
def net_names.ce (k : Nat) : CallE := ⟨[⟨true, T26⟩], [⟨false, [.v (.int .i64)]⟩], fun (x : S26) => net_names.f k x.f0 x.f1 x.f2 x.f3⟩
def net_names.F : Fam (RT.dens (net_names.ce 0).rts) := ⟨fun k => ⟨TT0, GL0, callT [(197, [], net_given.ce k), (198, [], net_all.ce k), (199, [], net_locNames.ce k)], cmpT CM0, [], BLD0, ioT []⟩, [(5, ⟨⟨[(10, .v false (.list T76)), (11, .v false (.int .i64)), (12, .v false (.int .i64))], []⟩, fun k s => net_names.l0 k s.1.1 s.1.2.1 s.1.2.2.1⟩)]⟩
theorem net_names.is (k : Nat) (x : AT.dens (net_names.ce 0).ats) : (net_names.ce k).fn x = den net_names.F k (bodyOf Tryz.f68) (startAS (net_names.ce 0).ats x) (retK (net_names.F.c k) Tryz.f68.results.toList (net_names.ce 0).rts) := by kernel_rfl
theorem net_names.ob : Obl net_names.F (bodyOf Tryz.f68) (fun k => retK (net_names.F.c k) Tryz.f68.results.toList (net_names.ce 0).rts) := obl_of (by kernel_rfl)
/-! ### 69 -/
def net_vars.l0 : Nat → (List S86) → Int → Int → Option Int
 | 0, _, _, _ => none
 | k + 1, x6, x7, x8 => if x8 < x7 then (if 0 ≤ x8 then (if x8 < (x6.length : Int) then (if ((rd_T86 x6 x8).f1) > ((rd_T86 x6 x8).f3) then (some 124) else (if ((rd_T86 x6 x8).f3) > ((rd_T86 x6 x8).f2) then (some 124) else (if ((rd_T86 x6 x8).f1) < (-1048576) then (some 124) else (if ((rd_T86 x6 x8).f2) > 1048576 then (some 124) else (net_vars.l0 k x6 x7 (w64 (x8 + 1))))))) else (none)) else (none)) else (some 0)
def net_vars.f (k : Nat) (l0_0 : List ByteArray) (l0_1 : List S86) (l0_2 : List ByteArray) (l0_3 : List S76) : Option Int := net_vars.l0 k l0_1 (l0_1.length : Int) 0
def net_vars.ce (k : Nat) : CallE := ⟨[⟨true, T26⟩], [⟨false, [.v (.int .i64)]⟩], fun (x : S26) => net_vars.f k x.f0 x.f1 x.f2 x.f3⟩
def net_vars.F : Fam (RT.dens (net_vars.ce 0).rts) := ⟨fun k => ⟨TT0, GL0, callT [], cmpT CM0, [], BLD0, ioT []⟩, [(3, ⟨⟨[(6, .v false (.list T86)), (7, .v false (.int .i64)), (8, .v false (.int .i64))], []⟩, fun k s => net_vars.l0 k s.1.1 s.1.2.1 s.1.2.2.1⟩)]⟩
theorem net_vars.is (k : Nat) (x : AT.dens (net_vars.ce 0).ats) : (net_vars.ce k).fn x = den net_vars.F k (bodyOf Tryz.f69) (startAS (net_vars.ce 0).ats x) (retK (net_vars.F.c k) Tryz.f69.results.toList (net_vars.ce 0).rts) := by kernel_rfl
theorem net_vars.ob : Obl net_vars.F (bodyOf Tryz.f69) (fun k => retK (net_vars.F.c k) Tryz.f69.results.toList (net_vars.ce 0).rts) := obl_of (by kernel_rfl)
/-! ### 70 -/
mutual
def net_locs.l0 : Nat → (List S76) → Int → Int → Option Int
 | 0, _, _, _ => none
 | k + 1, x8, x9, x10 => if x10 < x9 then (if 0 ≤ x10 then (if x10 < (x8.length : Int) then (net_locs.l1 k x8 x9 x10 ((rd_T76 x8 x10).f1) (((rd_T76 x8 x10).f1).length : Int) 0) else (none)) else (none)) else (some 0)
def net_locs.l1 : Nat → (List S76) → Int → Int → (List S84) → Int → Int → Option Int
 | 0, _, _, _, _, _, _ => none
 | k + 1, x8, x9, x10, x15, x16, x17 => if x17 < x16 then (if 0 ≤ x17 then (if x17 < (x15.length : Int) then (if ((rd_T84 x15 x17).f1) > 2 then (some 122) else (net_locs.l1 k x8 x9 x10 x15 x16 (w64 (x17 + 1)))) else (none)) else (none)) else (net_locs.l0 k x8 x9 (w64 (x10 + 1)))
end
def net_locs.f (k : Nat) (l0_0 : List ByteArray) (l0_1 : List S86) (l0_2 : List ByteArray) (l0_3 : List S76) : Option Int := net_locs.l0 k l0_3 (l0_3.length : Int) 0
def net_locs.ce (k : Nat) : CallE := ⟨[⟨true, T26⟩], [⟨false, [.v (.int .i64)]⟩], fun (x : S26) => net_locs.f k x.f0 x.f1 x.f2 x.f3⟩
def net_locs.F : Fam (RT.dens (net_locs.ce 0).rts) := ⟨fun k => ⟨TT0, GL0, callT [], cmpT CM0, [], BLD0, ioT []⟩, [(3, ⟨⟨[(8, .v false (.list T76)), (9, .v false (.int .i64)), (10, .v false (.int .i64))], []⟩, fun k s => net_locs.l0 k s.1.1 s.1.2.1 s.1.2.2.1⟩), (6, ⟨⟨[(8, .v false (.list T76)), (9, .v false (.int .i64)), (10, .v false (.int .i64)), (15, .v false (.list T84)), (16, .v false (.int .i64)), (17, .v false (.int .i64))], []⟩, fun k s => net_locs.l1 k s.1.1 s.1.2.1 s.1.2.2.1 s.1.2.2.2.1 s.1.2.2.2.2.1 s.1.2.2.2.2.2.1⟩)]⟩
theorem net_locs.is (k : Nat) (x : AT.dens (net_locs.ce 0).ats) : (net_locs.ce k).fn x = den net_locs.F k (bodyOf Tryz.f70) (startAS (net_locs.ce 0).ats x) (retK (net_locs.F.c k) Tryz.f70.results.toList (net_locs.ce 0).rts) := by kernel_rfl
theorem net_locs.ob : Obl net_locs.F (bodyOf Tryz.f70) (fun k => retK (net_locs.F.c k) Tryz.f70.results.toList (net_locs.ce 0).rts) := obl_of (by kernel_rfl)
/-! ### 200 -/
def net_edges_1.f (a0 : Int) (a1 : S76) : Option Bool := if a0 ≥ 0 then (some (decide (a0 < (a1.f1.length : Int)))) else (some false)
def net_edges_1.ce : CallE := ⟨[⟨false, (.int .i64)⟩, ⟨false, (.ref T76)⟩], [⟨false, [.v .bool]⟩], fun (x : Int × S76) => net_edges_1.f x.1 x.2⟩
def net_edges_1.F : Fam (RT.dens (net_edges_1.ce).rts) := ⟨fun k => ⟨TT0, GL0, callT [], cmpT CM0, [], BLD0, ioT []⟩, []⟩
theorem net_edges_1.is (k : Nat) (x : AT.dens (net_edges_1.ce).ats) : (net_edges_1.ce).fn x = den net_edges_1.F k (bodyOf Tryz.f200) (startAS (net_edges_1.ce).ats x) (retK (net_edges_1.F.c k) Tryz.f200.results.toList (net_edges_1.ce).rts) := by kernel_rfl
theorem net_edges_1.ob : Obl net_edges_1.F (bodyOf Tryz.f200) (fun k => retK (net_edges_1.F.c k) Tryz.f200.results.toList (net_edges_1.ce).rts) := obl_of (by kernel_rfl)
/-! ### 71 -/
mutual
def net_edges.l0 : Nat → (List S76) → Int → Int → (List ByteArray) → (List S86) → (List ByteArray) → (List S76) → Option Int
 | 0, _, _, _, _, _, _, _ => none
 | k + 1, x9, x10, x11, x1_0, x1_1, x1_2, x1_3 => if x11 < x10 then (if 0 ≤ x11 then (if x11 < (x9.length : Int) then (net_edges.l1 k (rd_T76 x9 x11) x9 x10 x11 ((rd_T76 x9 x11).f2) (((rd_T76 x9 x11).f2).length : Int) 0 x1_0 x1_1 x1_2 x1_3) else (none)) else (none)) else (some 0)
def net_edges.l1 : Nat → S76 → (List S76) → Int → Int → (List S79) → Int → Int → (List ByteArray) → (List S86) → (List ByteArray) → (List S76) → Option Int
 | 0, _, _, _, _, _, _, _, _, _, _, _ => none
 | k + 1, x5, x9, x10, x11, x17, x18, x19, x1_0, x1_1, x1_2, x1_3 => if x19 < x18 then (if 0 ≤ x19 then (if x19 < (x17.length : Int) then ((net_edges_1.f ((rd_T79 x17 x19).f0) x5).bind fun t1 => (if (!t1) = true then (some 123) else ((net_edges_1.f ((rd_T79 x17 x19).f1) x5).bind fun t2 => (if (!t2) = true then (some 123) else (if ((rd_T79 x17 x19).f4) < 0 then (some 123) else (if ((rd_T79 x17 x19).f4) > (x1_2.length : Int) then (some 123) else (if ((rd_T79 x17 x19).f5) = true then (if ((rd_T79 x17 x19).f4) = 0 then (some 123) else (net_edges.l1 k x5 x9 x10 x11 x17 x18 (w64 (x19 + 1)) x1_0 x1_1 x1_2 x1_3)) else (net_edges.l1 k x5 x9 x10 x11 x17 x18 (w64 (x19 + 1)) x1_0 x1_1 x1_2 x1_3)))))))) else (none)) else (none)) else (net_edges.l0 k x9 x10 (w64 (x11 + 1)) x1_0 x1_1 x1_2 x1_3)
end
def net_edges.f (k : Nat) (l0_0 : List ByteArray) (l0_1 : List S86) (l0_2 : List ByteArray) (l0_3 : List S76) : Option Int := net_edges.l0 k l0_3 (l0_3.length : Int) 0 l0_0 l0_1 l0_2 l0_3
def net_edges.ce (k : Nat) : CallE := ⟨[⟨true, T26⟩], [⟨false, [.v (.int .i64)]⟩], fun (x : S26) => net_edges.f k x.f0 x.f1 x.f2 x.f3⟩
def net_edges.F : Fam (RT.dens (net_edges.ce 0).rts) := ⟨fun k => ⟨TT0, GL0, callT [(200, [], net_edges_1.ce)], cmpT CM0, [], BLD0, ioT []⟩, [(3, ⟨⟨[(1, .k (.ptr 64 0)), (9, .v false (.list T76)), (10, .v false (.int .i64)), (11, .v false (.int .i64))], [(64, [.v (.list .str), .v (.list T86), .v (.list .str), .v (.list T76)])]⟩, fun k s => net_edges.l0 k s.1.1 s.1.2.1 s.1.2.2.1 s.2.1.1 s.2.1.2.1 s.2.1.2.2.1 s.2.1.2.2.2.1⟩), (7, ⟨⟨[(1, .k (.ptr 64 0)), (5, .v false (.fn 200 [(false, 1)] (.ref T76))), (9, .v false (.list T76)), (10, .v false (.int .i64)), (11, .v false (.int .i64)), (17, .v false (.list T79)), (18, .v false (.int .i64)), (19, .v false (.int .i64))], [(64, [.v (.list .str), .v (.list T86), .v (.list .str), .v (.list T76)])]⟩, fun k s => net_edges.l1 k s.1.1 s.1.2.1 s.1.2.2.1 s.1.2.2.2.1 s.1.2.2.2.2.1 s.1.2.2.2.2.2.1 s.1.2.2.2.2.2.2.1 s.2.1.1 s.2.1.2.1 s.2.1.2.2.1 s.2.1.2.2.2.1⟩)]⟩
theorem net_edges.is (k : Nat) (x : AT.dens (net_edges.ce 0).ats) : (net_edges.ce k).fn x = den net_edges.F k (bodyOf Tryz.f71) (startAS (net_edges.ce 0).ats x) (retK (net_edges.F.c k) Tryz.f71.results.toList (net_edges.ce 0).rts) := by kernel_rfl
theorem net_edges.ob : Obl net_edges.F (bodyOf Tryz.f71) (fun k => retK (net_edges.F.c k) Tryz.f71.results.toList (net_edges.ce 0).rts) := obl_of (by kernel_rfl)
/-! ### 203 -/
def net_isClock.f (l0_0 : List ByteArray) (l0_1 : List S86) (l0_2 : List ByteArray) (l0_3 : List S76) (a1 : Int) : Option Bool := if a1 ≥ 1 then (some (decide (a1 ≤ (l0_0.length : Int)))) else (some false)
def net_isClock.ce : CallE := ⟨[⟨true, T26⟩, ⟨false, (.int .i64)⟩], [⟨false, [.v .bool]⟩], fun (x : S26 × Int) => net_isClock.f x.1.f0 x.1.f1 x.1.f2 x.1.f3 x.2⟩
def net_isClock.F : Fam (RT.dens (net_isClock.ce).rts) := ⟨fun k => ⟨TT0, GL0, callT [], cmpT CM0, [], BLD0, ioT []⟩, []⟩
theorem net_isClock.is (k : Nat) (x : AT.dens (net_isClock.ce).ats) : (net_isClock.ce).fn x = den net_isClock.F k (bodyOf Tryz.f203) (startAS (net_isClock.ce).ats x) (retK (net_isClock.F.c k) Tryz.f203.results.toList (net_isClock.ce).rts) := by kernel_rfl
theorem net_isClock.ob : Obl net_isClock.F (bodyOf Tryz.f203) (fun k => retK (net_isClock.F.c k) Tryz.f203.results.toList (net_isClock.ce).rts) := obl_of (by kernel_rfl)
/-! ### 86 -/
def net_clocksOf.l0 : Nat → (List S43) → Int → Int → (List ByteArray) → (List S86) → (List ByteArray) → (List S76) → Option Int
 | 0, _, _, _, _, _, _, _ => none
 | k + 1, x7, x8, x9, x2_0, x2_1, x2_2, x2_3 => if x9 < x8 then (if 0 ≤ x9 then (if x9 < (x7.length : Int) then ((net_isClock.f x2_0 x2_1 x2_2 x2_3 ((rd_T43 x7 x9).f0)).bind fun t1 => (if (!t1) = true then (some 12) else (if ((rd_T43 x7 x9).f1) = 0 then (net_clocksOf.l0 k x7 x8 (w64 (x9 + 1)) x2_0 x2_1 x2_2 x2_3) else ((net_isClock.f x2_0 x2_1 x2_2 x2_3 ((rd_T43 x7 x9).f1)).bind fun t2 => (if (!t2) = true then (some 12) else (net_clocksOf.l0 k x7 x8 (w64 (x9 + 1)) x2_0 x2_1 x2_2 x2_3)))))) else (none)) else (none)) else (some 0)
def net_clocksOf.f (k : Nat) (l0_0 : List ByteArray) (l0_1 : List S86) (l0_2 : List ByteArray) (l0_3 : List S76) (a1 : List S43) : Option Int := net_clocksOf.l0 k a1 (a1.length : Int) 0 l0_0 l0_1 l0_2 l0_3
def net_clocksOf.ce (k : Nat) : CallE := ⟨[⟨true, T26⟩, ⟨false, (.list T43)⟩], [⟨false, [.v (.int .i64)]⟩], fun (x : S26 × (List S43)) => net_clocksOf.f k x.1.f0 x.1.f1 x.1.f2 x.1.f3 x.2⟩
def net_clocksOf.F : Fam (RT.dens (net_clocksOf.ce 0).rts) := ⟨fun k => ⟨TT0, GL0, callT [(203, [], net_isClock.ce)], cmpT CM0, [], BLD0, ioT []⟩, [(3, ⟨⟨[(2, .k (.ptr 128 0)), (7, .v false (.list T43)), (8, .v false (.int .i64)), (9, .v false (.int .i64))], [(128, [.v (.list .str), .v (.list T86), .v (.list .str), .v (.list T76)])]⟩, fun k s => net_clocksOf.l0 k s.1.1 s.1.2.1 s.1.2.2.1 s.2.1.1 s.2.1.2.1 s.2.1.2.2.1 s.2.1.2.2.2.1⟩)]⟩
theorem net_clocksOf.is (k : Nat) (x : AT.dens (net_clocksOf.ce 0).ats) : (net_clocksOf.ce k).fn x = den net_clocksOf.F k (bodyOf Tryz.f86) (startAS (net_clocksOf.ce 0).ats x) (retK (net_clocksOf.F.c k) Tryz.f86.results.toList (net_clocksOf.ce 0).rts) := by kernel_rfl
theorem net_clocksOf.ob : Obl net_clocksOf.F (bodyOf Tryz.f86) (fun k => retK (net_clocksOf.F.c k) Tryz.f86.results.toList (net_clocksOf.ce 0).rts) := obl_of (by kernel_rfl)
/-! ### 201 -/
mutual
def net_guards.l0 : Nat → (List S43) → (List S76) → Int → Int → Option (List S43)
 | 0, _, _, _, _ => none
 | k + 1, x3, x11, x12, x13 => if x13 < x12 then (if 0 ≤ x13 then (if x13 < (x11.length : Int) then (net_guards.l1 k x3 x11 x12 x13 ((rd_T76 x11 x13).f1) (((rd_T76 x11 x13).f1).length : Int) 0 ((rd_T76 x11 x13).f0) ((rd_T76 x11 x13).f1) ((rd_T76 x11 x13).f2)) else (none)) else (none)) else (some x3)
def net_guards.l1 : Nat → (List S43) → (List S76) → Int → Int → (List S84) → Int → Int → ByteArray → (List S84) → (List S79) → Option (List S43)
 | 0, _, _, _, _, _, _, _, _, _, _ => none
 | k + 1, x3, x11, x12, x13, x18, x19, x20, x5_0, x5_1, x5_2 => if x20 < x19 then (if 0 ≤ x20 then (if x20 < (x18.length : Int) then (if x3.length + ((rd_T84 x18 x20).f2).length ≤ 4398046511104 then (net_guards.l1 k (x3 ++ (rd_T84 x18 x20).f2) x11 x12 x13 x18 x19 (w64 (x20 + 1)) x5_0 x5_1 x5_2) else (none)) else (none)) else (none)) else (net_guards.l2 k x3 x11 x12 x13 x5_2 (x5_2.length : Int) 0)
def net_guards.l2 : Nat → (List S43) → (List S76) → Int → Int → (List S79) → Int → Int → Option (List S43)
 | 0, _, _, _, _, _, _, _ => none
 | k + 1, x3, x11, x12, x13, x30, x31, x32 => if x32 < x31 then (if 0 ≤ x32 then (if x32 < (x30.length : Int) then (if x3.length + ((rd_T79 x30 x32).f2).length ≤ 4398046511104 then (net_guards.l2 k (x3 ++ (rd_T79 x30 x32).f2) x11 x12 x13 x30 x31 (w64 (x32 + 1))) else (none)) else (none)) else (none)) else (net_guards.l0 k x3 x11 x12 (w64 (x13 + 1)))
end
def net_guards.f (k : Nat) (l0_0 : List ByteArray) (l0_1 : List S86) (l0_2 : List ByteArray) (l0_3 : List S76) : Option (List S43) := net_guards.l0 k ([] : List S43) l0_3 (l0_3.length : Int) 0
def net_guards.ce (k : Nat) : CallE := ⟨[⟨true, T26⟩], [⟨false, [.o 43 T43]⟩], fun (x : S26) => net_guards.f k x.f0 x.f1 x.f2 x.f3⟩
def net_guards.F : Fam (RT.dens (net_guards.ce 0).rts) := ⟨fun k => ⟨TT0, GL0, callT [], cmpT CM0, [], BLD0, ioT []⟩, [(4, ⟨⟨[(3, .o 43 T43), (11, .v false (.list T76)), (12, .v false (.int .i64)), (13, .v false (.int .i64))], []⟩, fun k s => net_guards.l0 k s.1.1 s.1.2.1 s.1.2.2.1 s.1.2.2.2.1⟩), (7, ⟨⟨[(3, .o 43 T43), (5, .k (.ptr 320 0)), (11, .v false (.list T76)), (12, .v false (.int .i64)), (13, .v false (.int .i64)), (18, .v false (.list T84)), (19, .v false (.int .i64)), (20, .v false (.int .i64))], [(320, [.v .str, .v (.list T84), .v (.list T79)])]⟩, fun k s => net_guards.l1 k s.1.1 s.1.2.1 s.1.2.2.1 s.1.2.2.2.1 s.1.2.2.2.2.1 s.1.2.2.2.2.2.1 s.1.2.2.2.2.2.2.1 s.2.1.1 s.2.1.2.1 s.2.1.2.2.1⟩), (12, ⟨⟨[(3, .o 43 T43), (11, .v false (.list T76)), (12, .v false (.int .i64)), (13, .v false (.int .i64)), (30, .v false (.list T79)), (31, .v false (.int .i64)), (32, .v false (.int .i64))], []⟩, fun k s => net_guards.l2 k s.1.1 s.1.2.1 s.1.2.2.1 s.1.2.2.2.1 s.1.2.2.2.2.1 s.1.2.2.2.2.2.1 s.1.2.2.2.2.2.2.1⟩)]⟩
theorem net_guards.is (k : Nat) (x : AT.dens (net_guards.ce 0).ats) : (net_guards.ce k).fn x = den net_guards.F k (bodyOf Tryz.f201) (startAS (net_guards.ce 0).ats x) (retK (net_guards.F.c k) Tryz.f201.results.toList (net_guards.ce 0).rts) := by kernel_rfl
theorem net_guards.ob : Obl net_guards.F (bodyOf Tryz.f201) (fun k => retK (net_guards.F.c k) Tryz.f201.results.toList (net_guards.ce 0).rts) := obl_of (by kernel_rfl)
/-! ### 202 -/
mutual
def net_sets.l0 : Nat → (List S81) → (List S76) → Int → Int → Option (List S81)
 | 0, _, _, _, _ => none
 | k + 1, x3, x9, x10, x11 => if x11 < x10 then (if 0 ≤ x11 then (if x11 < (x9.length : Int) then (net_sets.l1 k x3 x9 x10 x11 ((rd_T76 x9 x11).f2) (((rd_T76 x9 x11).f2).length : Int) 0) else (none)) else (none)) else (some x3)
def net_sets.l1 : Nat → (List S81) → (List S76) → Int → Int → (List S79) → Int → Int → Option (List S81)
 | 0, _, _, _, _, _, _, _ => none
 | k + 1, x3, x9, x10, x11, x16, x17, x18 => if x18 < x17 then (if 0 ≤ x18 then (if x18 < (x16.length : Int) then (if x3.length + ((rd_T79 x16 x18).f6).length ≤ 2932031007402 then (net_sets.l1 k (x3 ++ (rd_T79 x16 x18).f6) x9 x10 x11 x16 x17 (w64 (x18 + 1))) else (none)) else (none)) else (none)) else (net_sets.l0 k x3 x9 x10 (w64 (x11 + 1)))
end
def net_sets.f (k : Nat) (l0_0 : List ByteArray) (l0_1 : List S86) (l0_2 : List ByteArray) (l0_3 : List S76) : Option (List S81) := net_sets.l0 k ([] : List S81) l0_3 (l0_3.length : Int) 0
def net_sets.ce (k : Nat) : CallE := ⟨[⟨true, T26⟩], [⟨false, [.o 81 T81]⟩], fun (x : S26) => net_sets.f k x.f0 x.f1 x.f2 x.f3⟩
def net_sets.F : Fam (RT.dens (net_sets.ce 0).rts) := ⟨fun k => ⟨TT0, GL0, callT [], cmpT CM0, [], BLD0, ioT []⟩, [(4, ⟨⟨[(3, .o 81 T81), (9, .v false (.list T76)), (10, .v false (.int .i64)), (11, .v false (.int .i64))], []⟩, fun k s => net_sets.l0 k s.1.1 s.1.2.1 s.1.2.2.1 s.1.2.2.2.1⟩), (7, ⟨⟨[(3, .o 81 T81), (9, .v false (.list T76)), (10, .v false (.int .i64)), (11, .v false (.int .i64)), (16, .v false (.list T79)), (17, .v false (.int .i64)), (18, .v false (.int .i64))], []⟩, fun k s => net_sets.l1 k s.1.1 s.1.2.1 s.1.2.2.1 s.1.2.2.2.1 s.1.2.2.2.2.1 s.1.2.2.2.2.2.1 s.1.2.2.2.2.2.2.1⟩)]⟩
theorem net_sets.is (k : Nat) (x : AT.dens (net_sets.ce 0).ats) : (net_sets.ce k).fn x = den net_sets.F k (bodyOf Tryz.f202) (startAS (net_sets.ce 0).ats x) (retK (net_sets.F.c k) Tryz.f202.results.toList (net_sets.ce 0).rts) := by kernel_rfl
theorem net_sets.ob : Obl net_sets.F (bodyOf Tryz.f202) (fun k => retK (net_sets.F.c k) Tryz.f202.results.toList (net_sets.ce 0).rts) := obl_of (by kernel_rfl)
/-! ### 72 -/
def net_clocks.l0 : Nat → (List S81) → Int → Int → (List ByteArray) → (List S86) → (List ByteArray) → (List S76) → Option Int
 | 0, _, _, _, _, _, _, _ => none
 | k + 1, x14, x15, x16, x1_0, x1_1, x1_2, x1_3 => if x16 < x15 then (if 0 ≤ x16 then (if x16 < (x14.length : Int) then (if ((rd_T81 x14 x16).f0) = 0 then (net_clocks.l0 k x14 x15 (w64 (x16 + 1)) x1_0 x1_1 x1_2 x1_3) else ((net_isClock.f x1_0 x1_1 x1_2 x1_3 ((rd_T81 x14 x16).f0)).bind fun t4 => (if (!t4) = true then (some 12) else (net_clocks.l0 k x14 x15 (w64 (x16 + 1)) x1_0 x1_1 x1_2 x1_3)))) else (none)) else (none)) else (some 0)
def net_clocks.f (k : Nat) (l0_0 : List ByteArray) (l0_1 : List S86) (l0_2 : List ByteArray) (l0_3 : List S76) : Option Int := (net_guards.f k l0_0 l0_1 l0_2 l0_3).bind fun t1 => ((net_clocksOf.f k l0_0 l0_1 l0_2 l0_3 t1).bind fun t2 => (if t2 = 0 then ((net_sets.f k l0_0 l0_1 l0_2 l0_3).bind fun t3 => (net_clocks.l0 k t3 (t3.length : Int) 0 l0_0 l0_1 l0_2 l0_3)) else (some t2)))
def net_clocks.ce (k : Nat) : CallE := ⟨[⟨true, T26⟩], [⟨false, [.v (.int .i64)]⟩], fun (x : S26) => net_clocks.f k x.f0 x.f1 x.f2 x.f3⟩
def net_clocks.F : Fam (RT.dens (net_clocks.ce 0).rts) := ⟨fun k => ⟨TT0, GL0, callT [(86, [], net_clocksOf.ce k), (201, [], net_guards.ce k), (202, [], net_sets.ce k), (203, [], net_isClock.ce)], cmpT CM0, [], BLD0, ioT []⟩, [(6, ⟨⟨[(1, .k (.ptr 64 0)), (14, .o 81 T81), (15, .v false (.int .i64)), (16, .v false (.int .i64))], [(64, [.v (.list .str), .v (.list T86), .v (.list .str), .v (.list T76)])]⟩, fun k s => net_clocks.l0 k s.1.1 s.1.2.1 s.1.2.2.1 s.2.1.1 s.2.1.2.1 s.2.1.2.2.1 s.2.1.2.2.2.1⟩)]⟩
theorem net_clocks.is (k : Nat) (x : AT.dens (net_clocks.ce 0).ats) : (net_clocks.ce k).fn x = den net_clocks.F k (bodyOf Tryz.f72) (startAS (net_clocks.ce 0).ats x) (retK (net_clocks.F.c k) Tryz.f72.results.toList (net_clocks.ce 0).rts) := by kernel_rfl
theorem net_clocks.ob : Obl net_clocks.F (bodyOf Tryz.f72) (fun k => retK (net_clocks.F.c k) Tryz.f72.results.toList (net_clocks.ce 0).rts) := obl_of (by kernel_rfl)
/-! ### 88 -/
def net_cmps.l0 : Nat → (List S43) → Int → Int → Option Int
 | 0, _, _, _ => none
 | k + 1, x5, x6, x7 => if x7 < x6 then (if 0 ≤ x7 then (if x7 < (x5.length : Int) then (if ((rd_T43 x5 x7).f2) < 1 then (some 7) else (if ((rd_T43 x5 x7).f2) > 5 then (some 7) else (net_cmps.l0 k x5 x6 (w64 (x7 + 1))))) else (none)) else (none)) else (some 0)
def net_cmps.f (k : Nat) (a0 : List S43) : Option Int := net_cmps.l0 k a0 (a0.length : Int) 0
def net_cmps.ce (k : Nat) : CallE := ⟨[⟨false, (.list T43)⟩], [⟨false, [.v (.int .i64)]⟩], fun (x : (List S43)) => net_cmps.f k x⟩
def net_cmps.F : Fam (RT.dens (net_cmps.ce 0).rts) := ⟨fun k => ⟨TT0, GL0, callT [], cmpT CM0, [], BLD0, ioT []⟩, [(3, ⟨⟨[(5, .v false (.list T43)), (6, .v false (.int .i64)), (7, .v false (.int .i64))], []⟩, fun k s => net_cmps.l0 k s.1.1 s.1.2.1 s.1.2.2.1⟩)]⟩
theorem net_cmps.is (k : Nat) (x : AT.dens (net_cmps.ce 0).ats) : (net_cmps.ce k).fn x = den net_cmps.F k (bodyOf Tryz.f88) (startAS (net_cmps.ce 0).ats x) (retK (net_cmps.F.c k) Tryz.f88.results.toList (net_cmps.ce 0).rts) := by kernel_rfl
theorem net_cmps.ob : Obl net_cmps.F (bodyOf Tryz.f88) (fun k => retK (net_cmps.F.c k) Tryz.f88.results.toList (net_cmps.ce 0).rts) := obl_of (by kernel_rfl)
/-! ### 73 -/
def net_forms.l0 : Nat → (List S81) → Int → Int → Option Int
 | 0, _, _, _ => none
 | k + 1, x13, x14, x15 => if x15 < x14 then (if 0 ≤ x15 then (if x15 < (x13.length : Int) then (if ((rd_T81 x13 x15).f0) = 0 then (if ((rd_T81 x13 x15).f1) = 0 then (if ((rd_T81 x13 x15).f0) = 0 then (net_forms.l0 k x13 x14 (w64 (x15 + 1))) else (if ((rd_T81 x13 x15).f2) = 0 then (if (((rd_T81 x13 x15).f3).length : Int) > 0 then (some 7) else (net_forms.l0 k x13 x14 (w64 (x15 + 1)))) else (some 7))) else (some 7)) else (if ((rd_T81 x13 x15).f0) = 0 then (net_forms.l0 k x13 x14 (w64 (x15 + 1))) else (if ((rd_T81 x13 x15).f2) = 0 then (if (((rd_T81 x13 x15).f3).length : Int) > 0 then (some 7) else (net_forms.l0 k x13 x14 (w64 (x15 + 1)))) else (some 7)))) else (none)) else (none)) else (some 0)
def net_forms.f (k : Nat) (l0_0 : List ByteArray) (l0_1 : List S86) (l0_2 : List ByteArray) (l0_3 : List S76) : Option Int := (net_guards.f k l0_0 l0_1 l0_2 l0_3).bind fun t1 => ((net_cmps.f k t1).bind fun t2 => (if t2 = 0 then ((net_sets.f k l0_0 l0_1 l0_2 l0_3).bind fun t3 => (net_forms.l0 k t3 (t3.length : Int) 0)) else (some t2)))
def net_forms.ce (k : Nat) : CallE := ⟨[⟨true, T26⟩], [⟨false, [.v (.int .i64)]⟩], fun (x : S26) => net_forms.f k x.f0 x.f1 x.f2 x.f3⟩
def net_forms.F : Fam (RT.dens (net_forms.ce 0).rts) := ⟨fun k => ⟨TT0, GL0, callT [(88, [], net_cmps.ce k), (201, [], net_guards.ce k), (202, [], net_sets.ce k)], cmpT CM0, [], BLD0, ioT []⟩, [(6, ⟨⟨[(13, .o 81 T81), (14, .v false (.int .i64)), (15, .v false (.int .i64))], []⟩, fun k s => net_forms.l0 k s.1.1 s.1.2.1 s.1.2.2.1⟩)]⟩
theorem net_forms.is (k : Nat) (x : AT.dens (net_forms.ce 0).ats) : (net_forms.ce k).fn x = den net_forms.F k (bodyOf Tryz.f73) (startAS (net_forms.ce 0).ats x) (retK (net_forms.F.c k) Tryz.f73.results.toList (net_forms.ce 0).rts) := by kernel_rfl
theorem net_forms.ob : Obl net_forms.F (bodyOf Tryz.f73) (fun k => retK (net_forms.F.c k) Tryz.f73.results.toList (net_forms.ce 0).rts) := obl_of (by kernel_rfl)
/-! ### 260 -/
def expr_of.f (a0 : Int) : Option (Int × Bool × Bool × ByteArray × Int × Bool) := if a0 < 1 then (some (0, false, false, (⟨#[]⟩ : ByteArray), 0, false)) else (if a0 > 14 then (some (0, false, false, (⟨#[]⟩ : ByteArray), 0, false)) else (if 0 ≤ a0 then (if a0 < (expr_kinds.length : Int) then (some ((rd_T296 expr_kinds a0).f0, (rd_T296 expr_kinds a0).f1, (rd_T296 expr_kinds a0).f2, (rd_T296 expr_kinds a0).f3, (rd_T296 expr_kinds a0).f4, true)) else (none)) else (none)))
def expr_of.ce : CallE := ⟨[⟨false, (.int .u8)⟩], [⟨true, [.v (.int .i64), .v .bool, .v .bool, .v .str, .v (.int .i64)]⟩, ⟨false, [.v .bool]⟩], fun (x : Int) => expr_of.f x⟩
def expr_of.F : Fam (RT.dens (expr_of.ce).rts) := ⟨fun k => ⟨TT0, GL0, callT [], cmpT CM0, [], BLD0, ioT []⟩, []⟩
theorem expr_of.is (k : Nat) (x : AT.dens (expr_of.ce).ats) : (expr_of.ce).fn x = den expr_of.F k (bodyOf Tryz.f260) (startAS (expr_of.ce).ats x) (retK (expr_of.F.c k) Tryz.f260.results.toList (expr_of.ce).rts) := by kernel_rfl
theorem expr_of.ob : Obl expr_of.F (bodyOf Tryz.f260) (fun k => retK (expr_of.F.c k) Tryz.f260.results.toList (expr_of.ce).rts) := obl_of (by kernel_rfl)
/-! ### 259 -/
def expr_End.l0 : Nat → (List S151) → Int → Int → Option Int
 | 0, _, _, _ => none
 | k + 1, x0, x1, x5 => if x5 > 0 then (if x1 ≥ (x0.length : Int) then (some 0) else (if 0 ≤ x1 then (if x1 < (x0.length : Int) then ((expr_of.f ((rd_T151 x0 x1).f0)).bind fun t1 => (expr_End.l0 k x0 (w64 (x1 + 1)) (w64 ((w64 (x5 + t1.1)) - 1)))) else (none)) else (none))) else (some x1)
def expr_End.f (k : Nat) (a0 : List S151) (a1 : Int) : Option Int := if a1 < 0 then (some 0) else (expr_End.l0 k a0 a1 1)
def expr_End.ce (k : Nat) : CallE := ⟨[⟨false, (.list T151)⟩, ⟨false, (.int .i64)⟩], [⟨false, [.v (.int .i64)]⟩], fun (x : (List S151) × Int) => expr_End.f k x.1 x.2⟩
def expr_End.F : Fam (RT.dens (expr_End.ce 0).rts) := ⟨fun k => ⟨TT0, GL0, callT [(260, [], expr_of.ce)], cmpT CM0, [], BLD0, ioT []⟩, [(5, ⟨⟨[(0, .v false (.list T151)), (1, .v false (.int .i64)), (5, .v false (.int .i64))], []⟩, fun k s => expr_End.l0 k s.1.1 s.1.2.1 s.1.2.2.1⟩)]⟩
theorem expr_End.is (k : Nat) (x : AT.dens (expr_End.ce 0).ats) : (expr_End.ce k).fn x = den expr_End.F k (bodyOf Tryz.f259) (startAS (expr_End.ce 0).ats x) (retK (expr_End.F.c k) Tryz.f259.results.toList (expr_End.ce 0).rts) := by kernel_rfl
theorem expr_End.ob : Obl expr_End.F (bodyOf Tryz.f259) (fun k => retK (expr_End.F.c k) Tryz.f259.results.toList (expr_End.ce 0).rts) := obl_of (by kernel_rfl)
/-! ### 204 -/
mutual
def expr_Right.j0 : Nat → (List S151) → Int → Option Int
 | 0, _, _ => none
 | k + 1, x0, x1 => expr_Right.l1 k x0 x1 x0 (x0.length : Int) 0
def expr_Right.l1 : Nat → (List S151) → Int → (List S151) → Int → Int → Option Int
 | 0, _, _, _, _, _ => none
 | k + 1, x0, x1, x28, x29, x30 => if x30 < x29 then (if 0 ≤ x30 then (if x30 < (x28.length : Int) then ((expr_of.f ((rd_T151 x28 x30).f0)).bind fun t2 => (if ((rd_T151 x28 x30).f0) = 1 then (expr_Right.j2 k x0 x1 x30 t2.2.2.2.2.2 1048576 x28 x29 x30 ((rd_T151 x28 x30).f0) ((rd_T151 x28 x30).f1) t2.1 t2.2.1 t2.2.2.1 t2.2.2.2.1 t2.2.2.2.2.1) else (if ((rd_T151 x28 x30).f0) = 2 then (expr_Right.j2 k x0 x1 x30 t2.2.2.2.2.2 (w64 ((if 0 > x1 then 0 else x1) - 1)) x28 x29 x30 ((rd_T151 x28 x30).f0) ((rd_T151 x28 x30).f1) t2.1 t2.2.1 t2.2.2.1 t2.2.2.2.1 t2.2.2.2.2.1) else (expr_Right.j2 k x0 x1 x30 t2.2.2.2.2.2 0 x28 x29 x30 ((rd_T151 x28 x30).f0) ((rd_T151 x28 x30).f1) t2.1 t2.2.1 t2.2.2.1 t2.2.2.2.1 t2.2.2.2.2.1)))) else (none)) else (none)) else (some 0)
def expr_Right.j2 : Nat → (List S151) → Int → Int → Bool → Int → (List S151) → Int → Int → Int → Int → Int → Bool → Bool → ByteArray → Int → Option Int
 | 0, _, _, _, _, _, _, _, _, _, _, _, _, _, _, _ => none
 | k + 1, x0, x1, x5, x8, x9, x28, x29, x30, x6_0, x6_1, x7_0, x7_1, x7_2, x7_3, x7_4 => if (!x8) = true then (some 121) else (if x6_1 < 0 then (some 121) else (if x6_1 > x9 then (some 121) else (expr_Right.j3 k x0 x1 x5 x28 x29 x30 x7_0 x7_1 x7_2 x7_3 x7_4)))
def expr_Right.j3 : Nat → (List S151) → Int → Int → (List S151) → Int → Int → Int → Bool → Bool → ByteArray → Int → Option Int
 | 0, _, _, _, _, _, _, _, _, _, _, _ => none
 | k + 1, x0, x1, x5, x28, x29, x30, x7_0, x7_1, x7_2, x7_3, x7_4 => expr_Right.l4 k x0 x1 (w64 (x5 + 1)) x28 x29 x30 x7_0 0 x7_0 x7_1 x7_2 x7_3 x7_4
def expr_Right.l4 : Nat → (List S151) → Int → Int → (List S151) → Int → Int → Int → Int → Int → Bool → Bool → ByteArray → Int → Option Int
 | 0, _, _, _, _, _, _, _, _, _, _, _, _, _ => none
 | k + 1, x0, x1, x10, x28, x29, x30, x66, x67, x7_0, x7_1, x7_2, x7_3, x7_4 => if x67 < x66 then (if 0 ≤ x10 then (if x10 < (x0.length : Int) then ((expr_of.f ((rd_T151 x0 x10).f0)).bind fun t3 => (if t3.2.1 = x7_2 then ((expr_End.f k x0 x10).bind fun t4 => (expr_Right.l4 k x0 x1 t4 x28 x29 x30 x66 (w64 (x67 + 1)) x7_0 x7_1 x7_2 x7_3 x7_4)) else (some 121))) else (none)) else (none)) else (expr_Right.l1 k x0 x1 x28 x29 (w64 (x30 + 1)))
end
def expr_Right.f (k : Nat) (a0 : List S151) (a1 : Int) : Option Int := if (a0.length : Int) = 0 then (some 121) else (if (a0.length : Int) > 64 then (some 121) else ((expr_End.f k a0 0).bind fun t1 => (if t1 = (a0.length : Int) then (expr_Right.j0 k a0 a1) else (some 121))))
def expr_Right.ce (k : Nat) : CallE := ⟨[⟨false, (.list T151)⟩, ⟨false, (.int .i64)⟩], [⟨false, [.v (.int .i64)]⟩], fun (x : (List S151) × Int) => expr_Right.f k x.1 x.2⟩
def expr_Right.F : Fam (RT.dens (expr_Right.ce 0).rts) := ⟨fun k => ⟨TT0, GL0, callT [(259, [], expr_End.ce k), (260, [], expr_of.ce)], cmpT CM0, [], BLD0, ioT []⟩, [(1000004, ⟨⟨[(0, .v false (.list T151)), (1, .v false (.int .i64))], []⟩, fun k s => expr_Right.j0 k s.1.1 s.1.2.1⟩), (5, ⟨⟨[(0, .v false (.list T151)), (1, .v false (.int .i64)), (28, .v false (.list T151)), (29, .v false (.int .i64)), (30, .v false (.int .i64))], []⟩, fun k s => expr_Right.l1 k s.1.1 s.1.2.1 s.1.2.2.1 s.1.2.2.2.1 s.1.2.2.2.2.1⟩), (1000014, ⟨⟨[(0, .v false (.list T151)), (1, .v false (.int .i64)), (5, .v false (.int .i64)), (6, .k (.ptr 384 0)), (7, .k (.ptr 448 0)), (8, .v false .bool), (9, .v false (.int .i64)), (28, .v false (.list T151)), (29, .v false (.int .i64)), (30, .v false (.int .i64))], [(384, [.v (.int .u8), .v (.int .i64)]), (448, [.v (.int .i64), .v .bool, .v .bool, .v .str, .v (.int .i64)])]⟩, fun k s => expr_Right.j2 k s.1.1 s.1.2.1 s.1.2.2.1 s.1.2.2.2.1 s.1.2.2.2.2.1 s.1.2.2.2.2.2.1 s.1.2.2.2.2.2.2.1 s.1.2.2.2.2.2.2.2.1 s.2.1.1 s.2.1.2.1 s.2.2.1.1 s.2.2.1.2.1 s.2.2.1.2.2.1 s.2.2.1.2.2.2.1 s.2.2.1.2.2.2.2.1⟩), (1000016, ⟨⟨[(0, .v false (.list T151)), (1, .v false (.int .i64)), (5, .v false (.int .i64)), (7, .k (.ptr 448 0)), (28, .v false (.list T151)), (29, .v false (.int .i64)), (30, .v false (.int .i64))], [(448, [.v (.int .i64), .v .bool, .v .bool, .v .str, .v (.int .i64)])]⟩, fun k s => expr_Right.j3 k s.1.1 s.1.2.1 s.1.2.2.1 s.1.2.2.2.1 s.1.2.2.2.2.1 s.1.2.2.2.2.2.1 s.2.1.1 s.2.1.2.1 s.2.1.2.2.1 s.2.1.2.2.2.1 s.2.1.2.2.2.2.1⟩), (18, ⟨⟨[(0, .v false (.list T151)), (1, .v false (.int .i64)), (7, .k (.ptr 448 0)), (10, .v false (.int .i64)), (28, .v false (.list T151)), (29, .v false (.int .i64)), (30, .v false (.int .i64)), (66, .v false (.int .i64)), (67, .v false (.int .i64))], [(448, [.v (.int .i64), .v .bool, .v .bool, .v .str, .v (.int .i64)])]⟩, fun k s => expr_Right.l4 k s.1.1 s.1.2.1 s.1.2.2.1 s.1.2.2.2.1 s.1.2.2.2.2.1 s.1.2.2.2.2.2.1 s.1.2.2.2.2.2.2.1 s.1.2.2.2.2.2.2.2.1 s.2.1.1 s.2.1.2.1 s.2.1.2.2.1 s.2.1.2.2.2.1 s.2.1.2.2.2.2.1⟩)]⟩
theorem expr_Right.is (k : Nat) (x : AT.dens (expr_Right.ce 0).ats) : (expr_Right.ce k).fn x = den expr_Right.F k (bodyOf Tryz.f204) (startAS (expr_Right.ce 0).ats x) (retK (expr_Right.F.c k) Tryz.f204.results.toList (expr_Right.ce 0).rts) := by kernel_rfl
theorem expr_Right.ob : Obl expr_Right.F (bodyOf Tryz.f204) (fun k => retK (expr_Right.F.c k) Tryz.f204.results.toList (expr_Right.ce 0).rts) := obl_of (by kernel_rfl)
/-! ### 205 -/
def expr_IsTruth.f (a0 : List S151) : Option Bool := if (a0.length : Int) = 0 then (some false) else (if 0 ≤ 0 then (if 0 < (a0.length : Int) then ((expr_of.f ((rd_T151 a0 0).f0)).bind fun t1 => (some t1.2.1)) else (none)) else (none))
def expr_IsTruth.ce : CallE := ⟨[⟨false, (.list T151)⟩], [⟨false, [.v .bool]⟩], fun (x : (List S151)) => expr_IsTruth.f x⟩
def expr_IsTruth.F : Fam (RT.dens (expr_IsTruth.ce).rts) := ⟨fun k => ⟨TT0, GL0, callT [(260, [], expr_of.ce)], cmpT CM0, [], BLD0, ioT []⟩, []⟩
theorem expr_IsTruth.is (k : Nat) (x : AT.dens (expr_IsTruth.ce).ats) : (expr_IsTruth.ce).fn x = den expr_IsTruth.F k (bodyOf Tryz.f205) (startAS (expr_IsTruth.ce).ats x) (retK (expr_IsTruth.F.c k) Tryz.f205.results.toList (expr_IsTruth.ce).rts) := by kernel_rfl
theorem expr_IsTruth.ob : Obl expr_IsTruth.F (bodyOf Tryz.f205) (fun k => retK (expr_IsTruth.F.c k) Tryz.f205.results.toList (expr_IsTruth.ce).rts) := obl_of (by kernel_rfl)
/-! ### 90 -/
def net_truth.f (k : Nat) (l0_0 : List ByteArray) (l0_1 : List S86) (l0_2 : List ByteArray) (l0_3 : List S76) (a1 : List S151) : Option Int := if (a1.length : Int) > 0 then ((expr_Right.f k a1 (l0_1.length : Int)).bind fun t1 => (if t1 = 0 then ((expr_IsTruth.f a1).bind fun t2 => (if (!t2) = true then (some 121) else (some 0))) else (some 121))) else (some 0)
def net_truth.ce (k : Nat) : CallE := ⟨[⟨true, T26⟩, ⟨false, (.list T151)⟩], [⟨false, [.v (.int .i64)]⟩], fun (x : S26 × (List S151)) => net_truth.f k x.1.f0 x.1.f1 x.1.f2 x.1.f3 x.2⟩
def net_truth.F : Fam (RT.dens (net_truth.ce 0).rts) := ⟨fun k => ⟨TT0, GL0, callT [(204, [], expr_Right.ce k), (205, [], expr_IsTruth.ce)], cmpT CM0, [], BLD0, ioT []⟩, []⟩
theorem net_truth.is (k : Nat) (x : AT.dens (net_truth.ce 0).ats) : (net_truth.ce k).fn x = den net_truth.F k (bodyOf Tryz.f90) (startAS (net_truth.ce 0).ats x) (retK (net_truth.F.c k) Tryz.f90.results.toList (net_truth.ce 0).rts) := by kernel_rfl
theorem net_truth.ob : Obl net_truth.F (bodyOf Tryz.f90) (fun k => retK (net_truth.F.c k) Tryz.f90.results.toList (net_truth.ce 0).rts) := obl_of (by kernel_rfl)
/-! ### 74 -/
mutual
def net_tests.l0 : Nat → (List S76) → Int → Int → (List ByteArray) → (List S86) → (List ByteArray) → (List S76) → Option Int
 | 0, _, _, _, _, _, _, _ => none
 | k + 1, x11, x12, x13, x1_0, x1_1, x1_2, x1_3 => if x13 < x12 then (if 0 ≤ x13 then (if x13 < (x11.length : Int) then (net_tests.l1 k x11 x12 x13 ((rd_T76 x11 x13).f2) (((rd_T76 x11 x13).f2).length : Int) 0 x1_0 x1_1 x1_2 x1_3) else (none)) else (none)) else ((net_sets.f k x1_0 x1_1 x1_2 x1_3).bind fun t2 => (net_tests.l2 k t2 (t2.length : Int) 0 x1_0 x1_1 x1_2 x1_3))
def net_tests.l1 : Nat → (List S76) → Int → Int → (List S79) → Int → Int → (List ByteArray) → (List S86) → (List ByteArray) → (List S76) → Option Int
 | 0, _, _, _, _, _, _, _, _, _, _ => none
 | k + 1, x11, x12, x13, x18, x19, x20, x1_0, x1_1, x1_2, x1_3 => if x20 < x19 then (if 0 ≤ x20 then (if x20 < (x18.length : Int) then ((net_truth.f k x1_0 x1_1 x1_2 x1_3 ((rd_T79 x18 x20).f3)).bind fun t1 => (if t1 = 0 then (net_tests.l1 k x11 x12 x13 x18 x19 (w64 (x20 + 1)) x1_0 x1_1 x1_2 x1_3) else (some t1))) else (none)) else (none)) else (net_tests.l0 k x11 x12 (w64 (x13 + 1)) x1_0 x1_1 x1_2 x1_3)
def net_tests.l2 : Nat → (List S81) → Int → Int → (List ByteArray) → (List S86) → (List ByteArray) → (List S76) → Option Int
 | 0, _, _, _, _, _, _, _ => none
 | k + 1, x34, x35, x36, x1_0, x1_1, x1_2, x1_3 => if x36 < x35 then (if 0 ≤ x36 then (if x36 < (x34.length : Int) then (if ((rd_T81 x34 x36).f0) = 0 then (if ((rd_T81 x34 x36).f2) < 0 then (some 121) else (if ((rd_T81 x34 x36).f2) ≥ (x1_1.length : Int) then (some 121) else ((expr_Right.f k ((rd_T81 x34 x36).f3) (x1_1.length : Int)).bind fun t3 => (if t3 = 0 then ((expr_IsTruth.f ((rd_T81 x34 x36).f3)).bind fun t4 => (if t4 = true then (some 121) else (net_tests.l2 k x34 x35 (w64 (x36 + 1)) x1_0 x1_1 x1_2 x1_3))) else (some 121))))) else (net_tests.l2 k x34 x35 (w64 (x36 + 1)) x1_0 x1_1 x1_2 x1_3)) else (none)) else (none)) else (some 0)
end
def net_tests.f (k : Nat) (l0_0 : List ByteArray) (l0_1 : List S86) (l0_2 : List ByteArray) (l0_3 : List S76) : Option Int := net_tests.l0 k l0_3 (l0_3.length : Int) 0 l0_0 l0_1 l0_2 l0_3
def net_tests.ce (k : Nat) : CallE := ⟨[⟨true, T26⟩], [⟨false, [.v (.int .i64)]⟩], fun (x : S26) => net_tests.f k x.f0 x.f1 x.f2 x.f3⟩
def net_tests.F : Fam (RT.dens (net_tests.ce 0).rts) := ⟨fun k => ⟨TT0, GL0, callT [(90, [], net_truth.ce k), (202, [], net_sets.ce k), (204, [], expr_Right.ce k), (205, [], expr_IsTruth.ce)], cmpT CM0, [], BLD0, ioT []⟩, [(3, ⟨⟨[(1, .k (.ptr 64 0)), (11, .v false (.list T76)), (12, .v false (.int .i64)), (13, .v false (.int .i64))], [(64, [.v (.list .str), .v (.list T86), .v (.list .str), .v (.list T76)])]⟩, fun k s => net_tests.l0 k s.1.1 s.1.2.1 s.1.2.2.1 s.2.1.1 s.2.1.2.1 s.2.1.2.2.1 s.2.1.2.2.2.1⟩), (6, ⟨⟨[(1, .k (.ptr 64 0)), (11, .v false (.list T76)), (12, .v false (.int .i64)), (13, .v false (.int .i64)), (18, .v false (.list T79)), (19, .v false (.int .i64)), (20, .v false (.int .i64))], [(64, [.v (.list .str), .v (.list T86), .v (.list .str), .v (.list T76)])]⟩, fun k s => net_tests.l1 k s.1.1 s.1.2.1 s.1.2.2.1 s.1.2.2.2.1 s.1.2.2.2.2.1 s.1.2.2.2.2.2.1 s.2.1.1 s.2.1.2.1 s.2.1.2.2.1 s.2.1.2.2.2.1⟩), (14, ⟨⟨[(1, .k (.ptr 64 0)), (34, .o 81 T81), (35, .v false (.int .i64)), (36, .v false (.int .i64))], [(64, [.v (.list .str), .v (.list T86), .v (.list .str), .v (.list T76)])]⟩, fun k s => net_tests.l2 k s.1.1 s.1.2.1 s.1.2.2.1 s.2.1.1 s.2.1.2.1 s.2.1.2.2.1 s.2.1.2.2.2.1⟩)]⟩
theorem net_tests.is (k : Nat) (x : AT.dens (net_tests.ce 0).ats) : (net_tests.ce k).fn x = den net_tests.F k (bodyOf Tryz.f74) (startAS (net_tests.ce 0).ats x) (retK (net_tests.F.c k) Tryz.f74.results.toList (net_tests.ce 0).rts) := by kernel_rfl
theorem net_tests.ob : Obl net_tests.F (bodyOf Tryz.f74) (fun k => retK (net_tests.F.c k) Tryz.f74.results.toList (net_tests.ce 0).rts) := obl_of (by kernel_rfl)
/-! ### 14 -/
def net_Whole.l0 : Nat → (List DA0) → Int → Int → (List ByteArray) → (List S86) → (List ByteArray) → (List S76) → Option Int
 | 0, _, _, _, _, _, _, _ => none
 | k + 1, x8, x9, x10, x1_0, x1_1, x1_2, x1_3 => if x10 < x9 then (if 0 ≤ x10 then (if x10 < (x8.length : Int) then ((Sum.elim (fun (_ : Bool) => net_some.f k x1_0 x1_1 x1_2 x1_3) (Sum.elim (fun (_ : Bool) => net_sizes.f k x1_0 x1_1 x1_2 x1_3) (Sum.elim (fun (_ : Bool) => net_names.f k x1_0 x1_1 x1_2 x1_3) (Sum.elim (fun (_ : Bool) => net_vars.f k x1_0 x1_1 x1_2 x1_3) (Sum.elim (fun (_ : Bool) => net_locs.f k x1_0 x1_1 x1_2 x1_3) (Sum.elim (fun (_ : Bool) => net_edges.f k x1_0 x1_1 x1_2 x1_3) (Sum.elim (fun (_ : Bool) => net_clocks.f k x1_0 x1_1 x1_2 x1_3) (Sum.elim (fun (_ : Bool) => net_forms.f k x1_0 x1_1 x1_2 x1_3) (Sum.elim (fun (_ : Bool) => net_tests.f k x1_0 x1_1 x1_2 x1_3) (fun _ => none))))))))) (rdT A0 x8 x10)).bind fun t1 => (if t1 = 0 then (net_Whole.l0 k x8 x9 (w64 (x10 + 1)) x1_0 x1_1 x1_2 x1_3) else (some t1))) else (none)) else (none)) else (some 0)
def net_Whole.f (k : Nat) (l0_0 : List ByteArray) (l0_1 : List S86) (l0_2 : List ByteArray) (l0_3 : List S76) : Option Int := net_Whole.l0 k ([(Sum.inl false), (Sum.inr (Sum.inl false)), (Sum.inr (Sum.inr (Sum.inl false))), (Sum.inr (Sum.inr (Sum.inr (Sum.inl false)))), (Sum.inr (Sum.inr (Sum.inr (Sum.inr (Sum.inl false))))), (Sum.inr (Sum.inr (Sum.inr (Sum.inr (Sum.inr (Sum.inl false)))))), (Sum.inr (Sum.inr (Sum.inr (Sum.inr (Sum.inr (Sum.inr (Sum.inl false))))))), (Sum.inr (Sum.inr (Sum.inr (Sum.inr (Sum.inr (Sum.inr (Sum.inr (Sum.inl false)))))))), (Sum.inr (Sum.inr (Sum.inr (Sum.inr (Sum.inr (Sum.inr (Sum.inr (Sum.inr (Sum.inl false)))))))))] : List DA0) (([(Sum.inl false), (Sum.inr (Sum.inl false)), (Sum.inr (Sum.inr (Sum.inl false))), (Sum.inr (Sum.inr (Sum.inr (Sum.inl false)))), (Sum.inr (Sum.inr (Sum.inr (Sum.inr (Sum.inl false))))), (Sum.inr (Sum.inr (Sum.inr (Sum.inr (Sum.inr (Sum.inl false)))))), (Sum.inr (Sum.inr (Sum.inr (Sum.inr (Sum.inr (Sum.inr (Sum.inl false))))))), (Sum.inr (Sum.inr (Sum.inr (Sum.inr (Sum.inr (Sum.inr (Sum.inr (Sum.inl false)))))))), (Sum.inr (Sum.inr (Sum.inr (Sum.inr (Sum.inr (Sum.inr (Sum.inr (Sum.inr (Sum.inl false)))))))))] : List DA0).length : Int) 0 l0_0 l0_1 l0_2 l0_3
def net_Whole.ce (k : Nat) : CallE := ⟨[⟨true, T26⟩], [⟨false, [.v (.int .i64)]⟩], fun (x : S26) => net_Whole.f k x.f0 x.f1 x.f2 x.f3⟩
def net_Whole.F : Fam (RT.dens (net_Whole.ce 0).rts) := ⟨fun k => ⟨TT0, GL0, callT [(66, [], net_some.ce k), (67, [], net_sizes.ce k), (68, [], net_names.ce k), (69, [], net_vars.ce k), (70, [], net_locs.ce k), (71, [], net_edges.ce k), (72, [], net_clocks.ce k), (73, [], net_forms.ce k), (74, [], net_tests.ce k)], cmpT CM0, [], BLD0, ioT []⟩, [(4, ⟨⟨[(1, .k (.ptr 64 0)), (8, .o 30 A0), (9, .v false (.int .i64)), (10, .v false (.int .i64))], [(64, [.v (.list .str), .v (.list T86), .v (.list .str), .v (.list T76)])]⟩, fun k s => net_Whole.l0 k s.1.1 s.1.2.1 s.1.2.2.1 s.2.1.1 s.2.1.2.1 s.2.1.2.2.1 s.2.1.2.2.2.1⟩)]⟩
theorem net_Whole.is (k : Nat) (x : AT.dens (net_Whole.ce 0).ats) : (net_Whole.ce k).fn x = den net_Whole.F k (bodyOf Tryz.f14) (startAS (net_Whole.ce 0).ats x) (retK (net_Whole.F.c k) Tryz.f14.results.toList (net_Whole.ce 0).rts) := by kernel_rfl
theorem net_Whole.ob : Obl net_Whole.F (bodyOf Tryz.f14) (fun k => retK (net_Whole.F.c k) Tryz.f14.results.toList (net_Whole.ce 0).rts) := obl_of (by kernel_rfl)
/-! ### 16 -/
def net_Right.f (k : Nat) (l0_0 : List ByteArray) (l0_1 : List S86) (l0_2 : List ByteArray) (l0_3 : List S76) : Option Bool := (net_Whole.f k l0_0 l0_1 l0_2 l0_3).bind fun t1 => (some (decide (t1 = 0)))
def net_Right.ce (k : Nat) : CallE := ⟨[⟨true, T26⟩], [⟨false, [.v .bool]⟩], fun (x : S26) => net_Right.f k x.f0 x.f1 x.f2 x.f3⟩
def net_Right.F : Fam (RT.dens (net_Right.ce 0).rts) := ⟨fun k => ⟨TT0, GL0, callT [(14, [], net_Whole.ce k)], cmpT CM0, [], BLD0, ioT []⟩, []⟩
theorem net_Right.is (k : Nat) (x : AT.dens (net_Right.ce 0).ats) : (net_Right.ce k).fn x = den net_Right.F k (bodyOf Tryz.f16) (startAS (net_Right.ce 0).ats x) (retK (net_Right.F.c k) Tryz.f16.results.toList (net_Right.ce 0).rts) := by kernel_rfl
theorem net_Right.ob : Obl net_Right.F (bodyOf Tryz.f16) (fun k => retK (net_Right.F.c k) Tryz.f16.results.toList (net_Right.ce 0).rts) := obl_of (by kernel_rfl)
/-! ### 110 -/
def net_writer_line.l0 : Nat → (List ByteArray) → Int → Int → (List Int) → (List ByteArray) → (List S86) → (List ByteArray) → (List S76) → Option (((List Int) × S26) × (Bool))
 | 0, _, _, _, _, _, _, _, _ => none
 | k + 1, x6, x7, x8, x100000_1, x100000_2, x100000_3, x100000_4, x100000_5 => if x8 < x7 then (if 0 ≤ x8 then (if x8 < (x6.length : Int) then ((if x100000_1.length + (rdT .str x6 x8).size ≤ 140737488355328 then some () else none).bind fun _ => (net_writer_line.l0 k x6 x7 (w64 (x8 + 1)) (x100000_1 ++ bytesOf (rdT .str x6 x8)) x100000_2 x100000_3 x100000_4 x100000_5)) else (none)) else (none)) else ((if x100000_1.length + (⟨#[10]⟩ : ByteArray).size ≤ 140737488355328 then some () else none).bind fun _ => (some (((x100000_1 ++ bytesOf (⟨#[10]⟩ : ByteArray)), (⟨x100000_2, x100000_3, x100000_4, x100000_5⟩ : S26)), false)))
def net_writer_line.f (k : Nat) (y0 : List Int) (y1 : S26) (a1 : List ByteArray) : Option (((List Int) × S26) × (Bool)) := net_writer_line.l0 k a1 (a1.length : Int) 0 y0 y1.f0 y1.f1 y1.f2 y1.f3
def net_writer_line.io (k : Nat) : IOE := ⟨some 159, [.o 5 (.int .u8), .v T26], [⟨false, (.list .str)⟩], [], fun (y : (List Int) × S26) (x : (List ByteArray)) => net_writer_line.f k y.1 y.2 x⟩
def net_writer_line.F : Fam ((RC.tys (net_writer_line.io 0).bx).den × RT.dens (net_writer_line.io 0).rts) := ⟨fun k => ⟨TT0, GL0, callT [], cmpT CM0, [], BLD0, ioT []⟩, [(2, ⟨⟨[(0, .k (.ptr 6400000 0)), (6, .v false (.list .str)), (7, .v false (.int .i64)), (8, .v false (.int .i64))], [(6400000, [.k (.sq 159 6400000), .o 5 (.int .u8), .v (.list .str), .v (.list T86), .v (.list .str), .v (.list T76)])]⟩, fun k s => net_writer_line.l0 k s.1.1 s.1.2.1 s.1.2.2.1 s.2.1.1 s.2.1.2.1 s.2.1.2.2.1 s.2.1.2.2.2.1 s.2.1.2.2.2.2.1⟩)]⟩
theorem net_writer_line.is (k : Nat) (y : (RC.tys (net_writer_line.io k).bx).den) (x : AT.dens (net_writer_line.io k).ats) : (net_writer_line.io k).fn y x = den net_writer_line.F k (bodyOf Tryz.f110) (startIO (net_writer_line.io k) y x) (retIO (net_writer_line.F.c k) Tryz.f110.results.toList (net_writer_line.io k)) := by kernel_rfl
theorem net_writer_line.ob (k : Nat) : Obl net_writer_line.F (bodyOf Tryz.f110) (fun n => retIO (net_writer_line.F.c n) Tryz.f110.results.toList (net_writer_line.io k)) := obl_of (by kernel_rfl)
/-! ### 122 -/
def net_writer_guard.j0 : Nat → ByteArray → (List Int) → (List ByteArray) → (List S86) → (List ByteArray) → (List S76) → Int → Int → Int → Int → Option (((List Int) × S26) × (ByteArray))
 | 0, _, _, _, _, _, _, _, _, _, _ => none
 | k + 1, x5, x100000_1, x100000_2, x100000_3, x100000_4, x100000_5, x3_0, x3_1, x3_2, x3_3 => if x5.size + (⟨#[32]⟩ : ByteArray).size ≤ 9223372036854775807 then (if 0 ≤ x3_2 then (if x3_2 < ((6 : Nat) : Int) then (if (x5 ++ (⟨#[32]⟩ : ByteArray)).size + (rdT .str ([(⟨#[]⟩ : ByteArray), (⟨#[60]⟩ : ByteArray), (⟨#[60, 61]⟩ : ByteArray), (⟨#[61, 61]⟩ : ByteArray), (⟨#[62, 61]⟩ : ByteArray), (⟨#[62]⟩ : ByteArray)] : List ByteArray) x3_2).size ≤ 9223372036854775807 then (if ((x5 ++ (⟨#[32]⟩ : ByteArray)) ++ (rdT .str ([(⟨#[]⟩ : ByteArray), (⟨#[60]⟩ : ByteArray), (⟨#[60, 61]⟩ : ByteArray), (⟨#[61, 61]⟩ : ByteArray), (⟨#[62, 61]⟩ : ByteArray), (⟨#[62]⟩ : ByteArray)] : List ByteArray) x3_2)).size + (⟨#[32]⟩ : ByteArray).size ≤ 9223372036854775807 then ((strconv_Itoa.f x3_3).bind fun t1 => (if (((x5 ++ (⟨#[32]⟩ : ByteArray)) ++ (rdT .str ([(⟨#[]⟩ : ByteArray), (⟨#[60]⟩ : ByteArray), (⟨#[60, 61]⟩ : ByteArray), (⟨#[61, 61]⟩ : ByteArray), (⟨#[62, 61]⟩ : ByteArray), (⟨#[62]⟩ : ByteArray)] : List ByteArray) x3_2)) ++ (⟨#[32]⟩ : ByteArray)).size + t1.size ≤ 9223372036854775807 then (some ((x100000_1, (⟨x100000_2, x100000_3, x100000_4, x100000_5⟩ : S26)), ((((x5 ++ (⟨#[32]⟩ : ByteArray)) ++ (rdT .str ([(⟨#[]⟩ : ByteArray), (⟨#[60]⟩ : ByteArray), (⟨#[60, 61]⟩ : ByteArray), (⟨#[61, 61]⟩ : ByteArray), (⟨#[62, 61]⟩ : ByteArray), (⟨#[62]⟩ : ByteArray)] : List ByteArray) x3_2)) ++ (⟨#[32]⟩ : ByteArray)) ++ t1))) else (none))) else (none)) else (none)) else (none)) else (none)) else (none)
def net_writer_guard.f (k : Nat) (y0 : List Int) (y1 : S26) (l1_0 : Int) (l1_1 : Int) (l1_2 : Int) (l1_3 : Int) : Option (((List Int) × S26) × (ByteArray)) := if 0 ≤ w64 (l1_0 - 1) then (if w64 (l1_0 - 1) < (y1.f0.length : Int) then (if l1_1 = 0 then (net_writer_guard.j0 k (rdT .str y1.f0 (w64 (l1_0 - 1))) y0 y1.f0 y1.f1 y1.f2 y1.f3 l1_0 l1_1 l1_2 l1_3) else (if 0 ≤ w64 (l1_1 - 1) then (if w64 (l1_1 - 1) < (y1.f0.length : Int) then (if (⟨#[32, 45, 32]⟩ : ByteArray).size + (rdT .str y1.f0 (w64 (l1_1 - 1))).size ≤ 9223372036854775807 then (if (rdT .str y1.f0 (w64 (l1_0 - 1))).size + ((⟨#[32, 45, 32]⟩ : ByteArray) ++ (rdT .str y1.f0 (w64 (l1_1 - 1)))).size ≤ 9223372036854775807 then (net_writer_guard.j0 k ((rdT .str y1.f0 (w64 (l1_0 - 1))) ++ ((⟨#[32, 45, 32]⟩ : ByteArray) ++ (rdT .str y1.f0 (w64 (l1_1 - 1))))) y0 y1.f0 y1.f1 y1.f2 y1.f3 l1_0 l1_1 l1_2 l1_3) else (none)) else (none)) else (none)) else (none))) else (none)) else (none)
def net_writer_guard.io (k : Nat) : IOE := ⟨some 159, [.o 5 (.int .u8), .v T26], [⟨true, T43⟩], [⟨false, [.v .str]⟩], fun (y : (List Int) × S26) (x : S43) => net_writer_guard.f k y.1 y.2 x.f0 x.f1 x.f2 x.f3⟩
def net_writer_guard.F : Fam ((RC.tys (net_writer_guard.io 0).bx).den × RT.dens (net_writer_guard.io 0).rts) := ⟨fun k => ⟨TT0, GL0, callT [(112, [], strconv_Itoa.ce)], cmpT CM0, [3000384], BLD0, ioT []⟩, [(1000005, ⟨⟨[(3, .k (.ptr 192 0)), (5, .v false .str)], [(6400000, [.k (.sq 159 6400000), .o 5 (.int .u8), .v (.list .str), .v (.list T86), .v (.list .str), .v (.list T76)]), (192, [.v (.int .i64), .v (.int .i64), .v (.int .u8), .v (.int .i64)])]⟩, fun k s => net_writer_guard.j0 k s.1.1 s.2.1.1 s.2.1.2.1 s.2.1.2.2.1 s.2.1.2.2.2.1 s.2.1.2.2.2.2.1 s.2.2.1.1 s.2.2.1.2.1 s.2.2.1.2.2.1 s.2.2.1.2.2.2.1⟩)]⟩
theorem net_writer_guard.is (k : Nat) (y : (RC.tys (net_writer_guard.io k).bx).den) (x : AT.dens (net_writer_guard.io k).ats) : (net_writer_guard.io k).fn y x = den net_writer_guard.F k (bodyOf Tryz.f122) (startIO (net_writer_guard.io k) y x) (retIO (net_writer_guard.F.c k) Tryz.f122.results.toList (net_writer_guard.io k)) := by kernel_rfl
theorem net_writer_guard.ob (k : Nat) : Obl net_writer_guard.F (bodyOf Tryz.f122) (fun n => retIO (net_writer_guard.F.c n) Tryz.f122.results.toList (net_writer_guard.io k)) := obl_of (by kernel_rfl)
mutual
def expr_text.j0 : Nat → (List S151) → Int → (List ByteArray) → Int → Int → Bool → Bool → ByteArray → Int → Option ByteArray
 | 0, _, _, _, _, _, _, _, _, _ => none
 | k + 1, x0, x1, x2, x10, x8_0, x8_1, x8_2, x8_3, x8_4 => (expr_part.r k x0 (w64 (x1 + 1)) x2 x10).bind fun t5 => (if t5.size + (⟨#[32]⟩ : ByteArray).size ≤ 9223372036854775807 then (if (t5 ++ (⟨#[32]⟩ : ByteArray)).size + x8_3.size ≤ 9223372036854775807 then (if ((t5 ++ (⟨#[32]⟩ : ByteArray)) ++ x8_3).size + (⟨#[32]⟩ : ByteArray).size ≤ 9223372036854775807 then ((expr_End.f k x0 (w64 (x1 + 1))).bind fun t6 => ((expr_part.r k x0 t6 x2 (w64 (x8_4 + 1))).bind fun t7 => (if (((t5 ++ (⟨#[32]⟩ : ByteArray)) ++ x8_3) ++ (⟨#[32]⟩ : ByteArray)).size + t7.size ≤ 9223372036854775807 then (some ((((t5 ++ (⟨#[32]⟩ : ByteArray)) ++ x8_3) ++ (⟨#[32]⟩ : ByteArray)) ++ t7)) else (none)))) else (none)) else (none)) else (none))
def expr_text.r : Nat → (List S151) → Int → (List ByteArray) → Option ByteArray
 | 0, _, _, _ => none
 | k + 1, a0, a1, a2 => if 0 ≤ a1 then (if a1 < (a0.length : Int) then ((expr_of.f ((rd_T151 a0 a1).f0)).bind fun t1 => (if ((rd_T151 a0 a1).f0) = 1 then ((strconv_Itoa.f ((rd_T151 a0 a1).f1)).bind fun t2 => (some t2)) else (if ((rd_T151 a0 a1).f0) = 2 then (if 0 ≤ (rd_T151 a0 a1).f1 then (if (rd_T151 a0 a1).f1 < (a2.length : Int) then (some (rdT .str a2 ((rd_T151 a0 a1).f1))) else (none)) else (none)) else (if ((rd_T151 a0 a1).f0) = 7 then (some t1.2.2.2.1) else (if ((rd_T151 a0 a1).f0) = 12 then ((expr_text.r k a0 (w64 (a1 + 1)) a2).bind fun t3 => (if (⟨#[33, 40]⟩ : ByteArray).size + t3.size ≤ 9223372036854775807 then (if ((⟨#[33, 40]⟩ : ByteArray) ++ t3).size + (⟨#[41]⟩ : ByteArray).size ≤ 9223372036854775807 then (some (((⟨#[33, 40]⟩ : ByteArray) ++ t3) ++ (⟨#[41]⟩ : ByteArray))) else (none)) else (none))) else (if ((rd_T151 a0 a1).f0) = 3 then ((expr_part.r k a0 (w64 (a1 + 1)) a2 t1.2.2.2.2.1).bind fun t4 => (if (⟨#[45]⟩ : ByteArray).size + t4.size ≤ 9223372036854775807 then (some ((⟨#[45]⟩ : ByteArray) ++ t4)) else (none))) else (if t1.2.2.2.2.1 = 3 then (expr_text.j0 k a0 a1 a2 (w64 (t1.2.2.2.2.1 + 1)) t1.1 t1.2.1 t1.2.2.1 t1.2.2.2.1 t1.2.2.2.2.1) else (expr_text.j0 k a0 a1 a2 t1.2.2.2.2.1 t1.1 t1.2.1 t1.2.2.1 t1.2.2.2.1 t1.2.2.2.2.1)))))))) else (none)) else (none)
def expr_part.r : Nat → (List S151) → Int → (List ByteArray) → Int → Option ByteArray
 | 0, _, _, _, _ => none
 | k + 1, a0, a1, a2, a3 => (expr_text.r k a0 a1 a2).bind fun t1 => (if 0 ≤ a1 then (if a1 < (a0.length : Int) then ((expr_of.f ((rd_T151 a0 a1).f0)).bind fun t2 => (if t2.2.2.2.2.1 < a3 then (if (⟨#[40]⟩ : ByteArray).size + t1.size ≤ 9223372036854775807 then (if ((⟨#[40]⟩ : ByteArray) ++ t1).size + (⟨#[41]⟩ : ByteArray).size ≤ 9223372036854775807 then (some (((⟨#[40]⟩ : ByteArray) ++ t1) ++ (⟨#[41]⟩ : ByteArray))) else (none)) else (none)) else (some t1))) else (none)) else (none))
end
/-! ### 269 -/
def expr_text.f (k : Nat) (a0 : List S151) (a1 : Int) (a2 : List ByteArray) : Option ByteArray := if 0 ≤ a1 then (if a1 < (a0.length : Int) then ((expr_of.f ((rd_T151 a0 a1).f0)).bind fun t1 => (if ((rd_T151 a0 a1).f0) = 1 then ((strconv_Itoa.f ((rd_T151 a0 a1).f1)).bind fun t2 => (some t2)) else (if ((rd_T151 a0 a1).f0) = 2 then (if 0 ≤ (rd_T151 a0 a1).f1 then (if (rd_T151 a0 a1).f1 < (a2.length : Int) then (some (rdT .str a2 ((rd_T151 a0 a1).f1))) else (none)) else (none)) else (if ((rd_T151 a0 a1).f0) = 7 then (some t1.2.2.2.1) else (if ((rd_T151 a0 a1).f0) = 12 then ((expr_text.r k a0 (w64 (a1 + 1)) a2).bind fun t3 => (if (⟨#[33, 40]⟩ : ByteArray).size + t3.size ≤ 9223372036854775807 then (if ((⟨#[33, 40]⟩ : ByteArray) ++ t3).size + (⟨#[41]⟩ : ByteArray).size ≤ 9223372036854775807 then (some (((⟨#[33, 40]⟩ : ByteArray) ++ t3) ++ (⟨#[41]⟩ : ByteArray))) else (none)) else (none))) else (if ((rd_T151 a0 a1).f0) = 3 then ((expr_part.r k a0 (w64 (a1 + 1)) a2 t1.2.2.2.2.1).bind fun t4 => (if (⟨#[45]⟩ : ByteArray).size + t4.size ≤ 9223372036854775807 then (some ((⟨#[45]⟩ : ByteArray) ++ t4)) else (none))) else (if t1.2.2.2.2.1 = 3 then (expr_text.j0 k a0 a1 a2 (w64 (t1.2.2.2.2.1 + 1)) t1.1 t1.2.1 t1.2.2.1 t1.2.2.2.1 t1.2.2.2.2.1) else (expr_text.j0 k a0 a1 a2 t1.2.2.2.2.1 t1.1 t1.2.1 t1.2.2.1 t1.2.2.2.1 t1.2.2.2.2.1)))))))) else (none)) else (none)
def expr_text.ce (k : Nat) : CallE := ⟨[⟨false, (.list T151)⟩, ⟨false, (.int .i64)⟩, ⟨false, (.list .str)⟩], [⟨false, [.v .str]⟩], fun (x : (List S151) × Int × (List ByteArray)) => expr_text.f k x.1 x.2.1 x.2.2⟩
def expr_text.ce' (k : Nat) : CallE := ⟨[⟨false, (.list T151)⟩, ⟨false, (.int .i64)⟩, ⟨false, (.list .str)⟩], [⟨false, [.v .str]⟩], fun (x : (List S151) × Int × (List ByteArray)) => expr_text.r k x.1 x.2.1 x.2.2⟩
/-! ### 311 -/
def expr_part.f (k : Nat) (a0 : List S151) (a1 : Int) (a2 : List ByteArray) (a3 : Int) : Option ByteArray := (expr_text.r k a0 a1 a2).bind fun t1 => (if 0 ≤ a1 then (if a1 < (a0.length : Int) then ((expr_of.f ((rd_T151 a0 a1).f0)).bind fun t2 => (if t2.2.2.2.2.1 < a3 then (if (⟨#[40]⟩ : ByteArray).size + t1.size ≤ 9223372036854775807 then (if ((⟨#[40]⟩ : ByteArray) ++ t1).size + (⟨#[41]⟩ : ByteArray).size ≤ 9223372036854775807 then (some (((⟨#[40]⟩ : ByteArray) ++ t1) ++ (⟨#[41]⟩ : ByteArray))) else (none)) else (none)) else (some t1))) else (none)) else (none))
def expr_part.ce (k : Nat) : CallE := ⟨[⟨false, (.list T151)⟩, ⟨false, (.int .i64)⟩, ⟨false, (.list .str)⟩, ⟨false, (.int .i64)⟩], [⟨false, [.v .str]⟩], fun (x : (List S151) × Int × (List ByteArray) × Int) => expr_part.f k x.1 x.2.1 x.2.2.1 x.2.2.2⟩
def expr_part.ce' (k : Nat) : CallE := ⟨[⟨false, (.list T151)⟩, ⟨false, (.int .i64)⟩, ⟨false, (.list .str)⟩, ⟨false, (.int .i64)⟩], [⟨false, [.v .str]⟩], fun (x : (List S151) × Int × (List ByteArray) × Int) => expr_part.r k x.1 x.2.1 x.2.2.1 x.2.2.2⟩
def expr_text.F : Fam (RT.dens (expr_text.ce 0).rts) := ⟨fun k => ⟨TT0, GL0, callT [(112, [], strconv_Itoa.ce), (259, [], expr_End.ce k), (260, [], expr_of.ce), (269, [], expr_text.ce' k), (311, [], expr_part.ce' k)], cmpT CM0, [], BLD0, ioT []⟩, [(1000018, ⟨⟨[(0, .v false (.list T151)), (1, .v false (.int .i64)), (2, .v false (.list .str)), (8, .k (.ptr 512 0)), (10, .v false (.int .i64))], [(512, [.v (.int .i64), .v .bool, .v .bool, .v .str, .v (.int .i64)])]⟩, fun k s => expr_text.j0 k s.1.1 s.1.2.1 s.1.2.2.1 s.1.2.2.2.1 s.2.1.1 s.2.1.2.1 s.2.1.2.2.1 s.2.1.2.2.2.1 s.2.1.2.2.2.2.1⟩)]⟩
theorem expr_text.is (k : Nat) (x : AT.dens (expr_text.ce 0).ats) : (expr_text.ce k).fn x = den expr_text.F k (bodyOf Tryz.f269) (startAS (expr_text.ce 0).ats x) (retK (expr_text.F.c k) Tryz.f269.results.toList (expr_text.ce 0).rts) := by kernel_rfl
theorem expr_text.ob : Obl expr_text.F (bodyOf Tryz.f269) (fun k => retK (expr_text.F.c k) Tryz.f269.results.toList (expr_text.ce 0).rts) := obl_of (by kernel_rfl)
def expr_part.F : Fam (RT.dens (expr_part.ce 0).rts) := ⟨fun k => ⟨TT0, GL0, callT [(260, [], expr_of.ce), (269, [], expr_text.ce' k)], cmpT CM0, [], BLD0, ioT []⟩, []⟩
theorem expr_part.is (k : Nat) (x : AT.dens (expr_part.ce 0).ats) : (expr_part.ce k).fn x = den expr_part.F k (bodyOf Tryz.f311) (startAS (expr_part.ce 0).ats x) (retK (expr_part.F.c k) Tryz.f311.results.toList (expr_part.ce 0).rts) := by kernel_rfl
theorem expr_part.ob : Obl expr_part.F (bodyOf Tryz.f311) (fun k => retK (expr_part.F.c k) Tryz.f311.results.toList (expr_part.ce 0).rts) := obl_of (by kernel_rfl)
/-! ### 220 -/
def expr_Print.f (k : Nat) (a0 : List S151) (a1 : List ByteArray) : Option (ByteArray × Int) := (expr_Right.f k a0 (a1.length : Int)).bind fun t1 => (if t1 = 0 then ((expr_text.f k a0 0 a1).bind fun t2 => (some (t2, 0))) else (some ((⟨#[]⟩ : ByteArray), t1)))
def expr_Print.ce (k : Nat) : CallE := ⟨[⟨false, (.list T151)⟩, ⟨false, (.list .str)⟩], [⟨false, [.v .str]⟩, ⟨false, [.v (.int .i64)]⟩], fun (x : (List S151) × (List ByteArray)) => expr_Print.f k x.1 x.2⟩
def expr_Print.F : Fam (RT.dens (expr_Print.ce 0).rts) := ⟨fun k => ⟨TT0, GL0, callT [(204, [], expr_Right.ce k), (269, [], expr_text.ce k)], cmpT CM0, [], BLD0, ioT []⟩, []⟩
theorem expr_Print.is (k : Nat) (x : AT.dens (expr_Print.ce 0).ats) : (expr_Print.ce k).fn x = den expr_Print.F k (bodyOf Tryz.f220) (startAS (expr_Print.ce 0).ats x) (retK (expr_Print.F.c k) Tryz.f220.results.toList (expr_Print.ce 0).rts) := by kernel_rfl
theorem expr_Print.ob : Obl expr_Print.F (bodyOf Tryz.f220) (fun k => retK (expr_Print.F.c k) Tryz.f220.results.toList (expr_Print.ce 0).rts) := obl_of (by kernel_rfl)
/-! ### 223 -/
def net_writer_test.f (k : Nat) (y0 : List Int) (y1 : S26) (a1 : List S151) : Option (((List Int) × S26) × (ByteArray)) := (net_Names.f k y1.f0 y1.f1 y1.f2 y1.f3).bind fun t1 => ((expr_Print.f k a1 t1).bind fun t2 => (if 0 ≤ 0 then (if 0 < (a1.length : Int) then (if ((rd_T151 a1 0).f0) = 14 then (if (⟨#[40]⟩ : ByteArray).size + t2.1.size ≤ 9223372036854775807 then (if ((⟨#[40]⟩ : ByteArray) ++ t2.1).size + (⟨#[41]⟩ : ByteArray).size ≤ 9223372036854775807 then (some ((y0, y1), (((⟨#[40]⟩ : ByteArray) ++ t2.1) ++ (⟨#[41]⟩ : ByteArray)))) else (none)) else (none)) else (if 0 ≤ 0 then (if 0 < (a1.length : Int) then (if ((rd_T151 a1 0).f0) = 7 then (if (⟨#[40]⟩ : ByteArray).size + t2.1.size ≤ 9223372036854775807 then (if ((⟨#[40]⟩ : ByteArray) ++ t2.1).size + (⟨#[41]⟩ : ByteArray).size ≤ 9223372036854775807 then (some ((y0, y1), (((⟨#[40]⟩ : ByteArray) ++ t2.1) ++ (⟨#[41]⟩ : ByteArray)))) else (none)) else (none)) else (some ((y0, y1), t2.1))) else (none)) else (none))) else (none)) else (none)))
def net_writer_test.io (k : Nat) : IOE := ⟨some 159, [.o 5 (.int .u8), .v T26], [⟨false, (.list T151)⟩], [⟨false, [.v .str]⟩], fun (y : (List Int) × S26) (x : (List S151)) => net_writer_test.f k y.1 y.2 x⟩
def net_writer_test.F : Fam ((RC.tys (net_writer_test.io 0).bx).den × RT.dens (net_writer_test.io 0).rts) := ⟨fun k => ⟨TT0, GL0, callT [(192, [], net_Names.ce k), (220, [], expr_Print.ce k)], cmpT CM0, [], BLD0, ioT []⟩, []⟩
theorem net_writer_test.is (k : Nat) (y : (RC.tys (net_writer_test.io k).bx).den) (x : AT.dens (net_writer_test.io k).ats) : (net_writer_test.io k).fn y x = den net_writer_test.F k (bodyOf Tryz.f223) (startIO (net_writer_test.io k) y x) (retIO (net_writer_test.F.c k) Tryz.f223.results.toList (net_writer_test.io k)) := by kernel_rfl
theorem net_writer_test.ob (k : Nat) : Obl net_writer_test.F (bodyOf Tryz.f223) (fun n => retIO (net_writer_test.F.c n) Tryz.f223.results.toList (net_writer_test.io k)) := obl_of (by kernel_rfl)
/-! ### 120 -/
def net_writer_conds.l0 : Nat → (List S151) → (List ByteArray) → (List S43) → Int → Int → (List Int) → (List ByteArray) → (List S86) → (List ByteArray) → (List S76) → Option (((List Int) × S26) × ((List ByteArray)))
 | 0, _, _, _, _, _, _, _, _, _, _ => none
 | k + 1, x2, x7, x10, x11, x12, x100000_1, x100000_2, x100000_3, x100000_4, x100000_5 => if x12 < x11 then (if 0 ≤ x12 then (if x12 < (x10.length : Int) then ((net_writer_guard.f k x100000_1 (⟨x100000_2, x100000_3, x100000_4, x100000_5⟩ : S26) ((rd_T43 x10 x12).f0) ((rd_T43 x10 x12).f1) ((rd_T43 x10 x12).f2) ((rd_T43 x10 x12).f3)).bind fun t1 => (if x7.length < 8796093022208 then (net_writer_conds.l0 k x2 (x7 ++ [t1.2]) x10 x11 (w64 (x12 + 1)) t1.1.1 t1.1.2.f0 t1.1.2.f1 t1.1.2.f2 t1.1.2.f3) else (none))) else (none)) else (none)) else (if (x2.length : Int) > 0 then ((net_writer_test.f k x100000_1 (⟨x100000_2, x100000_3, x100000_4, x100000_5⟩ : S26) x2).bind fun t2 => (if x7.length < 8796093022208 then (some ((t2.1.1, t2.1.2), (x7 ++ [t2.2]))) else (none))) else (some ((x100000_1, (⟨x100000_2, x100000_3, x100000_4, x100000_5⟩ : S26)), x7)))
def net_writer_conds.f (k : Nat) (y0 : List Int) (y1 : S26) (a1 : List S43) (a2 : List S151) : Option (((List Int) × S26) × ((List ByteArray))) := net_writer_conds.l0 k a2 ([] : List ByteArray) a1 (a1.length : Int) 0 y0 y1.f0 y1.f1 y1.f2 y1.f3
def net_writer_conds.io (k : Nat) : IOE := ⟨some 159, [.o 5 (.int .u8), .v T26], [⟨false, (.list T43)⟩, ⟨false, (.list T151)⟩], [⟨false, [.o 9 .str]⟩], fun (y : (List Int) × S26) (x : (List S43) × (List S151)) => net_writer_conds.f k y.1 y.2 x.1 x.2⟩
def net_writer_conds.F : Fam ((RC.tys (net_writer_conds.io 0).bx).den × RT.dens (net_writer_conds.io 0).rts) := ⟨fun k => ⟨TT0, GL0, callT [], cmpT CM0, [], BLD0, ioT [(122, net_writer_guard.io k), (223, net_writer_test.io k)]⟩, [(4, ⟨⟨[(0, .k (.ptr 6400000 0)), (2, .v false (.list T151)), (7, .o 9 .str), (10, .v false (.list T43)), (11, .v false (.int .i64)), (12, .v false (.int .i64))], [(6400000, [.k (.sq 159 6400000), .o 5 (.int .u8), .v (.list .str), .v (.list T86), .v (.list .str), .v (.list T76)])]⟩, fun k s => net_writer_conds.l0 k s.1.1 s.1.2.1 s.1.2.2.1 s.1.2.2.2.1 s.1.2.2.2.2.1 s.2.1.1 s.2.1.2.1 s.2.1.2.2.1 s.2.1.2.2.2.1 s.2.1.2.2.2.2.1⟩)]⟩
theorem net_writer_conds.is (k : Nat) (y : (RC.tys (net_writer_conds.io k).bx).den) (x : AT.dens (net_writer_conds.io k).ats) : (net_writer_conds.io k).fn y x = den net_writer_conds.F k (bodyOf Tryz.f120) (startIO (net_writer_conds.io k) y x) (retIO (net_writer_conds.F.c k) Tryz.f120.results.toList (net_writer_conds.io k)) := by kernel_rfl
theorem net_writer_conds.ob (k : Nat) : Obl net_writer_conds.F (bodyOf Tryz.f120) (fun n => retIO (net_writer_conds.F.c n) Tryz.f120.results.toList (net_writer_conds.io k)) := obl_of (by kernel_rfl)
/-! ### 113 -/
def net_writer_loc.j0 : Nat → ByteArray → (List Int) → (List ByteArray) → (List S86) → (List ByteArray) → (List S76) → ByteArray → Int → (List S43) → Option (((List Int) × S26) × (Bool))
 | 0, _, _, _, _, _, _, _, _, _ => none
 | k + 1, x4, x100000_1, x100000_2, x100000_3, x100000_4, x100000_5, x3_0, x3_1, x3_2 => if (x3_2.length : Int) > 0 then ((net_writer_conds.f k x100000_1 (⟨x100000_2, x100000_3, x100000_4, x100000_5⟩ : S26) x3_2 ([] : List S151)).bind fun t1 => ((strings_Join.f t1.2 (⟨#[32, 38, 38, 32]⟩ : ByteArray)).bind fun t2 => (if (⟨#[32, 105, 110, 118, 32]⟩ : ByteArray).size + t2.size ≤ 9223372036854775807 then (if x4.size + ((⟨#[32, 105, 110, 118, 32]⟩ : ByteArray) ++ t2).size ≤ 9223372036854775807 then ((net_writer_line.f k t1.1.1 t1.1.2 ([(x4 ++ ((⟨#[32, 105, 110, 118, 32]⟩ : ByteArray) ++ t2)), (⟨#[59]⟩ : ByteArray)] : List ByteArray)).bind fun t3 => (some ((t3.1.1, t3.1.2), false))) else (none)) else (none)))) else ((net_writer_line.f k x100000_1 (⟨x100000_2, x100000_3, x100000_4, x100000_5⟩ : S26) ([x4, (⟨#[59]⟩ : ByteArray)] : List ByteArray)).bind fun t4 => (some ((t4.1.1, t4.1.2), false)))
def net_writer_loc.f (k : Nat) (y0 : List Int) (y1 : S26) (l1_0 : ByteArray) (l1_1 : Int) (l1_2 : List S43) : Option (((List Int) × S26) × (Bool)) := if (⟨#[32, 32, 108, 111, 99, 32]⟩ : ByteArray).size + l1_0.size ≤ 9223372036854775807 then (if l1_1 = 1 then (if ((⟨#[32, 32, 108, 111, 99, 32]⟩ : ByteArray) ++ l1_0).size + (⟨#[32, 117, 114, 103, 101, 110, 116]⟩ : ByteArray).size ≤ 9223372036854775807 then (net_writer_loc.j0 k (((⟨#[32, 32, 108, 111, 99, 32]⟩ : ByteArray) ++ l1_0) ++ (⟨#[32, 117, 114, 103, 101, 110, 116]⟩ : ByteArray)) y0 y1.f0 y1.f1 y1.f2 y1.f3 l1_0 l1_1 l1_2) else (none)) else (if l1_1 = 2 then (if ((⟨#[32, 32, 108, 111, 99, 32]⟩ : ByteArray) ++ l1_0).size + (⟨#[32, 99, 111, 109, 109, 105, 116, 116, 101, 100]⟩ : ByteArray).size ≤ 9223372036854775807 then (net_writer_loc.j0 k (((⟨#[32, 32, 108, 111, 99, 32]⟩ : ByteArray) ++ l1_0) ++ (⟨#[32, 99, 111, 109, 109, 105, 116, 116, 101, 100]⟩ : ByteArray)) y0 y1.f0 y1.f1 y1.f2 y1.f3 l1_0 l1_1 l1_2) else (none)) else (net_writer_loc.j0 k ((⟨#[32, 32, 108, 111, 99, 32]⟩ : ByteArray) ++ l1_0) y0 y1.f0 y1.f1 y1.f2 y1.f3 l1_0 l1_1 l1_2))) else (none)
def net_writer_loc.io (k : Nat) : IOE := ⟨some 159, [.o 5 (.int .u8), .v T26], [⟨true, T84⟩], [], fun (y : (List Int) × S26) (x : S84) => net_writer_loc.f k y.1 y.2 x.f0 x.f1 x.f2⟩
def net_writer_loc.F : Fam ((RC.tys (net_writer_loc.io 0).bx).den × RT.dens (net_writer_loc.io 0).rts) := ⟨fun k => ⟨TT0, GL0, callT [(111, [], strings_Join.ce)], cmpT CM0, [], BLD0, ioT [(110, net_writer_line.io k), (120, net_writer_conds.io k)]⟩, [(1000008, ⟨⟨[(0, .k (.ptr 6400000 0)), (3, .k (.ptr 192 0)), (4, .v false .str)], [(6400000, [.k (.sq 159 6400000), .o 5 (.int .u8), .v (.list .str), .v (.list T86), .v (.list .str), .v (.list T76)]), (192, [.v .str, .v (.int .u8), .v (.list T43)])]⟩, fun k s => net_writer_loc.j0 k s.1.1 s.2.1.1 s.2.1.2.1 s.2.1.2.2.1 s.2.1.2.2.2.1 s.2.1.2.2.2.2.1 s.2.2.1.1 s.2.2.1.2.1 s.2.2.1.2.2.1⟩)]⟩
theorem net_writer_loc.is (k : Nat) (y : (RC.tys (net_writer_loc.io k).bx).den) (x : AT.dens (net_writer_loc.io k).ats) : (net_writer_loc.io k).fn y x = den net_writer_loc.F k (bodyOf Tryz.f113) (startIO (net_writer_loc.io k) y x) (retIO (net_writer_loc.F.c k) Tryz.f113.results.toList (net_writer_loc.io k)) := by kernel_rfl
theorem net_writer_loc.ob (k : Nat) : Obl net_writer_loc.F (bodyOf Tryz.f113) (fun n => retIO (net_writer_loc.F.c n) Tryz.f113.results.toList (net_writer_loc.io k)) := obl_of (by kernel_rfl)
/-! ### 114 -/
mutual
def net_writer_edge.j0 : Nat → ByteArray → (List Int) → (List ByteArray) → (List S86) → (List ByteArray) → (List S76) → Int → Int → (List S43) → (List S151) → Int → Bool → (List S81) → Option (((List Int) × S26) × (Bool))
 | 0, _, _, _, _, _, _, _, _, _, _, _, _, _ => none
 | k + 1, x6, x100000_1, x100000_2, x100000_3, x100000_4, x100000_5, x5_0, x5_1, x5_2, x5_3, x5_4, x5_5, x5_6 => if x5_4 > 0 then (if 0 ≤ w64 (x5_4 - 1) then (if w64 (x5_4 - 1) < (x100000_4.length : Int) then (if (⟨#[32, 115, 121, 110, 99, 32]⟩ : ByteArray).size + (rdT .str x100000_4 (w64 (x5_4 - 1))).size ≤ 9223372036854775807 then (if x6.size + ((⟨#[32, 115, 121, 110, 99, 32]⟩ : ByteArray) ++ (rdT .str x100000_4 (w64 (x5_4 - 1)))).size ≤ 9223372036854775807 then (if x5_5 = true then (if (x6 ++ ((⟨#[32, 115, 121, 110, 99, 32]⟩ : ByteArray) ++ (rdT .str x100000_4 (w64 (x5_4 - 1))))).size + (⟨#[33]⟩ : ByteArray).size ≤ 9223372036854775807 then (net_writer_edge.j1 k ((x6 ++ ((⟨#[32, 115, 121, 110, 99, 32]⟩ : ByteArray) ++ (rdT .str x100000_4 (w64 (x5_4 - 1))))) ++ (⟨#[33]⟩ : ByteArray)) x100000_1 x100000_2 x100000_3 x100000_4 x100000_5 x5_0 x5_1 x5_2 x5_3 x5_4 x5_5 x5_6) else (none)) else (if (x6 ++ ((⟨#[32, 115, 121, 110, 99, 32]⟩ : ByteArray) ++ (rdT .str x100000_4 (w64 (x5_4 - 1))))).size + (⟨#[63]⟩ : ByteArray).size ≤ 9223372036854775807 then (net_writer_edge.j1 k ((x6 ++ ((⟨#[32, 115, 121, 110, 99, 32]⟩ : ByteArray) ++ (rdT .str x100000_4 (w64 (x5_4 - 1))))) ++ (⟨#[63]⟩ : ByteArray)) x100000_1 x100000_2 x100000_3 x100000_4 x100000_5 x5_0 x5_1 x5_2 x5_3 x5_4 x5_5 x5_6) else (none))) else (none)) else (none)) else (none)) else (none)) else (net_writer_edge.j1 k x6 x100000_1 x100000_2 x100000_3 x100000_4 x100000_5 x5_0 x5_1 x5_2 x5_3 x5_4 x5_5 x5_6)
def net_writer_edge.j1 : Nat → ByteArray → (List Int) → (List ByteArray) → (List S86) → (List ByteArray) → (List S76) → Int → Int → (List S43) → (List S151) → Int → Bool → (List S81) → Option (((List Int) × S26) × (Bool))
 | 0, _, _, _, _, _, _, _, _, _, _, _, _, _ => none
 | k + 1, x6, x100000_1, x100000_2, x100000_3, x100000_4, x100000_5, x5_0, x5_1, x5_2, x5_3, x5_4, x5_5, x5_6 => net_writer_edge.l2 k x6 ([] : List ByteArray) x5_6 (x5_6.length : Int) 0 x100000_1 x100000_2 x100000_3 x100000_4 x100000_5
def net_writer_edge.l2 : Nat → ByteArray → (List ByteArray) → (List S81) → Int → Int → (List Int) → (List ByteArray) → (List S86) → (List ByteArray) → (List S76) → Option (((List Int) × S26) × (Bool))
 | 0, _, _, _, _, _, _, _, _, _, _ => none
 | k + 1, x6, x8, x67, x68, x69, x100000_1, x100000_2, x100000_3, x100000_4, x100000_5 => if x69 < x68 then (if 0 ≤ x69 then (if x69 < (x67.length : Int) then (if ((rd_T81 x67 x69).f0) > 0 then (if 0 ≤ w64 (((rd_T81 x67 x69).f0) - 1) then (if w64 (((rd_T81 x67 x69).f0) - 1) < (x100000_2.length : Int) then (if (rdT .str x100000_2 (w64 (((rd_T81 x67 x69).f0) - 1))).size + (⟨#[32, 58, 61, 32]⟩ : ByteArray).size ≤ 9223372036854775807 then ((strconv_Itoa.f ((rd_T81 x67 x69).f1)).bind fun t3 => (if ((rdT .str x100000_2 (w64 (((rd_T81 x67 x69).f0) - 1))) ++ (⟨#[32, 58, 61, 32]⟩ : ByteArray)).size + t3.size ≤ 9223372036854775807 then (if x8.length < 8796093022208 then (net_writer_edge.l2 k x6 (x8 ++ [(((rdT .str x100000_2 (w64 (((rd_T81 x67 x69).f0) - 1))) ++ (⟨#[32, 58, 61, 32]⟩ : ByteArray)) ++ t3)]) x67 x68 (w64 (x69 + 1)) x100000_1 x100000_2 x100000_3 x100000_4 x100000_5) else (none)) else (none))) else (none)) else (none)) else (none)) else ((net_Names.f k x100000_2 x100000_3 x100000_4 x100000_5).bind fun t4 => ((expr_Print.f k ((rd_T81 x67 x69).f3) t4).bind fun t5 => (if 0 ≤ (rd_T81 x67 x69).f2 then (if (rd_T81 x67 x69).f2 < (x100000_3.length : Int) then (if ((rd_T86 x100000_3 ((rd_T81 x67 x69).f2)).f0).size + (⟨#[32, 58, 61, 32]⟩ : ByteArray).size ≤ 9223372036854775807 then (if (((rd_T86 x100000_3 ((rd_T81 x67 x69).f2)).f0) ++ (⟨#[32, 58, 61, 32]⟩ : ByteArray)).size + t5.1.size ≤ 9223372036854775807 then (if x8.length < 8796093022208 then (net_writer_edge.l2 k x6 (x8 ++ [((((rd_T86 x100000_3 ((rd_T81 x67 x69).f2)).f0) ++ (⟨#[32, 58, 61, 32]⟩ : ByteArray)) ++ t5.1)]) x67 x68 (w64 (x69 + 1)) x100000_1 x100000_2 x100000_3 x100000_4 x100000_5) else (none)) else (none)) else (none)) else (none)) else (none))))) else (none)) else (none)) else (if (x8.length : Int) > 0 then ((strings_Join.f x8 (⟨#[44, 32]⟩ : ByteArray)).bind fun t6 => (if (⟨#[32, 100, 111, 32]⟩ : ByteArray).size + t6.size ≤ 9223372036854775807 then (if x6.size + ((⟨#[32, 100, 111, 32]⟩ : ByteArray) ++ t6).size ≤ 9223372036854775807 then ((net_writer_line.f k x100000_1 (⟨x100000_2, x100000_3, x100000_4, x100000_5⟩ : S26) ([(x6 ++ ((⟨#[32, 100, 111, 32]⟩ : ByteArray) ++ t6)), (⟨#[59]⟩ : ByteArray)] : List ByteArray)).bind fun t7 => (some ((t7.1.1, t7.1.2), false))) else (none)) else (none))) else ((net_writer_line.f k x100000_1 (⟨x100000_2, x100000_3, x100000_4, x100000_5⟩ : S26) ([x6, (⟨#[59]⟩ : ByteArray)] : List ByteArray)).bind fun t8 => (some ((t8.1.1, t8.1.2), false))))
end
def net_writer_edge.f (k : Nat) (y0 : List Int) (y1 : S26) (l1_0 : ByteArray) (l1_1 : List S84) (l1_2 : List S79) (l2_0 : Int) (l2_1 : Int) (l2_2 : List S43) (l2_3 : List S151) (l2_4 : Int) (l2_5 : Bool) (l2_6 : List S81) : Option (((List Int) × S26) × (Bool)) := if 0 ≤ l2_0 then (if l2_0 < (l1_1.length : Int) then (if (⟨#[32, 32, 101, 100, 103, 101, 32]⟩ : ByteArray).size + ((rd_T84 l1_1 l2_0).f0).size ≤ 9223372036854775807 then (if ((⟨#[32, 32, 101, 100, 103, 101, 32]⟩ : ByteArray) ++ ((rd_T84 l1_1 l2_0).f0)).size + (⟨#[32, 45, 62, 32]⟩ : ByteArray).size ≤ 9223372036854775807 then (if 0 ≤ l2_1 then (if l2_1 < (l1_1.length : Int) then (if (((⟨#[32, 32, 101, 100, 103, 101, 32]⟩ : ByteArray) ++ ((rd_T84 l1_1 l2_0).f0)) ++ (⟨#[32, 45, 62, 32]⟩ : ByteArray)).size + ((rd_T84 l1_1 l2_1).f0).size ≤ 9223372036854775807 then ((net_writer_conds.f k y0 y1 l2_2 l2_3).bind fun t1 => (if (t1.2.length : Int) > 0 then ((strings_Join.f t1.2 (⟨#[32, 38, 38, 32]⟩ : ByteArray)).bind fun t2 => (if (⟨#[32, 119, 104, 101, 110, 32]⟩ : ByteArray).size + t2.size ≤ 9223372036854775807 then (if ((((⟨#[32, 32, 101, 100, 103, 101, 32]⟩ : ByteArray) ++ ((rd_T84 l1_1 l2_0).f0)) ++ (⟨#[32, 45, 62, 32]⟩ : ByteArray)) ++ ((rd_T84 l1_1 l2_1).f0)).size + ((⟨#[32, 119, 104, 101, 110, 32]⟩ : ByteArray) ++ t2).size ≤ 9223372036854775807 then (net_writer_edge.j0 k (((((⟨#[32, 32, 101, 100, 103, 101, 32]⟩ : ByteArray) ++ ((rd_T84 l1_1 l2_0).f0)) ++ (⟨#[32, 45, 62, 32]⟩ : ByteArray)) ++ ((rd_T84 l1_1 l2_1).f0)) ++ ((⟨#[32, 119, 104, 101, 110, 32]⟩ : ByteArray) ++ t2)) t1.1.1 t1.1.2.f0 t1.1.2.f1 t1.1.2.f2 t1.1.2.f3 l2_0 l2_1 l2_2 l2_3 l2_4 l2_5 l2_6) else (none)) else (none))) else (net_writer_edge.j0 k ((((⟨#[32, 32, 101, 100, 103, 101, 32]⟩ : ByteArray) ++ ((rd_T84 l1_1 l2_0).f0)) ++ (⟨#[32, 45, 62, 32]⟩ : ByteArray)) ++ ((rd_T84 l1_1 l2_1).f0)) t1.1.1 t1.1.2.f0 t1.1.2.f1 t1.1.2.f2 t1.1.2.f3 l2_0 l2_1 l2_2 l2_3 l2_4 l2_5 l2_6))) else (none)) else (none)) else (none)) else (none)) else (none)) else (none)) else (none)
def net_writer_edge.io (k : Nat) : IOE := ⟨some 159, [.o 5 (.int .u8), .v T26], [⟨true, T76⟩, ⟨true, T79⟩], [], fun (y : (List Int) × S26) (x : S76 × S79) => net_writer_edge.f k y.1 y.2 x.1.f0 x.1.f1 x.1.f2 x.2.f0 x.2.f1 x.2.f2 x.2.f3 x.2.f4 x.2.f5 x.2.f6⟩
def net_writer_edge.F : Fam ((RC.tys (net_writer_edge.io 0).bx).den × RT.dens (net_writer_edge.io 0).rts) := ⟨fun k => ⟨TT0, GL0, callT [(111, [], strings_Join.ce), (112, [], strconv_Itoa.ce), (192, [], net_Names.ce k), (220, [], expr_Print.ce k)], cmpT CM0, [], BLD0, ioT [(110, net_writer_line.io k), (120, net_writer_conds.io k)]⟩, [(1000006, ⟨⟨[(0, .k (.ptr 6400000 0)), (5, .k (.ptr 320 0)), (6, .v false .str)], [(6400000, [.k (.sq 159 6400000), .o 5 (.int .u8), .v (.list .str), .v (.list T86), .v (.list .str), .v (.list T76)]), (320, [.v (.int .i64), .v (.int .i64), .v (.list T43), .v (.list T151), .v (.int .i64), .v .bool, .v (.list T81)])]⟩, fun k s => net_writer_edge.j0 k s.1.1 s.2.1.1 s.2.1.2.1 s.2.1.2.2.1 s.2.1.2.2.2.1 s.2.1.2.2.2.2.1 s.2.2.1.1 s.2.2.1.2.1 s.2.2.1.2.2.1 s.2.2.1.2.2.2.1 s.2.2.1.2.2.2.2.1 s.2.2.1.2.2.2.2.2.1 s.2.2.1.2.2.2.2.2.2.1⟩), (1000011, ⟨⟨[(0, .k (.ptr 6400000 0)), (5, .k (.ptr 320 0)), (6, .v false .str)], [(6400000, [.k (.sq 159 6400000), .o 5 (.int .u8), .v (.list .str), .v (.list T86), .v (.list .str), .v (.list T76)]), (320, [.v (.int .i64), .v (.int .i64), .v (.list T43), .v (.list T151), .v (.int .i64), .v .bool, .v (.list T81)])]⟩, fun k s => net_writer_edge.j1 k s.1.1 s.2.1.1 s.2.1.2.1 s.2.1.2.2.1 s.2.1.2.2.2.1 s.2.1.2.2.2.2.1 s.2.2.1.1 s.2.2.1.2.1 s.2.2.1.2.2.1 s.2.2.1.2.2.2.1 s.2.2.1.2.2.2.2.1 s.2.2.1.2.2.2.2.2.1 s.2.2.1.2.2.2.2.2.2.1⟩), (13, ⟨⟨[(0, .k (.ptr 6400000 0)), (6, .v false .str), (8, .o 9 .str), (67, .v false (.list T81)), (68, .v false (.int .i64)), (69, .v false (.int .i64))], [(6400000, [.k (.sq 159 6400000), .o 5 (.int .u8), .v (.list .str), .v (.list T86), .v (.list .str), .v (.list T76)])]⟩, fun k s => net_writer_edge.l2 k s.1.1 s.1.2.1 s.1.2.2.1 s.1.2.2.2.1 s.1.2.2.2.2.1 s.2.1.1 s.2.1.2.1 s.2.1.2.2.1 s.2.1.2.2.2.1 s.2.1.2.2.2.2.1⟩)]⟩
theorem net_writer_edge.is (k : Nat) (y : (RC.tys (net_writer_edge.io k).bx).den) (x : AT.dens (net_writer_edge.io k).ats) : (net_writer_edge.io k).fn y x = den net_writer_edge.F k (bodyOf Tryz.f114) (startIO (net_writer_edge.io k) y x) (retIO (net_writer_edge.F.c k) Tryz.f114.results.toList (net_writer_edge.io k)) := by kernel_rfl
theorem net_writer_edge.ob (k : Nat) : Obl net_writer_edge.F (bodyOf Tryz.f114) (fun n => retIO (net_writer_edge.F.c n) Tryz.f114.results.toList (net_writer_edge.io k)) := obl_of (by kernel_rfl)
/-! ### 115 -/
def strings_Builder_Len_at159.f (y0 : List Int) (y1 : S26) : Option (((List Int) × S26) × (Int)) := (some ((y0, y1), (y0.length : Int)))
def strings_Builder_Len_at159.io : IOE := ⟨some 159, [.o 5 (.int .u8), .v T26], [], [⟨false, [.v (.int .i64)]⟩], fun (y : (List Int) × S26) (x : Unit) => strings_Builder_Len_at159.f y.1 y.2⟩
def strings_Builder_Len_at159.F : Fam ((RC.tys (strings_Builder_Len_at159.io).bx).den × RT.dens (strings_Builder_Len_at159.io).rts) := ⟨fun k => ⟨TT0, GL0, callT [], cmpT CM0, [], BLD0, ioT []⟩, []⟩
theorem strings_Builder_Len_at159.is (k : Nat) (y : (RC.tys (strings_Builder_Len_at159.io).bx).den) (x : AT.dens (strings_Builder_Len_at159.io).ats) : (strings_Builder_Len_at159.io).fn y x = den strings_Builder_Len_at159.F k (bodyOf Tryz.f115) (startIO (strings_Builder_Len_at159.io) y x) (retIO (strings_Builder_Len_at159.F.c k) Tryz.f115.results.toList (strings_Builder_Len_at159.io)) := by kernel_rfl
theorem strings_Builder_Len_at159.ob (k : Nat) : Obl strings_Builder_Len_at159.F (bodyOf Tryz.f115) (fun n => retIO (strings_Builder_Len_at159.F.c n) Tryz.f115.results.toList (strings_Builder_Len_at159.io)) := obl_of (by kernel_rfl)
/-! ### 27 -/
mutual
def net_Print.j0 : Nat → (List ByteArray) → (List S86) → (List ByteArray) → (List S76) → (List Int) → (List ByteArray) → (List S86) → (List ByteArray) → (List S76) → Option (ByteArray × Int)
 | 0, _, _, _, _, _, _, _, _, _ => none
 | k + 1, x1_0, x1_1, x1_2, x1_3, x21_1, x21_2, x21_3, x21_4, x21_5 => net_Print.l1 k x1_1 (x1_1.length : Int) 0 x1_0 x1_1 x1_2 x1_3 x21_1 x21_2 x21_3 x21_4 x21_5
def net_Print.l1 : Nat → (List S86) → Int → Int → (List ByteArray) → (List S86) → (List ByteArray) → (List S76) → (List Int) → (List ByteArray) → (List S86) → (List ByteArray) → (List S76) → Option (ByteArray × Int)
 | 0, _, _, _, _, _, _, _, _, _, _, _, _ => none
 | k + 1, x33, x34, x35, x1_0, x1_1, x1_2, x1_3, x21_1, x21_2, x21_3, x21_4, x21_5 => if x35 < x34 then (if 0 ≤ x35 then (if x35 < (x33.length : Int) then ((strconv_Itoa.f ((rd_T86 x33 x35).f1)).bind fun t4 => ((strconv_Itoa.f ((rd_T86 x33 x35).f2)).bind fun t5 => ((strconv_Itoa.f ((rd_T86 x33 x35).f3)).bind fun t6 => ((net_writer_line.f k x21_1 (⟨x21_2, x21_3, x21_4, x21_5⟩ : S26) ([(⟨#[105, 110, 116, 32]⟩ : ByteArray), (rd_T86 x33 x35).f0, (⟨#[32, 105, 110, 32]⟩ : ByteArray), t4, (⟨#[32, 46, 46, 32]⟩ : ByteArray), t5, (⟨#[32, 58, 61, 32]⟩ : ByteArray), t6, (⟨#[59]⟩ : ByteArray)] : List ByteArray)).bind fun t7 => (net_Print.l1 k x33 x34 (w64 (x35 + 1)) x1_0 x1_1 x1_2 x1_3 t7.1.1 t7.1.2.f0 t7.1.2.f1 t7.1.2.f2 t7.1.2.f3))))) else (none)) else (none)) else (if (x1_2.length : Int) > 0 then ((strings_Join.f x1_2 (⟨#[44, 32]⟩ : ByteArray)).bind fun t8 => ((net_writer_line.f k x21_1 (⟨x21_2, x21_3, x21_4, x21_5⟩ : S26) ([(⟨#[99, 104, 97, 110, 32]⟩ : ByteArray), t8, (⟨#[59]⟩ : ByteArray)] : List ByteArray)).bind fun t9 => (net_Print.j2 k x1_0 x1_1 x1_2 x1_3 t9.1.1 t9.1.2.f0 t9.1.2.f1 t9.1.2.f2 t9.1.2.f3))) else (net_Print.j2 k x1_0 x1_1 x1_2 x1_3 x21_1 x21_2 x21_3 x21_4 x21_5))
def net_Print.j2 : Nat → (List ByteArray) → (List S86) → (List ByteArray) → (List S76) → (List Int) → (List ByteArray) → (List S86) → (List ByteArray) → (List S76) → Option (ByteArray × Int)
 | 0, _, _, _, _, _, _, _, _, _ => none
 | k + 1, x1_0, x1_1, x1_2, x1_3, x21_1, x21_2, x21_3, x21_4, x21_5 => net_Print.l3 k x1_3 (x1_3.length : Int) 0 x21_1 x21_2 x21_3 x21_4 x21_5
def net_Print.l3 : Nat → (List S76) → Int → Int → (List Int) → (List ByteArray) → (List S86) → (List ByteArray) → (List S76) → Option (ByteArray × Int)
 | 0, _, _, _, _, _, _, _, _ => none
 | k + 1, x65, x66, x67, x21_1, x21_2, x21_3, x21_4, x21_5 => if x67 < x66 then (if 0 ≤ x67 then (if x67 < (x65.length : Int) then ((net_writer_line.f k x21_1 (⟨x21_2, x21_3, x21_4, x21_5⟩ : S26) ([(⟨#[97, 117, 116, 111, 32]⟩ : ByteArray), (rd_T76 x65 x67).f0, (⟨#[32, 123]⟩ : ByteArray)] : List ByteArray)).bind fun t10 => (net_Print.l4 k x65 x66 x67 ((rd_T76 x65 x67).f1) (((rd_T76 x65 x67).f1).length : Int) 0 t10.1.1 t10.1.2.f0 t10.1.2.f1 t10.1.2.f2 t10.1.2.f3 ((rd_T76 x65 x67).f0) ((rd_T76 x65 x67).f1) ((rd_T76 x65 x67).f2))) else (none)) else (none)) else ((strings_Builder_Len_at159.f x21_1 (⟨x21_2, x21_3, x21_4, x21_5⟩ : S26)).bind fun t14 => (if t14.2 > 65536 then (some ((⟨#[]⟩ : ByteArray), 6)) else ((if isBytes t14.1.1 = true then some () else none).bind fun _ => (some ((strOf t14.1.1), 0)))))
def net_Print.l4 : Nat → (List S76) → Int → Int → (List S84) → Int → Int → (List Int) → (List ByteArray) → (List S86) → (List ByteArray) → (List S76) → ByteArray → (List S84) → (List S79) → Option (ByteArray × Int)
 | 0, _, _, _, _, _, _, _, _, _, _, _, _, _, _ => none
 | k + 1, x65, x66, x67, x77, x78, x79, x21_1, x21_2, x21_3, x21_4, x21_5, x9_0, x9_1, x9_2 => if x79 < x78 then (if 0 ≤ x79 then (if x79 < (x77.length : Int) then ((net_writer_loc.f k x21_1 (⟨x21_2, x21_3, x21_4, x21_5⟩ : S26) ((rd_T84 x77 x79).f0) ((rd_T84 x77 x79).f1) ((rd_T84 x77 x79).f2)).bind fun t11 => (net_Print.l4 k x65 x66 x67 x77 x78 (w64 (x79 + 1)) t11.1.1 t11.1.2.f0 t11.1.2.f1 t11.1.2.f2 t11.1.2.f3 x9_0 x9_1 x9_2)) else (none)) else (none)) else (net_Print.l5 k x65 x66 x67 x9_2 (x9_2.length : Int) 0 x21_1 x21_2 x21_3 x21_4 x21_5 x9_0 x9_1 x9_2)
def net_Print.l5 : Nat → (List S76) → Int → Int → (List S79) → Int → Int → (List Int) → (List ByteArray) → (List S86) → (List ByteArray) → (List S76) → ByteArray → (List S84) → (List S79) → Option (ByteArray × Int)
 | 0, _, _, _, _, _, _, _, _, _, _, _, _, _, _ => none
 | k + 1, x65, x66, x67, x88, x89, x90, x21_1, x21_2, x21_3, x21_4, x21_5, x9_0, x9_1, x9_2 => if x90 < x89 then (if 0 ≤ x90 then (if x90 < (x88.length : Int) then ((net_writer_edge.f k x21_1 (⟨x21_2, x21_3, x21_4, x21_5⟩ : S26) x9_0 x9_1 x9_2 ((rd_T79 x88 x90).f0) ((rd_T79 x88 x90).f1) ((rd_T79 x88 x90).f2) ((rd_T79 x88 x90).f3) ((rd_T79 x88 x90).f4) ((rd_T79 x88 x90).f5) ((rd_T79 x88 x90).f6)).bind fun t12 => (net_Print.l5 k x65 x66 x67 x88 x89 (w64 (x90 + 1)) t12.1.1 t12.1.2.f0 t12.1.2.f1 t12.1.2.f2 t12.1.2.f3 x9_0 x9_1 x9_2)) else (none)) else (none)) else ((net_writer_line.f k x21_1 (⟨x21_2, x21_3, x21_4, x21_5⟩ : S26) ([(⟨#[125]⟩ : ByteArray)] : List ByteArray)).bind fun t13 => (net_Print.l3 k x65 x66 (w64 (x67 + 1)) t13.1.1 t13.1.2.f0 t13.1.2.f1 t13.1.2.f2 t13.1.2.f3))
end
def net_Print.f (k : Nat) (l0_0 : List ByteArray) (l0_1 : List S86) (l0_2 : List ByteArray) (l0_3 : List S76) : Option (ByteArray × Int) := (net_Whole.f k l0_0 l0_1 l0_2 l0_3).bind fun t1 => (if t1 = 0 then (if (l0_0.length : Int) > 0 then ((strings_Join.f l0_0 (⟨#[44, 32]⟩ : ByteArray)).bind fun t2 => ((net_writer_line.f k ([] : List Int) (⟨l0_0, l0_1, l0_2, l0_3⟩ : S26) ([(⟨#[99, 108, 111, 99, 107, 32]⟩ : ByteArray), t2, (⟨#[59]⟩ : ByteArray)] : List ByteArray)).bind fun t3 => (net_Print.j0 k l0_0 l0_1 l0_2 l0_3 t3.1.1 t3.1.2.f0 t3.1.2.f1 t3.1.2.f2 t3.1.2.f3))) else (net_Print.j0 k l0_0 l0_1 l0_2 l0_3 ([] : List Int) l0_0 l0_1 l0_2 l0_3)) else (some ((⟨#[]⟩ : ByteArray), t1)))
def net_Print.ce (k : Nat) : CallE := ⟨[⟨true, T26⟩], [⟨false, [.v .str]⟩, ⟨false, [.v (.int .i64)]⟩], fun (x : S26) => net_Print.f k x.f0 x.f1 x.f2 x.f3⟩
def net_Print.F : Fam (RT.dens (net_Print.ce 0).rts) := ⟨fun k => ⟨TT0, GL0, callT [(14, [], net_Whole.ce k), (111, [], strings_Join.ce), (112, [], strconv_Itoa.ce)], cmpT CM0, [], BLD0, ioT [(110, net_writer_line.io k), (113, net_writer_loc.io k), (114, net_writer_edge.io k), (115, strings_Builder_Len_at159.io)]⟩, [(1000008, ⟨⟨[(1, .k (.ptr 64 0)), (5, .k (.ptr 1344 0))], [(64, [.v (.list .str), .v (.list T86), .v (.list .str), .v (.list T76)]), (1344, [.k (.sq 159 1344), .o 5 (.int .u8), .v (.list .str), .v (.list T86), .v (.list .str), .v (.list T76)])]⟩, fun k s => net_Print.j0 k s.2.1.1 s.2.1.2.1 s.2.1.2.2.1 s.2.1.2.2.2.1 s.2.2.1.1 s.2.2.1.2.1 s.2.2.1.2.2.1 s.2.2.1.2.2.2.1 s.2.2.1.2.2.2.2.1⟩), (9, ⟨⟨[(1, .k (.ptr 64 0)), (5, .k (.ptr 1344 0)), (33, .v false (.list T86)), (34, .v false (.int .i64)), (35, .v false (.int .i64))], [(64, [.v (.list .str), .v (.list T86), .v (.list .str), .v (.list T76)]), (1344, [.k (.sq 159 1344), .o 5 (.int .u8), .v (.list .str), .v (.list T86), .v (.list .str), .v (.list T76)])]⟩, fun k s => net_Print.l1 k s.1.1 s.1.2.1 s.1.2.2.1 s.2.1.1 s.2.1.2.1 s.2.1.2.2.1 s.2.1.2.2.2.1 s.2.2.1.1 s.2.2.1.2.1 s.2.2.1.2.2.1 s.2.2.1.2.2.2.1 s.2.2.1.2.2.2.2.1⟩), (1000015, ⟨⟨[(1, .k (.ptr 64 0)), (5, .k (.ptr 1344 0))], [(64, [.v (.list .str), .v (.list T86), .v (.list .str), .v (.list T76)]), (1344, [.k (.sq 159 1344), .o 5 (.int .u8), .v (.list .str), .v (.list T86), .v (.list .str), .v (.list T76)])]⟩, fun k s => net_Print.j2 k s.2.1.1 s.2.1.2.1 s.2.1.2.2.1 s.2.1.2.2.2.1 s.2.2.1.1 s.2.2.1.2.1 s.2.2.1.2.2.1 s.2.2.1.2.2.2.1 s.2.2.1.2.2.2.2.1⟩), (16, ⟨⟨[(5, .k (.ptr 1344 0)), (65, .v false (.list T76)), (66, .v false (.int .i64)), (67, .v false (.int .i64))], [(1344, [.k (.sq 159 1344), .o 5 (.int .u8), .v (.list .str), .v (.list T86), .v (.list .str), .v (.list T76)])]⟩, fun k s => net_Print.l3 k s.1.1 s.1.2.1 s.1.2.2.1 s.2.1.1 s.2.1.2.1 s.2.1.2.2.1 s.2.1.2.2.2.1 s.2.1.2.2.2.2.1⟩), (20, ⟨⟨[(5, .k (.ptr 1344 0)), (9, .k (.ptr 576 0)), (65, .v false (.list T76)), (66, .v false (.int .i64)), (67, .v false (.int .i64)), (77, .v false (.list T84)), (78, .v false (.int .i64)), (79, .v false (.int .i64))], [(1344, [.k (.sq 159 1344), .o 5 (.int .u8), .v (.list .str), .v (.list T86), .v (.list .str), .v (.list T76)]), (576, [.v .str, .v (.list T84), .v (.list T79)])]⟩, fun k s => net_Print.l4 k s.1.1 s.1.2.1 s.1.2.2.1 s.1.2.2.2.1 s.1.2.2.2.2.1 s.1.2.2.2.2.2.1 s.2.1.1 s.2.1.2.1 s.2.1.2.2.1 s.2.1.2.2.2.1 s.2.1.2.2.2.2.1 s.2.2.1.1 s.2.2.1.2.1 s.2.2.1.2.2.1⟩), (25, ⟨⟨[(5, .k (.ptr 1344 0)), (9, .k (.ptr 576 0)), (65, .v false (.list T76)), (66, .v false (.int .i64)), (67, .v false (.int .i64)), (88, .v false (.list T79)), (89, .v false (.int .i64)), (90, .v false (.int .i64))], [(1344, [.k (.sq 159 1344), .o 5 (.int .u8), .v (.list .str), .v (.list T86), .v (.list .str), .v (.list T76)]), (576, [.v .str, .v (.list T84), .v (.list T79)])]⟩, fun k s => net_Print.l5 k s.1.1 s.1.2.1 s.1.2.2.1 s.1.2.2.2.1 s.1.2.2.2.2.1 s.1.2.2.2.2.2.1 s.2.1.1 s.2.1.2.1 s.2.1.2.2.1 s.2.1.2.2.2.1 s.2.1.2.2.2.2.1 s.2.2.1.1 s.2.2.1.2.1 s.2.2.1.2.2.1⟩)]⟩
theorem net_Print.is (k : Nat) (x : AT.dens (net_Print.ce 0).ats) : (net_Print.ce k).fn x = den net_Print.F k (bodyOf Tryz.f27) (startAS (net_Print.ce 0).ats x) (retK (net_Print.F.c k) Tryz.f27.results.toList (net_Print.ce 0).rts) := by kernel_rfl
theorem net_Print.ob : Obl net_Print.F (bodyOf Tryz.f27) (fun k => retK (net_Print.F.c k) Tryz.f27.results.toList (net_Print.ce 0).rts) := obl_of (by kernel_rfl)
/-! ### 64 -/
def gnomonlaw10_small.f : Option ((List ByteArray) × (List S86) × (List ByteArray) × (List S76)) := (some (([(⟨#[120]⟩ : ByteArray)] : List ByteArray), ([] : List S86), ([] : List ByteArray), ([(⟨(⟨#[65]⟩ : ByteArray), ([(⟨(⟨#[97]⟩ : ByteArray), 0, ([(⟨1, 0, 2, 5⟩ : S43)] : List S43)⟩ : S84), (⟨(⟨#[98]⟩ : ByteArray), 0, ([] : List S43)⟩ : S84)] : List S84), ([(⟨0, 1, ([(⟨1, 0, 4, 3⟩ : S43)] : List S43), ([] : List S151), 0, false, ([(⟨1, 0, 0, ([] : List S151)⟩ : S81)] : List S81)⟩ : S79)] : List S79)⟩ : S76)] : List S76)))
def gnomonlaw10_small.ce : CallE := ⟨[], [⟨true, [.o 9 .str, .o 86 T86, .o 9 .str, .o 76 T76]⟩], fun (x : Unit) => gnomonlaw10_small.f⟩
def gnomonlaw10_small.F : Fam (RT.dens (gnomonlaw10_small.ce).rts) := ⟨fun k => ⟨TT0, GL0, callT [], cmpT CM0, [], BLD0, ioT []⟩, []⟩
theorem gnomonlaw10_small.is (k : Nat) (x : AT.dens (gnomonlaw10_small.ce).ats) : (gnomonlaw10_small.ce).fn x = den gnomonlaw10_small.F k (bodyOf Tryz.f64) (startAS (gnomonlaw10_small.ce).ats x) (retK (gnomonlaw10_small.F.c k) Tryz.f64.results.toList (gnomonlaw10_small.ce).rts) := by kernel_rfl
theorem gnomonlaw10_small.ob : Obl gnomonlaw10_small.F (bodyOf Tryz.f64) (fun k => retK (gnomonlaw10_small.F.c k) Tryz.f64.results.toList (gnomonlaw10_small.ce).rts) := obl_of (by kernel_rfl)
/-! ### 194 -/
def net_Find_1.f (l0_0 : ByteArray) (l0_1 : List S84) (l0_2 : List S79) (a1 : ByteArray) : Option Bool := (some (decide (l0_0 = a1)))
def net_Find_1.ce : CallE := ⟨[⟨true, T76⟩, ⟨false, (.ref .str)⟩], [⟨false, [.v .bool]⟩], fun (x : S76 × ByteArray) => net_Find_1.f x.1.f0 x.1.f1 x.1.f2 x.2⟩
def net_Find_1.F : Fam (RT.dens (net_Find_1.ce).rts) := ⟨fun k => ⟨TT0, GL0, callT [], cmpT CM0, [], BLD0, ioT []⟩, []⟩
theorem net_Find_1.is (k : Nat) (x : AT.dens (net_Find_1.ce).ats) : (net_Find_1.ce).fn x = den net_Find_1.F k (bodyOf Tryz.f194) (startAS (net_Find_1.ce).ats x) (retK (net_Find_1.F.c k) Tryz.f194.results.toList (net_Find_1.ce).rts) := by kernel_rfl
theorem net_Find_1.ob : Obl net_Find_1.F (bodyOf Tryz.f194) (fun k => retK (net_Find_1.F.c k) Tryz.f194.results.toList (net_Find_1.ce).rts) := obl_of (by kernel_rfl)
/-! ### 193 -/
def slices_IndexFunc_api_Auto_api_Auto_at194.l0 : Nat → (List S76) → ByteArray → Int → Int → Option Int
 | 0, _, _, _, _ => none
 | k + 1, x0, x1, x7, x8 => if x8 < x7 then (if 0 ≤ x8 then (if x8 < (x0.length : Int) then ((net_Find_1.f ((rd_T76 x0 x8).f0) ((rd_T76 x0 x8).f1) ((rd_T76 x0 x8).f2) x1).bind fun t1 => (if t1 = true then (some x8) else (slices_IndexFunc_api_Auto_api_Auto_at194.l0 k x0 x1 x7 (w64 (x8 + 1))))) else (none)) else (none)) else (some (-1))
def slices_IndexFunc_api_Auto_api_Auto_at194.f (k : Nat) (a0 : List S76) (a1 : ByteArray) : Option Int := slices_IndexFunc_api_Auto_api_Auto_at194.l0 k a0 a1 (a0.length : Int) 0
def slices_IndexFunc_api_Auto_api_Auto_at194.ce (k : Nat) : CallE := ⟨[⟨false, (.list T76)⟩, ⟨false, (.fn 194 [(false, 1)] (.ref .str))⟩], [⟨false, [.v (.int .i64)]⟩], fun (x : (List S76) × ByteArray) => slices_IndexFunc_api_Auto_api_Auto_at194.f k x.1 x.2⟩
def slices_IndexFunc_api_Auto_api_Auto_at194.F : Fam (RT.dens (slices_IndexFunc_api_Auto_api_Auto_at194.ce 0).rts) := ⟨fun k => ⟨TT0, GL0, callT [(194, [], net_Find_1.ce)], cmpT CM0, [], BLD0, ioT []⟩, [(3, ⟨⟨[(0, .v false (.list T76)), (1, .v false (.fn 194 [(false, 1)] (.ref .str))), (7, .v false (.int .i64)), (8, .v false (.int .i64))], []⟩, fun k s => slices_IndexFunc_api_Auto_api_Auto_at194.l0 k s.1.1 s.1.2.1 s.1.2.2.1 s.1.2.2.2.1⟩)]⟩
theorem slices_IndexFunc_api_Auto_api_Auto_at194.is (k : Nat) (x : AT.dens (slices_IndexFunc_api_Auto_api_Auto_at194.ce 0).ats) : (slices_IndexFunc_api_Auto_api_Auto_at194.ce k).fn x = den slices_IndexFunc_api_Auto_api_Auto_at194.F k (bodyOf Tryz.f193) (startAS (slices_IndexFunc_api_Auto_api_Auto_at194.ce 0).ats x) (retK (slices_IndexFunc_api_Auto_api_Auto_at194.F.c k) Tryz.f193.results.toList (slices_IndexFunc_api_Auto_api_Auto_at194.ce 0).rts) := by kernel_rfl
theorem slices_IndexFunc_api_Auto_api_Auto_at194.ob : Obl slices_IndexFunc_api_Auto_api_Auto_at194.F (bodyOf Tryz.f193) (fun k => retK (slices_IndexFunc_api_Auto_api_Auto_at194.F.c k) Tryz.f193.results.toList (slices_IndexFunc_api_Auto_api_Auto_at194.ce 0).rts) := obl_of (by kernel_rfl)
/-! ### 65 -/
def net_Find.f (k : Nat) (l0_0 : List ByteArray) (l0_1 : List S86) (l0_2 : List ByteArray) (l0_3 : List S76) (a1 : ByteArray) : Option (Int × Int) := (slI.f k l0_0 a1).bind fun t1 => (if t1 ≥ 0 then (some (1, w64 (t1 + 1))) else ((net_Names.f k l0_0 l0_1 l0_2 l0_3).bind fun t2 => ((slI.f k t2 a1).bind fun t3 => (if t3 ≥ 0 then (some (2, t3)) else ((slI.f k l0_2 a1).bind fun t4 => (if t4 ≥ 0 then (some (3, w64 (t4 + 1))) else ((slices_IndexFunc_api_Auto_api_Auto_at194.f k l0_3 a1).bind fun t5 => (if t5 ≥ 0 then (some (4, t5)) else (some (0, 0))))))))))
def net_Find.ce (k : Nat) : CallE := ⟨[⟨true, T26⟩, ⟨false, .str⟩], [⟨false, [.v (.int .u8)]⟩, ⟨false, [.v (.int .i64)]⟩], fun (x : S26 × ByteArray) => net_Find.f k x.1.f0 x.1.f1 x.1.f2 x.1.f3 x.2⟩
def net_Find.F : Fam (RT.dens (net_Find.ce 0).rts) := ⟨fun k => ⟨TT0, GL0, callT [(191, [], slI.ce k), (192, [], net_Names.ce k), (193, [194], slices_IndexFunc_api_Auto_api_Auto_at194.ce k)], cmpT CM0, [], BLD0, ioT []⟩, []⟩
theorem net_Find.is (k : Nat) (x : AT.dens (net_Find.ce 0).ats) : (net_Find.ce k).fn x = den net_Find.F k (bodyOf Tryz.f65) (startAS (net_Find.ce 0).ats x) (retK (net_Find.F.c k) Tryz.f65.results.toList (net_Find.ce 0).rts) := by kernel_rfl
theorem net_Find.ob : Obl net_Find.F (bodyOf Tryz.f65) (fun k => retK (net_Find.F.c k) Tryz.f65.results.toList (net_Find.ce 0).rts) := obl_of (by kernel_rfl)
/-! ### 13 -/
def gnomonlaw10_live.f (k : Nat) : Option Bool := (gnomonlaw10_small.f).bind fun t1 => ((net_Print.f k t1.1 t1.2.1 t1.2.2.1 t1.2.2.2).bind fun t2 => ((gnomonlaw10_small.f).bind fun t3 => ((net_Find.f k t3.1 t3.2.1 t3.2.2.1 t3.2.2.2 (⟨#[65]⟩ : ByteArray)).bind fun t4 => (if t2.2 = 0 then (if t2.1 = (⟨#[99, 108, 111, 99, 107, 32, 120, 59, 10, 97, 117, 116, 111, 32, 65, 32, 123, 10, 32, 32, 108, 111, 99, 32, 97, 32, 105, 110, 118, 32, 120, 32, 60, 61, 32, 53, 59, 10, 32, 32, 108, 111, 99, 32, 98, 59, 10, 32, 32, 101, 100, 103, 101, 32, 97, 32, 45, 62, 32, 98, 32, 119, 104, 101, 110, 32, 120, 32, 62, 61, 32, 51, 32, 100, 111, 32, 120, 32, 58, 61, 32, 48, 59, 10, 125, 10]⟩ : ByteArray) then (if t4.1 = 4 then (if t4.2 = 0 then ((gnomonlaw10_small.f).bind fun t5 => ((net_Right.f k t5.1 t5.2.1 t5.2.2.1 t5.2.2.2).bind fun t6 => (if t6 = true then ((net_Right.f k ([] : List ByteArray) ([] : List S86) ([] : List ByteArray) ([] : List S76)).bind fun t7 => (some (!t7))) else (some false)))) else (some false)) else (some false)) else (some false)) else (some false)))))
def gnomonlaw10_live.ce (k : Nat) : CallE := ⟨[], [⟨false, [.v .bool]⟩], fun (x : Unit) => gnomonlaw10_live.f k⟩
def gnomonlaw10_live.F : Fam (RT.dens (gnomonlaw10_live.ce 0).rts) := ⟨fun k => ⟨TT0, GL0, callT [(16, [], net_Right.ce k), (27, [], net_Print.ce k), (64, [], gnomonlaw10_small.ce), (65, [], net_Find.ce k)], cmpT CM0, [], BLD0, ioT []⟩, []⟩
theorem gnomonlaw10_live.is (k : Nat) (x : AT.dens (gnomonlaw10_live.ce 0).ats) : (gnomonlaw10_live.ce k).fn x = den gnomonlaw10_live.F k (bodyOf Tryz.f13) (startAS (gnomonlaw10_live.ce 0).ats x) (retK (gnomonlaw10_live.F.c k) Tryz.f13.results.toList (gnomonlaw10_live.ce 0).rts) := by kernel_rfl
theorem gnomonlaw10_live.ob : Obl gnomonlaw10_live.F (bodyOf Tryz.f13) (fun k => retK (gnomonlaw10_live.F.c k) Tryz.f13.results.toList (gnomonlaw10_live.ce 0).rts) := obl_of (by kernel_rfl)
/-! ### 75 -/
mutual
def r10_long.j0 : Nat → (List ByteArray) → (List S86) → (List ByteArray) → (List S76) → Option Bool
 | 0, _, _, _, _ => none
 | k + 1, x1_0, x1_1, x1_2, x1_3 => r10_long.l1 k 0 x1_0 x1_1 x1_2 x1_3
def r10_long.l1 : Nat → Int → (List ByteArray) → (List S86) → (List ByteArray) → (List S76) → Option Bool
 | 0, _, _, _, _, _ => none
 | k + 1, x3, x1_0, x1_1, x1_2, x1_3 => if x3 < (x1_3.length : Int) then (if 0 ≤ x3 then (if x3 < (x1_3.length : Int) then (if (((rd_T76 x1_3 x3).f1).length : Int) > 64 then (some true) else (if (((rd_T76 x1_3 x3).f2).length : Int) > 256 then (some true) else (r10_long.j2 k x3 x1_0 x1_1 x1_2 x1_3 ((rd_T76 x1_3 x3).f0) ((rd_T76 x1_3 x3).f1) ((rd_T76 x1_3 x3).f2)))) else (none)) else (none)) else (some false)
def r10_long.j2 : Nat → Int → (List ByteArray) → (List S86) → (List ByteArray) → (List S76) → ByteArray → (List S84) → (List S79) → Option Bool
 | 0, _, _, _, _, _, _, _, _ => none
 | k + 1, x3, x1_0, x1_1, x1_2, x1_3, x4_0, x4_1, x4_2 => r10_long.l3 k x3 0 x1_0 x1_1 x1_2 x1_3 x4_0 x4_1 x4_2
def r10_long.l3 : Nat → Int → Int → (List ByteArray) → (List S86) → (List ByteArray) → (List S76) → ByteArray → (List S84) → (List S79) → Option Bool
 | 0, _, _, _, _, _, _, _, _, _ => none
 | k + 1, x3, x5, x1_0, x1_1, x1_2, x1_3, x4_0, x4_1, x4_2 => if x5 < (x4_1.length : Int) then (if 0 ≤ x5 then (if x5 < (x4_1.length : Int) then (if (((rd_T84 x4_1 x5).f2).length : Int) > 16 then (some true) else (r10_long.l3 k x3 (w64 (x5 + 1)) x1_0 x1_1 x1_2 x1_3 x4_0 x4_1 x4_2)) else (none)) else (none)) else (r10_long.l4 k x3 0 x1_0 x1_1 x1_2 x1_3 x4_0 x4_1 x4_2)
def r10_long.l4 : Nat → Int → Int → (List ByteArray) → (List S86) → (List ByteArray) → (List S76) → ByteArray → (List S84) → (List S79) → Option Bool
 | 0, _, _, _, _, _, _, _, _, _ => none
 | k + 1, x3, x6, x1_0, x1_1, x1_2, x1_3, x4_0, x4_1, x4_2 => if x6 < (x4_2.length : Int) then (if 0 ≤ x6 then (if x6 < (x4_2.length : Int) then (if (((rd_T79 x4_2 x6).f2).length : Int) > 16 then (some true) else (if (((rd_T79 x4_2 x6).f6).length : Int) > 16 then (some true) else (if (((rd_T79 x4_2 x6).f3).length : Int) > 64 then (some true) else (r10_long.j5 k x3 x6 x1_0 x1_1 x1_2 x1_3 x4_0 x4_1 x4_2 ((rd_T79 x4_2 x6).f0) ((rd_T79 x4_2 x6).f1) ((rd_T79 x4_2 x6).f2) ((rd_T79 x4_2 x6).f3) ((rd_T79 x4_2 x6).f4) ((rd_T79 x4_2 x6).f5) ((rd_T79 x4_2 x6).f6))))) else (none)) else (none)) else (r10_long.l1 k (w64 (x3 + 1)) x1_0 x1_1 x1_2 x1_3)
def r10_long.j5 : Nat → Int → Int → (List ByteArray) → (List S86) → (List ByteArray) → (List S76) → ByteArray → (List S84) → (List S79) → Int → Int → (List S43) → (List S151) → Int → Bool → (List S81) → Option Bool
 | 0, _, _, _, _, _, _, _, _, _, _, _, _, _, _, _, _ => none
 | k + 1, x3, x6, x1_0, x1_1, x1_2, x1_3, x4_0, x4_1, x4_2, x7_0, x7_1, x7_2, x7_3, x7_4, x7_5, x7_6 => r10_long.l6 k x3 x6 0 x1_0 x1_1 x1_2 x1_3 x4_0 x4_1 x4_2 x7_0 x7_1 x7_2 x7_3 x7_4 x7_5 x7_6
def r10_long.l6 : Nat → Int → Int → Int → (List ByteArray) → (List S86) → (List ByteArray) → (List S76) → ByteArray → (List S84) → (List S79) → Int → Int → (List S43) → (List S151) → Int → Bool → (List S81) → Option Bool
 | 0, _, _, _, _, _, _, _, _, _, _, _, _, _, _, _, _, _ => none
 | k + 1, x3, x6, x8, x1_0, x1_1, x1_2, x1_3, x4_0, x4_1, x4_2, x7_0, x7_1, x7_2, x7_3, x7_4, x7_5, x7_6 => if x8 < (x7_6.length : Int) then (if 0 ≤ x8 then (if x8 < (x7_6.length : Int) then (if (((rd_T81 x7_6 x8).f3).length : Int) > 64 then (some true) else (r10_long.l6 k x3 x6 (w64 (x8 + 1)) x1_0 x1_1 x1_2 x1_3 x4_0 x4_1 x4_2 x7_0 x7_1 x7_2 x7_3 x7_4 x7_5 x7_6)) else (none)) else (none)) else (r10_long.l4 k x3 (w64 (x6 + 1)) x1_0 x1_1 x1_2 x1_3 x4_0 x4_1 x4_2)
end
def r10_long.f (k : Nat) (l0_0 : List ByteArray) (l0_1 : List S86) (l0_2 : List ByteArray) (l0_3 : List S76) : Option Bool := if (l0_0.length : Int) > 8 then (some true) else (if (l0_1.length : Int) > 16 then (some true) else (if (l0_2.length : Int) > 16 then (some true) else (if (l0_3.length : Int) > 8 then (some true) else (r10_long.j0 k l0_0 l0_1 l0_2 l0_3))))
def r10_long.ce (k : Nat) : CallE := ⟨[⟨true, T26⟩], [⟨false, [.v .bool]⟩], fun (x : S26) => r10_long.f k x.f0 x.f1 x.f2 x.f3⟩
def r10_long.F : Fam (RT.dens (r10_long.ce 0).rts) := ⟨fun k => ⟨TT0, GL0, callT [], cmpT CM0, [], BLD0, ioT []⟩, [(1000004, ⟨⟨[(1, .k (.ptr 64 0))], [(64, [.v (.list .str), .v (.list T86), .v (.list .str), .v (.list T76)])]⟩, fun k s => r10_long.j0 k s.2.1.1 s.2.1.2.1 s.2.1.2.2.1 s.2.1.2.2.2.1⟩), (5, ⟨⟨[(1, .k (.ptr 64 0)), (3, .v false (.int .i64))], [(64, [.v (.list .str), .v (.list T86), .v (.list .str), .v (.list T76)])]⟩, fun k s => r10_long.l1 k s.1.1 s.2.1.1 s.2.1.2.1 s.2.1.2.2.1 s.2.1.2.2.2.1⟩), (1000010, ⟨⟨[(1, .k (.ptr 64 0)), (3, .v false (.int .i64)), (4, .k (.ptr 256 0))], [(64, [.v (.list .str), .v (.list T86), .v (.list .str), .v (.list T76)]), (256, [.v .str, .v (.list T84), .v (.list T79)])]⟩, fun k s => r10_long.j2 k s.1.1 s.2.1.1 s.2.1.2.1 s.2.1.2.2.1 s.2.1.2.2.2.1 s.2.2.1.1 s.2.2.1.2.1 s.2.2.1.2.2.1⟩), (11, ⟨⟨[(1, .k (.ptr 64 0)), (3, .v false (.int .i64)), (4, .k (.ptr 256 0)), (5, .v false (.int .i64))], [(64, [.v (.list .str), .v (.list T86), .v (.list .str), .v (.list T76)]), (256, [.v .str, .v (.list T84), .v (.list T79)])]⟩, fun k s => r10_long.l3 k s.1.1 s.1.2.1 s.2.1.1 s.2.1.2.1 s.2.1.2.2.1 s.2.1.2.2.2.1 s.2.2.1.1 s.2.2.1.2.1 s.2.2.1.2.2.1⟩), (16, ⟨⟨[(1, .k (.ptr 64 0)), (3, .v false (.int .i64)), (4, .k (.ptr 256 0)), (6, .v false (.int .i64))], [(64, [.v (.list .str), .v (.list T86), .v (.list .str), .v (.list T76)]), (256, [.v .str, .v (.list T84), .v (.list T79)])]⟩, fun k s => r10_long.l4 k s.1.1 s.1.2.1 s.2.1.1 s.2.1.2.1 s.2.1.2.2.1 s.2.1.2.2.2.1 s.2.2.1.1 s.2.2.1.2.1 s.2.2.1.2.2.1⟩), (1000021, ⟨⟨[(1, .k (.ptr 64 0)), (3, .v false (.int .i64)), (4, .k (.ptr 256 0)), (6, .v false (.int .i64)), (7, .k (.ptr 448 0))], [(64, [.v (.list .str), .v (.list T86), .v (.list .str), .v (.list T76)]), (256, [.v .str, .v (.list T84), .v (.list T79)]), (448, [.v (.int .i64), .v (.int .i64), .v (.list T43), .v (.list T151), .v (.int .i64), .v .bool, .v (.list T81)])]⟩, fun k s => r10_long.j5 k s.1.1 s.1.2.1 s.2.1.1 s.2.1.2.1 s.2.1.2.2.1 s.2.1.2.2.2.1 s.2.2.1.1 s.2.2.1.2.1 s.2.2.1.2.2.1 s.2.2.2.1.1 s.2.2.2.1.2.1 s.2.2.2.1.2.2.1 s.2.2.2.1.2.2.2.1 s.2.2.2.1.2.2.2.2.1 s.2.2.2.1.2.2.2.2.2.1 s.2.2.2.1.2.2.2.2.2.2.1⟩), (22, ⟨⟨[(1, .k (.ptr 64 0)), (3, .v false (.int .i64)), (4, .k (.ptr 256 0)), (6, .v false (.int .i64)), (7, .k (.ptr 448 0)), (8, .v false (.int .i64))], [(64, [.v (.list .str), .v (.list T86), .v (.list .str), .v (.list T76)]), (256, [.v .str, .v (.list T84), .v (.list T79)]), (448, [.v (.int .i64), .v (.int .i64), .v (.list T43), .v (.list T151), .v (.int .i64), .v .bool, .v (.list T81)])]⟩, fun k s => r10_long.l6 k s.1.1 s.1.2.1 s.1.2.2.1 s.2.1.1 s.2.1.2.1 s.2.1.2.2.1 s.2.1.2.2.2.1 s.2.2.1.1 s.2.2.1.2.1 s.2.2.1.2.2.1 s.2.2.2.1.1 s.2.2.2.1.2.1 s.2.2.2.1.2.2.1 s.2.2.2.1.2.2.2.1 s.2.2.2.1.2.2.2.2.1 s.2.2.2.1.2.2.2.2.2.1 s.2.2.2.1.2.2.2.2.2.2.1⟩)]⟩
theorem r10_long.is (k : Nat) (x : AT.dens (r10_long.ce 0).ats) : (r10_long.ce k).fn x = den r10_long.F k (bodyOf Tryz.f75) (startAS (r10_long.ce 0).ats x) (retK (r10_long.F.c k) Tryz.f75.results.toList (r10_long.ce 0).rts) := by kernel_rfl
theorem r10_long.ob : Obl r10_long.F (bodyOf Tryz.f75) (fun k => retK (r10_long.F.c k) Tryz.f75.results.toList (r10_long.ce 0).rts) := obl_of (by kernel_rfl)
/-! ### 349 -/
mutual
def r09_begin.l0 : Nat → ByteArray → Int → Option Int
 | 0, _, _ => none
 | k + 1, x0, x1 => if x1 < (x0.size : Int) then (if 0 ≤ x1 then (if x1 < (x0.size : Int) then (if (btI x0 x1) = 32 then (r09_begin.j1 k x0 x1 (btI x0 x1) (decide ((btI x0 x1) = 32))) else (if (btI x0 x1) = 9 then (r09_begin.j1 k x0 x1 (btI x0 x1) (decide ((btI x0 x1) = 9))) else (if (btI x0 x1) = 13 then (r09_begin.j1 k x0 x1 (btI x0 x1) (decide ((btI x0 x1) = 13))) else (r09_begin.j1 k x0 x1 (btI x0 x1) (decide ((btI x0 x1) = 10)))))) else (none)) else (none)) else (some x1)
def r09_begin.j1 : Nat → ByteArray → Int → Int → Bool → Option Int
 | 0, _, _, _, _ => none
 | k + 1, x0, x1, x11, x13 => if x13 = true then (r09_begin.l0 k x0 (w64 (x1 + 1))) else (if x11 = 35 then (r09_begin.l2 k x0 x1) else (some x1))
def r09_begin.l2 : Nat → ByteArray → Int → Option Int
 | 0, _, _ => none
 | k + 1, x0, x1 => if x1 < (x0.size : Int) then (if 0 ≤ x1 then (if x1 < (x0.size : Int) then (if (btI x0 x1) = 10 then (r09_begin.l0 k x0 x1) else (r09_begin.l2 k x0 (w64 (x1 + 1)))) else (none)) else (none)) else (r09_begin.l0 k x0 x1)
end
def r09_begin.f (k : Nat) (a0 : ByteArray) (a1 : Int) : Option Int := r09_begin.l0 k a0 a1
def r09_begin.ce (k : Nat) : CallE := ⟨[⟨false, .str⟩, ⟨false, (.int .i64)⟩], [⟨false, [.v (.int .i64)]⟩], fun (x : ByteArray × Int) => r09_begin.f k x.1 x.2⟩
def r09_begin.F : Fam (RT.dens (r09_begin.ce 0).rts) := ⟨fun k => ⟨TT0, GL0, callT [], cmpT CM0, [], BLD0, ioT []⟩, [(2, ⟨⟨[(0, .v false .str), (1, .v false (.int .i64))], []⟩, fun k s => r09_begin.l0 k s.1.1 s.1.2.1⟩), (1000009, ⟨⟨[(0, .v false .str), (1, .v false (.int .i64)), (11, .v false (.int .u8)), (13, .v false .bool)], []⟩, fun k s => r09_begin.j1 k s.1.1 s.1.2.1 s.1.2.2.1 s.1.2.2.2.1⟩), (11, ⟨⟨[(0, .v false .str), (1, .v false (.int .i64))], []⟩, fun k s => r09_begin.l2 k s.1.1 s.1.2.1⟩)]⟩
theorem r09_begin.is (k : Nat) (x : AT.dens (r09_begin.ce 0).ats) : (r09_begin.ce k).fn x = den r09_begin.F k (bodyOf Tryz.f349) (startAS (r09_begin.ce 0).ats x) (retK (r09_begin.F.c k) Tryz.f349.results.toList (r09_begin.ce 0).rts) := by kernel_rfl
theorem r09_begin.ob : Obl r09_begin.F (bodyOf Tryz.f349) (fun k => retK (r09_begin.F.c k) Tryz.f349.results.toList (r09_begin.ce 0).rts) := obl_of (by kernel_rfl)
/-! ### 350 -/
def r09_digit.f (a0 : Int) : Option Bool := if a0 ≥ 48 then (some (decide (a0 ≤ 57))) else (some false)
def r09_digit.ce : CallE := ⟨[⟨false, (.int .u8)⟩], [⟨false, [.v .bool]⟩], fun (x : Int) => r09_digit.f x⟩
def r09_digit.F : Fam (RT.dens (r09_digit.ce).rts) := ⟨fun k => ⟨TT0, GL0, callT [], cmpT CM0, [], BLD0, ioT []⟩, []⟩
theorem r09_digit.is (k : Nat) (x : AT.dens (r09_digit.ce).ats) : (r09_digit.ce).fn x = den r09_digit.F k (bodyOf Tryz.f350) (startAS (r09_digit.ce).ats x) (retK (r09_digit.F.c k) Tryz.f350.results.toList (r09_digit.ce).rts) := by kernel_rfl
theorem r09_digit.ob : Obl r09_digit.F (bodyOf Tryz.f350) (fun k => retK (r09_digit.F.c k) Tryz.f350.results.toList (r09_digit.ce).rts) := obl_of (by kernel_rfl)
/-! ### 351 -/
mutual
def r09_number.l0 : Nat → ByteArray → Int → Int → Int → Int → ByteArray → Int → Int → Option (Int × ByteArray × Int × Int × Int × Int)
 | 0, _, _, _, _, _, _, _, _ => none
 | k + 1, x0, x1, x7, x8, x4_0, x4_1, x4_2, x4_3 => if x7 < (x0.size : Int) then (if 0 ≤ x7 then (if x7 < (x0.size : Int) then ((r09_digit.f (btI x0 x7)).bind fun t1 => (if t1 = true then (r09_number.j1 k x0 x1 x7 x8 x4_0 x4_1 x4_2 x4_3) else (if 0 ≤ x1 then (if x1 < (x0.size : Int) then (if (btI x0 x1) = 48 then (if x7 > (w64 (x1 + 1)) then (some (0, (⟨#[]⟩ : ByteArray), 0, 0, x1, 91)) else (if x8 > 2147483647 then (some (0, (⟨#[]⟩ : ByteArray), 0, 0, x1, 91)) else (if 0 ≤ x7 then (if x7 ≤ (x0.size : Int) then (if 0 ≤ x1 then (if x1 ≤ x7 then (some (2, (x0.extract (Int.toNat (x1)) (Int.toNat (x7))), x8, x1, x7, 0)) else (none)) else (none)) else (none)) else (none)))) else (if x8 > 2147483647 then (some (0, (⟨#[]⟩ : ByteArray), 0, 0, x1, 91)) else (if 0 ≤ x7 then (if x7 ≤ (x0.size : Int) then (if 0 ≤ x1 then (if x1 ≤ x7 then (some (2, (x0.extract (Int.toNat (x1)) (Int.toNat (x7))), x8, x1, x7, 0)) else (none)) else (none)) else (none)) else (none)))) else (none)) else (none)))) else (none)) else (none)) else (if 0 ≤ x1 then (if x1 < (x0.size : Int) then (if (btI x0 x1) = 48 then (if x7 > (w64 (x1 + 1)) then (some (0, (⟨#[]⟩ : ByteArray), 0, 0, x1, 91)) else (if x8 > 2147483647 then (some (0, (⟨#[]⟩ : ByteArray), 0, 0, x1, 91)) else (if 0 ≤ x7 then (if x7 ≤ (x0.size : Int) then (if 0 ≤ x1 then (if x1 ≤ x7 then (some (2, (x0.extract (Int.toNat (x1)) (Int.toNat (x7))), x8, x1, x7, 0)) else (none)) else (none)) else (none)) else (none)))) else (if x8 > 2147483647 then (some (0, (⟨#[]⟩ : ByteArray), 0, 0, x1, 91)) else (if 0 ≤ x7 then (if x7 ≤ (x0.size : Int) then (if 0 ≤ x1 then (if x1 ≤ x7 then (some (2, (x0.extract (Int.toNat (x1)) (Int.toNat (x7))), x8, x1, x7, 0)) else (none)) else (none)) else (none)) else (none)))) else (none)) else (none))
def r09_number.j1 : Nat → ByteArray → Int → Int → Int → Int → ByteArray → Int → Int → Option (Int × ByteArray × Int × Int × Int × Int)
 | 0, _, _, _, _, _, _, _, _ => none
 | k + 1, x0, x1, x7, x8, x4_0, x4_1, x4_2, x4_3 => if x8 ≤ 2147483648 then (if 0 ≤ x7 then (if x7 < (x0.size : Int) then (r09_number.l0 k x0 x1 (w64 (x7 + 1)) (w64 ((w64 ((w64 (x8 * 10)) + (w64 ((btI x0 x7))))) - 48)) x4_0 x4_1 x4_2 x4_3) else (none)) else (none)) else (r09_number.l0 k x0 x1 (w64 (x7 + 1)) x8 x4_0 x4_1 x4_2 x4_3)
end
def r09_number.f (k : Nat) (a0 : ByteArray) (a1 : Int) : Option (Int × ByteArray × Int × Int × Int × Int) := r09_number.l0 k a0 a1 a1 0 0 (⟨#[]⟩ : ByteArray) 0 0
def r09_number.ce (k : Nat) : CallE := ⟨[⟨false, .str⟩, ⟨false, (.int .i64)⟩], [⟨true, [.v (.int .i64), .v .str, .v (.int .i64), .v (.int .i64)]⟩, ⟨false, [.v (.int .i64)]⟩, ⟨false, [.v (.int .i64)]⟩], fun (x : ByteArray × Int) => r09_number.f k x.1 x.2⟩
def r09_number.F : Fam (RT.dens (r09_number.ce 0).rts) := ⟨fun k => ⟨TT0, GL0, callT [(350, [], r09_digit.ce)], cmpT CM0, [], BLD0, ioT []⟩, [(4, ⟨⟨[(0, .v false .str), (1, .v false (.int .i64)), (4, .k (.ptr 256 0)), (7, .v false (.int .i64)), (8, .v false (.int .i64))], [(256, [.v (.int .i64), .v .str, .v (.int .i64), .v (.int .i64)])]⟩, fun k s => r09_number.l0 k s.1.1 s.1.2.1 s.1.2.2.1 s.1.2.2.2.1 s.2.1.1 s.2.1.2.1 s.2.1.2.2.1 s.2.1.2.2.2.1⟩), (1000005, ⟨⟨[(0, .v false .str), (1, .v false (.int .i64)), (4, .k (.ptr 256 0)), (7, .v false (.int .i64)), (8, .v false (.int .i64))], [(256, [.v (.int .i64), .v .str, .v (.int .i64), .v (.int .i64)])]⟩, fun k s => r09_number.j1 k s.1.1 s.1.2.1 s.1.2.2.1 s.1.2.2.2.1 s.2.1.1 s.2.1.2.1 s.2.1.2.2.1 s.2.1.2.2.2.1⟩)]⟩
theorem r09_number.is (k : Nat) (x : AT.dens (r09_number.ce 0).ats) : (r09_number.ce k).fn x = den r09_number.F k (bodyOf Tryz.f351) (startAS (r09_number.ce 0).ats x) (retK (r09_number.F.c k) Tryz.f351.results.toList (r09_number.ce 0).rts) := by kernel_rfl
theorem r09_number.ob : Obl r09_number.F (bodyOf Tryz.f351) (fun k => retK (r09_number.F.c k) Tryz.f351.results.toList (r09_number.ce 0).rts) := obl_of (by kernel_rfl)
/-! ### 352 -/
def r09_letter.f (a0 : Int) : Option Bool := if a0 ≥ 97 then (if a0 ≤ 122 then (some true) else (if a0 ≥ 65 then (some (decide (a0 ≤ 90))) else (some false))) else (if a0 ≥ 65 then (some (decide (a0 ≤ 90))) else (some false))
def r09_letter.ce : CallE := ⟨[⟨false, (.int .u8)⟩], [⟨false, [.v .bool]⟩], fun (x : Int) => r09_letter.f x⟩
def r09_letter.F : Fam (RT.dens (r09_letter.ce).rts) := ⟨fun k => ⟨TT0, GL0, callT [], cmpT CM0, [], BLD0, ioT []⟩, []⟩
theorem r09_letter.is (k : Nat) (x : AT.dens (r09_letter.ce).ats) : (r09_letter.ce).fn x = den r09_letter.F k (bodyOf Tryz.f352) (startAS (r09_letter.ce).ats x) (retK (r09_letter.F.c k) Tryz.f352.results.toList (r09_letter.ce).rts) := by kernel_rfl
theorem r09_letter.ob : Obl r09_letter.F (bodyOf Tryz.f352) (fun k => retK (r09_letter.F.c k) Tryz.f352.results.toList (r09_letter.ce).rts) := obl_of (by kernel_rfl)
end
end Go.Proofs.YtbjkfkifkglplaaGreatDoor.Q
