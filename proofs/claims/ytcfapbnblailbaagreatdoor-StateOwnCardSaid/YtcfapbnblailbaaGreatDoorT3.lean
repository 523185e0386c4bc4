/- Part of the proof: T3. -/
import Derived.Test.YtcfapbnblailbaaGreatDoorShelf
import Derived.Lib.AppendIntMem
import Derived.Test.YtcfapbnblailbaaGreatDoorD4f
set_option linter.unusedVariables false
set_option maxRecDepth 100000
namespace Go.Proofs.YtcfapbnblailbaaGreatDoor.Q
open Go Go.Den Go.RowKit Go.Proofs
def rd (xs : List Int) (i : Int) : Int := xs.getD i.toNat 0
@[reducible] def T241 : Ty := .prod (.int .i64) (.prod .bool (.prod .bool (.prod .str ((.int .i64)))))
abbrev S241 := Int × Bool × Bool × ByteArray × Int
abbrev S241.f0 (x : S241) : Int := x.1
abbrev S241.f1 (x : S241) : Bool := x.2.1
abbrev S241.f2 (x : S241) : Bool := x.2.2.1
abbrev S241.f3 (x : S241) : ByteArray := x.2.2.2.1
abbrev S241.f4 (x : S241) : Int := x.2.2.2.2
abbrev rd_T241 (xs : List S241) (i : Int) : S241 := rdT T241 xs i
@[reducible] def T38 : Ty := .prod (.int .i64) (.prod (.int .i64) (.prod (.int .u8) ((.int .i64))))
abbrev S38 := Int × Int × Int × Int
abbrev S38.f0 (x : S38) : Int := x.1
abbrev S38.f1 (x : S38) : Int := x.2.1
abbrev S38.f2 (x : S38) : Int := x.2.2.1
abbrev S38.f3 (x : S38) : Int := x.2.2.2
abbrev rd_T38 (xs : List S38) (i : Int) : S38 := rdT T38 xs i
@[reducible] def T102 : Ty := .prod .str (.prod (.int .u8) ((.list T38)))
abbrev S102 := ByteArray × Int × (List S38)
abbrev S102.f0 (x : S102) : ByteArray := x.1
abbrev S102.f1 (x : S102) : Int := x.2.1
abbrev S102.f2 (x : S102) : List S38 := x.2.2
abbrev rd_T102 (xs : List S102) (i : Int) : S102 := rdT T102 xs i
@[reducible] def T148 : Ty := .prod (.int .u8) ((.int .i64))
abbrev S148 := Int × Int
abbrev S148.f0 (x : S148) : Int := x.1
abbrev S148.f1 (x : S148) : Int := x.2
abbrev rd_T148 (xs : List S148) (i : Int) : S148 := rdT T148 xs i
@[reducible] def T99 : Ty := .prod (.int .i64) (.prod (.int .i64) (.prod (.int .i64) ((.list T148))))
abbrev S99 := Int × Int × Int × (List S148)
abbrev S99.f0 (x : S99) : Int := x.1
abbrev S99.f1 (x : S99) : Int := x.2.1
abbrev S99.f2 (x : S99) : Int := x.2.2.1
abbrev S99.f3 (x : S99) : List S148 := x.2.2.2
abbrev rd_T99 (xs : List S99) (i : Int) : S99 := rdT T99 xs i
@[reducible] def T97 : Ty := .prod (.int .i64) (.prod (.int .i64) (.prod (.list T38) (.prod (.list T148) (.prod (.int .i64) (.prod .bool ((.list T99)))))))
abbrev S97 := Int × Int × (List S38) × (List S148) × Int × Bool × (List S99)
abbrev S97.f0 (x : S97) : Int := x.1
abbrev S97.f1 (x : S97) : Int := x.2.1
abbrev S97.f2 (x : S97) : List S38 := x.2.2.1
abbrev S97.f3 (x : S97) : List S148 := x.2.2.2.1
abbrev S97.f4 (x : S97) : Int := x.2.2.2.2.1
abbrev S97.f5 (x : S97) : Bool := x.2.2.2.2.2.1
abbrev S97.f6 (x : S97) : List S99 := x.2.2.2.2.2.2
abbrev rd_T97 (xs : List S97) (i : Int) : S97 := rdT T97 xs i
@[reducible] def T94 : Ty := .prod .str (.prod (.list T102) ((.list T97)))
abbrev S94 := ByteArray × (List S102) × (List S97)
abbrev S94.f0 (x : S94) : ByteArray := x.1
abbrev S94.f1 (x : S94) : List S102 := x.2.1
abbrev S94.f2 (x : S94) : List S97 := x.2.2
abbrev rd_T94 (xs : List S94) (i : Int) : S94 := rdT T94 xs i
@[reducible] def T104 : Ty := .prod .str (.prod (.int .i64) (.prod (.int .i64) ((.int .i64))))
abbrev S104 := ByteArray × Int × Int × Int
abbrev S104.f0 (x : S104) : ByteArray := x.1
abbrev S104.f1 (x : S104) : Int := x.2.1
abbrev S104.f2 (x : S104) : Int := x.2.2.1
abbrev S104.f3 (x : S104) : Int := x.2.2.2
abbrev rd_T104 (xs : List S104) (i : Int) : S104 := rdT T104 xs i
@[reducible] def T26 : Ty := .prod (.list .str) (.prod (.list T104) (.prod (.list .str) ((.list T94))))
abbrev S26 := (List ByteArray) × (List S104) × (List ByteArray) × (List S94)
abbrev S26.f0 (x : S26) : List ByteArray := x.1
abbrev S26.f1 (x : S26) : List S104 := x.2.1
abbrev S26.f2 (x : S26) : List ByteArray := x.2.2.1
abbrev S26.f3 (x : S26) : List S94 := x.2.2.2
abbrev rd_T26 (xs : List S26) (i : Int) : S26 := rdT T26 xs i
@[reducible] def T29 : Ty := .prod (.list (.int .i64)) ((.list (.int .i64)))
abbrev S29 := (List Int) × (List Int)
abbrev S29.f0 (x : S29) : List Int := x.1
abbrev S29.f1 (x : S29) : List Int := x.2
abbrev rd_T29 (xs : List S29) (i : Int) : S29 := rdT T29 xs i
@[reducible] def T272 : Ty := .prod (.int .i64) (.prod .str (.prod (.int .i64) ((.int .i64))))
abbrev S272 := Int × ByteArray × Int × Int
abbrev S272.f0 (x : S272) : Int := x.1
abbrev S272.f1 (x : S272) : ByteArray := x.2.1
abbrev S272.f2 (x : S272) : Int := x.2.2.1
abbrev S272.f3 (x : S272) : Int := x.2.2.2
abbrev rd_T272 (xs : List S272) (i : Int) : S272 := rdT T272 xs i
@[reducible] def T130 : Ty := .prod (.int .i64) ((.int .i64))
abbrev S130 := Int × Int
abbrev S130.f0 (x : S130) : Int := x.1
abbrev S130.f1 (x : S130) : Int := x.2
abbrev rd_T130 (xs : List S130) (i : Int) : S130 := rdT T130 xs i
@[reducible] def T90 : Ty := .prod (.list T130) (.prod (.list T38) ((.list T148)))
abbrev S90 := (List S130) × (List S38) × (List S148)
abbrev S90.f0 (x : S90) : List S130 := x.1
abbrev S90.f1 (x : S90) : List S38 := x.2.1
abbrev S90.f2 (x : S90) : List S148 := x.2.2
abbrev rd_T90 (xs : List S90) (i : Int) : S90 := rdT T90 xs i
@[reducible] def A2 : Ty := .alt (.fn 80 [] .bool) .fz
abbrev DA2 := Bool ⊕ Unit
@[reducible] def A3 : Ty := .alt (.fn 79 [] .bool) A2
abbrev DA3 := Bool ⊕ DA2
@[reducible] def A4 : Ty := .alt (.fn 78 [] .bool) A3
abbrev DA4 := Bool ⊕ DA3
@[reducible] def A5 : Ty := .alt (.fn 77 [] .bool) A4
abbrev DA5 := Bool ⊕ DA4
@[reducible] def A6 : Ty := .alt (.fn 76 [] .bool) A5
abbrev DA6 := Bool ⊕ DA5
@[reducible] def A7 : Ty := .alt (.fn 75 [] .bool) A6
abbrev DA7 := Bool ⊕ DA6
@[reducible] def A8 : Ty := .alt (.fn 74 [] .bool) A7
abbrev DA8 := Bool ⊕ DA7
@[reducible] def A9 : Ty := .alt (.fn 73 [] .bool) A8
abbrev DA9 := Bool ⊕ DA8
@[reducible] def A0 : Ty := .alt (.fn 72 [] .bool) A9
abbrev DA0 := Bool ⊕ DA9
@[reducible] def A10 : Ty := .alt (.fn 95 [(false, 1)] (.ref T26)) .fz
abbrev DA10 := S26 ⊕ Unit
@[reducible] def A11 : Ty := .alt (.fn 93 [] .bool) A10
abbrev DA11 := Bool ⊕ DA10
@[reducible] def A12 : Ty := .alt (.fn 91 [(false, 1)] (.ref T26)) A11
abbrev DA12 := S26 ⊕ DA11
@[reducible] def A13 : Ty := .alt (.fn 90 [(false, 1)] (.ref T26)) A12
abbrev DA13 := S26 ⊕ DA12
@[reducible] def A1 : Ty := .alt (.fn 89 [] .bool) A13
abbrev DA1 := Bool ⊕ DA13
def TT0 : TT := [(3, ⟨1, 8, [.i .i64 0], .int .i64, some (.int .i64)⟩),
  (4, ⟨1, 1, [.b false], .bool, some .bool⟩),
  (5, ⟨1, 1, [.i .u8 0], .int .u8, some (.int .u8)⟩),
  (9, ⟨1, 16, [.s ⟨#[]⟩], .str, some .str⟩),
  (22, ⟨1, 24, [.nl], .slice 9, some (.list .str)⟩),
  (23, ⟨1, 24, [.nl], .slice 104, some (.list T104)⟩),
  (24, ⟨1, 24, [.nl], .slice 94, some (.list T94)⟩),
  (26, ⟨4, 96, [.nl, .nl, .nl, .nl], .struct [(0, 22), (1, 23), (2, 22), (3, 24)], some T26⟩),
  (27, ⟨1, 24, [.nl], .slice 3, some (.list (.int .i64))⟩),
  (29, ⟨2, 48, [.nl, .nl], .struct [(0, 27), (1, 27)], some T29⟩),
  (30, ⟨1, 8, [.i .i64 0], .int .i64, some (.int .i64)⟩),
  (33, ⟨1, 24, [.nl], .slice 38, some (.list T38)⟩),
  (36, ⟨1, 1, [.i .u8 0], .int .u8, some (.int .u8)⟩),
  (38, ⟨4, 32, [.i .i64 0, .i .i64 0, .i .u8 0, .i .i64 0], .struct [(0, 3), (1, 3), (2, 36), (3, 3)], some T38⟩),
  (54, ⟨1, 8, [.nf], .func, none⟩),
  (70, ⟨1, 24, [.nl], .slice 22, some (.list (.list .str))⟩),
  (88, ⟨1, 24, [.nl], .slice 148, some (.list T148)⟩),
  (91, ⟨1, 24, [.nl], .slice 102, some (.list T102)⟩),
  (92, ⟨1, 24, [.nl], .slice 97, some (.list T97)⟩),
  (94, ⟨3, 64, [.s ⟨#[]⟩, .nl, .nl], .struct [(0, 9), (1, 91), (2, 92)], some T94⟩),
  (95, ⟨1, 24, [.nl], .slice 99, some (.list T99)⟩),
  (97, ⟨7, 104, [.i .i64 0, .i .i64 0, .nl, .nl, .i .i64 0, .b false, .nl], .struct [(0, 3), (1, 3), (2, 33), (3, 88), (4, 3), (5, 4), (6, 95)], some T97⟩),
  (99, ⟨4, 48, [.i .i64 0, .i .i64 0, .i .i64 0, .nl], .struct [(0, 3), (1, 3), (2, 3), (3, 88)], some T99⟩),
  (100, ⟨1, 1, [.i .u8 0], .int .u8, some (.int .u8)⟩),
  (102, ⟨3, 48, [.s ⟨#[]⟩, .i .u8 0, .nl], .struct [(0, 9), (1, 100), (2, 33)], some T102⟩),
  (104, ⟨4, 40, [.s ⟨#[]⟩, .i .i64 0, .i .i64 0, .i .i64 0], .struct [(0, 9), (1, 3), (2, 3), (3, 3)], some T104⟩),
  (121, ⟨1, 24, [.nl], .slice 54, none⟩),
  (123, ⟨1, 24, [.nl], .slice 30, some (.list (.int .i64))⟩),
  (146, ⟨1, 1, [.i .u8 0], .int .u8, some (.int .u8)⟩),
  (148, ⟨2, 16, [.i .u8 0, .i .i64 0], .struct [(0, 146), (1, 3)], some T148⟩),
  (192, ⟨1, 8, [.i .u64 0], .int .u64, some (.int .u64)⟩),
  (236, ⟨1, 8, [.nm], .smap, none⟩),
  (241, ⟨5, 40, [.i .i64 0, .b false, .b false, .s ⟨#[]⟩, .i .i64 0], .struct [(0, 3), (1, 4), (2, 4), (3, 9), (4, 3)], some T241⟩),
  (255, ⟨1, 1, [.i .u8 0], .int .u8, some (.int .u8)⟩),
  (259, ⟨16, 256, [.s ⟨#[]⟩, .s ⟨#[]⟩, .s ⟨#[]⟩, .s ⟨#[]⟩, .s ⟨#[]⟩, .s ⟨#[]⟩, .s ⟨#[]⟩, .s ⟨#[]⟩, .s ⟨#[]⟩, .s ⟨#[]⟩, .s ⟨#[]⟩, .s ⟨#[]⟩, .s ⟨#[]⟩, .s ⟨#[]⟩, .s ⟨#[]⟩, .s ⟨#[]⟩], .arr 16 9, some (.prod .str (.prod .str (.prod .str (.prod .str (.prod .str (.prod .str (.prod .str (.prod .str (.prod .str (.prod .str (.prod .str (.prod .str (.prod .str (.prod .str (.prod .str .str)))))))))))))))⟩),
  (261, ⟨75, 600, [.i .i64 0, .b false, .b false, .s ⟨#[]⟩, .i .i64 0, .i .i64 0, .b false, .b false, .s ⟨#[]⟩, .i .i64 0, .i .i64 0, .b false, .b false, .s ⟨#[]⟩, .i .i64 0, .i .i64 0, .b false, .b false, .s ⟨#[]⟩, .i .i64 0, .i .i64 0, .b false, .b false, .s ⟨#[]⟩, .i .i64 0, .i .i64 0, .b false, .b false, .s ⟨#[]⟩, .i .i64 0, .i .i64 0, .b false, .b false, .s ⟨#[]⟩, .i .i64 0, .i .i64 0, .b false, .b false, .s ⟨#[]⟩, .i .i64 0, .i .i64 0, .b false, .b false, .s ⟨#[]⟩, .i .i64 0, .i .i64 0, .b false, .b false, .s ⟨#[]⟩, .i .i64 0, .i .i64 0, .b false, .b false, .s ⟨#[]⟩, .i .i64 0, .i .i64 0, .b false, .b false, .s ⟨#[]⟩, .i .i64 0, .i .i64 0, .b false, .b false, .s ⟨#[]⟩, .i .i64 0, .i .i64 0, .b false, .b false, .s ⟨#[]⟩, .i .i64 0, .i .i64 0, .b false, .b false, .s ⟨#[]⟩, .i .i64 0], .arr 15 241, some (.prod T241 (.prod T241 (.prod T241 (.prod T241 (.prod T241 (.prod T241 (.prod T241 (.prod T241 (.prod T241 (.prod T241 (.prod T241 (.prod T241 (.prod T241 (.prod T241 T241))))))))))))))⟩),
  (270, ⟨15, 240, [.s ⟨#[]⟩, .s ⟨#[]⟩, .s ⟨#[]⟩, .s ⟨#[]⟩, .s ⟨#[]⟩, .s ⟨#[]⟩, .s ⟨#[]⟩, .s ⟨#[]⟩, .s ⟨#[]⟩, .s ⟨#[]⟩, .s ⟨#[]⟩, .s ⟨#[]⟩, .s ⟨#[]⟩, .s ⟨#[]⟩, .s ⟨#[]⟩], .arr 15 9, some (.prod .str (.prod .str (.prod .str (.prod .str (.prod .str (.prod .str (.prod .str (.prod .str (.prod .str (.prod .str (.prod .str (.prod .str (.prod .str (.prod .str .str))))))))))))))⟩),
  (272, ⟨4, 40, [.i .i64 0, .s ⟨#[]⟩, .i .i64 0, .i .i64 0], .struct [(0, 3), (1, 9), (2, 3), (3, 3)], some T272⟩),
  (278, ⟨11, 176, [.s ⟨#[]⟩, .s ⟨#[]⟩, .s ⟨#[]⟩, .s ⟨#[]⟩, .s ⟨#[]⟩, .s ⟨#[]⟩, .s ⟨#[]⟩, .s ⟨#[]⟩, .s ⟨#[]⟩, .s ⟨#[]⟩, .s ⟨#[]⟩], .arr 11 9, some (.prod .str (.prod .str (.prod .str (.prod .str (.prod .str (.prod .str (.prod .str (.prod .str (.prod .str (.prod .str .str))))))))))⟩)]
def CM0 : List (Nat × Ty) := [(38, T38)]
def lex_kept : List ByteArray := [(⟨#[99, 108, 111, 99, 107]⟩ : ByteArray), (⟨#[105, 110, 116]⟩ : ByteArray), (⟨#[99, 104, 97, 110]⟩ : ByteArray), (⟨#[97, 117, 116, 111]⟩ : ByteArray), (⟨#[108, 111, 99]⟩ : ByteArray), (⟨#[101, 100, 103, 101]⟩ : ByteArray), (⟨#[105, 110]⟩ : ByteArray), (⟨#[105, 110, 118]⟩ : ByteArray), (⟨#[119, 104, 101, 110]⟩ : ByteArray), (⟨#[115, 121, 110, 99]⟩ : ByteArray), (⟨#[100, 111]⟩ : ByteArray), (⟨#[117, 114, 103, 101, 110, 116]⟩ : ByteArray), (⟨#[99, 111, 109, 109, 105, 116, 116, 101, 100]⟩ : ByteArray), (⟨#[116, 114, 117, 101]⟩ : ByteArray), (⟨#[114, 101, 97, 99, 104]⟩ : ByteArray), (⟨#[110, 101, 118, 101, 114]⟩ : ByteArray)]
def expr_kinds : List S241 := [(⟨0, false, false, (⟨#[]⟩ : ByteArray), 0⟩ : S241), (⟨0, false, false, (⟨#[]⟩ : ByteArray), 9⟩ : S241), (⟨0, false, false, (⟨#[]⟩ : ByteArray), 9⟩ : S241), (⟨1, false, false, (⟨#[45]⟩ : ByteArray), 6⟩ : S241), (⟨2, false, false, (⟨#[43]⟩ : ByteArray), 4⟩ : S241), (⟨2, false, false, (⟨#[45]⟩ : ByteArray), 4⟩ : S241), (⟨2, false, false, (⟨#[42]⟩ : ByteArray), 5⟩ : S241), (⟨0, true, false, (⟨#[116, 114, 117, 101]⟩ : ByteArray), 9⟩ : S241), (⟨2, true, false, (⟨#[60]⟩ : ByteArray), 3⟩ : S241), (⟨2, true, false, (⟨#[60, 61]⟩ : ByteArray), 3⟩ : S241), (⟨2, true, false, (⟨#[61, 61]⟩ : ByteArray), 3⟩ : S241), (⟨2, true, false, (⟨#[33, 61]⟩ : ByteArray), 3⟩ : S241), (⟨1, true, true, (⟨#[33]⟩ : ByteArray), 9⟩ : S241), (⟨2, true, true, (⟨#[38, 38]⟩ : ByteArray), 2⟩ : S241), (⟨2, true, true, (⟨#[124, 124]⟩ : ByteArray), 1⟩ : S241)]
def GL0 : GT := fun g => bif Nat.beq g 0 then some (.tab .str lex_kept) else bif Nat.beq g 1 then some (.tab T241 expr_kinds) else bif Nat.beq g 2 then some (.arr .u64 Lib.pow10Tab) else none
def strconv_Itoa.f (n : Int) : Option ByteArray := if -9223372036854775808 ≤ n ∧ n ≤ 9223372036854775807 then some ⟨(Lib.itoa n).toArray⟩ else none
def strconv_Itoa.ce : CallE := ⟨[⟨false, .int .i64⟩], [⟨false, [.v .str]⟩], fun (x : Int) => strconv_Itoa.f x⟩
theorem strconv_Itoa.ok (k : Nat) : CallOK Tryz.prog GL0 60 strconv_Itoa.ce where
  there := ⟨_, Tryz.func60, by kernel_rfl, by kernel_rfl⟩
  calls := by
    intro x r hx w J args hJ hglob hargs
    have hx : strconv_Itoa.f x = some r := hx
    unfold strconv_Itoa.f at hx
    split at hx
    · rename_i hb
      cases hx
      obtain ⟨v, rfl, hv⟩ := hargs
      have hv : [v] = [Value.int .i64 x] := hv
      simp only [List.cons.injEq, and_true] at hv
      subst hv
      obtain ⟨_, e, fz, hg⟩ := hglob 2 (.arr .u64 Lib.pow10Tab) rfl
      refine (Tryz.strconv_Itoa x hb.1 hb.2 w (by unfold Lib.TabIs World.var?; rw [show Tryz.prog.globalNamed "internal/strconv.uint64pow10" = some 2 from by kernel_rfl]; simp [hg])).mono ?_
      rintro e w' ⟨rfl, k, os, rfl⟩
      exact ⟨_, rfl, Lib.below_grow _ _ (Nat.le_refl _) _ _, J, [_], [], [_], fun b h => .inl h, ⟨rfl, rfl⟩, List.nodup_nil, ⟨[_], [], _, [], rfl, rfl, rfl, rfl, rfl, rfl⟩, rfl⟩
    · cases hx
def strings_Join.f (l : List ByteArray) (sep : ByteArray) : Option ByteArray := if l.length ≤ 140737488355328 ∧ (Lib.join (l.map (·.data.toList)) sep.data.toList).length ≤ 140737488355328 then some ⟨(Lib.join (l.map (·.data.toList)) sep.data.toList).toArray⟩ else none
def strings_Join.ce : CallE := ⟨[⟨false, .list .str⟩, ⟨false, .str⟩], [⟨false, [.v .str]⟩], fun (x : List ByteArray × ByteArray) => strings_Join.f x.1 x.2⟩
theorem strings_Join.ok (k : Nat) : CallOK Tryz.prog GL0 61 strings_Join.ce where
  there := ⟨_, Tryz.func61, by kernel_rfl, by kernel_rfl⟩
  calls := by
    intro x r hx w J args hJ hglob hargs
    have hx : strings_Join.f x.1 x.2 = some r := hx
    obtain ⟨l, sep⟩ := x
    unfold strings_Join.f at hx
    split at hx
    · rename_i hb
      cases hx
      obtain ⟨v, q, rfl, hv, u, rfl, hu⟩ := hargs
      have hu : [u] = [Value.string sep] := hu
      simp only [List.cons.injEq, and_true] at hu
      subst hu
      have hv : K w J (.list .str) l [v] := hv
      obtain ⟨A, c, hv, hle, hcm, hr⟩ := hv
      simp only [List.cons.injEq, and_true] at hv
      subst hv
      have fin : ∀ (s : ByteArray) (w' : World), Below w.heap.size w w' → s = ⟨(Lib.join (l.map (·.data.toList)) sep.data.toList).toArray⟩ → ∃ v, Ending.returned (Value.string s) = .returned v ∧ Below w.heap.size w w' ∧ ResRep w.heap.size w' J [⟨false, [.v .str]⟩] (⟨(Lib.join (l.map (·.data.toList)) sep.data.toList).toArray⟩ : ByteArray) v := fun s w' hB hs => by
        subst hs
        exact ⟨_, rfl, hB, J, [_], [], [_], fun b h => .inl h, ⟨rfl, rfl⟩, List.nodup_nil, ⟨[_], [], _, [], rfl, rfl, rfl, rfl, rfl, rfl⟩, rfl⟩
      by_cases hl : l = []
      · subst hl
        refine (Tryz.strings_Join_none A c sep w).mono ?_
        rintro e w' ⟨rfl, rfl⟩
        exact fin _ _ (Below.refl _ _) rfl
      · rcases hr with hr | ⟨a, rfl, ⟨hI, hs⟩, hall⟩
        · exact absurd hr hl
        · obtain ⟨b, o, sp⟩ := a
          simp only at hs
          subst hs
          refine (Tryz.strings_Join b o c l sep w (fun j x hx => ?_) (hJ _ hI) hb.1 hle hb.2).mono ?_
          · obtain ⟨d, hd, hc⟩ := hall j x hx
            have hd : d = [Value.string x] := hd
            subst hd
            have := hc 0 _ rfl
            rw [add_add, add_mk] at this
            simpa [Ty.sz] using this
          · rintro e w' ⟨rfl, hB⟩
            exact fin _ _ hB rfl
    · cases hx
section
variable [Wr]
/-! ### net_some_1: function 177 -/
def net_some_1.f (l0_0 : ByteArray) (l0_1 : List S102) (l0_2 : List S97) : Option Bool := (some (decide ((l0_1.length : Int) = 0)))
def net_some_1.ce : CallE := ⟨[⟨true, T94⟩], [⟨false, [.v .bool]⟩], fun (x : S94) => net_some_1.f x.f0 x.f1 x.f2⟩
def net_some_1.F : Fam (RT.dens (net_some_1.ce).rts) := ⟨fun k => ⟨TT0, GL0, callT [], cmpT CM0, []⟩, []⟩
theorem net_some_1.is (k : Nat) (x : AT.dens (net_some_1.ce).ats) : (net_some_1.ce).fn x = den net_some_1.F k (bodyOf Tryz.f177) (startAS (net_some_1.ce).ats x) (retK (net_some_1.F.c k) Tryz.f177.results.toList (net_some_1.ce).rts) := by kernel_rfl
theorem net_some_1.ob : Obl net_some_1.F (bodyOf Tryz.f177) (fun k => retK (net_some_1.F.c k) Tryz.f177.results.toList (net_some_1.ce).rts) := obl_of (by kernel_rfl)
/-! ### slices_IndexFunc_api_Auto_api_Auto_at177: function 174 -/
def slices_IndexFunc_api_Auto_api_Auto_at177.l0 : Nat → (List S94) → Bool → Int → Int → Option Int
 | 0, _, _, _, _ => none
 | k + 1, x0, x1, x7, x8 => if x8 < x7 then (if 0 ≤ x8 then (if x8 < (x0.length : Int) then ((net_some_1.f ((rd_T94 x0 x8).f0) ((rd_T94 x0 x8).f1) ((rd_T94 x0 x8).f2)).bind fun t1 => (if t1 = true then (some x8) else (slices_IndexFunc_api_Auto_api_Auto_at177.l0 k x0 x1 x7 (w64 (x8 + 1))))) else (none)) else (none)) else (some (-1))
def slices_IndexFunc_api_Auto_api_Auto_at177.f (k : Nat) (a0 : List S94) (a1 : Bool) : Option Int := slices_IndexFunc_api_Auto_api_Auto_at177.l0 k a0 a1 (a0.length : Int) 0
def slices_IndexFunc_api_Auto_api_Auto_at177.ce (k : Nat) : CallE := ⟨[⟨false, (.list T94)⟩, ⟨false, (.fn 177 [] .bool)⟩], [⟨false, [.v (.int .i64)]⟩], fun (x : (List S94) × Bool) => slices_IndexFunc_api_Auto_api_Auto_at177.f k x.1 x.2⟩
def slices_IndexFunc_api_Auto_api_Auto_at177.F : Fam (RT.dens (slices_IndexFunc_api_Auto_api_Auto_at177.ce 0).rts) := ⟨fun k => ⟨TT0, GL0, callT [(177, [], net_some_1.ce)], cmpT CM0, []⟩, [(3, ⟨⟨[(0, .v false (.list T94)), (1, .v false (.fn 177 [] .bool)), (7, .v false (.int .i64)), (8, .v false (.int .i64))], []⟩, fun k s => slices_IndexFunc_api_Auto_api_Auto_at177.l0 k s.1.1 s.1.2.1 s.1.2.2.1 s.1.2.2.2.1⟩)]⟩
theorem slices_IndexFunc_api_Auto_api_Auto_at177.is (k : Nat) (x : AT.dens (slices_IndexFunc_api_Auto_api_Auto_at177.ce 0).ats) : (slices_IndexFunc_api_Auto_api_Auto_at177.ce k).fn x = den slices_IndexFunc_api_Auto_api_Auto_at177.F k (bodyOf Tryz.f174) (startAS (slices_IndexFunc_api_Auto_api_Auto_at177.ce 0).ats x) (retK (slices_IndexFunc_api_Auto_api_Auto_at177.F.c k) Tryz.f174.results.toList (slices_IndexFunc_api_Auto_api_Auto_at177.ce 0).rts) := by kernel_rfl
theorem slices_IndexFunc_api_Auto_api_Auto_at177.ob : Obl slices_IndexFunc_api_Auto_api_Auto_at177.F (bodyOf Tryz.f174) (fun k => retK (slices_IndexFunc_api_Auto_api_Auto_at177.F.c k) Tryz.f174.results.toList (slices_IndexFunc_api_Auto_api_Auto_at177.ce 0).rts) := obl_of (by kernel_rfl)
/-! ### slices_ContainsFunc_api_Auto_api_Auto_at177: function 176 -/
def slices_ContainsFunc_api_Auto_api_Auto_at177.f (k : Nat) (a0 : List S94) (a1 : Bool) : Option Bool := (slices_IndexFunc_api_Auto_api_Auto_at177.f k a0 a1).bind fun t1 => (some (decide (t1 ≥ 0)))
def slices_ContainsFunc_api_Auto_api_Auto_at177.ce (k : Nat) : CallE := ⟨[⟨false, (.list T94)⟩, ⟨false, (.fn 177 [] .bool)⟩], [⟨false, [.v .bool]⟩], fun (x : (List S94) × Bool) => slices_ContainsFunc_api_Auto_api_Auto_at177.f k x.1 x.2⟩
def slices_ContainsFunc_api_Auto_api_Auto_at177.F : Fam (RT.dens (slices_ContainsFunc_api_Auto_api_Auto_at177.ce 0).rts) := ⟨fun k => ⟨TT0, GL0, callT [(174, [177], slices_IndexFunc_api_Auto_api_Auto_at177.ce k)], cmpT CM0, []⟩, []⟩
theorem slices_ContainsFunc_api_Auto_api_Auto_at177.is (k : Nat) (x : AT.dens (slices_ContainsFunc_api_Auto_api_Auto_at177.ce 0).ats) : (slices_ContainsFunc_api_Auto_api_Auto_at177.ce k).fn x = den slices_ContainsFunc_api_Auto_api_Auto_at177.F k (bodyOf Tryz.f176) (startAS (slices_ContainsFunc_api_Auto_api_Auto_at177.ce 0).ats x) (retK (slices_ContainsFunc_api_Auto_api_Auto_at177.F.c k) Tryz.f176.results.toList (slices_ContainsFunc_api_Auto_api_Auto_at177.ce 0).rts) := by kernel_rfl
theorem slices_ContainsFunc_api_Auto_api_Auto_at177.ob : Obl slices_ContainsFunc_api_Auto_api_Auto_at177.F (bodyOf Tryz.f176) (fun k => retK (slices_ContainsFunc_api_Auto_api_Auto_at177.F.c k) Tryz.f176.results.toList (slices_ContainsFunc_api_Auto_api_Auto_at177.ce 0).rts) := obl_of (by kernel_rfl)
/-! ### net_some: function 72 -/
def net_some.f (k : Nat) (l0_0 : List ByteArray) (l0_1 : List S104) (l0_2 : List ByteArray) (l0_3 : List S94) : Option Int := if (l0_3.length : Int) = 0 then (some 2) else ((slices_ContainsFunc_api_Auto_api_Auto_at177.f k l0_3 false).bind fun t1 => (if t1 = true then (some 2) else (some 0)))
def net_some.ce (k : Nat) : CallE := ⟨[⟨true, T26⟩], [⟨false, [.v (.int .i64)]⟩], fun (x : S26) => net_some.f k x.f0 x.f1 x.f2 x.f3⟩
def net_some.F : Fam (RT.dens (net_some.ce 0).rts) := ⟨fun k => ⟨TT0, GL0, callT [(176, [177], slices_ContainsFunc_api_Auto_api_Auto_at177.ce k)], cmpT CM0, []⟩, []⟩
theorem net_some.is (k : Nat) (x : AT.dens (net_some.ce 0).ats) : (net_some.ce k).fn x = den net_some.F k (bodyOf Tryz.f72) (startAS (net_some.ce 0).ats x) (retK (net_some.F.c k) Tryz.f72.results.toList (net_some.ce 0).rts) := by kernel_rfl
theorem net_some.ob : Obl net_some.F (bodyOf Tryz.f72) (fun k => retK (net_some.F.c k) Tryz.f72.results.toList (net_some.ce 0).rts) := obl_of (by kernel_rfl)
/-! ### net_sizes: function 73 -/
mutual
def net_sizes.j0 : Nat → (List ByteArray) → (List S104) → (List ByteArray) → (List S94) → Option Int
 | 0, _, _, _, _ => none
 | k + 1, x1_0, x1_1, x1_2, x1_3 => net_sizes.l1 k x1_3 (x1_3.length : Int) 0
def net_sizes.l1 : Nat → (List S94) → Int → Int → Option Int
 | 0, _, _, _ => none
 | k + 1, x34, x35, x36 => if x36 < x35 then (if 0 ≤ x36 then (if x36 < (x34.length : Int) then (if (((rd_T94 x34 x36).f1).length : Int) > 64 then (some 6) else (if (((rd_T94 x34 x36).f2).length : Int) > 256 then (some 6) else (net_sizes.j2 k x34 x35 x36 ((rd_T94 x34 x36).f0) ((rd_T94 x34 x36).f1) ((rd_T94 x34 x36).f2)))) else (none)) else (none)) else (some 0)
def net_sizes.j2 : Nat → (List S94) → Int → Int → ByteArray → (List S102) → (List S97) → Option Int
 | 0, _, _, _, _, _, _ => none
 | k + 1, x34, x35, x36, x4_0, x4_1, x4_2 => net_sizes.l3 k x34 x35 x36 x4_1 (x4_1.length : Int) 0 x4_0 x4_1 x4_2
def net_sizes.l3 : Nat → (List S94) → Int → Int → (List S102) → Int → Int → ByteArray → (List S102) → (List S97) → Option Int
 | 0, _, _, _, _, _, _, _, _, _ => none
 | k + 1, x34, x35, x36, x51, x52, x53, x4_0, x4_1, x4_2 => if x53 < x52 then (if 0 ≤ x53 then (if x53 < (x51.length : Int) then (if (((rd_T102 x51 x53).f2).length : Int) > 16 then (some 6) else (net_sizes.l3 k x34 x35 x36 x51 x52 (w64 (x53 + 1)) x4_0 x4_1 x4_2)) else (none)) else (none)) else (net_sizes.l4 k x34 x35 x36 x4_2 (x4_2.length : Int) 0)
def net_sizes.l4 : Nat → (List S94) → Int → Int → (List S97) → Int → Int → Option Int
 | 0, _, _, _, _, _, _ => none
 | k + 1, x34, x35, x36, x63, x64, x65 => if x65 < x64 then (if 0 ≤ x65 then (if x65 < (x63.length : Int) then (if (((rd_T97 x63 x65).f2).length : Int) > 16 then (some 6) else (if (((rd_T97 x63 x65).f6).length : Int) > 16 then (some 6) else (if (((rd_T97 x63 x65).f3).length : Int) > 64 then (some 6) else (net_sizes.j5 k x34 x35 x36 x63 x64 x65 ((rd_T97 x63 x65).f0) ((rd_T97 x63 x65).f1) ((rd_T97 x63 x65).f2) ((rd_T97 x63 x65).f3) ((rd_T97 x63 x65).f4) ((rd_T97 x63 x65).f5) ((rd_T97 x63 x65).f6))))) else (none)) else (none)) else (net_sizes.l1 k x34 x35 (w64 (x36 + 1)))
def net_sizes.j5 : Nat → (List S94) → Int → Int → (List S97) → Int → Int → Int → Int → (List S38) → (List S148) → Int → Bool → (List S99) → Option Int
 | 0, _, _, _, _, _, _, _, _, _, _, _, _, _ => none
 | k + 1, x34, x35, x36, x63, x64, x65, x8_0, x8_1, x8_2, x8_3, x8_4, x8_5, x8_6 => net_sizes.l6 k x34 x35 x36 x63 x64 x65 x8_6 (x8_6.length : Int) 0
def net_sizes.l6 : Nat → (List S94) → Int → Int → (List S97) → Int → Int → (List S99) → Int → Int → Option Int
 | 0, _, _, _, _, _, _, _, _, _ => none
 | k + 1, x34, x35, x36, x63, x64, x65, x86, x87, x88 => if x88 < x87 then (if 0 ≤ x88 then (if x88 < (x86.length : Int) then (if (((rd_T99 x86 x88).f3).length : Int) > 64 then (some 6) else (net_sizes.l6 k x34 x35 x36 x63 x64 x65 x86 x87 (w64 (x88 + 1)))) else (none)) else (none)) else (net_sizes.l4 k x34 x35 x36 x63 x64 (w64 (x65 + 1)))
end
def net_sizes.f (k : Nat) (l0_0 : List ByteArray) (l0_1 : List S104) (l0_2 : List ByteArray) (l0_3 : List S94) : Option Int := if (l0_0.length : Int) > 8 then (some 6) else (if (l0_1.length : Int) > 16 then (some 6) else (if (l0_2.length : Int) > 16 then (some 6) else (if (l0_3.length : Int) > 8 then (some 6) else (net_sizes.j0 k l0_0 l0_1 l0_2 l0_3))))
def net_sizes.ce (k : Nat) : CallE := ⟨[⟨true, T26⟩], [⟨false, [.v (.int .i64)]⟩], fun (x : S26) => net_sizes.f k x.f0 x.f1 x.f2 x.f3⟩
def net_sizes.F : Fam (RT.dens (net_sizes.ce 0).rts) := ⟨fun k => ⟨TT0, GL0, callT [], cmpT CM0, []⟩, [(1000004, ⟨⟨[(1, .k (.ptr 64 0))], [(64, [.v (.list .str), .v (.list T104), .v (.list .str), .v (.list T94)])]⟩, fun k s => net_sizes.j0 k s.2.1.1 s.2.1.2.1 s.2.1.2.2.1 s.2.1.2.2.2.1⟩), (5, ⟨⟨[(34, .v false (.list T94)), (35, .v false (.int .i64)), (36, .v false (.int .i64))], []⟩, fun k s => net_sizes.l1 k s.1.1 s.1.2.1 s.1.2.2.1⟩), (1000009, ⟨⟨[(4, .k (.ptr 256 0)), (34, .v false (.list T94)), (35, .v false (.int .i64)), (36, .v false (.int .i64))], [(256, [.v .str, .v (.list T102), .v (.list T97)])]⟩, fun k s => net_sizes.j2 k s.1.1 s.1.2.1 s.1.2.2.1 s.2.1.1 s.2.1.2.1 s.2.1.2.2.1⟩), (10, ⟨⟨[(4, .k (.ptr 256 0)), (34, .v false (.list T94)), (35, .v false (.int .i64)), (36, .v false (.int .i64)), (51, .v false (.list T102)), (52, .v false (.int .i64)), (53, .v false (.int .i64))], [(256, [.v .str, .v (.list T102), .v (.list T97)])]⟩, fun k s => net_sizes.l3 k s.1.1 s.1.2.1 s.1.2.2.1 s.1.2.2.2.1 s.1.2.2.2.2.1 s.1.2.2.2.2.2.1 s.2.1.1 s.2.1.2.1 s.2.1.2.2.1⟩), (16, ⟨⟨[(34, .v false (.list T94)), (35, .v false (.int .i64)), (36, .v false (.int .i64)), (63, .v false (.list T97)), (64, .v false (.int .i64)), (65, .v false (.int .i64))], []⟩, fun k s => net_sizes.l4 k s.1.1 s.1.2.1 s.1.2.2.1 s.1.2.2.2.1 s.1.2.2.2.2.1 s.1.2.2.2.2.2.1⟩), (1000020, ⟨⟨[(8, .k (.ptr 512 0)), (34, .v false (.list T94)), (35, .v false (.int .i64)), (36, .v false (.int .i64)), (63, .v false (.list T97)), (64, .v false (.int .i64)), (65, .v false (.int .i64))], [(512, [.v (.int .i64), .v (.int .i64), .v (.list T38), .v (.list T148), .v (.int .i64), .v .bool, .v (.list T99)])]⟩, fun k s => net_sizes.j5 k s.1.1 s.1.2.1 s.1.2.2.1 s.1.2.2.2.1 s.1.2.2.2.2.1 s.1.2.2.2.2.2.1 s.2.1.1 s.2.1.2.1 s.2.1.2.2.1 s.2.1.2.2.2.1 s.2.1.2.2.2.2.1 s.2.1.2.2.2.2.2.1 s.2.1.2.2.2.2.2.2.1⟩), (21, ⟨⟨[(34, .v false (.list T94)), (35, .v false (.int .i64)), (36, .v false (.int .i64)), (63, .v false (.list T97)), (64, .v false (.int .i64)), (65, .v false (.int .i64)), (86, .v false (.list T99)), (87, .v false (.int .i64)), (88, .v false (.int .i64))], []⟩, fun k s => net_sizes.l6 k s.1.1 s.1.2.1 s.1.2.2.1 s.1.2.2.2.1 s.1.2.2.2.2.1 s.1.2.2.2.2.2.1 s.1.2.2.2.2.2.2.1 s.1.2.2.2.2.2.2.2.1 s.1.2.2.2.2.2.2.2.2.1⟩)]⟩
theorem net_sizes.is (k : Nat) (x : AT.dens (net_sizes.ce 0).ats) : (net_sizes.ce k).fn x = den net_sizes.F k (bodyOf Tryz.f73) (startAS (net_sizes.ce 0).ats x) (retK (net_sizes.F.c k) Tryz.f73.results.toList (net_sizes.ce 0).rts) := by kernel_rfl
theorem net_sizes.ob : Obl net_sizes.F (bodyOf Tryz.f73) (fun k => retK (net_sizes.F.c k) Tryz.f73.results.toList (net_sizes.ce 0).rts) := obl_of (by kernel_rfl)
/-! ### lex_of: function 224 -/
def lex_of.j0 : Nat → Int → Bool → Option Int
 | 0, _, _ => none
 | k + 1, x0, x3 => if x3 = true then (some 1) else (if x0 = 35 then (some 4) else (if x0 ≥ 97 then (if x0 ≤ 122 then (if x0 ≤ 122 then (some 2) else (if x0 ≥ 48 then (if x0 ≤ 57 then (some 3) else (some 0)) else (some 0))) else (if x0 ≥ 65 then (if x0 ≤ 90 then (some 2) else (if x0 ≥ 48 then (if x0 ≤ 57 then (some 3) else (some 0)) else (some 0))) else (if x0 ≥ 48 then (if x0 ≤ 57 then (some 3) else (some 0)) else (some 0)))) else (if x0 ≥ 65 then (if x0 ≤ 90 then (some 2) else (if x0 ≥ 48 then (if x0 ≤ 57 then (some 3) else (some 0)) else (some 0))) else (if x0 ≥ 48 then (if x0 ≤ 57 then (some 3) else (some 0)) else (some 0)))))
def lex_of.f (k : Nat) (a0 : Int) : Option Int := if a0 = 32 then (lex_of.j0 k a0 (decide (a0 = 32))) else (if a0 = 9 then (lex_of.j0 k a0 (decide (a0 = 9))) else (if a0 = 13 then (lex_of.j0 k a0 (decide (a0 = 13))) else (lex_of.j0 k a0 (decide (a0 = 10)))))
def lex_of.ce (k : Nat) : CallE := ⟨[⟨false, (.int .u8)⟩], [⟨false, [.v (.int .u8)]⟩], fun (x : Int) => lex_of.f k x⟩
def lex_of.F : Fam (RT.dens (lex_of.ce 0).rts) := ⟨fun k => ⟨TT0, GL0, callT [], cmpT CM0, []⟩, [(1000006, ⟨⟨[(0, .v false (.int .u8)), (3, .v false .bool)], []⟩, fun k s => lex_of.j0 k s.1.1 s.1.2.1⟩)]⟩
theorem lex_of.is (k : Nat) (x : AT.dens (lex_of.ce 0).ats) : (lex_of.ce k).fn x = den lex_of.F k (bodyOf Tryz.f224) (startAS (lex_of.ce 0).ats x) (retK (lex_of.F.c k) Tryz.f224.results.toList (lex_of.ce 0).rts) := by kernel_rfl
theorem lex_of.ob : Obl lex_of.F (bodyOf Tryz.f224) (fun k => retK (lex_of.F.c k) Tryz.f224.results.toList (lex_of.ce 0).rts) := obl_of (by kernel_rfl)
/-! ### lex_word: function 225 -/
def lex_word.l0 : Nat → ByteArray → Int → Option Int
 | 0, _, _ => none
 | k + 1, x0, x3 => if x3 < (x0.size : Int) then (if 0 ≤ x3 then (if x3 < (x0.size : Int) then ((lex_of.f k (btI x0 x3)).bind fun t1 => (if t1 = 2 then (lex_word.l0 k x0 (w64 (x3 + 1))) else (if 0 ≤ x3 then (if x3 < (x0.size : Int) then ((lex_of.f k (btI x0 x3)).bind fun t2 => (if t2 = 3 then (lex_word.l0 k x0 (w64 (x3 + 1))) else (if 0 ≤ x3 then (if x3 < (x0.size : Int) then (if (btI x0 x3) = 95 then (lex_word.l0 k x0 (w64 (x3 + 1))) else (some x3)) else (none)) else (none)))) else (none)) else (none)))) else (none)) else (none)) else (some x3)
def lex_word.f (k : Nat) (a0 : ByteArray) : Option Int := lex_word.l0 k a0 1
def lex_word.ce (k : Nat) : CallE := ⟨[⟨false, .str⟩], [⟨false, [.v (.int .i64)]⟩], fun (x : ByteArray) => lex_word.f k x⟩
def lex_word.F : Fam (RT.dens (lex_word.ce 0).rts) := ⟨fun k => ⟨TT0, GL0, callT [(224, [], lex_of.ce k)], cmpT CM0, []⟩, [(3, ⟨⟨[(0, .v false .str), (3, .v false (.int .i64))], []⟩, fun k s => lex_word.l0 k s.1.1 s.1.2.1⟩)]⟩
theorem lex_word.is (k : Nat) (x : AT.dens (lex_word.ce 0).ats) : (lex_word.ce k).fn x = den lex_word.F k (bodyOf Tryz.f225) (startAS (lex_word.ce 0).ats x) (retK (lex_word.F.c k) Tryz.f225.results.toList (lex_word.ce 0).rts) := by kernel_rfl
theorem lex_word.ob : Obl lex_word.F (bodyOf Tryz.f225) (fun k => retK (lex_word.F.c k) Tryz.f225.results.toList (lex_word.ce 0).rts) := obl_of (by kernel_rfl)
/-! ### slices_Index_string_string: function 172 -/
def slices_Index_string_string.l0 : Nat → (List ByteArray) → ByteArray → Int → Int → Option Int
 | 0, _, _, _, _ => none
 | k + 1, x0, x1, x7, x8 => if x8 < x7 then (if 0 ≤ x8 then (if x8 < (x0.length : Int) then (if x1 = (rdT .str x0 x8) then (some x8) else (slices_Index_string_string.l0 k x0 x1 x7 (w64 (x8 + 1)))) else (none)) else (none)) else (some (-1))
def slices_Index_string_string.f (k : Nat) (a0 : List ByteArray) (a1 : ByteArray) : Option Int := slices_Index_string_string.l0 k a0 a1 (a0.length : Int) 0
def slices_Index_string_string.ce (k : Nat) : CallE := ⟨[⟨false, (.list .str)⟩, ⟨false, .str⟩], [⟨false, [.v (.int .i64)]⟩], fun (x : (List ByteArray) × ByteArray) => slices_Index_string_string.f k x.1 x.2⟩
def slices_Index_string_string.F : Fam (RT.dens (slices_Index_string_string.ce 0).rts) := ⟨fun k => ⟨TT0, GL0, callT [], cmpT CM0, []⟩, [(3, ⟨⟨[(0, .v false (.list .str)), (1, .v false .str), (7, .v false (.int .i64)), (8, .v false (.int .i64))], []⟩, fun k s => slices_Index_string_string.l0 k s.1.1 s.1.2.1 s.1.2.2.1 s.1.2.2.2.1⟩)]⟩
theorem slices_Index_string_string.is (k : Nat) (x : AT.dens (slices_Index_string_string.ce 0).ats) : (slices_Index_string_string.ce k).fn x = den slices_Index_string_string.F k (bodyOf Tryz.f172) (startAS (slices_Index_string_string.ce 0).ats x) (retK (slices_Index_string_string.F.c k) Tryz.f172.results.toList (slices_Index_string_string.ce 0).rts) := by kernel_rfl
theorem slices_Index_string_string.ob : Obl slices_Index_string_string.F (bodyOf Tryz.f172) (fun k => retK (slices_Index_string_string.F.c k) Tryz.f172.results.toList (slices_Index_string_string.ce 0).rts) := obl_of (by kernel_rfl)
/-! ### slices_Contains_string_string: function 226 -/
def slices_Contains_string_string.f (k : Nat) (a0 : List ByteArray) (a1 : ByteArray) : Option Bool := (slices_Index_string_string.f k a0 a1).bind fun t1 => (some (decide (t1 ≥ 0)))
def slices_Contains_string_string.ce (k : Nat) : CallE := ⟨[⟨false, (.list .str)⟩, ⟨false, .str⟩], [⟨false, [.v .bool]⟩], fun (x : (List ByteArray) × ByteArray) => slices_Contains_string_string.f k x.1 x.2⟩
def slices_Contains_string_string.F : Fam (RT.dens (slices_Contains_string_string.ce 0).rts) := ⟨fun k => ⟨TT0, GL0, callT [(172, [], slices_Index_string_string.ce k)], cmpT CM0, []⟩, []⟩
theorem slices_Contains_string_string.is (k : Nat) (x : AT.dens (slices_Contains_string_string.ce 0).ats) : (slices_Contains_string_string.ce k).fn x = den slices_Contains_string_string.F k (bodyOf Tryz.f226) (startAS (slices_Contains_string_string.ce 0).ats x) (retK (slices_Contains_string_string.F.c k) Tryz.f226.results.toList (slices_Contains_string_string.ce 0).rts) := by kernel_rfl
theorem slices_Contains_string_string.ob : Obl slices_Contains_string_string.F (bodyOf Tryz.f226) (fun k => retK (slices_Contains_string_string.F.c k) Tryz.f226.results.toList (slices_Contains_string_string.ce 0).rts) := obl_of (by kernel_rfl)
/-! ### lex_IsName: function 207 -/
def lex_IsName.f (k : Nat) (a0 : ByteArray) : Option Bool := if a0 = (⟨#[]⟩ : ByteArray) then (some false) else (if (a0.size : Int) ≤ 16 then (if 0 ≤ 0 then (if 0 < (a0.size : Int) then ((lex_of.f k (btI a0 0)).bind fun t1 => (if t1 = 2 then ((lex_word.f k a0).bind fun t2 => (if t2 = (a0.size : Int) then ((slices_Contains_string_string.f k lex_kept a0).bind fun t3 => (some (!t3))) else (some false))) else (some false))) else (none)) else (none)) else (some false))
def lex_IsName.ce (k : Nat) : CallE := ⟨[⟨false, .str⟩], [⟨false, [.v .bool]⟩], fun (x : ByteArray) => lex_IsName.f k x⟩
def lex_IsName.F : Fam (RT.dens (lex_IsName.ce 0).rts) := ⟨fun k => ⟨TT0, GL0, callT [(224, [], lex_of.ce k), (225, [], lex_word.ce k), (226, [], slices_Contains_string_string.ce k)], cmpT CM0, []⟩, []⟩
theorem lex_IsName.is (k : Nat) (x : AT.dens (lex_IsName.ce 0).ats) : (lex_IsName.ce k).fn x = den lex_IsName.F k (bodyOf Tryz.f207) (startAS (lex_IsName.ce 0).ats x) (retK (lex_IsName.F.c k) Tryz.f207.results.toList (lex_IsName.ce 0).rts) := by kernel_rfl
theorem lex_IsName.ob : Obl lex_IsName.F (bodyOf Tryz.f207) (fun k => retK (lex_IsName.F.c k) Tryz.f207.results.toList (lex_IsName.ce 0).rts) := obl_of (by kernel_rfl)
/-! ### net_given: function 178 -/
def net_given.l0 : Nat → (List ByteArray) → (List ByteArray) → Int → Int → Option Bool
 | 0, _, _, _, _ => none
 | k + 1, x3, x7, x8, x9 => if x9 < x8 then (if 0 ≤ x9 then (if x9 < (x7.length : Int) then ((lex_IsName.f k (rdT .str x7 x9)).bind fun t1 => (if (!t1) = true then (some false) else (if ((rdT .str x7 x9).size : Int) > 16 then (some false) else (if (rdT .str x7 x9).size ≤ 9223372036854775807 then (if (hasK (rdT .str x7 x9) x3) = true then (some false) else (if (rdT .str x7 x9).size ≤ 9223372036854775807 then (if x3.length < 9223372036854775807 then (net_given.l0 k ((rdT .str x7 x9) :: x3) x7 x8 (w64 (x9 + 1))) else (none)) else (none))) else (none))))) else (none)) else (none)) else (some true)
def net_given.f (k : Nat) (a0 : List ByteArray) : Option Bool := net_given.l0 k ([] : List ByteArray) a0 (a0.length : Int) 0
def net_given.ce (k : Nat) : CallE := ⟨[⟨false, (.list .str)⟩], [⟨false, [.v .bool]⟩], fun (x : (List ByteArray)) => net_given.f k x⟩
def net_given.F : Fam (RT.dens (net_given.ce 0).rts) := ⟨fun k => ⟨TT0, GL0, callT [(207, [], lex_IsName.ce k)], cmpT CM0, []⟩, [(4, ⟨⟨[(3, .m), (7, .v false (.list .str)), (8, .v false (.int .i64)), (9, .v false (.int .i64))], []⟩, fun k s => net_given.l0 k s.1.1 s.1.2.1 s.1.2.2.1 s.1.2.2.2.1⟩)]⟩
theorem net_given.is (k : Nat) (x : AT.dens (net_given.ce 0).ats) : (net_given.ce k).fn x = den net_given.F k (bodyOf Tryz.f178) (startAS (net_given.ce 0).ats x) (retK (net_given.F.c k) Tryz.f178.results.toList (net_given.ce 0).rts) := by kernel_rfl
theorem net_given.ob : Obl net_given.F (bodyOf Tryz.f178) (fun k => retK (net_given.F.c k) Tryz.f178.results.toList (net_given.ce 0).rts) := obl_of (by kernel_rfl)
/-! ### net_Names: function 173 -/
def net_Names.l0 : Nat → (List ByteArray) → (List S104) → Int → Int → Option (List ByteArray)
 | 0, _, _, _, _ => none
 | k + 1, x3, x7, x8, x9 => if x9 < x8 then (if 0 ≤ x9 then (if x9 < (x7.length : Int) then (if x3.length < 8796093022208 then (net_Names.l0 k (x3 ++ [(rd_T104 x7 x9).f0]) x7 x8 (w64 (x9 + 1))) else (none)) else (none)) else (none)) else (some x3)
def net_Names.f (k : Nat) (l0_0 : List ByteArray) (l0_1 : List S104) (l0_2 : List ByteArray) (l0_3 : List S94) : Option (List ByteArray) := net_Names.l0 k ([] : List ByteArray) l0_1 (l0_1.length : Int) 0
def net_Names.ce (k : Nat) : CallE := ⟨[⟨true, T26⟩], [⟨false, [.o 9 .str]⟩], fun (x : S26) => net_Names.f k x.f0 x.f1 x.f2 x.f3⟩
def net_Names.F : Fam (RT.dens (net_Names.ce 0).rts) := ⟨fun k => ⟨TT0, GL0, callT [], cmpT CM0, []⟩, [(4, ⟨⟨[(3, .o 9 .str), (7, .v false (.list T104)), (8, .v false (.int .i64)), (9, .v false (.int .i64))], []⟩, fun k s => net_Names.l0 k s.1.1 s.1.2.1 s.1.2.2.1 s.1.2.2.2.1⟩)]⟩
theorem net_Names.is (k : Nat) (x : AT.dens (net_Names.ce 0).ats) : (net_Names.ce k).fn x = den net_Names.F k (bodyOf Tryz.f173) (startAS (net_Names.ce 0).ats x) (retK (net_Names.F.c k) Tryz.f173.results.toList (net_Names.ce 0).rts) := by kernel_rfl
theorem net_Names.ob : Obl net_Names.F (bodyOf Tryz.f173) (fun k => retK (net_Names.F.c k) Tryz.f173.results.toList (net_Names.ce 0).rts) := obl_of (by kernel_rfl)
/-! ### slices_Grow_string_string: function 227 -/
def slices_Grow_string_string.f (a0 : Unit) (a1 : Int) : Option (List ByteArray) := if a1 < 0 then (none) else (if (w64 (a1 - (w64 (0 - 0)))) > 0 then (if 0 ≤ 0 then (if 0 ≤ 0 then (if 0 < w64 (a1 - (w64 (0 - 0))) then (if w64 (a1 - (w64 (0 - 0))) ≤ 8796093022208 then (if 0 ≤ 0 then (if 0 ≤ ((List.replicate (Int.toNat (w64 (a1 - (w64 (0 - 0))))) (⟨#[]⟩ : ByteArray)).length : Int) then (some (List.take (Int.toNat (0)) (List.replicate (Int.toNat (w64 (a1 - (w64 (0 - 0))))) (⟨#[]⟩ : ByteArray)))) else (none)) else (none)) else (none)) else (none)) else (none)) else (none)) else (some ([] : List ByteArray)))
def slices_Grow_string_string.ce : CallE := ⟨[⟨false, .nl⟩, ⟨false, (.int .i64)⟩], [⟨false, [.o 9 .str]⟩], fun (x : Unit × Int) => slices_Grow_string_string.f x.1 x.2⟩
def slices_Grow_string_string.F : Fam (RT.dens (slices_Grow_string_string.ce).rts) := ⟨fun k => ⟨TT0, GL0, callT [], cmpT CM0, [25]⟩, []⟩
theorem slices_Grow_string_string.is (k : Nat) (x : AT.dens (slices_Grow_string_string.ce).ats) : (slices_Grow_string_string.ce).fn x = den slices_Grow_string_string.F k (bodyOf Tryz.f227) (startAS (slices_Grow_string_string.ce).ats x) (retK (slices_Grow_string_string.F.c k) Tryz.f227.results.toList (slices_Grow_string_string.ce).rts) := by kernel_rfl
theorem slices_Grow_string_string.ob : Obl slices_Grow_string_string.F (bodyOf Tryz.f227) (fun k => retK (slices_Grow_string_string.F.c k) Tryz.f227.results.toList (slices_Grow_string_string.ce).rts) := obl_of (by kernel_rfl)
/-! ### slices_Concat_string_string: function 208 -/
mutual
def slices_Concat_string_string.l0 : Nat → (List (List ByteArray)) → Int → (List (List ByteArray)) → Int → Int → Option (List ByteArray)
 | 0, _, _, _, _, _ => none
 | k + 1, x0, x3, x9, x10, x11 => if x11 < x10 then (if 0 ≤ x11 then (if x11 < (x9.length : Int) then (if (w64 (x3 + ((rdT (.list .str) x9 x11).length : Int))) < 0 then (none) else (slices_Concat_string_string.l0 k x0 (w64 (x3 + ((rdT (.list .str) x9 x11).length : Int))) x9 x10 (w64 (x11 + 1)))) else (none)) else (none)) else ((slices_Grow_string_string.f () x3).bind fun t1 => (slices_Concat_string_string.l1 k t1 x0 (x0.length : Int) 0))
def slices_Concat_string_string.l1 : Nat → (List ByteArray) → (List (List ByteArray)) → Int → Int → Option (List ByteArray)
 | 0, _, _, _, _ => none
 | k + 1, x6, x25, x26, x27 => if x27 < x26 then (if 0 ≤ x27 then (if x27 < (x25.length : Int) then (if x6.length + (rdT (.list .str) x25 x27).length ≤ 8796093022208 then (slices_Concat_string_string.l1 k (x6 ++ (rdT (.list .str) x25 x27)) x25 x26 (w64 (x27 + 1))) else (none)) else (none)) else (none)) else (some x6)
end
def slices_Concat_string_string.f (k : Nat) (a0 : List (List ByteArray)) : Option (List ByteArray) := slices_Concat_string_string.l0 k a0 0 a0 (a0.length : Int) 0
def slices_Concat_string_string.ce (k : Nat) : CallE := ⟨[⟨false, (.list (.list .str))⟩], [⟨false, [.o 9 .str]⟩], fun (x : (List (List ByteArray))) => slices_Concat_string_string.f k x⟩
def slices_Concat_string_string.F : Fam (RT.dens (slices_Concat_string_string.ce 0).rts) := ⟨fun k => ⟨TT0, GL0, callT [(227, [], slices_Grow_string_string.ce)], cmpT CM0, []⟩, [(4, ⟨⟨[(0, .v false (.list (.list .str))), (3, .v false (.int .i64)), (9, .v false (.list (.list .str))), (10, .v false (.int .i64)), (11, .v false (.int .i64))], []⟩, fun k s => slices_Concat_string_string.l0 k s.1.1 s.1.2.1 s.1.2.2.1 s.1.2.2.2.1 s.1.2.2.2.2.1⟩), (12, ⟨⟨[(6, .o 9 .str), (25, .v false (.list (.list .str))), (26, .v false (.int .i64)), (27, .v false (.int .i64))], []⟩, fun k s => slices_Concat_string_string.l1 k s.1.1 s.1.2.1 s.1.2.2.1 s.1.2.2.2.1⟩)]⟩
theorem slices_Concat_string_string.is (k : Nat) (x : AT.dens (slices_Concat_string_string.ce 0).ats) : (slices_Concat_string_string.ce k).fn x = den slices_Concat_string_string.F k (bodyOf Tryz.f208) (startAS (slices_Concat_string_string.ce 0).ats x) (retK (slices_Concat_string_string.F.c k) Tryz.f208.results.toList (slices_Concat_string_string.ce 0).rts) := by kernel_rfl
theorem slices_Concat_string_string.ob : Obl slices_Concat_string_string.F (bodyOf Tryz.f208) (fun k => retK (slices_Concat_string_string.F.c k) Tryz.f208.results.toList (slices_Concat_string_string.ce 0).rts) := obl_of (by kernel_rfl)
/-! ### net_all: function 179 -/
def net_all.l0 : Nat → (List ByteArray) → (List S94) → Int → Int → Option (List ByteArray)
 | 0, _, _, _, _ => none
 | k + 1, x3, x15, x16, x17 => if x17 < x16 then (if 0 ≤ x17 then (if x17 < (x15.length : Int) then (if x3.length < 8796093022208 then (net_all.l0 k (x3 ++ [(rd_T94 x15 x17).f0]) x15 x16 (w64 (x17 + 1))) else (none)) else (none)) else (none)) else (some x3)
def net_all.f (k : Nat) (l0_0 : List ByteArray) (l0_1 : List S104) (l0_2 : List ByteArray) (l0_3 : List S94) : Option (List ByteArray) := (net_Names.f k l0_0 l0_1 l0_2 l0_3).bind fun t1 => ((slices_Concat_string_string.f k ([l0_0, t1, l0_2] : List (List ByteArray))).bind fun t2 => (net_all.l0 k t2 l0_3 (l0_3.length : Int) 0))
def net_all.ce (k : Nat) : CallE := ⟨[⟨true, T26⟩], [⟨false, [.o 9 .str]⟩], fun (x : S26) => net_all.f k x.f0 x.f1 x.f2 x.f3⟩
def net_all.F : Fam (RT.dens (net_all.ce 0).rts) := ⟨fun k => ⟨TT0, GL0, callT [(173, [], net_Names.ce k), (208, [], slices_Concat_string_string.ce k)], cmpT CM0, []⟩, [(4, ⟨⟨[(3, .o 9 .str), (15, .v false (.list T94)), (16, .v false (.int .i64)), (17, .v false (.int .i64))], []⟩, fun k s => net_all.l0 k s.1.1 s.1.2.1 s.1.2.2.1 s.1.2.2.2.1⟩)]⟩
theorem net_all.is (k : Nat) (x : AT.dens (net_all.ce 0).ats) : (net_all.ce k).fn x = den net_all.F k (bodyOf Tryz.f179) (startAS (net_all.ce 0).ats x) (retK (net_all.F.c k) Tryz.f179.results.toList (net_all.ce 0).rts) := by kernel_rfl
theorem net_all.ob : Obl net_all.F (bodyOf Tryz.f179) (fun k => retK (net_all.F.c k) Tryz.f179.results.toList (net_all.ce 0).rts) := obl_of (by kernel_rfl)
/-! ### net_locNames: function 180 -/
def net_locNames.l0 : Nat → (List ByteArray) → (List S102) → Int → Int → Option (List ByteArray)
 | 0, _, _, _, _ => none
 | k + 1, x3, x7, x8, x9 => if x9 < x8 then (if 0 ≤ x9 then (if x9 < (x7.length : Int) then (if x3.length < 8796093022208 then (net_locNames.l0 k (x3 ++ [(rd_T102 x7 x9).f0]) x7 x8 (w64 (x9 + 1))) else (none)) else (none)) else (none)) else (some x3)
def net_locNames.f (k : Nat) (l0_0 : ByteArray) (l0_1 : List S102) (l0_2 : List S97) : Option (List ByteArray) := net_locNames.l0 k ([] : List ByteArray) l0_1 (l0_1.length : Int) 0
def net_locNames.ce (k : Nat) : CallE := ⟨[⟨true, T94⟩], [⟨false, [.o 9 .str]⟩], fun (x : S94) => net_locNames.f k x.f0 x.f1 x.f2⟩
def net_locNames.F : Fam (RT.dens (net_locNames.ce 0).rts) := ⟨fun k => ⟨TT0, GL0, callT [], cmpT CM0, []⟩, [(4, ⟨⟨[(3, .o 9 .str), (7, .v false (.list T102)), (8, .v false (.int .i64)), (9, .v false (.int .i64))], []⟩, fun k s => net_locNames.l0 k s.1.1 s.1.2.1 s.1.2.2.1 s.1.2.2.2.1⟩)]⟩
theorem net_locNames.is (k : Nat) (x : AT.dens (net_locNames.ce 0).ats) : (net_locNames.ce k).fn x = den net_locNames.F k (bodyOf Tryz.f180) (startAS (net_locNames.ce 0).ats x) (retK (net_locNames.F.c k) Tryz.f180.results.toList (net_locNames.ce 0).rts) := by kernel_rfl
theorem net_locNames.ob : Obl net_locNames.F (bodyOf Tryz.f180) (fun k => retK (net_locNames.F.c k) Tryz.f180.results.toList (net_locNames.ce 0).rts) := obl_of (by kernel_rfl)
/-! ### net_names: function 74 -/
def net_names.l0 : Nat → (List S94) → Int → Int → Option Int
 | 0, _, _, _ => none
 | k + 1, x10, x11, x12 => if x12 < x11 then (if 0 ≤ x12 then (if x12 < (x10.length : Int) then ((net_locNames.f k ((rd_T94 x10 x12).f0) ((rd_T94 x10 x12).f1) ((rd_T94 x10 x12).f2)).bind fun t3 => ((net_given.f k t3).bind fun t4 => (if (!t4) = true then (some 112) else (net_names.l0 k x10 x11 (w64 (x12 + 1)))))) else (none)) else (none)) else (some 0)
def net_names.f (k : Nat) (l0_0 : List ByteArray) (l0_1 : List S104) (l0_2 : List ByteArray) (l0_3 : List S94) : Option Int := (net_all.f k l0_0 l0_1 l0_2 l0_3).bind fun t1 => ((net_given.f k t1).bind fun t2 => (if (!t2) = true then (some 112) else (net_names.l0 k l0_3 (l0_3.length : Int) 0)))
def net_names.ce (k : Nat) : CallE := ⟨[⟨true, T26⟩], [⟨false, [.v (.int .i64)]⟩], fun (x : S26) => net_names.f k x.f0 x.f1 x.f2 x.f3⟩
def net_names.F : Fam (RT.dens (net_names.ce 0).rts) := ⟨fun k => ⟨TT0, GL0, callT [(178, [], net_given.ce k), (179, [], net_all.ce k), (180, [], net_locNames.ce k)], cmpT CM0, []⟩, [(5, ⟨⟨[(10, .v false (.list T94)), (11, .v false (.int .i64)), (12, .v false (.int .i64))], []⟩, fun k s => net_names.l0 k s.1.1 s.1.2.1 s.1.2.2.1⟩)]⟩
theorem net_names.is (k : Nat) (x : AT.dens (net_names.ce 0).ats) : (net_names.ce k).fn x = den net_names.F k (bodyOf Tryz.f74) (startAS (net_names.ce 0).ats x) (retK (net_names.F.c k) Tryz.f74.results.toList (net_names.ce 0).rts) := by kernel_rfl
theorem net_names.ob : Obl net_names.F (bodyOf Tryz.f74) (fun k => retK (net_names.F.c k) Tryz.f74.results.toList (net_names.ce 0).rts) := obl_of (by kernel_rfl)
/-! ### net_vars: function 75 -/
def net_vars.l0 : Nat → (List S104) → Int → Int → Option Int
 | 0, _, _, _ => none
 | k + 1, x6, x7, x8 => if x8 < x7 then (if 0 ≤ x8 then (if x8 < (x6.length : Int) then (if ((rd_T104 x6 x8).f1) > ((rd_T104 x6 x8).f3) then (some 124) else (if ((rd_T104 x6 x8).f3) > ((rd_T104 x6 x8).f2) then (some 124) else (if ((rd_T104 x6 x8).f1) < (-1048576) then (some 124) else (if ((rd_T104 x6 x8).f2) > 1048576 then (some 124) else (net_vars.l0 k x6 x7 (w64 (x8 + 1))))))) else (none)) else (none)) else (some 0)
def net_vars.f (k : Nat) (l0_0 : List ByteArray) (l0_1 : List S104) (l0_2 : List ByteArray) (l0_3 : List S94) : Option Int := net_vars.l0 k l0_1 (l0_1.length : Int) 0
def net_vars.ce (k : Nat) : CallE := ⟨[⟨true, T26⟩], [⟨false, [.v (.int .i64)]⟩], fun (x : S26) => net_vars.f k x.f0 x.f1 x.f2 x.f3⟩
def net_vars.F : Fam (RT.dens (net_vars.ce 0).rts) := ⟨fun k => ⟨TT0, GL0, callT [], cmpT CM0, []⟩, [(3, ⟨⟨[(6, .v false (.list T104)), (7, .v false (.int .i64)), (8, .v false (.int .i64))], []⟩, fun k s => net_vars.l0 k s.1.1 s.1.2.1 s.1.2.2.1⟩)]⟩
theorem net_vars.is (k : Nat) (x : AT.dens (net_vars.ce 0).ats) : (net_vars.ce k).fn x = den net_vars.F k (bodyOf Tryz.f75) (startAS (net_vars.ce 0).ats x) (retK (net_vars.F.c k) Tryz.f75.results.toList (net_vars.ce 0).rts) := by kernel_rfl
theorem net_vars.ob : Obl net_vars.F (bodyOf Tryz.f75) (fun k => retK (net_vars.F.c k) Tryz.f75.results.toList (net_vars.ce 0).rts) := obl_of (by kernel_rfl)
/-! ### net_locs: function 76 -/
mutual
def net_locs.l0 : Nat → (List S94) → Int → Int → Option Int
 | 0, _, _, _ => none
 | k + 1, x8, x9, x10 => if x10 < x9 then (if 0 ≤ x10 then (if x10 < (x8.length : Int) then (net_locs.l1 k x8 x9 x10 ((rd_T94 x8 x10).f1) (((rd_T94 x8 x10).f1).length : Int) 0) else (none)) else (none)) else (some 0)
def net_locs.l1 : Nat → (List S94) → Int → Int → (List S102) → Int → Int → Option Int
 | 0, _, _, _, _, _, _ => none
 | k + 1, x8, x9, x10, x15, x16, x17 => if x17 < x16 then (if 0 ≤ x17 then (if x17 < (x15.length : Int) then (if ((rd_T102 x15 x17).f1) > 2 then (some 122) else (net_locs.l1 k x8 x9 x10 x15 x16 (w64 (x17 + 1)))) else (none)) else (none)) else (net_locs.l0 k x8 x9 (w64 (x10 + 1)))
end
def net_locs.f (k : Nat) (l0_0 : List ByteArray) (l0_1 : List S104) (l0_2 : List ByteArray) (l0_3 : List S94) : Option Int := net_locs.l0 k l0_3 (l0_3.length : Int) 0
def net_locs.ce (k : Nat) : CallE := ⟨[⟨true, T26⟩], [⟨false, [.v (.int .i64)]⟩], fun (x : S26) => net_locs.f k x.f0 x.f1 x.f2 x.f3⟩
def net_locs.F : Fam (RT.dens (net_locs.ce 0).rts) := ⟨fun k => ⟨TT0, GL0, callT [], cmpT CM0, []⟩, [(3, ⟨⟨[(8, .v false (.list T94)), (9, .v false (.int .i64)), (10, .v false (.int .i64))], []⟩, fun k s => net_locs.l0 k s.1.1 s.1.2.1 s.1.2.2.1⟩), (6, ⟨⟨[(8, .v false (.list T94)), (9, .v false (.int .i64)), (10, .v false (.int .i64)), (15, .v false (.list T102)), (16, .v false (.int .i64)), (17, .v false (.int .i64))], []⟩, fun k s => net_locs.l1 k s.1.1 s.1.2.1 s.1.2.2.1 s.1.2.2.2.1 s.1.2.2.2.2.1 s.1.2.2.2.2.2.1⟩)]⟩
theorem net_locs.is (k : Nat) (x : AT.dens (net_locs.ce 0).ats) : (net_locs.ce k).fn x = den net_locs.F k (bodyOf Tryz.f76) (startAS (net_locs.ce 0).ats x) (retK (net_locs.F.c k) Tryz.f76.results.toList (net_locs.ce 0).rts) := by kernel_rfl
theorem net_locs.ob : Obl net_locs.F (bodyOf Tryz.f76) (fun k => retK (net_locs.F.c k) Tryz.f76.results.toList (net_locs.ce 0).rts) := obl_of (by kernel_rfl)
/-! ### net_edges_1: function 181 -/
def net_edges_1.f (a0 : Int) (a1 : S94) : Option Bool := if a0 ≥ 0 then (some (decide (a0 < (a1.f1.length : Int)))) else (some false)
def net_edges_1.ce : CallE := ⟨[⟨false, (.int .i64)⟩, ⟨false, (.ref T94)⟩], [⟨false, [.v .bool]⟩], fun (x : Int × S94) => net_edges_1.f x.1 x.2⟩
def net_edges_1.F : Fam (RT.dens (net_edges_1.ce).rts) := ⟨fun k => ⟨TT0, GL0, callT [], cmpT CM0, []⟩, []⟩
theorem net_edges_1.is (k : Nat) (x : AT.dens (net_edges_1.ce).ats) : (net_edges_1.ce).fn x = den net_edges_1.F k (bodyOf Tryz.f181) (startAS (net_edges_1.ce).ats x) (retK (net_edges_1.F.c k) Tryz.f181.results.toList (net_edges_1.ce).rts) := by kernel_rfl
theorem net_edges_1.ob : Obl net_edges_1.F (bodyOf Tryz.f181) (fun k => retK (net_edges_1.F.c k) Tryz.f181.results.toList (net_edges_1.ce).rts) := obl_of (by kernel_rfl)
/-! ### net_edges: function 77 -/
mutual
def net_edges.l0 : Nat → (List S94) → Int → Int → (List ByteArray) → (List S104) → (List ByteArray) → (List S94) → Option Int
 | 0, _, _, _, _, _, _, _ => none
 | k + 1, x9, x10, x11, x1_0, x1_1, x1_2, x1_3 => if x11 < x10 then (if 0 ≤ x11 then (if x11 < (x9.length : Int) then (net_edges.l1 k (rd_T94 x9 x11) x9 x10 x11 ((rd_T94 x9 x11).f2) (((rd_T94 x9 x11).f2).length : Int) 0 x1_0 x1_1 x1_2 x1_3) else (none)) else (none)) else (some 0)
def net_edges.l1 : Nat → S94 → (List S94) → Int → Int → (List S97) → Int → Int → (List ByteArray) → (List S104) → (List ByteArray) → (List S94) → Option Int
 | 0, _, _, _, _, _, _, _, _, _, _, _ => none
 | k + 1, x5, x9, x10, x11, x17, x18, x19, x1_0, x1_1, x1_2, x1_3 => if x19 < x18 then (if 0 ≤ x19 then (if x19 < (x17.length : Int) then ((net_edges_1.f ((rd_T97 x17 x19).f0) x5).bind fun t1 => (if (!t1) = true then (some 123) else ((net_edges_1.f ((rd_T97 x17 x19).f1) x5).bind fun t2 => (if (!t2) = true then (some 123) else (if ((rd_T97 x17 x19).f4) < 0 then (some 123) else (if ((rd_T97 x17 x19).f4) > (x1_2.length : Int) then (some 123) else (if ((rd_T97 x17 x19).f5) = true then (if ((rd_T97 x17 x19).f4) = 0 then (some 123) else (net_edges.l1 k x5 x9 x10 x11 x17 x18 (w64 (x19 + 1)) x1_0 x1_1 x1_2 x1_3)) else (net_edges.l1 k x5 x9 x10 x11 x17 x18 (w64 (x19 + 1)) x1_0 x1_1 x1_2 x1_3)))))))) else (none)) else (none)) else (net_edges.l0 k x9 x10 (w64 (x11 + 1)) x1_0 x1_1 x1_2 x1_3)
end
def net_edges.f (k : Nat) (l0_0 : List ByteArray) (l0_1 : List S104) (l0_2 : List ByteArray) (l0_3 : List S94) : Option Int := net_edges.l0 k l0_3 (l0_3.length : Int) 0 l0_0 l0_1 l0_2 l0_3
def net_edges.ce (k : Nat) : CallE := ⟨[⟨true, T26⟩], [⟨false, [.v (.int .i64)]⟩], fun (x : S26) => net_edges.f k x.f0 x.f1 x.f2 x.f3⟩
def net_edges.F : Fam (RT.dens (net_edges.ce 0).rts) := ⟨fun k => ⟨TT0, GL0, callT [(181, [], net_edges_1.ce)], cmpT CM0, []⟩, [(3, ⟨⟨[(1, .k (.ptr 64 0)), (9, .v false (.list T94)), (10, .v false (.int .i64)), (11, .v false (.int .i64))], [(64, [.v (.list .str), .v (.list T104), .v (.list .str), .v (.list T94)])]⟩, fun k s => net_edges.l0 k s.1.1 s.1.2.1 s.1.2.2.1 s.2.1.1 s.2.1.2.1 s.2.1.2.2.1 s.2.1.2.2.2.1⟩), (7, ⟨⟨[(1, .k (.ptr 64 0)), (5, .v false (.fn 181 [(false, 1)] (.ref T94))), (9, .v false (.list T94)), (10, .v false (.int .i64)), (11, .v false (.int .i64)), (17, .v false (.list T97)), (18, .v false (.int .i64)), (19, .v false (.int .i64))], [(64, [.v (.list .str), .v (.list T104), .v (.list .str), .v (.list T94)])]⟩, fun k s => net_edges.l1 k s.1.1 s.1.2.1 s.1.2.2.1 s.1.2.2.2.1 s.1.2.2.2.2.1 s.1.2.2.2.2.2.1 s.1.2.2.2.2.2.2.1 s.2.1.1 s.2.1.2.1 s.2.1.2.2.1 s.2.1.2.2.2.1⟩)]⟩
theorem net_edges.is (k : Nat) (x : AT.dens (net_edges.ce 0).ats) : (net_edges.ce k).fn x = den net_edges.F k (bodyOf Tryz.f77) (startAS (net_edges.ce 0).ats x) (retK (net_edges.F.c k) Tryz.f77.results.toList (net_edges.ce 0).rts) := by kernel_rfl
theorem net_edges.ob : Obl net_edges.F (bodyOf Tryz.f77) (fun k => retK (net_edges.F.c k) Tryz.f77.results.toList (net_edges.ce 0).rts) := obl_of (by kernel_rfl)
/-! ### net_isClock: function 184 -/
def net_isClock.f (l0_0 : List ByteArray) (l0_1 : List S104) (l0_2 : List ByteArray) (l0_3 : List S94) (a1 : Int) : Option Bool := if a1 ≥ 1 then (some (decide (a1 ≤ (l0_0.length : Int)))) else (some false)
def net_isClock.ce : CallE := ⟨[⟨true, T26⟩, ⟨false, (.int .i64)⟩], [⟨false, [.v .bool]⟩], fun (x : S26 × Int) => net_isClock.f x.1.f0 x.1.f1 x.1.f2 x.1.f3 x.2⟩
def net_isClock.F : Fam (RT.dens (net_isClock.ce).rts) := ⟨fun k => ⟨TT0, GL0, callT [], cmpT CM0, []⟩, []⟩
theorem net_isClock.is (k : Nat) (x : AT.dens (net_isClock.ce).ats) : (net_isClock.ce).fn x = den net_isClock.F k (bodyOf Tryz.f184) (startAS (net_isClock.ce).ats x) (retK (net_isClock.F.c k) Tryz.f184.results.toList (net_isClock.ce).rts) := by kernel_rfl
theorem net_isClock.ob : Obl net_isClock.F (bodyOf Tryz.f184) (fun k => retK (net_isClock.F.c k) Tryz.f184.results.toList (net_isClock.ce).rts) := obl_of (by kernel_rfl)
/-! ### net_clocksOf: function 92 -/
def net_clocksOf.l0 : Nat → (List S38) → Int → Int → (List ByteArray) → (List S104) → (List ByteArray) → (List S94) → Option Int
 | 0, _, _, _, _, _, _, _ => none
 | k + 1, x7, x8, x9, x2_0, x2_1, x2_2, x2_3 => if x9 < x8 then (if 0 ≤ x9 then (if x9 < (x7.length : Int) then ((net_isClock.f x2_0 x2_1 x2_2 x2_3 ((rd_T38 x7 x9).f0)).bind fun t1 => (if (!t1) = true then (some 12) else (if ((rd_T38 x7 x9).f1) = 0 then (net_clocksOf.l0 k x7 x8 (w64 (x9 + 1)) x2_0 x2_1 x2_2 x2_3) else ((net_isClock.f x2_0 x2_1 x2_2 x2_3 ((rd_T38 x7 x9).f1)).bind fun t2 => (if (!t2) = true then (some 12) else (net_clocksOf.l0 k x7 x8 (w64 (x9 + 1)) x2_0 x2_1 x2_2 x2_3)))))) else (none)) else (none)) else (some 0)
def net_clocksOf.f (k : Nat) (l0_0 : List ByteArray) (l0_1 : List S104) (l0_2 : List ByteArray) (l0_3 : List S94) (a1 : List S38) : Option Int := net_clocksOf.l0 k a1 (a1.length : Int) 0 l0_0 l0_1 l0_2 l0_3
def net_clocksOf.ce (k : Nat) : CallE := ⟨[⟨true, T26⟩, ⟨false, (.list T38)⟩], [⟨false, [.v (.int .i64)]⟩], fun (x : S26 × (List S38)) => net_clocksOf.f k x.1.f0 x.1.f1 x.1.f2 x.1.f3 x.2⟩
def net_clocksOf.F : Fam (RT.dens (net_clocksOf.ce 0).rts) := ⟨fun k => ⟨TT0, GL0, callT [(184, [], net_isClock.ce)], cmpT CM0, []⟩, [(3, ⟨⟨[(2, .k (.ptr 128 0)), (7, .v false (.list T38)), (8, .v false (.int .i64)), (9, .v false (.int .i64))], [(128, [.v (.list .str), .v (.list T104), .v (.list .str), .v (.list T94)])]⟩, fun k s => net_clocksOf.l0 k s.1.1 s.1.2.1 s.1.2.2.1 s.2.1.1 s.2.1.2.1 s.2.1.2.2.1 s.2.1.2.2.2.1⟩)]⟩
theorem net_clocksOf.is (k : Nat) (x : AT.dens (net_clocksOf.ce 0).ats) : (net_clocksOf.ce k).fn x = den net_clocksOf.F k (bodyOf Tryz.f92) (startAS (net_clocksOf.ce 0).ats x) (retK (net_clocksOf.F.c k) Tryz.f92.results.toList (net_clocksOf.ce 0).rts) := by kernel_rfl
theorem net_clocksOf.ob : Obl net_clocksOf.F (bodyOf Tryz.f92) (fun k => retK (net_clocksOf.F.c k) Tryz.f92.results.toList (net_clocksOf.ce 0).rts) := obl_of (by kernel_rfl)
/-! ### net_guards: function 182 -/
mutual
def net_guards.l0 : Nat → (List S38) → (List S94) → Int → Int → Option (List S38)
 | 0, _, _, _, _ => none
 | k + 1, x3, x11, x12, x13 => if x13 < x12 then (if 0 ≤ x13 then (if x13 < (x11.length : Int) then (net_guards.l1 k x3 x11 x12 x13 ((rd_T94 x11 x13).f1) (((rd_T94 x11 x13).f1).length : Int) 0 ((rd_T94 x11 x13).f0) ((rd_T94 x11 x13).f1) ((rd_T94 x11 x13).f2)) else (none)) else (none)) else (some x3)
def net_guards.l1 : Nat → (List S38) → (List S94) → Int → Int → (List S102) → Int → Int → ByteArray → (List S102) → (List S97) → Option (List S38)
 | 0, _, _, _, _, _, _, _, _, _, _ => none
 | k + 1, x3, x11, x12, x13, x18, x19, x20, x5_0, x5_1, x5_2 => if x20 < x19 then (if 0 ≤ x20 then (if x20 < (x18.length : Int) then (if x3.length + ((rd_T102 x18 x20).f2).length ≤ 4398046511104 then (net_guards.l1 k (x3 ++ (rd_T102 x18 x20).f2) x11 x12 x13 x18 x19 (w64 (x20 + 1)) x5_0 x5_1 x5_2) else (none)) else (none)) else (none)) else (net_guards.l2 k x3 x11 x12 x13 x5_2 (x5_2.length : Int) 0)
def net_guards.l2 : Nat → (List S38) → (List S94) → Int → Int → (List S97) → Int → Int → Option (List S38)
 | 0, _, _, _, _, _, _, _ => none
 | k + 1, x3, x11, x12, x13, x30, x31, x32 => if x32 < x31 then (if 0 ≤ x32 then (if x32 < (x30.length : Int) then (if x3.length + ((rd_T97 x30 x32).f2).length ≤ 4398046511104 then (net_guards.l2 k (x3 ++ (rd_T97 x30 x32).f2) x11 x12 x13 x30 x31 (w64 (x32 + 1))) else (none)) else (none)) else (none)) else (net_guards.l0 k x3 x11 x12 (w64 (x13 + 1)))
end
def net_guards.f (k : Nat) (l0_0 : List ByteArray) (l0_1 : List S104) (l0_2 : List ByteArray) (l0_3 : List S94) : Option (List S38) := net_guards.l0 k ([] : List S38) l0_3 (l0_3.length : Int) 0
def net_guards.ce (k : Nat) : CallE := ⟨[⟨true, T26⟩], [⟨false, [.o 38 T38]⟩], fun (x : S26) => net_guards.f k x.f0 x.f1 x.f2 x.f3⟩
def net_guards.F : Fam (RT.dens (net_guards.ce 0).rts) := ⟨fun k => ⟨TT0, GL0, callT [], cmpT CM0, []⟩, [(4, ⟨⟨[(3, .o 38 T38), (11, .v false (.list T94)), (12, .v false (.int .i64)), (13, .v false (.int .i64))], []⟩, fun k s => net_guards.l0 k s.1.1 s.1.2.1 s.1.2.2.1 s.1.2.2.2.1⟩), (7, ⟨⟨[(3, .o 38 T38), (5, .k (.ptr 320 0)), (11, .v false (.list T94)), (12, .v false (.int .i64)), (13, .v false (.int .i64)), (18, .v false (.list T102)), (19, .v false (.int .i64)), (20, .v false (.int .i64))], [(320, [.v .str, .v (.list T102), .v (.list T97)])]⟩, fun k s => net_guards.l1 k s.1.1 s.1.2.1 s.1.2.2.1 s.1.2.2.2.1 s.1.2.2.2.2.1 s.1.2.2.2.2.2.1 s.1.2.2.2.2.2.2.1 s.2.1.1 s.2.1.2.1 s.2.1.2.2.1⟩), (12, ⟨⟨[(3, .o 38 T38), (11, .v false (.list T94)), (12, .v false (.int .i64)), (13, .v false (.int .i64)), (30, .v false (.list T97)), (31, .v false (.int .i64)), (32, .v false (.int .i64))], []⟩, fun k s => net_guards.l2 k s.1.1 s.1.2.1 s.1.2.2.1 s.1.2.2.2.1 s.1.2.2.2.2.1 s.1.2.2.2.2.2.1 s.1.2.2.2.2.2.2.1⟩)]⟩
theorem net_guards.is (k : Nat) (x : AT.dens (net_guards.ce 0).ats) : (net_guards.ce k).fn x = den net_guards.F k (bodyOf Tryz.f182) (startAS (net_guards.ce 0).ats x) (retK (net_guards.F.c k) Tryz.f182.results.toList (net_guards.ce 0).rts) := by kernel_rfl
theorem net_guards.ob : Obl net_guards.F (bodyOf Tryz.f182) (fun k => retK (net_guards.F.c k) Tryz.f182.results.toList (net_guards.ce 0).rts) := obl_of (by kernel_rfl)
/-! ### net_sets: function 183 -/
mutual
def net_sets.l0 : Nat → (List S99) → (List S94) → Int → Int → Option (List S99)
 | 0, _, _, _, _ => none
 | k + 1, x3, x9, x10, x11 => if x11 < x10 then (if 0 ≤ x11 then (if x11 < (x9.length : Int) then (net_sets.l1 k x3 x9 x10 x11 ((rd_T94 x9 x11).f2) (((rd_T94 x9 x11).f2).length : Int) 0) else (none)) else (none)) else (some x3)
def net_sets.l1 : Nat → (List S99) → (List S94) → Int → Int → (List S97) → Int → Int → Option (List S99)
 | 0, _, _, _, _, _, _, _ => none
 | k + 1, x3, x9, x10, x11, x16, x17, x18 => if x18 < x17 then (if 0 ≤ x18 then (if x18 < (x16.length : Int) then (if x3.length + ((rd_T97 x16 x18).f6).length ≤ 2932031007402 then (net_sets.l1 k (x3 ++ (rd_T97 x16 x18).f6) x9 x10 x11 x16 x17 (w64 (x18 + 1))) else (none)) else (none)) else (none)) else (net_sets.l0 k x3 x9 x10 (w64 (x11 + 1)))
end
def net_sets.f (k : Nat) (l0_0 : List ByteArray) (l0_1 : List S104) (l0_2 : List ByteArray) (l0_3 : List S94) : Option (List S99) := net_sets.l0 k ([] : List S99) l0_3 (l0_3.length : Int) 0
def net_sets.ce (k : Nat) : CallE := ⟨[⟨true, T26⟩], [⟨false, [.o 99 T99]⟩], fun (x : S26) => net_sets.f k x.f0 x.f1 x.f2 x.f3⟩
def net_sets.F : Fam (RT.dens (net_sets.ce 0).rts) := ⟨fun k => ⟨TT0, GL0, callT [], cmpT CM0, []⟩, [(4, ⟨⟨[(3, .o 99 T99), (9, .v false (.list T94)), (10, .v false (.int .i64)), (11, .v false (.int .i64))], []⟩, fun k s => net_sets.l0 k s.1.1 s.1.2.1 s.1.2.2.1 s.1.2.2.2.1⟩), (7, ⟨⟨[(3, .o 99 T99), (9, .v false (.list T94)), (10, .v false (.int .i64)), (11, .v false (.int .i64)), (16, .v false (.list T97)), (17, .v false (.int .i64)), (18, .v false (.int .i64))], []⟩, fun k s => net_sets.l1 k s.1.1 s.1.2.1 s.1.2.2.1 s.1.2.2.2.1 s.1.2.2.2.2.1 s.1.2.2.2.2.2.1 s.1.2.2.2.2.2.2.1⟩)]⟩
theorem net_sets.is (k : Nat) (x : AT.dens (net_sets.ce 0).ats) : (net_sets.ce k).fn x = den net_sets.F k (bodyOf Tryz.f183) (startAS (net_sets.ce 0).ats x) (retK (net_sets.F.c k) Tryz.f183.results.toList (net_sets.ce 0).rts) := by kernel_rfl
theorem net_sets.ob : Obl net_sets.F (bodyOf Tryz.f183) (fun k => retK (net_sets.F.c k) Tryz.f183.results.toList (net_sets.ce 0).rts) := obl_of (by kernel_rfl)
/-! ### net_clocks: function 78 -/
def net_clocks.l0 : Nat → (List S99) → Int → Int → (List ByteArray) → (List S104) → (List ByteArray) → (List S94) → Option Int
 | 0, _, _, _, _, _, _, _ => none
 | k + 1, x14, x15, x16, x1_0, x1_1, x1_2, x1_3 => if x16 < x15 then (if 0 ≤ x16 then (if x16 < (x14.length : Int) then (if ((rd_T99 x14 x16).f0) = 0 then (net_clocks.l0 k x14 x15 (w64 (x16 + 1)) x1_0 x1_1 x1_2 x1_3) else ((net_isClock.f x1_0 x1_1 x1_2 x1_3 ((rd_T99 x14 x16).f0)).bind fun t4 => (if (!t4) = true then (some 12) else (net_clocks.l0 k x14 x15 (w64 (x16 + 1)) x1_0 x1_1 x1_2 x1_3)))) else (none)) else (none)) else (some 0)
def net_clocks.f (k : Nat) (l0_0 : List ByteArray) (l0_1 : List S104) (l0_2 : List ByteArray) (l0_3 : List S94) : Option Int := (net_guards.f k l0_0 l0_1 l0_2 l0_3).bind fun t1 => ((net_clocksOf.f k l0_0 l0_1 l0_2 l0_3 t1).bind fun t2 => (if t2 = 0 then ((net_sets.f k l0_0 l0_1 l0_2 l0_3).bind fun t3 => (net_clocks.l0 k t3 (t3.length : Int) 0 l0_0 l0_1 l0_2 l0_3)) else (some t2)))
def net_clocks.ce (k : Nat) : CallE := ⟨[⟨true, T26⟩], [⟨false, [.v (.int .i64)]⟩], fun (x : S26) => net_clocks.f k x.f0 x.f1 x.f2 x.f3⟩
def net_clocks.F : Fam (RT.dens (net_clocks.ce 0).rts) := ⟨fun k => ⟨TT0, GL0, callT [(92, [], net_clocksOf.ce k), (182, [], net_guards.ce k), (183, [], net_sets.ce k), (184, [], net_isClock.ce)], cmpT CM0, []⟩, [(6, ⟨⟨[(1, .k (.ptr 64 0)), (14, .o 99 T99), (15, .v false (.int .i64)), (16, .v false (.int .i64))], [(64, [.v (.list .str), .v (.list T104), .v (.list .str), .v (.list T94)])]⟩, fun k s => net_clocks.l0 k s.1.1 s.1.2.1 s.1.2.2.1 s.2.1.1 s.2.1.2.1 s.2.1.2.2.1 s.2.1.2.2.2.1⟩)]⟩
theorem net_clocks.is (k : Nat) (x : AT.dens (net_clocks.ce 0).ats) : (net_clocks.ce k).fn x = den net_clocks.F k (bodyOf Tryz.f78) (startAS (net_clocks.ce 0).ats x) (retK (net_clocks.F.c k) Tryz.f78.results.toList (net_clocks.ce 0).rts) := by kernel_rfl
theorem net_clocks.ob : Obl net_clocks.F (bodyOf Tryz.f78) (fun k => retK (net_clocks.F.c k) Tryz.f78.results.toList (net_clocks.ce 0).rts) := obl_of (by kernel_rfl)
/-! ### net_cmps: function 94 -/
def net_cmps.l0 : Nat → (List S38) → Int → Int → Option Int
 | 0, _, _, _ => none
 | k + 1, x5, x6, x7 => if x7 < x6 then (if 0 ≤ x7 then (if x7 < (x5.length : Int) then (if ((rd_T38 x5 x7).f2) < 1 then (some 7) else (if ((rd_T38 x5 x7).f2) > 5 then (some 7) else (net_cmps.l0 k x5 x6 (w64 (x7 + 1))))) else (none)) else (none)) else (some 0)
def net_cmps.f (k : Nat) (a0 : List S38) : Option Int := net_cmps.l0 k a0 (a0.length : Int) 0
def net_cmps.ce (k : Nat) : CallE := ⟨[⟨false, (.list T38)⟩], [⟨false, [.v (.int .i64)]⟩], fun (x : (List S38)) => net_cmps.f k x⟩
def net_cmps.F : Fam (RT.dens (net_cmps.ce 0).rts) := ⟨fun k => ⟨TT0, GL0, callT [], cmpT CM0, []⟩, [(3, ⟨⟨[(5, .v false (.list T38)), (6, .v false (.int .i64)), (7, .v false (.int .i64))], []⟩, fun k s => net_cmps.l0 k s.1.1 s.1.2.1 s.1.2.2.1⟩)]⟩
theorem net_cmps.is (k : Nat) (x : AT.dens (net_cmps.ce 0).ats) : (net_cmps.ce k).fn x = den net_cmps.F k (bodyOf Tryz.f94) (startAS (net_cmps.ce 0).ats x) (retK (net_cmps.F.c k) Tryz.f94.results.toList (net_cmps.ce 0).rts) := by kernel_rfl
theorem net_cmps.ob : Obl net_cmps.F (bodyOf Tryz.f94) (fun k => retK (net_cmps.F.c k) Tryz.f94.results.toList (net_cmps.ce 0).rts) := obl_of (by kernel_rfl)
/-! ### net_forms: function 79 -/
def net_forms.l0 : Nat → (List S99) → Int → Int → Option Int
 | 0, _, _, _ => none
 | k + 1, x13, x14, x15 => if x15 < x14 then (if 0 ≤ x15 then (if x15 < (x13.length : Int) then (if ((rd_T99 x13 x15).f0) = 0 then (if ((rd_T99 x13 x15).f1) = 0 then (if ((rd_T99 x13 x15).f0) = 0 then (net_forms.l0 k x13 x14 (w64 (x15 + 1))) else (if ((rd_T99 x13 x15).f2) = 0 then (if (((rd_T99 x13 x15).f3).length : Int) > 0 then (some 7) else (net_forms.l0 k x13 x14 (w64 (x15 + 1)))) else (some 7))) else (some 7)) else (if ((rd_T99 x13 x15).f0) = 0 then (net_forms.l0 k x13 x14 (w64 (x15 + 1))) else (if ((rd_T99 x13 x15).f2) = 0 then (if (((rd_T99 x13 x15).f3).length : Int) > 0 then (some 7) else (net_forms.l0 k x13 x14 (w64 (x15 + 1)))) else (some 7)))) else (none)) else (none)) else (some 0)
def net_forms.f (k : Nat) (l0_0 : List ByteArray) (l0_1 : List S104) (l0_2 : List ByteArray) (l0_3 : List S94) : Option Int := (net_guards.f k l0_0 l0_1 l0_2 l0_3).bind fun t1 => ((net_cmps.f k t1).bind fun t2 => (if t2 = 0 then ((net_sets.f k l0_0 l0_1 l0_2 l0_3).bind fun t3 => (net_forms.l0 k t3 (t3.length : Int) 0)) else (some t2)))
def net_forms.ce (k : Nat) : CallE := ⟨[⟨true, T26⟩], [⟨false, [.v (.int .i64)]⟩], fun (x : S26) => net_forms.f k x.f0 x.f1 x.f2 x.f3⟩
def net_forms.F : Fam (RT.dens (net_forms.ce 0).rts) := ⟨fun k => ⟨TT0, GL0, callT [(94, [], net_cmps.ce k), (182, [], net_guards.ce k), (183, [], net_sets.ce k)], cmpT CM0, []⟩, [(6, ⟨⟨[(13, .o 99 T99), (14, .v false (.int .i64)), (15, .v false (.int .i64))], []⟩, fun k s => net_forms.l0 k s.1.1 s.1.2.1 s.1.2.2.1⟩)]⟩
theorem net_forms.is (k : Nat) (x : AT.dens (net_forms.ce 0).ats) : (net_forms.ce k).fn x = den net_forms.F k (bodyOf Tryz.f79) (startAS (net_forms.ce 0).ats x) (retK (net_forms.F.c k) Tryz.f79.results.toList (net_forms.ce 0).rts) := by kernel_rfl
theorem net_forms.ob : Obl net_forms.F (bodyOf Tryz.f79) (fun k => retK (net_forms.F.c k) Tryz.f79.results.toList (net_forms.ce 0).rts) := obl_of (by kernel_rfl)
/-! ### expr_of: function 210 -/
def expr_of.f (a0 : Int) : Option (Int × Bool × Bool × ByteArray × Int × Bool) := if a0 < 1 then (some (0, false, false, (⟨#[]⟩ : ByteArray), 0, false)) else (if a0 > 14 then (some (0, false, false, (⟨#[]⟩ : ByteArray), 0, false)) else (if 0 ≤ a0 then (if a0 < (expr_kinds.length : Int) then (some ((rd_T241 expr_kinds a0).f0, (rd_T241 expr_kinds a0).f1, (rd_T241 expr_kinds a0).f2, (rd_T241 expr_kinds a0).f3, (rd_T241 expr_kinds a0).f4, true)) else (none)) else (none)))
def expr_of.ce : CallE := ⟨[⟨false, (.int .u8)⟩], [⟨true, [.v (.int .i64), .v .bool, .v .bool, .v .str, .v (.int .i64)]⟩, ⟨false, [.v .bool]⟩], fun (x : Int) => expr_of.f x⟩
def expr_of.F : Fam (RT.dens (expr_of.ce).rts) := ⟨fun k => ⟨TT0, GL0, callT [], cmpT CM0, []⟩, []⟩
theorem expr_of.is (k : Nat) (x : AT.dens (expr_of.ce).ats) : (expr_of.ce).fn x = den expr_of.F k (bodyOf Tryz.f210) (startAS (expr_of.ce).ats x) (retK (expr_of.F.c k) Tryz.f210.results.toList (expr_of.ce).rts) := by kernel_rfl
theorem expr_of.ob : Obl expr_of.F (bodyOf Tryz.f210) (fun k => retK (expr_of.F.c k) Tryz.f210.results.toList (expr_of.ce).rts) := obl_of (by kernel_rfl)
/-! ### expr_End: function 209 -/
def expr_End.l0 : Nat → (List S148) → Int → Int → Option Int
 | 0, _, _, _ => none
 | k + 1, x0, x1, x5 => if x5 > 0 then (if x1 ≥ (x0.length : Int) then (some 0) else (if 0 ≤ x1 then (if x1 < (x0.length : Int) then ((expr_of.f ((rd_T148 x0 x1).f0)).bind fun t1 => (expr_End.l0 k x0 (w64 (x1 + 1)) (w64 ((w64 (x5 + t1.1)) - 1)))) else (none)) else (none))) else (some x1)
def expr_End.f (k : Nat) (a0 : List S148) (a1 : Int) : Option Int := if a1 < 0 then (some 0) else (expr_End.l0 k a0 a1 1)
def expr_End.ce (k : Nat) : CallE := ⟨[⟨false, (.list T148)⟩, ⟨false, (.int .i64)⟩], [⟨false, [.v (.int .i64)]⟩], fun (x : (List S148) × Int) => expr_End.f k x.1 x.2⟩
def expr_End.F : Fam (RT.dens (expr_End.ce 0).rts) := ⟨fun k => ⟨TT0, GL0, callT [(210, [], expr_of.ce)], cmpT CM0, []⟩, [(5, ⟨⟨[(0, .v false (.list T148)), (1, .v false (.int .i64)), (5, .v false (.int .i64))], []⟩, fun k s => expr_End.l0 k s.1.1 s.1.2.1 s.1.2.2.1⟩)]⟩
theorem expr_End.is (k : Nat) (x : AT.dens (expr_End.ce 0).ats) : (expr_End.ce k).fn x = den expr_End.F k (bodyOf Tryz.f209) (startAS (expr_End.ce 0).ats x) (retK (expr_End.F.c k) Tryz.f209.results.toList (expr_End.ce 0).rts) := by kernel_rfl
theorem expr_End.ob : Obl expr_End.F (bodyOf Tryz.f209) (fun k => retK (expr_End.F.c k) Tryz.f209.results.toList (expr_End.ce 0).rts) := obl_of (by kernel_rfl)
/-! ### expr_Right: function 185 -/
mutual
def expr_Right.j0 : Nat → (List S148) → Int → Option Int
 | 0, _, _ => none
 | k + 1, x0, x1 => expr_Right.l1 k x0 x1 x0 (x0.length : Int) 0
def expr_Right.l1 : Nat → (List S148) → Int → (List S148) → Int → Int → Option Int
 | 0, _, _, _, _, _ => none
 | k + 1, x0, x1, x28, x29, x30 => if x30 < x29 then (if 0 ≤ x30 then (if x30 < (x28.length : Int) then ((expr_of.f ((rd_T148 x28 x30).f0)).bind fun t2 => (if ((rd_T148 x28 x30).f0) = 1 then (expr_Right.j2 k x0 x1 x30 t2.2.2.2.2.2 1048576 x28 x29 x30 ((rd_T148 x28 x30).f0) ((rd_T148 x28 x30).f1) t2.1 t2.2.1 t2.2.2.1 t2.2.2.2.1 t2.2.2.2.2.1) else (if ((rd_T148 x28 x30).f0) = 2 then (expr_Right.j2 k x0 x1 x30 t2.2.2.2.2.2 (w64 ((if 0 > x1 then 0 else x1) - 1)) x28 x29 x30 ((rd_T148 x28 x30).f0) ((rd_T148 x28 x30).f1) t2.1 t2.2.1 t2.2.2.1 t2.2.2.2.1 t2.2.2.2.2.1) else (expr_Right.j2 k x0 x1 x30 t2.2.2.2.2.2 0 x28 x29 x30 ((rd_T148 x28 x30).f0) ((rd_T148 x28 x30).f1) t2.1 t2.2.1 t2.2.2.1 t2.2.2.2.1 t2.2.2.2.2.1)))) else (none)) else (none)) else (some 0)
def expr_Right.j2 : Nat → (List S148) → Int → Int → Bool → Int → (List S148) → Int → Int → Int → Int → Int → Bool → Bool → ByteArray → Int → Option Int
 | 0, _, _, _, _, _, _, _, _, _, _, _, _, _, _, _ => none
 | k + 1, x0, x1, x5, x8, x9, x28, x29, x30, x6_0, x6_1, x7_0, x7_1, x7_2, x7_3, x7_4 => if (!x8) = true then (some 121) else (if x6_1 < 0 then (some 121) else (if x6_1 > x9 then (some 121) else (expr_Right.j3 k x0 x1 x5 x28 x29 x30 x7_0 x7_1 x7_2 x7_3 x7_4)))
def expr_Right.j3 : Nat → (List S148) → Int → Int → (List S148) → Int → Int → Int → Bool → Bool → ByteArray → Int → Option Int
 | 0, _, _, _, _, _, _, _, _, _, _, _ => none
 | k + 1, x0, x1, x5, x28, x29, x30, x7_0, x7_1, x7_2, x7_3, x7_4 => expr_Right.l4 k x0 x1 (w64 (x5 + 1)) x28 x29 x30 x7_0 0 x7_0 x7_1 x7_2 x7_3 x7_4
def expr_Right.l4 : Nat → (List S148) → Int → Int → (List S148) → Int → Int → Int → Int → Int → Bool → Bool → ByteArray → Int → Option Int
 | 0, _, _, _, _, _, _, _, _, _, _, _, _, _ => none
 | k + 1, x0, x1, x10, x28, x29, x30, x66, x67, x7_0, x7_1, x7_2, x7_3, x7_4 => if x67 < x66 then (if 0 ≤ x10 then (if x10 < (x0.length : Int) then ((expr_of.f ((rd_T148 x0 x10).f0)).bind fun t3 => (if t3.2.1 = x7_2 then ((expr_End.f k x0 x10).bind fun t4 => (expr_Right.l4 k x0 x1 t4 x28 x29 x30 x66 (w64 (x67 + 1)) x7_0 x7_1 x7_2 x7_3 x7_4)) else (some 121))) else (none)) else (none)) else (expr_Right.l1 k x0 x1 x28 x29 (w64 (x30 + 1)))
end
def expr_Right.f (k : Nat) (a0 : List S148) (a1 : Int) : Option Int := if (a0.length : Int) = 0 then (some 121) else (if (a0.length : Int) > 64 then (some 121) else ((expr_End.f k a0 0).bind fun t1 => (if t1 = (a0.length : Int) then (expr_Right.j0 k a0 a1) else (some 121))))
def expr_Right.ce (k : Nat) : CallE := ⟨[⟨false, (.list T148)⟩, ⟨false, (.int .i64)⟩], [⟨false, [.v (.int .i64)]⟩], fun (x : (List S148) × Int) => expr_Right.f k x.1 x.2⟩
def expr_Right.F : Fam (RT.dens (expr_Right.ce 0).rts) := ⟨fun k => ⟨TT0, GL0, callT [(209, [], expr_End.ce k), (210, [], expr_of.ce)], cmpT CM0, []⟩, [(1000004, ⟨⟨[(0, .v false (.list T148)), (1, .v false (.int .i64))], []⟩, fun k s => expr_Right.j0 k s.1.1 s.1.2.1⟩), (5, ⟨⟨[(0, .v false (.list T148)), (1, .v false (.int .i64)), (28, .v false (.list T148)), (29, .v false (.int .i64)), (30, .v false (.int .i64))], []⟩, fun k s => expr_Right.l1 k s.1.1 s.1.2.1 s.1.2.2.1 s.1.2.2.2.1 s.1.2.2.2.2.1⟩), (1000014, ⟨⟨[(0, .v false (.list T148)), (1, .v false (.int .i64)), (5, .v false (.int .i64)), (6, .k (.ptr 384 0)), (7, .k (.ptr 448 0)), (8, .v false .bool), (9, .v false (.int .i64)), (28, .v false (.list T148)), (29, .v false (.int .i64)), (30, .v false (.int .i64))], [(384, [.v (.int .u8), .v (.int .i64)]), (448, [.v (.int .i64), .v .bool, .v .bool, .v .str, .v (.int .i64)])]⟩, fun k s => expr_Right.j2 k s.1.1 s.1.2.1 s.1.2.2.1 s.1.2.2.2.1 s.1.2.2.2.2.1 s.1.2.2.2.2.2.1 s.1.2.2.2.2.2.2.1 s.1.2.2.2.2.2.2.2.1 s.2.1.1 s.2.1.2.1 s.2.2.1.1 s.2.2.1.2.1 s.2.2.1.2.2.1 s.2.2.1.2.2.2.1 s.2.2.1.2.2.2.2.1⟩), (1000016, ⟨⟨[(0, .v false (.list T148)), (1, .v false (.int .i64)), (5, .v false (.int .i64)), (7, .k (.ptr 448 0)), (28, .v false (.list T148)), (29, .v false (.int .i64)), (30, .v false (.int .i64))], [(448, [.v (.int .i64), .v .bool, .v .bool, .v .str, .v (.int .i64)])]⟩, fun k s => expr_Right.j3 k s.1.1 s.1.2.1 s.1.2.2.1 s.1.2.2.2.1 s.1.2.2.2.2.1 s.1.2.2.2.2.2.1 s.2.1.1 s.2.1.2.1 s.2.1.2.2.1 s.2.1.2.2.2.1 s.2.1.2.2.2.2.1⟩), (18, ⟨⟨[(0, .v false (.list T148)), (1, .v false (.int .i64)), (7, .k (.ptr 448 0)), (10, .v false (.int .i64)), (28, .v false (.list T148)), (29, .v false (.int .i64)), (30, .v false (.int .i64)), (66, .v false (.int .i64)), (67, .v false (.int .i64))], [(448, [.v (.int .i64), .v .bool, .v .bool, .v .str, .v (.int .i64)])]⟩, fun k s => expr_Right.l4 k s.1.1 s.1.2.1 s.1.2.2.1 s.1.2.2.2.1 s.1.2.2.2.2.1 s.1.2.2.2.2.2.1 s.1.2.2.2.2.2.2.1 s.1.2.2.2.2.2.2.2.1 s.2.1.1 s.2.1.2.1 s.2.1.2.2.1 s.2.1.2.2.2.1 s.2.1.2.2.2.2.1⟩)]⟩
theorem expr_Right.is (k : Nat) (x : AT.dens (expr_Right.ce 0).ats) : (expr_Right.ce k).fn x = den expr_Right.F k (bodyOf Tryz.f185) (startAS (expr_Right.ce 0).ats x) (retK (expr_Right.F.c k) Tryz.f185.results.toList (expr_Right.ce 0).rts) := by kernel_rfl
theorem expr_Right.ob : Obl expr_Right.F (bodyOf Tryz.f185) (fun k => retK (expr_Right.F.c k) Tryz.f185.results.toList (expr_Right.ce 0).rts) := obl_of (by kernel_rfl)
/-! ### expr_IsTruth: function 186 -/
def expr_IsTruth.f (a0 : List S148) : Option Bool := if (a0.length : Int) = 0 then (some false) else (if 0 ≤ 0 then (if 0 < (a0.length : Int) then ((expr_of.f ((rd_T148 a0 0).f0)).bind fun t1 => (some t1.2.1)) else (none)) else (none))
def expr_IsTruth.ce : CallE := ⟨[⟨false, (.list T148)⟩], [⟨false, [.v .bool]⟩], fun (x : (List S148)) => expr_IsTruth.f x⟩
def expr_IsTruth.F : Fam (RT.dens (expr_IsTruth.ce).rts) := ⟨fun k => ⟨TT0, GL0, callT [(210, [], expr_of.ce)], cmpT CM0, []⟩, []⟩
theorem expr_IsTruth.is (k : Nat) (x : AT.dens (expr_IsTruth.ce).ats) : (expr_IsTruth.ce).fn x = den expr_IsTruth.F k (bodyOf Tryz.f186) (startAS (expr_IsTruth.ce).ats x) (retK (expr_IsTruth.F.c k) Tryz.f186.results.toList (expr_IsTruth.ce).rts) := by kernel_rfl
theorem expr_IsTruth.ob : Obl expr_IsTruth.F (bodyOf Tryz.f186) (fun k => retK (expr_IsTruth.F.c k) Tryz.f186.results.toList (expr_IsTruth.ce).rts) := obl_of (by kernel_rfl)
/-! ### net_truth: function 96 -/
def net_truth.f (k : Nat) (l0_0 : List ByteArray) (l0_1 : List S104) (l0_2 : List ByteArray) (l0_3 : List S94) (a1 : List S148) : Option Int := if (a1.length : Int) > 0 then ((expr_Right.f k a1 (l0_1.length : Int)).bind fun t1 => (if t1 = 0 then ((expr_IsTruth.f a1).bind fun t2 => (if (!t2) = true then (some 121) else (some 0))) else (some 121))) else (some 0)
def net_truth.ce (k : Nat) : CallE := ⟨[⟨true, T26⟩, ⟨false, (.list T148)⟩], [⟨false, [.v (.int .i64)]⟩], fun (x : S26 × (List S148)) => net_truth.f k x.1.f0 x.1.f1 x.1.f2 x.1.f3 x.2⟩
def net_truth.F : Fam (RT.dens (net_truth.ce 0).rts) := ⟨fun k => ⟨TT0, GL0, callT [(185, [], expr_Right.ce k), (186, [], expr_IsTruth.ce)], cmpT CM0, []⟩, []⟩
theorem net_truth.is (k : Nat) (x : AT.dens (net_truth.ce 0).ats) : (net_truth.ce k).fn x = den net_truth.F k (bodyOf Tryz.f96) (startAS (net_truth.ce 0).ats x) (retK (net_truth.F.c k) Tryz.f96.results.toList (net_truth.ce 0).rts) := by kernel_rfl
theorem net_truth.ob : Obl net_truth.F (bodyOf Tryz.f96) (fun k => retK (net_truth.F.c k) Tryz.f96.results.toList (net_truth.ce 0).rts) := obl_of (by kernel_rfl)
/-! ### net_tests: function 80 -/
mutual
def net_tests.l0 : Nat → (List S94) → Int → Int → (List ByteArray) → (List S104) → (List ByteArray) → (List S94) → Option Int
 | 0, _, _, _, _, _, _, _ => none
 | k + 1, x11, x12, x13, x1_0, x1_1, x1_2, x1_3 => if x13 < x12 then (if 0 ≤ x13 then (if x13 < (x11.length : Int) then (net_tests.l1 k x11 x12 x13 ((rd_T94 x11 x13).f2) (((rd_T94 x11 x13).f2).length : Int) 0 x1_0 x1_1 x1_2 x1_3) else (none)) else (none)) else ((net_sets.f k x1_0 x1_1 x1_2 x1_3).bind fun t2 => (net_tests.l2 k t2 (t2.length : Int) 0 x1_0 x1_1 x1_2 x1_3))
def net_tests.l1 : Nat → (List S94) → Int → Int → (List S97) → Int → Int → (List ByteArray) → (List S104) → (List ByteArray) → (List S94) → Option Int
 | 0, _, _, _, _, _, _, _, _, _, _ => none
 | k + 1, x11, x12, x13, x18, x19, x20, x1_0, x1_1, x1_2, x1_3 => if x20 < x19 then (if 0 ≤ x20 then (if x20 < (x18.length : Int) then ((net_truth.f k x1_0 x1_1 x1_2 x1_3 ((rd_T97 x18 x20).f3)).bind fun t1 => (if t1 = 0 then (net_tests.l1 k x11 x12 x13 x18 x19 (w64 (x20 + 1)) x1_0 x1_1 x1_2 x1_3) else (some t1))) else (none)) else (none)) else (net_tests.l0 k x11 x12 (w64 (x13 + 1)) x1_0 x1_1 x1_2 x1_3)
def net_tests.l2 : Nat → (List S99) → Int → Int → (List ByteArray) → (List S104) → (List ByteArray) → (List S94) → Option Int
 | 0, _, _, _, _, _, _, _ => none
 | k + 1, x34, x35, x36, x1_0, x1_1, x1_2, x1_3 => if x36 < x35 then (if 0 ≤ x36 then (if x36 < (x34.length : Int) then (if ((rd_T99 x34 x36).f0) = 0 then (if ((rd_T99 x34 x36).f2) < 0 then (some 121) else (if ((rd_T99 x34 x36).f2) ≥ (x1_1.length : Int) then (some 121) else ((expr_Right.f k ((rd_T99 x34 x36).f3) (x1_1.length : Int)).bind fun t3 => (if t3 = 0 then ((expr_IsTruth.f ((rd_T99 x34 x36).f3)).bind fun t4 => (if t4 = true then (some 121) else (net_tests.l2 k x34 x35 (w64 (x36 + 1)) x1_0 x1_1 x1_2 x1_3))) else (some 121))))) else (net_tests.l2 k x34 x35 (w64 (x36 + 1)) x1_0 x1_1 x1_2 x1_3)) else (none)) else (none)) else (some 0)
end
def net_tests.f (k : Nat) (l0_0 : List ByteArray) (l0_1 : List S104) (l0_2 : List ByteArray) (l0_3 : List S94) : Option Int := net_tests.l0 k l0_3 (l0_3.length : Int) 0 l0_0 l0_1 l0_2 l0_3
def net_tests.ce (k : Nat) : CallE := ⟨[⟨true, T26⟩], [⟨false, [.v (.int .i64)]⟩], fun (x : S26) => net_tests.f k x.f0 x.f1 x.f2 x.f3⟩
def net_tests.F : Fam (RT.dens (net_tests.ce 0).rts) := ⟨fun k => ⟨TT0, GL0, callT [(96, [], net_truth.ce k), (183, [], net_sets.ce k), (185, [], expr_Right.ce k), (186, [], expr_IsTruth.ce)], cmpT CM0, []⟩, [(3, ⟨⟨[(1, .k (.ptr 64 0)), (11, .v false (.list T94)), (12, .v false (.int .i64)), (13, .v false (.int .i64))], [(64, [.v (.list .str), .v (.list T104), .v (.list .str), .v (.list T94)])]⟩, fun k s => net_tests.l0 k s.1.1 s.1.2.1 s.1.2.2.1 s.2.1.1 s.2.1.2.1 s.2.1.2.2.1 s.2.1.2.2.2.1⟩), (6, ⟨⟨[(1, .k (.ptr 64 0)), (11, .v false (.list T94)), (12, .v false (.int .i64)), (13, .v false (.int .i64)), (18, .v false (.list T97)), (19, .v false (.int .i64)), (20, .v false (.int .i64))], [(64, [.v (.list .str), .v (.list T104), .v (.list .str), .v (.list T94)])]⟩, fun k s => net_tests.l1 k s.1.1 s.1.2.1 s.1.2.2.1 s.1.2.2.2.1 s.1.2.2.2.2.1 s.1.2.2.2.2.2.1 s.2.1.1 s.2.1.2.1 s.2.1.2.2.1 s.2.1.2.2.2.1⟩), (14, ⟨⟨[(1, .k (.ptr 64 0)), (34, .o 99 T99), (35, .v false (.int .i64)), (36, .v false (.int .i64))], [(64, [.v (.list .str), .v (.list T104), .v (.list .str), .v (.list T94)])]⟩, fun k s => net_tests.l2 k s.1.1 s.1.2.1 s.1.2.2.1 s.2.1.1 s.2.1.2.1 s.2.1.2.2.1 s.2.1.2.2.2.1⟩)]⟩
theorem net_tests.is (k : Nat) (x : AT.dens (net_tests.ce 0).ats) : (net_tests.ce k).fn x = den net_tests.F k (bodyOf Tryz.f80) (startAS (net_tests.ce 0).ats x) (retK (net_tests.F.c k) Tryz.f80.results.toList (net_tests.ce 0).rts) := by kernel_rfl
theorem net_tests.ob : Obl net_tests.F (bodyOf Tryz.f80) (fun k => retK (net_tests.F.c k) Tryz.f80.results.toList (net_tests.ce 0).rts) := obl_of (by kernel_rfl)
/-! ### net_Whole: function 32 -/
def net_Whole.l0 : Nat → (List DA0) → Int → Int → (List ByteArray) → (List S104) → (List ByteArray) → (List S94) → Option Int
 | 0, _, _, _, _, _, _, _ => none
 | k + 1, x8, x9, x10, x1_0, x1_1, x1_2, x1_3 => if x10 < x9 then (if 0 ≤ x10 then (if x10 < (x8.length : Int) then ((Sum.elim (fun (_ : Bool) => net_some.f k x1_0 x1_1 x1_2 x1_3) (Sum.elim (fun (_ : Bool) => net_sizes.f k x1_0 x1_1 x1_2 x1_3) (Sum.elim (fun (_ : Bool) => net_names.f k x1_0 x1_1 x1_2 x1_3) (Sum.elim (fun (_ : Bool) => net_vars.f k x1_0 x1_1 x1_2 x1_3) (Sum.elim (fun (_ : Bool) => net_locs.f k x1_0 x1_1 x1_2 x1_3) (Sum.elim (fun (_ : Bool) => net_edges.f k x1_0 x1_1 x1_2 x1_3) (Sum.elim (fun (_ : Bool) => net_clocks.f k x1_0 x1_1 x1_2 x1_3) (Sum.elim (fun (_ : Bool) => net_forms.f k x1_0 x1_1 x1_2 x1_3) (Sum.elim (fun (_ : Bool) => net_tests.f k x1_0 x1_1 x1_2 x1_3) (fun _ => none))))))))) (rdT A0 x8 x10)).bind fun t1 => (if t1 = 0 then (net_Whole.l0 k x8 x9 (w64 (x10 + 1)) x1_0 x1_1 x1_2 x1_3) else (some t1))) else (none)) else (none)) else (some 0)
def net_Whole.f (k : Nat) (l0_0 : List ByteArray) (l0_1 : List S104) (l0_2 : List ByteArray) (l0_3 : List S94) : Option Int := net_Whole.l0 k ([(Sum.inl false), (Sum.inr (Sum.inl false)), (Sum.inr (Sum.inr (Sum.inl false))), (Sum.inr (Sum.inr (Sum.inr (Sum.inl false)))), (Sum.inr (Sum.inr (Sum.inr (Sum.inr (Sum.inl false))))), (Sum.inr (Sum.inr (Sum.inr (Sum.inr (Sum.inr (Sum.inl false)))))), (Sum.inr (Sum.inr (Sum.inr (Sum.inr (Sum.inr (Sum.inr (Sum.inl false))))))), (Sum.inr (Sum.inr (Sum.inr (Sum.inr (Sum.inr (Sum.inr (Sum.inr (Sum.inl false)))))))), (Sum.inr (Sum.inr (Sum.inr (Sum.inr (Sum.inr (Sum.inr (Sum.inr (Sum.inr (Sum.inl false)))))))))] : List DA0) (([(Sum.inl false), (Sum.inr (Sum.inl false)), (Sum.inr (Sum.inr (Sum.inl false))), (Sum.inr (Sum.inr (Sum.inr (Sum.inl false)))), (Sum.inr (Sum.inr (Sum.inr (Sum.inr (Sum.inl false))))), (Sum.inr (Sum.inr (Sum.inr (Sum.inr (Sum.inr (Sum.inl false)))))), (Sum.inr (Sum.inr (Sum.inr (Sum.inr (Sum.inr (Sum.inr (Sum.inl false))))))), (Sum.inr (Sum.inr (Sum.inr (Sum.inr (Sum.inr (Sum.inr (Sum.inr (Sum.inl false)))))))), (Sum.inr (Sum.inr (Sum.inr (Sum.inr (Sum.inr (Sum.inr (Sum.inr (Sum.inr (Sum.inl false)))))))))] : List DA0).length : Int) 0 l0_0 l0_1 l0_2 l0_3
def net_Whole.ce (k : Nat) : CallE := ⟨[⟨true, T26⟩], [⟨false, [.v (.int .i64)]⟩], fun (x : S26) => net_Whole.f k x.f0 x.f1 x.f2 x.f3⟩
def net_Whole.F : Fam (RT.dens (net_Whole.ce 0).rts) := ⟨fun k => ⟨TT0, GL0, callT [(72, [], net_some.ce k), (73, [], net_sizes.ce k), (74, [], net_names.ce k), (75, [], net_vars.ce k), (76, [], net_locs.ce k), (77, [], net_edges.ce k), (78, [], net_clocks.ce k), (79, [], net_forms.ce k), (80, [], net_tests.ce k)], cmpT CM0, []⟩, [(4, ⟨⟨[(1, .k (.ptr 64 0)), (8, .o 54 A0), (9, .v false (.int .i64)), (10, .v false (.int .i64))], [(64, [.v (.list .str), .v (.list T104), .v (.list .str), .v (.list T94)])]⟩, fun k s => net_Whole.l0 k s.1.1 s.1.2.1 s.1.2.2.1 s.2.1.1 s.2.1.2.1 s.2.1.2.2.1 s.2.1.2.2.2.1⟩)]⟩
theorem net_Whole.is (k : Nat) (x : AT.dens (net_Whole.ce 0).ats) : (net_Whole.ce k).fn x = den net_Whole.F k (bodyOf Tryz.f32) (startAS (net_Whole.ce 0).ats x) (retK (net_Whole.F.c k) Tryz.f32.results.toList (net_Whole.ce 0).rts) := by kernel_rfl
theorem net_Whole.ob : Obl net_Whole.F (bodyOf Tryz.f32) (fun k => retK (net_Whole.F.c k) Tryz.f32.results.toList (net_Whole.ce 0).rts) := obl_of (by kernel_rfl)
/-! ### net_Right: function 34 -/
def net_Right.f (k : Nat) (l0_0 : List ByteArray) (l0_1 : List S104) (l0_2 : List ByteArray) (l0_3 : List S94) : Option Bool := (net_Whole.f k l0_0 l0_1 l0_2 l0_3).bind fun t1 => (some (decide (t1 = 0)))
def net_Right.ce (k : Nat) : CallE := ⟨[⟨true, T26⟩], [⟨false, [.v .bool]⟩], fun (x : S26) => net_Right.f k x.f0 x.f1 x.f2 x.f3⟩
def net_Right.F : Fam (RT.dens (net_Right.ce 0).rts) := ⟨fun k => ⟨TT0, GL0, callT [(32, [], net_Whole.ce k)], cmpT CM0, []⟩, []⟩
theorem net_Right.is (k : Nat) (x : AT.dens (net_Right.ce 0).ats) : (net_Right.ce k).fn x = den net_Right.F k (bodyOf Tryz.f34) (startAS (net_Right.ce 0).ats x) (retK (net_Right.F.c k) Tryz.f34.results.toList (net_Right.ce 0).rts) := by kernel_rfl
theorem net_Right.ob : Obl net_Right.F (bodyOf Tryz.f34) (fun k => retK (net_Right.F.c k) Tryz.f34.results.toList (net_Right.ce 0).rts) := obl_of (by kernel_rfl)
/-! ### state_First: function 10 -/
def state_First.l0 : Nat → (List S104) → Int → Int → (List Int) → (List Int) → (List Int) → (List Int) → Option ((List Int) × (List Int) × Int)
 | 0, _, _, _, _, _, _, _ => none
 | k + 1, x17, x18, x19, x2_0, x2_1, x4_0, x4_1 => if x19 < x18 then (if 0 ≤ x19 then (if x19 < (x17.length : Int) then (if x4_1.length < 17592186044416 then (state_First.l0 k x17 x18 (w64 (x19 + 1)) x2_0 x2_1 x4_0 (x4_1 ++ [(rd_T104 x17 x19).f3])) else (none)) else (none)) else (none)) else (some (x4_0, x4_1, 0))
def state_First.f (k : Nat) (l0_0 : List ByteArray) (l0_1 : List S104) (l0_2 : List ByteArray) (l0_3 : List S94) : Option ((List Int) × (List Int) × Int) := (net_Right.f k l0_0 l0_1 l0_2 l0_3).bind fun t1 => (if (!t1) = true then (some (([] : List Int), ([] : List Int), 7)) else (if 0 ≤ (l0_3.length : Int) then (if (l0_3.length : Int) ≤ 17592186044416 then (state_First.l0 k l0_1 (l0_1.length : Int) 0 ([] : List Int) ([] : List Int) (List.replicate (Int.toNat ((l0_3.length : Int))) 0) ([] : List Int)) else (none)) else (none)))
def state_First.ce (k : Nat) : CallE := ⟨[⟨true, T26⟩], [⟨true, [.o 3 (.int .i64), .o 3 (.int .i64)]⟩, ⟨false, [.v (.int .i64)]⟩], fun (x : S26) => state_First.f k x.f0 x.f1 x.f2 x.f3⟩
def state_First.F : Fam (RT.dens (state_First.ce 0).rts) := ⟨fun k => ⟨TT0, GL0, callT [(34, [], net_Right.ce k)], cmpT CM0, []⟩, [(6, ⟨⟨[(2, .k (.ptr 128 0)), (4, .k (.ptr 256 0)), (17, .v false (.list T104)), (18, .v false (.int .i64)), (19, .v false (.int .i64))], [(128, [.o 3 (.int .i64), .o 3 (.int .i64)]), (256, [.o 3 (.int .i64), .o 3 (.int .i64)])]⟩, fun k s => state_First.l0 k s.1.1 s.1.2.1 s.1.2.2.1 s.2.1.1 s.2.1.2.1 s.2.2.1.1 s.2.2.1.2.1⟩)]⟩
theorem state_First.is (k : Nat) (x : AT.dens (state_First.ce 0).ats) : (state_First.ce k).fn x = den state_First.F k (bodyOf Tryz.f10) (startAS (state_First.ce 0).ats x) (retK (state_First.F.c k) Tryz.f10.results.toList (state_First.ce 0).rts) := by kernel_rfl
theorem state_First.ob : Obl state_First.F (bodyOf Tryz.f10) (fun k => retK (state_First.F.c k) Tryz.f10.results.toList (state_First.ce 0).rts) := obl_of (by kernel_rfl)
/-! ### state_is_1: function 163 -/
def state_is_1.f (l0_0 : ByteArray) (l0_1 : List S102) (l0_2 : List S97) (a1 : Int) : Option Bool := if a1 ≥ 0 then (some (decide (a1 < (l0_1.length : Int)))) else (some false)
def state_is_1.ce : CallE := ⟨[⟨true, T94⟩, ⟨false, (.int .i64)⟩], [⟨false, [.v .bool]⟩], fun (x : S94 × Int) => state_is_1.f x.1.f0 x.1.f1 x.1.f2 x.2⟩
def state_is_1.F : Fam (RT.dens (state_is_1.ce).rts) := ⟨fun k => ⟨TT0, GL0, callT [], cmpT CM0, []⟩, []⟩
theorem state_is_1.is (k : Nat) (x : AT.dens (state_is_1.ce).ats) : (state_is_1.ce).fn x = den state_is_1.F k (bodyOf Tryz.f163) (startAS (state_is_1.ce).ats x) (retK (state_is_1.F.c k) Tryz.f163.results.toList (state_is_1.ce).rts) := by kernel_rfl
theorem state_is_1.ob : Obl state_is_1.F (bodyOf Tryz.f163) (fun k => retK (state_is_1.F.c k) Tryz.f163.results.toList (state_is_1.ce).rts) := obl_of (by kernel_rfl)
/-! ### state_is_2: function 164 -/
def state_is_2.f (l0_0 : ByteArray) (l0_1 : Int) (l0_2 : Int) (l0_3 : Int) (a1 : Int) : Option Bool := if a1 ≥ l0_1 then (some (decide (a1 ≤ l0_2))) else (some false)
def state_is_2.ce : CallE := ⟨[⟨true, T104⟩, ⟨false, (.int .i64)⟩], [⟨false, [.v .bool]⟩], fun (x : S104 × Int) => state_is_2.f x.1.f0 x.1.f1 x.1.f2 x.1.f3 x.2⟩
def state_is_2.F : Fam (RT.dens (state_is_2.ce).rts) := ⟨fun k => ⟨TT0, GL0, callT [], cmpT CM0, []⟩, []⟩
theorem state_is_2.is (k : Nat) (x : AT.dens (state_is_2.ce).ats) : (state_is_2.ce).fn x = den state_is_2.F k (bodyOf Tryz.f164) (startAS (state_is_2.ce).ats x) (retK (state_is_2.F.c k) Tryz.f164.results.toList (state_is_2.ce).rts) := by kernel_rfl
theorem state_is_2.ob : Obl state_is_2.F (bodyOf Tryz.f164) (fun k => retK (state_is_2.F.c k) Tryz.f164.results.toList (state_is_2.ce).rts) := obl_of (by kernel_rfl)
/-! ### state_beside_api_Auto_int_at163: function 64 -/
def state_beside_api_Auto_int_at163.l0 : Nat → (List Int) → Bool → (List S94) → Int → Int → Option Bool
 | 0, _, _, _, _, _ => none
 | k + 1, x1, x2, x14, x15, x16 => if x16 < x15 then (if 0 ≤ x16 then (if x16 < (x14.length : Int) then (if 0 ≤ x16 then (if x16 < (x1.length : Int) then ((state_is_1.f ((rd_T94 x14 x16).f0) ((rd_T94 x14 x16).f1) ((rd_T94 x14 x16).f2) (rd x1 x16)).bind fun t1 => (if (!t1) = true then (some false) else (state_beside_api_Auto_int_at163.l0 k x1 x2 x14 x15 (w64 (x16 + 1))))) else (none)) else (none)) else (none)) else (none)) else (some true)
def state_beside_api_Auto_int_at163.f (k : Nat) (a0 : List S94) (a1 : List Int) (a2 : Bool) : Option Bool := if (a0.length : Int) = (a1.length : Int) then (state_beside_api_Auto_int_at163.l0 k a1 a2 a0 (a0.length : Int) 0) else (some false)
def state_beside_api_Auto_int_at163.ce (k : Nat) : CallE := ⟨[⟨false, (.list T94)⟩, ⟨false, (.list (.int .i64))⟩, ⟨false, (.fn 163 [] .bool)⟩], [⟨false, [.v .bool]⟩], fun (x : (List S94) × (List Int) × Bool) => state_beside_api_Auto_int_at163.f k x.1 x.2.1 x.2.2⟩
def state_beside_api_Auto_int_at163.F : Fam (RT.dens (state_beside_api_Auto_int_at163.ce 0).rts) := ⟨fun k => ⟨TT0, GL0, callT [(163, [], state_is_1.ce)], cmpT CM0, []⟩, [(5, ⟨⟨[(1, .v false (.list (.int .i64))), (2, .v false (.fn 163 [] .bool)), (14, .v false (.list T94)), (15, .v false (.int .i64)), (16, .v false (.int .i64))], []⟩, fun k s => state_beside_api_Auto_int_at163.l0 k s.1.1 s.1.2.1 s.1.2.2.1 s.1.2.2.2.1 s.1.2.2.2.2.1⟩)]⟩
theorem state_beside_api_Auto_int_at163.is (k : Nat) (x : AT.dens (state_beside_api_Auto_int_at163.ce 0).ats) : (state_beside_api_Auto_int_at163.ce k).fn x = den state_beside_api_Auto_int_at163.F k (bodyOf Tryz.f64) (startAS (state_beside_api_Auto_int_at163.ce 0).ats x) (retK (state_beside_api_Auto_int_at163.F.c k) Tryz.f64.results.toList (state_beside_api_Auto_int_at163.ce 0).rts) := by kernel_rfl
theorem state_beside_api_Auto_int_at163.ob : Obl state_beside_api_Auto_int_at163.F (bodyOf Tryz.f64) (fun k => retK (state_beside_api_Auto_int_at163.F.c k) Tryz.f64.results.toList (state_beside_api_Auto_int_at163.ce 0).rts) := obl_of (by kernel_rfl)
/-! ### state_beside_api_Variable_int_at164: function 165 -/
def state_beside_api_Variable_int_at164.l0 : Nat → (List Int) → Bool → (List S104) → Int → Int → Option Bool
 | 0, _, _, _, _, _ => none
 | k + 1, x1, x2, x14, x15, x16 => if x16 < x15 then (if 0 ≤ x16 then (if x16 < (x14.length : Int) then (if 0 ≤ x16 then (if x16 < (x1.length : Int) then ((state_is_2.f ((rd_T104 x14 x16).f0) ((rd_T104 x14 x16).f1) ((rd_T104 x14 x16).f2) ((rd_T104 x14 x16).f3) (rd x1 x16)).bind fun t1 => (if (!t1) = true then (some false) else (state_beside_api_Variable_int_at164.l0 k x1 x2 x14 x15 (w64 (x16 + 1))))) else (none)) else (none)) else (none)) else (none)) else (some true)
def state_beside_api_Variable_int_at164.f (k : Nat) (a0 : List S104) (a1 : List Int) (a2 : Bool) : Option Bool := if (a0.length : Int) = (a1.length : Int) then (state_beside_api_Variable_int_at164.l0 k a1 a2 a0 (a0.length : Int) 0) else (some false)
def state_beside_api_Variable_int_at164.ce (k : Nat) : CallE := ⟨[⟨false, (.list T104)⟩, ⟨false, (.list (.int .i64))⟩, ⟨false, (.fn 164 [] .bool)⟩], [⟨false, [.v .bool]⟩], fun (x : (List S104) × (List Int) × Bool) => state_beside_api_Variable_int_at164.f k x.1 x.2.1 x.2.2⟩
def state_beside_api_Variable_int_at164.F : Fam (RT.dens (state_beside_api_Variable_int_at164.ce 0).rts) := ⟨fun k => ⟨TT0, GL0, callT [(164, [], state_is_2.ce)], cmpT CM0, []⟩, [(5, ⟨⟨[(1, .v false (.list (.int .i64))), (2, .v false (.fn 164 [] .bool)), (14, .v false (.list T104)), (15, .v false (.int .i64)), (16, .v false (.int .i64))], []⟩, fun k s => state_beside_api_Variable_int_at164.l0 k s.1.1 s.1.2.1 s.1.2.2.1 s.1.2.2.2.1 s.1.2.2.2.2.1⟩)]⟩
theorem state_beside_api_Variable_int_at164.is (k : Nat) (x : AT.dens (state_beside_api_Variable_int_at164.ce 0).ats) : (state_beside_api_Variable_int_at164.ce k).fn x = den state_beside_api_Variable_int_at164.F k (bodyOf Tryz.f165) (startAS (state_beside_api_Variable_int_at164.ce 0).ats x) (retK (state_beside_api_Variable_int_at164.F.c k) Tryz.f165.results.toList (state_beside_api_Variable_int_at164.ce 0).rts) := by kernel_rfl
theorem state_beside_api_Variable_int_at164.ob : Obl state_beside_api_Variable_int_at164.F (bodyOf Tryz.f165) (fun k => retK (state_beside_api_Variable_int_at164.F.c k) Tryz.f165.results.toList (state_beside_api_Variable_int_at164.ce 0).rts) := obl_of (by kernel_rfl)
/-! ### state_is: function 59 -/
def state_is.f (k : Nat) (l0_0 : List ByteArray) (l0_1 : List S104) (l0_2 : List ByteArray) (l0_3 : List S94) (l1_0 : List Int) (l1_1 : List Int) : Option Bool := (state_beside_api_Auto_int_at163.f k l0_3 l1_0 false).bind fun t1 => (if t1 = true then ((state_beside_api_Variable_int_at164.f k l0_1 l1_1 false).bind fun t2 => (some t2)) else (some false))
def state_is.ce (k : Nat) : CallE := ⟨[⟨true, T26⟩, ⟨true, T29⟩], [⟨false, [.v .bool]⟩], fun (x : S26 × S29) => state_is.f k x.1.f0 x.1.f1 x.1.f2 x.1.f3 x.2.f0 x.2.f1⟩
def state_is.F : Fam (RT.dens (state_is.ce 0).rts) := ⟨fun k => ⟨TT0, GL0, callT [(64, [163], state_beside_api_Auto_int_at163.ce k), (165, [164], state_beside_api_Variable_int_at164.ce k)], cmpT CM0, []⟩, []⟩
theorem state_is.is (k : Nat) (x : AT.dens (state_is.ce 0).ats) : (state_is.ce k).fn x = den state_is.F k (bodyOf Tryz.f59) (startAS (state_is.ce 0).ats x) (retK (state_is.F.c k) Tryz.f59.results.toList (state_is.ce 0).rts) := by kernel_rfl
theorem state_is.ob : Obl state_is.F (bodyOf Tryz.f59) (fun k => retK (state_is.F.c k) Tryz.f59.results.toList (state_is.ce 0).rts) := obl_of (by kernel_rfl)
/-! ### state_wrong: function 56 -/
def state_wrong.f (k : Nat) (l0_0 : List ByteArray) (l0_1 : List S104) (l0_2 : List ByteArray) (l0_3 : List S94) (l1_0 : List Int) (l1_1 : List Int) : Option Int := (net_Right.f k l0_0 l0_1 l0_2 l0_3).bind fun t1 => (if (!t1) = true then (some 7) else ((state_is.f k l0_0 l0_1 l0_2 l0_3 l1_0 l1_1).bind fun t2 => (if (!t2) = true then (some 130) else (some 0))))
def state_wrong.ce (k : Nat) : CallE := ⟨[⟨true, T26⟩, ⟨true, T29⟩], [⟨false, [.v (.int .i64)]⟩], fun (x : S26 × S29) => state_wrong.f k x.1.f0 x.1.f1 x.1.f2 x.1.f3 x.2.f0 x.2.f1⟩
def state_wrong.F : Fam (RT.dens (state_wrong.ce 0).rts) := ⟨fun k => ⟨TT0, GL0, callT [(34, [], net_Right.ce k), (59, [], state_is.ce k)], cmpT CM0, []⟩, []⟩
theorem state_wrong.is (k : Nat) (x : AT.dens (state_wrong.ce 0).ats) : (state_wrong.ce k).fn x = den state_wrong.F k (bodyOf Tryz.f56) (startAS (state_wrong.ce 0).ats x) (retK (state_wrong.F.c k) Tryz.f56.results.toList (state_wrong.ce 0).rts) := by kernel_rfl
theorem state_wrong.ob : Obl state_wrong.F (bodyOf Tryz.f56) (fun k => retK (state_wrong.F.c k) Tryz.f56.results.toList (state_wrong.ce 0).rts) := obl_of (by kernel_rfl)
/-! ### state_Invariants: function 11 -/
def state_Invariants.l0 : Nat → (List S38) → (List Int) → Int → Int → (List ByteArray) → (List S104) → (List ByteArray) → (List S94) → Option ((List S38) × Int)
 | 0, _, _, _, _, _, _, _, _ => none
 | k + 1, x7, x17, x18, x19, x2_0, x2_1, x2_2, x2_3 => if x19 < x18 then (if 0 ≤ x19 then (if x19 < (x17.length : Int) then (if 0 ≤ x19 then (if x19 < (x2_3.length : Int) then (if 0 ≤ (rd x17 x19) then (if (rd x17 x19) < (((rd_T94 x2_3 x19).f1).length : Int) then (if x7.length + ((rd_T102 ((rd_T94 x2_3 x19).f1) (rd x17 x19)).f2).length ≤ 4398046511104 then (state_Invariants.l0 k (x7 ++ (rd_T102 ((rd_T94 x2_3 x19).f1) (rd x17 x19)).f2) x17 x18 (w64 (x19 + 1)) x2_0 x2_1 x2_2 x2_3) else (none)) else (none)) else (none)) else (none)) else (none)) else (none)) else (none)) else (some (x7, 0))
def state_Invariants.f (k : Nat) (l0_0 : List ByteArray) (l0_1 : List S104) (l0_2 : List ByteArray) (l0_3 : List S94) (l1_0 : List Int) (l1_1 : List Int) : Option ((List S38) × Int) := (state_wrong.f k l0_0 l0_1 l0_2 l0_3 l1_0 l1_1).bind fun t1 => (if t1 = 0 then (state_Invariants.l0 k ([] : List S38) l1_0 (l1_0.length : Int) 0 l0_0 l0_1 l0_2 l0_3) else (some (([] : List S38), t1)))
def state_Invariants.ce (k : Nat) : CallE := ⟨[⟨true, T26⟩, ⟨true, T29⟩], [⟨false, [.o 38 T38]⟩, ⟨false, [.v (.int .i64)]⟩], fun (x : S26 × S29) => state_Invariants.f k x.1.f0 x.1.f1 x.1.f2 x.1.f3 x.2.f0 x.2.f1⟩
def state_Invariants.F : Fam (RT.dens (state_Invariants.ce 0).rts) := ⟨fun k => ⟨TT0, GL0, callT [(56, [], state_wrong.ce k)], cmpT CM0, []⟩, [(7, ⟨⟨[(2, .k (.ptr 128 0)), (7, .o 38 T38), (17, .v false (.list (.int .i64))), (18, .v false (.int .i64)), (19, .v false (.int .i64))], [(128, [.v (.list .str), .v (.list T104), .v (.list .str), .v (.list T94)])]⟩, fun k s => state_Invariants.l0 k s.1.1 s.1.2.1 s.1.2.2.1 s.1.2.2.2.1 s.2.1.1 s.2.1.2.1 s.2.1.2.2.1 s.2.1.2.2.2.1⟩)]⟩
theorem state_Invariants.is (k : Nat) (x : AT.dens (state_Invariants.ce 0).ats) : (state_Invariants.ce k).fn x = den state_Invariants.F k (bodyOf Tryz.f11) (startAS (state_Invariants.ce 0).ats x) (retK (state_Invariants.F.c k) Tryz.f11.results.toList (state_Invariants.ce 0).rts) := by kernel_rfl
theorem state_Invariants.ob : Obl state_Invariants.F (bodyOf Tryz.f11) (fun k => retK (state_Invariants.F.c k) Tryz.f11.results.toList (state_Invariants.ce 0).rts) := obl_of (by kernel_rfl)
/-! ### gnomonref10_long: function 81 -/
mutual
def gnomonref10_long.j0 : Nat → (List ByteArray) → (List S104) → (List ByteArray) → (List S94) → Option Bool
 | 0, _, _, _, _ => none
 | k + 1, x1_0, x1_1, x1_2, x1_3 => gnomonref10_long.l1 k 0 x1_0 x1_1 x1_2 x1_3
def gnomonref10_long.l1 : Nat → Int → (List ByteArray) → (List S104) → (List ByteArray) → (List S94) → Option Bool
 | 0, _, _, _, _, _ => none
 | k + 1, x3, x1_0, x1_1, x1_2, x1_3 => if x3 < (x1_3.length : Int) then (if 0 ≤ x3 then (if x3 < (x1_3.length : Int) then (if (((rd_T94 x1_3 x3).f1).length : Int) > 64 then (some true) else (if (((rd_T94 x1_3 x3).f2).length : Int) > 256 then (some true) else (gnomonref10_long.j2 k x3 x1_0 x1_1 x1_2 x1_3 ((rd_T94 x1_3 x3).f0) ((rd_T94 x1_3 x3).f1) ((rd_T94 x1_3 x3).f2)))) else (none)) else (none)) else (some false)
def gnomonref10_long.j2 : Nat → Int → (List ByteArray) → (List S104) → (List ByteArray) → (List S94) → ByteArray → (List S102) → (List S97) → Option Bool
 | 0, _, _, _, _, _, _, _, _ => none
 | k + 1, x3, x1_0, x1_1, x1_2, x1_3, x4_0, x4_1, x4_2 => gnomonref10_long.l3 k x3 0 x1_0 x1_1 x1_2 x1_3 x4_0 x4_1 x4_2
def gnomonref10_long.l3 : Nat → Int → Int → (List ByteArray) → (List S104) → (List ByteArray) → (List S94) → ByteArray → (List S102) → (List S97) → Option Bool
 | 0, _, _, _, _, _, _, _, _, _ => none
 | k + 1, x3, x5, x1_0, x1_1, x1_2, x1_3, x4_0, x4_1, x4_2 => if x5 < (x4_1.length : Int) then (if 0 ≤ x5 then (if x5 < (x4_1.length : Int) then (if (((rd_T102 x4_1 x5).f2).length : Int) > 16 then (some true) else (gnomonref10_long.l3 k x3 (w64 (x5 + 1)) x1_0 x1_1 x1_2 x1_3 x4_0 x4_1 x4_2)) else (none)) else (none)) else (gnomonref10_long.l4 k x3 0 x1_0 x1_1 x1_2 x1_3 x4_0 x4_1 x4_2)
def gnomonref10_long.l4 : Nat → Int → Int → (List ByteArray) → (List S104) → (List ByteArray) → (List S94) → ByteArray → (List S102) → (List S97) → Option Bool
 | 0, _, _, _, _, _, _, _, _, _ => none
 | k + 1, x3, x6, x1_0, x1_1, x1_2, x1_3, x4_0, x4_1, x4_2 => if x6 < (x4_2.length : Int) then (if 0 ≤ x6 then (if x6 < (x4_2.length : Int) then (if (((rd_T97 x4_2 x6).f2).length : Int) > 16 then (some true) else (if (((rd_T97 x4_2 x6).f6).length : Int) > 16 then (some true) else (if (((rd_T97 x4_2 x6).f3).length : Int) > 64 then (some true) else (gnomonref10_long.j5 k x3 x6 x1_0 x1_1 x1_2 x1_3 x4_0 x4_1 x4_2 ((rd_T97 x4_2 x6).f0) ((rd_T97 x4_2 x6).f1) ((rd_T97 x4_2 x6).f2) ((rd_T97 x4_2 x6).f3) ((rd_T97 x4_2 x6).f4) ((rd_T97 x4_2 x6).f5) ((rd_T97 x4_2 x6).f6))))) else (none)) else (none)) else (gnomonref10_long.l1 k (w64 (x3 + 1)) x1_0 x1_1 x1_2 x1_3)
def gnomonref10_long.j5 : Nat → Int → Int → (List ByteArray) → (List S104) → (List ByteArray) → (List S94) → ByteArray → (List S102) → (List S97) → Int → Int → (List S38) → (List S148) → Int → Bool → (List S99) → Option Bool
 | 0, _, _, _, _, _, _, _, _, _, _, _, _, _, _, _, _ => none
 | k + 1, x3, x6, x1_0, x1_1, x1_2, x1_3, x4_0, x4_1, x4_2, x7_0, x7_1, x7_2, x7_3, x7_4, x7_5, x7_6 => gnomonref10_long.l6 k x3 x6 0 x1_0 x1_1 x1_2 x1_3 x4_0 x4_1 x4_2 x7_0 x7_1 x7_2 x7_3 x7_4 x7_5 x7_6
def gnomonref10_long.l6 : Nat → Int → Int → Int → (List ByteArray) → (List S104) → (List ByteArray) → (List S94) → ByteArray → (List S102) → (List S97) → Int → Int → (List S38) → (List S148) → Int → Bool → (List S99) → Option Bool
 | 0, _, _, _, _, _, _, _, _, _, _, _, _, _, _, _, _, _ => none
 | k + 1, x3, x6, x8, x1_0, x1_1, x1_2, x1_3, x4_0, x4_1, x4_2, x7_0, x7_1, x7_2, x7_3, x7_4, x7_5, x7_6 => if x8 < (x7_6.length : Int) then (if 0 ≤ x8 then (if x8 < (x7_6.length : Int) then (if (((rd_T99 x7_6 x8).f3).length : Int) > 64 then (some true) else (gnomonref10_long.l6 k x3 x6 (w64 (x8 + 1)) x1_0 x1_1 x1_2 x1_3 x4_0 x4_1 x4_2 x7_0 x7_1 x7_2 x7_3 x7_4 x7_5 x7_6)) else (none)) else (none)) else (gnomonref10_long.l4 k x3 (w64 (x6 + 1)) x1_0 x1_1 x1_2 x1_3 x4_0 x4_1 x4_2)
end
def gnomonref10_long.f (k : Nat) (l0_0 : List ByteArray) (l0_1 : List S104) (l0_2 : List ByteArray) (l0_3 : List S94) : Option Bool := if (l0_0.length : Int) > 8 then (some true) else (if (l0_1.length : Int) > 16 then (some true) else (if (l0_2.length : Int) > 16 then (some true) else (if (l0_3.length : Int) > 8 then (some true) else (gnomonref10_long.j0 k l0_0 l0_1 l0_2 l0_3))))
def gnomonref10_long.ce (k : Nat) : CallE := ⟨[⟨true, T26⟩], [⟨false, [.v .bool]⟩], fun (x : S26) => gnomonref10_long.f k x.f0 x.f1 x.f2 x.f3⟩
def gnomonref10_long.F : Fam (RT.dens (gnomonref10_long.ce 0).rts) := ⟨fun k => ⟨TT0, GL0, callT [], cmpT CM0, []⟩, [(1000004, ⟨⟨[(1, .k (.ptr 64 0))], [(64, [.v (.list .str), .v (.list T104), .v (.list .str), .v (.list T94)])]⟩, fun k s => gnomonref10_long.j0 k s.2.1.1 s.2.1.2.1 s.2.1.2.2.1 s.2.1.2.2.2.1⟩), (5, ⟨⟨[(1, .k (.ptr 64 0)), (3, .v false (.int .i64))], [(64, [.v (.list .str), .v (.list T104), .v (.list .str), .v (.list T94)])]⟩, fun k s => gnomonref10_long.l1 k s.1.1 s.2.1.1 s.2.1.2.1 s.2.1.2.2.1 s.2.1.2.2.2.1⟩), (1000010, ⟨⟨[(1, .k (.ptr 64 0)), (3, .v false (.int .i64)), (4, .k (.ptr 256 0))], [(64, [.v (.list .str), .v (.list T104), .v (.list .str), .v (.list T94)]), (256, [.v .str, .v (.list T102), .v (.list T97)])]⟩, fun k s => gnomonref10_long.j2 k s.1.1 s.2.1.1 s.2.1.2.1 s.2.1.2.2.1 s.2.1.2.2.2.1 s.2.2.1.1 s.2.2.1.2.1 s.2.2.1.2.2.1⟩), (11, ⟨⟨[(1, .k (.ptr 64 0)), (3, .v false (.int .i64)), (4, .k (.ptr 256 0)), (5, .v false (.int .i64))], [(64, [.v (.list .str), .v (.list T104), .v (.list .str), .v (.list T94)]), (256, [.v .str, .v (.list T102), .v (.list T97)])]⟩, fun k s => gnomonref10_long.l3 k s.1.1 s.1.2.1 s.2.1.1 s.2.1.2.1 s.2.1.2.2.1 s.2.1.2.2.2.1 s.2.2.1.1 s.2.2.1.2.1 s.2.2.1.2.2.1⟩), (16, ⟨⟨[(1, .k (.ptr 64 0)), (3, .v false (.int .i64)), (4, .k (.ptr 256 0)), (6, .v false (.int .i64))], [(64, [.v (.list .str), .v (.list T104), .v (.list .str), .v (.list T94)]), (256, [.v .str, .v (.list T102), .v (.list T97)])]⟩, fun k s => gnomonref10_long.l4 k s.1.1 s.1.2.1 s.2.1.1 s.2.1.2.1 s.2.1.2.2.1 s.2.1.2.2.2.1 s.2.2.1.1 s.2.2.1.2.1 s.2.2.1.2.2.1⟩), (1000021, ⟨⟨[(1, .k (.ptr 64 0)), (3, .v false (.int .i64)), (4, .k (.ptr 256 0)), (6, .v false (.int .i64)), (7, .k (.ptr 448 0))], [(64, [.v (.list .str), .v (.list T104), .v (.list .str), .v (.list T94)]), (256, [.v .str, .v (.list T102), .v (.list T97)]), (448, [.v (.int .i64), .v (.int .i64), .v (.list T38), .v (.list T148), .v (.int .i64), .v .bool, .v (.list T99)])]⟩, fun k s => gnomonref10_long.j5 k s.1.1 s.1.2.1 s.2.1.1 s.2.1.2.1 s.2.1.2.2.1 s.2.1.2.2.2.1 s.2.2.1.1 s.2.2.1.2.1 s.2.2.1.2.2.1 s.2.2.2.1.1 s.2.2.2.1.2.1 s.2.2.2.1.2.2.1 s.2.2.2.1.2.2.2.1 s.2.2.2.1.2.2.2.2.1 s.2.2.2.1.2.2.2.2.2.1 s.2.2.2.1.2.2.2.2.2.2.1⟩), (22, ⟨⟨[(1, .k (.ptr 64 0)), (3, .v false (.int .i64)), (4, .k (.ptr 256 0)), (6, .v false (.int .i64)), (7, .k (.ptr 448 0)), (8, .v false (.int .i64))], [(64, [.v (.list .str), .v (.list T104), .v (.list .str), .v (.list T94)]), (256, [.v .str, .v (.list T102), .v (.list T97)]), (448, [.v (.int .i64), .v (.int .i64), .v (.list T38), .v (.list T148), .v (.int .i64), .v .bool, .v (.list T99)])]⟩, fun k s => gnomonref10_long.l6 k s.1.1 s.1.2.1 s.1.2.2.1 s.2.1.1 s.2.1.2.1 s.2.1.2.2.1 s.2.1.2.2.2.1 s.2.2.1.1 s.2.2.1.2.1 s.2.2.1.2.2.1 s.2.2.2.1.1 s.2.2.2.1.2.1 s.2.2.2.1.2.2.1 s.2.2.2.1.2.2.2.1 s.2.2.2.1.2.2.2.2.1 s.2.2.2.1.2.2.2.2.2.1 s.2.2.2.1.2.2.2.2.2.2.1⟩)]⟩
theorem gnomonref10_long.is (k : Nat) (x : AT.dens (gnomonref10_long.ce 0).ats) : (gnomonref10_long.ce k).fn x = den gnomonref10_long.F k (bodyOf Tryz.f81) (startAS (gnomonref10_long.ce 0).ats x) (retK (gnomonref10_long.F.c k) Tryz.f81.results.toList (gnomonref10_long.ce 0).rts) := by kernel_rfl
theorem gnomonref10_long.ob : Obl gnomonref10_long.F (bodyOf Tryz.f81) (fun k => retK (gnomonref10_long.F.c k) Tryz.f81.results.toList (gnomonref10_long.ce 0).rts) := obl_of (by kernel_rfl)
/-! ### gnomonref09_begin: function 241 -/
mutual
def gnomonref09_begin.l0 : Nat → ByteArray → Int → Option Int
 | 0, _, _ => none
 | k + 1, x0, x1 => if x1 < (x0.size : Int) then (if 0 ≤ x1 then (if x1 < (x0.size : Int) then (if (btI x0 x1) = 32 then (gnomonref09_begin.j1 k x0 x1 (btI x0 x1) (decide ((btI x0 x1) = 32))) else (if (btI x0 x1) = 9 then (gnomonref09_begin.j1 k x0 x1 (btI x0 x1) (decide ((btI x0 x1) = 9))) else (if (btI x0 x1) = 13 then (gnomonref09_begin.j1 k x0 x1 (btI x0 x1) (decide ((btI x0 x1) = 13))) else (gnomonref09_begin.j1 k x0 x1 (btI x0 x1) (decide ((btI x0 x1) = 10)))))) else (none)) else (none)) else (some x1)
def gnomonref09_begin.j1 : Nat → ByteArray → Int → Int → Bool → Option Int
 | 0, _, _, _, _ => none
 | k + 1, x0, x1, x11, x13 => if x13 = true then (gnomonref09_begin.l0 k x0 (w64 (x1 + 1))) else (if x11 = 35 then (gnomonref09_begin.l2 k x0 x1) else (some x1))
def gnomonref09_begin.l2 : Nat → ByteArray → Int → Option Int
 | 0, _, _ => none
 | k + 1, x0, x1 => if x1 < (x0.size : Int) then (if 0 ≤ x1 then (if x1 < (x0.size : Int) then (if (btI x0 x1) = 10 then (gnomonref09_begin.l0 k x0 x1) else (gnomonref09_begin.l2 k x0 (w64 (x1 + 1)))) else (none)) else (none)) else (gnomonref09_begin.l0 k x0 x1)
end
def gnomonref09_begin.f (k : Nat) (a0 : ByteArray) (a1 : Int) : Option Int := gnomonref09_begin.l0 k a0 a1
def gnomonref09_begin.ce (k : Nat) : CallE := ⟨[⟨false, .str⟩, ⟨false, (.int .i64)⟩], [⟨false, [.v (.int .i64)]⟩], fun (x : ByteArray × Int) => gnomonref09_begin.f k x.1 x.2⟩
def gnomonref09_begin.F : Fam (RT.dens (gnomonref09_begin.ce 0).rts) := ⟨fun k => ⟨TT0, GL0, callT [], cmpT CM0, []⟩, [(2, ⟨⟨[(0, .v false .str), (1, .v false (.int .i64))], []⟩, fun k s => gnomonref09_begin.l0 k s.1.1 s.1.2.1⟩), (1000009, ⟨⟨[(0, .v false .str), (1, .v false (.int .i64)), (11, .v false (.int .u8)), (13, .v false .bool)], []⟩, fun k s => gnomonref09_begin.j1 k s.1.1 s.1.2.1 s.1.2.2.1 s.1.2.2.2.1⟩), (11, ⟨⟨[(0, .v false .str), (1, .v false (.int .i64))], []⟩, fun k s => gnomonref09_begin.l2 k s.1.1 s.1.2.1⟩)]⟩
theorem gnomonref09_begin.is (k : Nat) (x : AT.dens (gnomonref09_begin.ce 0).ats) : (gnomonref09_begin.ce k).fn x = den gnomonref09_begin.F k (bodyOf Tryz.f241) (startAS (gnomonref09_begin.ce 0).ats x) (retK (gnomonref09_begin.F.c k) Tryz.f241.results.toList (gnomonref09_begin.ce 0).rts) := by kernel_rfl
theorem gnomonref09_begin.ob : Obl gnomonref09_begin.F (bodyOf Tryz.f241) (fun k => retK (gnomonref09_begin.F.c k) Tryz.f241.results.toList (gnomonref09_begin.ce 0).rts) := obl_of (by kernel_rfl)
/-! ### gnomonref09_digit: function 242 -/
def gnomonref09_digit.f (a0 : Int) : Option Bool := if a0 ≥ 48 then (some (decide (a0 ≤ 57))) else (some false)
def gnomonref09_digit.ce : CallE := ⟨[⟨false, (.int .u8)⟩], [⟨false, [.v .bool]⟩], fun (x : Int) => gnomonref09_digit.f x⟩
def gnomonref09_digit.F : Fam (RT.dens (gnomonref09_digit.ce).rts) := ⟨fun k => ⟨TT0, GL0, callT [], cmpT CM0, []⟩, []⟩
theorem gnomonref09_digit.is (k : Nat) (x : AT.dens (gnomonref09_digit.ce).ats) : (gnomonref09_digit.ce).fn x = den gnomonref09_digit.F k (bodyOf Tryz.f242) (startAS (gnomonref09_digit.ce).ats x) (retK (gnomonref09_digit.F.c k) Tryz.f242.results.toList (gnomonref09_digit.ce).rts) := by kernel_rfl
theorem gnomonref09_digit.ob : Obl gnomonref09_digit.F (bodyOf Tryz.f242) (fun k => retK (gnomonref09_digit.F.c k) Tryz.f242.results.toList (gnomonref09_digit.ce).rts) := obl_of (by kernel_rfl)
/-! ### gnomonref09_number: function 243 -/
mutual
def gnomonref09_number.l0 : Nat → ByteArray → Int → Int → Int → Int → ByteArray → Int → Int → Option (Int × ByteArray × Int × Int × Int × Int)
 | 0, _, _, _, _, _, _, _, _ => none
 | k + 1, x0, x1, x7, x8, x4_0, x4_1, x4_2, x4_3 => if x7 < (x0.size : Int) then (if 0 ≤ x7 then (if x7 < (x0.size : Int) then ((gnomonref09_digit.f (btI x0 x7)).bind fun t1 => (if t1 = true then (gnomonref09_number.j1 k x0 x1 x7 x8 x4_0 x4_1 x4_2 x4_3) else (if 0 ≤ x1 then (if x1 < (x0.size : Int) then (if (btI x0 x1) = 48 then (if x7 > (w64 (x1 + 1)) then (some (0, (⟨#[]⟩ : ByteArray), 0, 0, x1, 91)) else (if x8 > 2147483647 then (some (0, (⟨#[]⟩ : ByteArray), 0, 0, x1, 91)) else (if 0 ≤ x7 then (if x7 ≤ (x0.size : Int) then (if 0 ≤ x1 then (if x1 ≤ x7 then (some (2, (x0.extract (Int.toNat (x1)) (Int.toNat (x7))), x8, x1, x7, 0)) else (none)) else (none)) else (none)) else (none)))) else (if x8 > 2147483647 then (some (0, (⟨#[]⟩ : ByteArray), 0, 0, x1, 91)) else (if 0 ≤ x7 then (if x7 ≤ (x0.size : Int) then (if 0 ≤ x1 then (if x1 ≤ x7 then (some (2, (x0.extract (Int.toNat (x1)) (Int.toNat (x7))), x8, x1, x7, 0)) else (none)) else (none)) else (none)) else (none)))) else (none)) else (none)))) else (none)) else (none)) else (if 0 ≤ x1 then (if x1 < (x0.size : Int) then (if (btI x0 x1) = 48 then (if x7 > (w64 (x1 + 1)) then (some (0, (⟨#[]⟩ : ByteArray), 0, 0, x1, 91)) else (if x8 > 2147483647 then (some (0, (⟨#[]⟩ : ByteArray), 0, 0, x1, 91)) else (if 0 ≤ x7 then (if x7 ≤ (x0.size : Int) then (if 0 ≤ x1 then (if x1 ≤ x7 then (some (2, (x0.extract (Int.toNat (x1)) (Int.toNat (x7))), x8, x1, x7, 0)) else (none)) else (none)) else (none)) else (none)))) else (if x8 > 2147483647 then (some (0, (⟨#[]⟩ : ByteArray), 0, 0, x1, 91)) else (if 0 ≤ x7 then (if x7 ≤ (x0.size : Int) then (if 0 ≤ x1 then (if x1 ≤ x7 then (some (2, (x0.extract (Int.toNat (x1)) (Int.toNat (x7))), x8, x1, x7, 0)) else (none)) else (none)) else (none)) else (none)))) else (none)) else (none))
def gnomonref09_number.j1 : Nat → ByteArray → Int → Int → Int → Int → ByteArray → Int → Int → Option (Int × ByteArray × Int × Int × Int × Int)
 | 0, _, _, _, _, _, _, _, _ => none
 | k + 1, x0, x1, x7, x8, x4_0, x4_1, x4_2, x4_3 => if x8 ≤ 2147483648 then (if 0 ≤ x7 then (if x7 < (x0.size : Int) then (gnomonref09_number.l0 k x0 x1 (w64 (x7 + 1)) (w64 ((w64 ((w64 (x8 * 10)) + (w64 ((btI x0 x7))))) - 48)) x4_0 x4_1 x4_2 x4_3) else (none)) else (none)) else (gnomonref09_number.l0 k x0 x1 (w64 (x7 + 1)) x8 x4_0 x4_1 x4_2 x4_3)
end
def gnomonref09_number.f (k : Nat) (a0 : ByteArray) (a1 : Int) : Option (Int × ByteArray × Int × Int × Int × Int) := gnomonref09_number.l0 k a0 a1 a1 0 0 (⟨#[]⟩ : ByteArray) 0 0
def gnomonref09_number.ce (k : Nat) : CallE := ⟨[⟨false, .str⟩, ⟨false, (.int .i64)⟩], [⟨true, [.v (.int .i64), .v .str, .v (.int .i64), .v (.int .i64)]⟩, ⟨false, [.v (.int .i64)]⟩, ⟨false, [.v (.int .i64)]⟩], fun (x : ByteArray × Int) => gnomonref09_number.f k x.1 x.2⟩
def gnomonref09_number.F : Fam (RT.dens (gnomonref09_number.ce 0).rts) := ⟨fun k => ⟨TT0, GL0, callT [(242, [], gnomonref09_digit.ce)], cmpT CM0, []⟩, [(4, ⟨⟨[(0, .v false .str), (1, .v false (.int .i64)), (4, .k (.ptr 256 0)), (7, .v false (.int .i64)), (8, .v false (.int .i64))], [(256, [.v (.int .i64), .v .str, .v (.int .i64), .v (.int .i64)])]⟩, fun k s => gnomonref09_number.l0 k s.1.1 s.1.2.1 s.1.2.2.1 s.1.2.2.2.1 s.2.1.1 s.2.1.2.1 s.2.1.2.2.1 s.2.1.2.2.2.1⟩), (1000005, ⟨⟨[(0, .v false .str), (1, .v false (.int .i64)), (4, .k (.ptr 256 0)), (7, .v false (.int .i64)), (8, .v false (.int .i64))], [(256, [.v (.int .i64), .v .str, .v (.int .i64), .v (.int .i64)])]⟩, fun k s => gnomonref09_number.j1 k s.1.1 s.1.2.1 s.1.2.2.1 s.1.2.2.2.1 s.2.1.1 s.2.1.2.1 s.2.1.2.2.1 s.2.1.2.2.2.1⟩)]⟩
theorem gnomonref09_number.is (k : Nat) (x : AT.dens (gnomonref09_number.ce 0).ats) : (gnomonref09_number.ce k).fn x = den gnomonref09_number.F k (bodyOf Tryz.f243) (startAS (gnomonref09_number.ce 0).ats x) (retK (gnomonref09_number.F.c k) Tryz.f243.results.toList (gnomonref09_number.ce 0).rts) := by kernel_rfl
theorem gnomonref09_number.ob : Obl gnomonref09_number.F (bodyOf Tryz.f243) (fun k => retK (gnomonref09_number.F.c k) Tryz.f243.results.toList (gnomonref09_number.ce 0).rts) := obl_of (by kernel_rfl)
/-! ### gnomonref09_letter: function 244 -/
def gnomonref09_letter.f (a0 : Int) : Option Bool := if a0 ≥ 97 then (if a0 ≤ 122 then (some true) else (if a0 ≥ 65 then (some (decide (a0 ≤ 90))) else (some false))) else (if a0 ≥ 65 then (some (decide (a0 ≤ 90))) else (some false))
def gnomonref09_letter.ce : CallE := ⟨[⟨false, (.int .u8)⟩], [⟨false, [.v .bool]⟩], fun (x : Int) => gnomonref09_letter.f x⟩
def gnomonref09_letter.F : Fam (RT.dens (gnomonref09_letter.ce).rts) := ⟨fun k => ⟨TT0, GL0, callT [], cmpT CM0, []⟩, []⟩
theorem gnomonref09_letter.is (k : Nat) (x : AT.dens (gnomonref09_letter.ce).ats) : (gnomonref09_letter.ce).fn x = den gnomonref09_letter.F k (bodyOf Tryz.f244) (startAS (gnomonref09_letter.ce).ats x) (retK (gnomonref09_letter.F.c k) Tryz.f244.results.toList (gnomonref09_letter.ce).rts) := by kernel_rfl
theorem gnomonref09_letter.ob : Obl gnomonref09_letter.F (bodyOf Tryz.f244) (fun k => retK (gnomonref09_letter.F.c k) Tryz.f244.results.toList (gnomonref09_letter.ce).rts) := obl_of (by kernel_rfl)
/-! ### gnomonref09_Next: function 238 -/
mutual
def gnomonref09_Next.j0 : Nat → ByteArray → Int → Int → ByteArray → Int → Int → Option (Int × ByteArray × Int × Int × Int × Int)
 | 0, _, _, _, _, _, _ => none
 | k + 1, x0, x1, x4_0, x4_1, x4_2, x4_3 => (gnomonref09_begin.f k x0 x1).bind fun t1 => (if t1 = (x0.size : Int) then (some (0, (⟨#[]⟩ : ByteArray), 0, t1, t1, 0)) else (if 0 ≤ t1 then (if t1 < (x0.size : Int) then ((gnomonref09_digit.f (btI x0 t1)).bind fun t2 => (if t2 = true then ((gnomonref09_number.f k x0 t1).bind fun t3 => (some (t3.1, t3.2.1, t3.2.2.1, t3.2.2.2.1, t3.2.2.2.2.1, t3.2.2.2.2.2))) else (if 0 ≤ t1 then (if t1 < (x0.size : Int) then ((gnomonref09_letter.f (btI x0 t1)).bind fun t4 => (if t4 = true then (gnomonref09_Next.l1 k x0 t1 t1 x4_0 x4_1 x4_2 x4_3) else (gnomonref09_Next.l2 k x0 t1 ((⟨#[46, 46]⟩ : ByteArray), (⟨#[58, 61]⟩ : ByteArray), (⟨#[45, 62]⟩ : ByteArray), (⟨#[38, 38]⟩ : ByteArray), (⟨#[124, 124]⟩ : ByteArray), (⟨#[33, 61]⟩ : ByteArray), (⟨#[60, 61]⟩ : ByteArray), (⟨#[61, 61]⟩ : ByteArray), (⟨#[62, 61]⟩ : ByteArray), (⟨#[]⟩ : ByteArray), (⟨#[]⟩ : ByteArray)) 0 x4_0 x4_1 x4_2 x4_3))) else (none)) else (none)))) else (none)) else (none)))
def gnomonref09_Next.l1 : Nat → ByteArray → Int → Int → Int → ByteArray → Int → Int → Option (Int × ByteArray × Int × Int × Int × Int)
 | 0, _, _, _, _, _, _, _ => none
 | k + 1, x0, x1, x7, x4_0, x4_1, x4_2, x4_3 => if x7 < (x0.size : Int) then (if 0 ≤ x7 then (if x7 < (x0.size : Int) then ((gnomonref09_letter.f (btI x0 x7)).bind fun t5 => (if t5 = true then (gnomonref09_Next.l1 k x0 x1 (w64 (x7 + 1)) x4_0 x4_1 x4_2 x4_3) else (if 0 ≤ x7 then (if x7 < (x0.size : Int) then ((gnomonref09_digit.f (btI x0 x7)).bind fun t6 => (if t6 = true then (gnomonref09_Next.l1 k x0 x1 (w64 (x7 + 1)) x4_0 x4_1 x4_2 x4_3) else (if 0 ≤ x7 then (if x7 < (x0.size : Int) then (if (btI x0 x7) = 95 then (gnomonref09_Next.l1 k x0 x1 (w64 (x7 + 1)) x4_0 x4_1 x4_2 x4_3) else (if 0 ≤ x7 then (if x7 ≤ (x0.size : Int) then (if 0 ≤ x1 then (if x1 ≤ x7 then (some (1, (x0.extract (Int.toNat (x1)) (Int.toNat (x7))), 0, x1, x7, 0)) else (none)) else (none)) else (none)) else (none))) else (none)) else (none)))) else (none)) else (none)))) else (none)) else (none)) else (if 0 ≤ x7 then (if x7 ≤ (x0.size : Int) then (if 0 ≤ x1 then (if x1 ≤ x7 then (some (1, (x0.extract (Int.toNat (x1)) (Int.toNat (x7))), 0, x1, x7, 0)) else (none)) else (none)) else (none)) else (none))
def gnomonref09_Next.l2 : Nat → ByteArray → Int → (ByteArray × ByteArray × ByteArray × ByteArray × ByteArray × ByteArray × ByteArray × ByteArray × ByteArray × ByteArray × ByteArray) → Int → Int → ByteArray → Int → Int → Option (Int × ByteArray × Int × Int × Int × Int)
 | 0, _, _, _, _, _, _, _, _ => none
 | k + 1, x0, x1, x8, x9, x4_0, x4_1, x4_2, x4_3 => if x9 < 9 then (if (w64 (x1 + 2)) ≤ (x0.size : Int) then (if 0 ≤ w64 (x1 + 2) then (if w64 (x1 + 2) ≤ (x0.size : Int) then (if 0 ≤ x1 then (if x1 ≤ w64 (x1 + 2) then (if 0 ≤ x9 then (if x9 < ((11 : Nat) : Int) then (if (x0.extract (Int.toNat (x1)) (Int.toNat (w64 (x1 + 2)))) = (rdT .str ([x8.1, x8.2.1, x8.2.2.1, x8.2.2.2.1, x8.2.2.2.2.1, x8.2.2.2.2.2.1, x8.2.2.2.2.2.2.1, x8.2.2.2.2.2.2.2.1, x8.2.2.2.2.2.2.2.2.1, x8.2.2.2.2.2.2.2.2.2.1, x8.2.2.2.2.2.2.2.2.2.2] : List ByteArray) x9) then (if 0 ≤ x9 then (if x9 < ((11 : Nat) : Int) then (some (3, (rdT .str ([x8.1, x8.2.1, x8.2.2.1, x8.2.2.2.1, x8.2.2.2.2.1, x8.2.2.2.2.2.1, x8.2.2.2.2.2.2.1, x8.2.2.2.2.2.2.2.1, x8.2.2.2.2.2.2.2.2.1, x8.2.2.2.2.2.2.2.2.2.1, x8.2.2.2.2.2.2.2.2.2.2] : List ByteArray) x9), 0, x1, w64 (x1 + 2), 0)) else (none)) else (none)) else (gnomonref09_Next.l2 k x0 x1 x8 (w64 (x9 + 1)) x4_0 x4_1 x4_2 x4_3)) else (none)) else (none)) else (none)) else (none)) else (none)) else (none)) else (gnomonref09_Next.l2 k x0 x1 x8 (w64 (x9 + 1)) x4_0 x4_1 x4_2 x4_3)) else (gnomonref09_Next.l3 k x0 x1 (⟨#[44, 59, 46, 123, 125, 40, 41, 33, 60, 62, 63, 43, 45, 42]⟩ : ByteArray) 0 x4_0 x4_1 x4_2 x4_3)
def gnomonref09_Next.l3 : Nat → ByteArray → Int → ByteArray → Int → Int → ByteArray → Int → Int → Option (Int × ByteArray × Int × Int × Int × Int)
 | 0, _, _, _, _, _, _, _, _ => none
 | k + 1, x0, x1, x10, x11, x4_0, x4_1, x4_2, x4_3 => if x11 < (x10.size : Int) then (if 0 ≤ x1 then (if x1 < (x0.size : Int) then (if 0 ≤ x11 then (if x11 < (x10.size : Int) then (if (btI x0 x1) = (btI x10 x11) then (if 0 ≤ w64 (x11 + 1) then (if w64 (x11 + 1) ≤ (x10.size : Int) then (if 0 ≤ x11 then (if x11 ≤ w64 (x11 + 1) then (some (3, (x10.extract (Int.toNat (x11)) (Int.toNat (w64 (x11 + 1)))), 0, x1, w64 (x1 + 1), 0)) else (none)) else (none)) else (none)) else (none)) else (gnomonref09_Next.l3 k x0 x1 x10 (w64 (x11 + 1)) x4_0 x4_1 x4_2 x4_3)) else (none)) else (none)) else (none)) else (none)) else (some (0, (⟨#[]⟩ : ByteArray), 0, 0, x1, 90))
end
def gnomonref09_Next.f (k : Nat) (a0 : ByteArray) (a1 : Int) : Option (Int × ByteArray × Int × Int × Int × Int) := if a1 < 0 then (some (0, (⟨#[]⟩ : ByteArray), 0, 0, 0, 2)) else (if a1 > (a0.size : Int) then (some (0, (⟨#[]⟩ : ByteArray), 0, 0, 0, 2)) else (gnomonref09_Next.j0 k a0 a1 0 (⟨#[]⟩ : ByteArray) 0 0))
def gnomonref09_Next.ce (k : Nat) : CallE := ⟨[⟨false, .str⟩, ⟨false, (.int .i64)⟩], [⟨true, [.v (.int .i64), .v .str, .v (.int .i64), .v (.int .i64)]⟩, ⟨false, [.v (.int .i64)]⟩, ⟨false, [.v (.int .i64)]⟩], fun (x : ByteArray × Int) => gnomonref09_Next.f k x.1 x.2⟩
def gnomonref09_Next.F : Fam (RT.dens (gnomonref09_Next.ce 0).rts) := ⟨fun k => ⟨TT0, GL0, callT [(241, [], gnomonref09_begin.ce k), (242, [], gnomonref09_digit.ce), (243, [], gnomonref09_number.ce k), (244, [], gnomonref09_letter.ce)], cmpT CM0, []⟩, [(1000004, ⟨⟨[(0, .v false .str), (1, .v false (.int .i64)), (4, .k (.ptr 256 0))], [(256, [.v (.int .i64), .v .str, .v (.int .i64), .v (.int .i64)])]⟩, fun k s => gnomonref09_Next.j0 k s.1.1 s.1.2.1 s.2.1.1 s.2.1.2.1 s.2.1.2.2.1 s.2.1.2.2.2.1⟩), (11, ⟨⟨[(0, .v false .str), (1, .v false (.int .i64)), (4, .k (.ptr 256 0)), (7, .v false (.int .i64))], [(256, [.v (.int .i64), .v .str, .v (.int .i64), .v (.int .i64)])]⟩, fun k s => gnomonref09_Next.l1 k s.1.1 s.1.2.1 s.1.2.2.1 s.2.1.1 s.2.1.2.1 s.2.1.2.2.1 s.2.1.2.2.2.1⟩), (16, ⟨⟨[(0, .v false .str), (1, .v false (.int .i64)), (4, .k (.ptr 256 0)), (8, .v false (.ref (.prod .str (.prod .str (.prod .str (.prod .str (.prod .str (.prod .str (.prod .str (.prod .str (.prod .str (.prod .str .str)))))))))))), (9, .v false (.int .i64))], [(256, [.v (.int .i64), .v .str, .v (.int .i64), .v (.int .i64)])]⟩, fun k s => gnomonref09_Next.l2 k s.1.1 s.1.2.1 s.1.2.2.1 s.1.2.2.2.1 s.2.1.1 s.2.1.2.1 s.2.1.2.2.1 s.2.1.2.2.2.1⟩), (22, ⟨⟨[(0, .v false .str), (1, .v false (.int .i64)), (4, .k (.ptr 256 0)), (10, .v false .str), (11, .v false (.int .i64))], [(256, [.v (.int .i64), .v .str, .v (.int .i64), .v (.int .i64)])]⟩, fun k s => gnomonref09_Next.l3 k s.1.1 s.1.2.1 s.1.2.2.1 s.1.2.2.2.1 s.2.1.1 s.2.1.2.1 s.2.1.2.2.1 s.2.1.2.2.2.1⟩)]⟩
theorem gnomonref09_Next.is (k : Nat) (x : AT.dens (gnomonref09_Next.ce 0).ats) : (gnomonref09_Next.ce k).fn x = den gnomonref09_Next.F k (bodyOf Tryz.f238) (startAS (gnomonref09_Next.ce 0).ats x) (retK (gnomonref09_Next.F.c k) Tryz.f238.results.toList (gnomonref09_Next.ce 0).rts) := by kernel_rfl
theorem gnomonref09_Next.ob : Obl gnomonref09_Next.F (bodyOf Tryz.f238) (fun k => retK (gnomonref09_Next.F.c k) Tryz.f238.results.toList (gnomonref09_Next.ce 0).rts) := obl_of (by kernel_rfl)
/-! ### gnomonref09_IsName: function 228 -/
def gnomonref09_IsName.l0 : Nat → ByteArray → (ByteArray × ByteArray × ByteArray × ByteArray × ByteArray × ByteArray × ByteArray × ByteArray × ByteArray × ByteArray × ByteArray × ByteArray × ByteArray × ByteArray × ByteArray) → Int → Option Bool
 | 0, _, _, _ => none
 | k + 1, x0, x3, x4 => if x4 < 15 then (if 0 ≤ x4 then (if x4 < ((15 : Nat) : Int) then (if x0 = (rdT .str ([x3.1, x3.2.1, x3.2.2.1, x3.2.2.2.1, x3.2.2.2.2.1, x3.2.2.2.2.2.1, x3.2.2.2.2.2.2.1, x3.2.2.2.2.2.2.2.1, x3.2.2.2.2.2.2.2.2.1, x3.2.2.2.2.2.2.2.2.2.1, x3.2.2.2.2.2.2.2.2.2.2.1, x3.2.2.2.2.2.2.2.2.2.2.2.1, x3.2.2.2.2.2.2.2.2.2.2.2.2.1, x3.2.2.2.2.2.2.2.2.2.2.2.2.2.1, x3.2.2.2.2.2.2.2.2.2.2.2.2.2.2] : List ByteArray) x4) then (some false) else (gnomonref09_IsName.l0 k x0 x3 (w64 (x4 + 1)))) else (none)) else (none)) else ((gnomonref09_Next.f k x0 0).bind fun t1 => (if x0 = (⟨#[110, 101, 118, 101, 114]⟩ : ByteArray) then (some false) else (if t1.2.2.2.2.2 = 0 then (if t1.1 = 1 then (if t1.2.2.2.2.1 = (x0.size : Int) then (if t1.2.2.2.1 = 0 then (some (decide ((x0.size : Int) ≤ 16))) else (some false)) else (some false)) else (some false)) else (some false))))
def gnomonref09_IsName.f (k : Nat) (a0 : ByteArray) : Option Bool := gnomonref09_IsName.l0 k a0 ((⟨#[99, 108, 111, 99, 107]⟩ : ByteArray), (⟨#[105, 110, 116]⟩ : ByteArray), (⟨#[99, 104, 97, 110]⟩ : ByteArray), (⟨#[97, 117, 116, 111]⟩ : ByteArray), (⟨#[108, 111, 99]⟩ : ByteArray), (⟨#[101, 100, 103, 101]⟩ : ByteArray), (⟨#[105, 110]⟩ : ByteArray), (⟨#[105, 110, 118]⟩ : ByteArray), (⟨#[119, 104, 101, 110]⟩ : ByteArray), (⟨#[115, 121, 110, 99]⟩ : ByteArray), (⟨#[100, 111]⟩ : ByteArray), (⟨#[117, 114, 103, 101, 110, 116]⟩ : ByteArray), (⟨#[99, 111, 109, 109, 105, 116, 116, 101, 100]⟩ : ByteArray), (⟨#[116, 114, 117, 101]⟩ : ByteArray), (⟨#[114, 101, 97, 99, 104]⟩ : ByteArray)) 0
def gnomonref09_IsName.ce (k : Nat) : CallE := ⟨[⟨false, .str⟩], [⟨false, [.v .bool]⟩], fun (x : ByteArray) => gnomonref09_IsName.f k x⟩
def gnomonref09_IsName.F : Fam (RT.dens (gnomonref09_IsName.ce 0).rts) := ⟨fun k => ⟨TT0, GL0, callT [(238, [], gnomonref09_Next.ce k)], cmpT CM0, []⟩, [(4, ⟨⟨[(0, .v false .str), (3, .v false (.ref (.prod .str (.prod .str (.prod .str (.prod .str (.prod .str (.prod .str (.prod .str (.prod .str (.prod .str (.prod .str (.prod .str (.prod .str (.prod .str (.prod .str .str)))))))))))))))), (4, .v false (.int .i64))], []⟩, fun k s => gnomonref09_IsName.l0 k s.1.1 s.1.2.1 s.1.2.2.1⟩)]⟩
theorem gnomonref09_IsName.is (k : Nat) (x : AT.dens (gnomonref09_IsName.ce 0).ats) : (gnomonref09_IsName.ce k).fn x = den gnomonref09_IsName.F k (bodyOf Tryz.f228) (startAS (gnomonref09_IsName.ce 0).ats x) (retK (gnomonref09_IsName.F.c k) Tryz.f228.results.toList (gnomonref09_IsName.ce 0).rts) := by kernel_rfl
theorem gnomonref09_IsName.ob : Obl gnomonref09_IsName.F (bodyOf Tryz.f228) (fun k => retK (gnomonref09_IsName.F.c k) Tryz.f228.results.toList (gnomonref09_IsName.ce 0).rts) := obl_of (by kernel_rfl)
/-! ### gnomonref10_isName: function 211 -/
def gnomonref10_isName.f (k : Nat) (a0 : ByteArray) : Option Bool := (gnomonref09_IsName.f k a0).bind fun t1 => (if t1 = true then (some (decide ((a0.size : Int) ≤ 16))) else (some false))
def gnomonref10_isName.ce (k : Nat) : CallE := ⟨[⟨false, .str⟩], [⟨false, [.v .bool]⟩], fun (x : ByteArray) => gnomonref10_isName.f k x⟩
def gnomonref10_isName.F : Fam (RT.dens (gnomonref10_isName.ce 0).rts) := ⟨fun k => ⟨TT0, GL0, callT [(228, [], gnomonref09_IsName.ce k)], cmpT CM0, []⟩, []⟩
theorem gnomonref10_isName.is (k : Nat) (x : AT.dens (gnomonref10_isName.ce 0).ats) : (gnomonref10_isName.ce k).fn x = den gnomonref10_isName.F k (bodyOf Tryz.f211) (startAS (gnomonref10_isName.ce 0).ats x) (retK (gnomonref10_isName.F.c k) Tryz.f211.results.toList (gnomonref10_isName.ce 0).rts) := by kernel_rfl
theorem gnomonref10_isName.ob : Obl gnomonref10_isName.F (bodyOf Tryz.f211) (fun k => retK (gnomonref10_isName.F.c k) Tryz.f211.results.toList (gnomonref10_isName.ce 0).rts) := obl_of (by kernel_rfl)
/-! ### gnomonref10_named: function 187 -/
mutual
def gnomonref10_named.l0 : Nat → (List ByteArray) → Int → Option Bool
 | 0, _, _ => none
 | k + 1, x0, x3 => if x3 < (x0.length : Int) then (if 0 ≤ x3 then (if x3 < (x0.length : Int) then ((gnomonref10_isName.f k (rdT .str x0 x3)).bind fun t1 => (if (!t1) = true then (some false) else (gnomonref10_named.l1 k x0 x3 0))) else (none)) else (none)) else (some true)
def gnomonref10_named.l1 : Nat → (List ByteArray) → Int → Int → Option Bool
 | 0, _, _, _ => none
 | k + 1, x0, x3, x4 => if x4 < x3 then (if 0 ≤ x4 then (if x4 < (x0.length : Int) then (if 0 ≤ x3 then (if x3 < (x0.length : Int) then (if (rdT .str x0 x4) = (rdT .str x0 x3) then (some false) else (gnomonref10_named.l1 k x0 x3 (w64 (x4 + 1)))) else (none)) else (none)) else (none)) else (none)) else (gnomonref10_named.l0 k x0 (w64 (x3 + 1)))
end
def gnomonref10_named.f (k : Nat) (a0 : List ByteArray) : Option Bool := gnomonref10_named.l0 k a0 0
def gnomonref10_named.ce (k : Nat) : CallE := ⟨[⟨false, (.list .str)⟩], [⟨false, [.v .bool]⟩], fun (x : (List ByteArray)) => gnomonref10_named.f k x⟩
def gnomonref10_named.F : Fam (RT.dens (gnomonref10_named.ce 0).rts) := ⟨fun k => ⟨TT0, GL0, callT [(211, [], gnomonref10_isName.ce k)], cmpT CM0, []⟩, [(3, ⟨⟨[(0, .v false (.list .str)), (3, .v false (.int .i64))], []⟩, fun k s => gnomonref10_named.l0 k s.1.1 s.1.2.1⟩), (8, ⟨⟨[(0, .v false (.list .str)), (3, .v false (.int .i64)), (4, .v false (.int .i64))], []⟩, fun k s => gnomonref10_named.l1 k s.1.1 s.1.2.1 s.1.2.2.1⟩)]⟩
theorem gnomonref10_named.is (k : Nat) (x : AT.dens (gnomonref10_named.ce 0).ats) : (gnomonref10_named.ce k).fn x = den gnomonref10_named.F k (bodyOf Tryz.f187) (startAS (gnomonref10_named.ce 0).ats x) (retK (gnomonref10_named.F.c k) Tryz.f187.results.toList (gnomonref10_named.ce 0).rts) := by kernel_rfl
theorem gnomonref10_named.ob : Obl gnomonref10_named.F (bodyOf Tryz.f187) (fun k => retK (gnomonref10_named.F.c k) Tryz.f187.results.toList (gnomonref10_named.ce 0).rts) := obl_of (by kernel_rfl)
/-! ### gnomonref10_Names: function 200 -/
def gnomonref10_Names.l0 : Nat → (List ByteArray) → Int → (List ByteArray) → (List S104) → (List ByteArray) → (List S94) → Option (List ByteArray)
 | 0, _, _, _, _, _, _ => none
 | k + 1, x3, x4, x1_0, x1_1, x1_2, x1_3 => if x4 < (x1_1.length : Int) then (if 0 ≤ x4 then (if x4 < (x1_1.length : Int) then (if x3.length < 8796093022208 then (gnomonref10_Names.l0 k (x3 ++ [(rd_T104 x1_1 x4).f0]) (w64 (x4 + 1)) x1_0 x1_1 x1_2 x1_3) else (none)) else (none)) else (none)) else (some x3)
def gnomonref10_Names.f (k : Nat) (l0_0 : List ByteArray) (l0_1 : List S104) (l0_2 : List ByteArray) (l0_3 : List S94) : Option (List ByteArray) := gnomonref10_Names.l0 k ([] : List ByteArray) 0 l0_0 l0_1 l0_2 l0_3
def gnomonref10_Names.ce (k : Nat) : CallE := ⟨[⟨true, T26⟩], [⟨false, [.o 9 .str]⟩], fun (x : S26) => gnomonref10_Names.f k x.f0 x.f1 x.f2 x.f3⟩
def gnomonref10_Names.F : Fam (RT.dens (gnomonref10_Names.ce 0).rts) := ⟨fun k => ⟨TT0, GL0, callT [], cmpT CM0, []⟩, [(4, ⟨⟨[(1, .k (.ptr 64 0)), (3, .o 9 .str), (4, .v false (.int .i64))], [(64, [.v (.list .str), .v (.list T104), .v (.list .str), .v (.list T94)])]⟩, fun k s => gnomonref10_Names.l0 k s.1.1 s.1.2.1 s.2.1.1 s.2.1.2.1 s.2.1.2.2.1 s.2.1.2.2.2.1⟩)]⟩
theorem gnomonref10_Names.is (k : Nat) (x : AT.dens (gnomonref10_Names.ce 0).ats) : (gnomonref10_Names.ce k).fn x = den gnomonref10_Names.F k (bodyOf Tryz.f200) (startAS (gnomonref10_Names.ce 0).ats x) (retK (gnomonref10_Names.F.c k) Tryz.f200.results.toList (gnomonref10_Names.ce 0).rts) := by kernel_rfl
theorem gnomonref10_Names.ob : Obl gnomonref10_Names.F (bodyOf Tryz.f200) (fun k => retK (gnomonref10_Names.F.c k) Tryz.f200.results.toList (gnomonref10_Names.ce 0).rts) := obl_of (by kernel_rfl)
/-! ### gnomonref10_names: function 188 -/
def gnomonref10_names.l0 : Nat → (List ByteArray) → Int → (List ByteArray) → (List S104) → (List ByteArray) → (List S94) → Option (List ByteArray)
 | 0, _, _, _, _, _, _ => none
 | k + 1, x3, x4, x1_0, x1_1, x1_2, x1_3 => if x4 < (x1_3.length : Int) then (if 0 ≤ x4 then (if x4 < (x1_3.length : Int) then (if x3.length < 8796093022208 then (gnomonref10_names.l0 k (x3 ++ [(rd_T94 x1_3 x4).f0]) (w64 (x4 + 1)) x1_0 x1_1 x1_2 x1_3) else (none)) else (none)) else (none)) else (some x3)
def gnomonref10_names.f (k : Nat) (l0_0 : List ByteArray) (l0_1 : List S104) (l0_2 : List ByteArray) (l0_3 : List S94) : Option (List ByteArray) := if ([] : List ByteArray).length + l0_0.length ≤ 8796093022208 then ((gnomonref10_Names.f k l0_0 l0_1 l0_2 l0_3).bind fun t1 => (if (([] : List ByteArray) ++ l0_0).length + t1.length ≤ 8796093022208 then (if ((([] : List ByteArray) ++ l0_0) ++ t1).length + l0_2.length ≤ 8796093022208 then (gnomonref10_names.l0 k (((([] : List ByteArray) ++ l0_0) ++ t1) ++ l0_2) 0 l0_0 l0_1 l0_2 l0_3) else (none)) else (none))) else (none)
def gnomonref10_names.ce (k : Nat) : CallE := ⟨[⟨true, T26⟩], [⟨false, [.o 9 .str]⟩], fun (x : S26) => gnomonref10_names.f k x.f0 x.f1 x.f2 x.f3⟩
def gnomonref10_names.F : Fam (RT.dens (gnomonref10_names.ce 0).rts) := ⟨fun k => ⟨TT0, GL0, callT [(200, [], gnomonref10_Names.ce k)], cmpT CM0, []⟩, [(6, ⟨⟨[(1, .k (.ptr 64 0)), (3, .o 9 .str), (4, .v false (.int .i64))], [(64, [.v (.list .str), .v (.list T104), .v (.list .str), .v (.list T94)])]⟩, fun k s => gnomonref10_names.l0 k s.1.1 s.1.2.1 s.2.1.1 s.2.1.2.1 s.2.1.2.2.1 s.2.1.2.2.2.1⟩)]⟩
theorem gnomonref10_names.is (k : Nat) (x : AT.dens (gnomonref10_names.ce 0).ats) : (gnomonref10_names.ce k).fn x = den gnomonref10_names.F k (bodyOf Tryz.f188) (startAS (gnomonref10_names.ce 0).ats x) (retK (gnomonref10_names.F.c k) Tryz.f188.results.toList (gnomonref10_names.ce 0).rts) := by kernel_rfl
theorem gnomonref10_names.ob : Obl gnomonref10_names.F (bodyOf Tryz.f188) (fun k => retK (gnomonref10_names.F.c k) Tryz.f188.results.toList (gnomonref10_names.ce 0).rts) := obl_of (by kernel_rfl)
/-! ### gnomonref10_wrongNames: function 82 -/
mutual
def gnomonref10_wrongNames.l0 : Nat → Int → (List ByteArray) → (List S104) → (List ByteArray) → (List S94) → Option Bool
 | 0, _, _, _, _, _ => none
 | k + 1, x3, x1_0, x1_1, x1_2, x1_3 => if x3 < (x1_3.length : Int) then (gnomonref10_wrongNames.l1 k x3 ([] : List ByteArray) 0 x1_0 x1_1 x1_2 x1_3) else (some false)
def gnomonref10_wrongNames.l1 : Nat → Int → (List ByteArray) → Int → (List ByteArray) → (List S104) → (List ByteArray) → (List S94) → Option Bool
 | 0, _, _, _, _, _, _, _ => none
 | k + 1, x3, x4, x5, x1_0, x1_1, x1_2, x1_3 => if 0 ≤ x3 then (if x3 < (x1_3.length : Int) then (if x5 < (((rd_T94 x1_3 x3).f1).length : Int) then (if 0 ≤ x3 then (if x3 < (x1_3.length : Int) then (if 0 ≤ x5 then (if x5 < (((rd_T94 x1_3 x3).f1).length : Int) then (if x4.length < 8796093022208 then (gnomonref10_wrongNames.l1 k x3 (x4 ++ [(rd_T102 ((rd_T94 x1_3 x3).f1) x5).f0]) (w64 (x5 + 1)) x1_0 x1_1 x1_2 x1_3) else (none)) else (none)) else (none)) else (none)) else (none)) else ((gnomonref10_named.f k x4).bind fun t3 => (if (!t3) = true then (some true) else (gnomonref10_wrongNames.l0 k (w64 (x3 + 1)) x1_0 x1_1 x1_2 x1_3)))) else (none)) else (none)
end
def gnomonref10_wrongNames.f (k : Nat) (l0_0 : List ByteArray) (l0_1 : List S104) (l0_2 : List ByteArray) (l0_3 : List S94) : Option Bool := (gnomonref10_names.f k l0_0 l0_1 l0_2 l0_3).bind fun t1 => ((gnomonref10_named.f k t1).bind fun t2 => (if (!t2) = true then (some true) else (gnomonref10_wrongNames.l0 k 0 l0_0 l0_1 l0_2 l0_3)))
def gnomonref10_wrongNames.ce (k : Nat) : CallE := ⟨[⟨true, T26⟩], [⟨false, [.v .bool]⟩], fun (x : S26) => gnomonref10_wrongNames.f k x.f0 x.f1 x.f2 x.f3⟩
def gnomonref10_wrongNames.F : Fam (RT.dens (gnomonref10_wrongNames.ce 0).rts) := ⟨fun k => ⟨TT0, GL0, callT [(187, [], gnomonref10_named.ce k), (188, [], gnomonref10_names.ce k)], cmpT CM0, []⟩, [(5, ⟨⟨[(1, .k (.ptr 64 0)), (3, .v false (.int .i64))], [(64, [.v (.list .str), .v (.list T104), .v (.list .str), .v (.list T94)])]⟩, fun k s => gnomonref10_wrongNames.l0 k s.1.1 s.2.1.1 s.2.1.2.1 s.2.1.2.2.1 s.2.1.2.2.2.1⟩), (9, ⟨⟨[(1, .k (.ptr 64 0)), (3, .v false (.int .i64)), (4, .o 9 .str), (5, .v false (.int .i64))], [(64, [.v (.list .str), .v (.list T104), .v (.list .str), .v (.list T94)])]⟩, fun k s => gnomonref10_wrongNames.l1 k s.1.1 s.1.2.1 s.1.2.2.1 s.2.1.1 s.2.1.2.1 s.2.1.2.2.1 s.2.1.2.2.2.1⟩)]⟩
theorem gnomonref10_wrongNames.is (k : Nat) (x : AT.dens (gnomonref10_wrongNames.ce 0).ats) : (gnomonref10_wrongNames.ce k).fn x = den gnomonref10_wrongNames.F k (bodyOf Tryz.f82) (startAS (gnomonref10_wrongNames.ce 0).ats x) (retK (gnomonref10_wrongNames.F.c k) Tryz.f82.results.toList (gnomonref10_wrongNames.ce 0).rts) := by kernel_rfl
theorem gnomonref10_wrongNames.ob : Obl gnomonref10_wrongNames.F (bodyOf Tryz.f82) (fun k => retK (gnomonref10_wrongNames.F.c k) Tryz.f82.results.toList (gnomonref10_wrongNames.ce 0).rts) := obl_of (by kernel_rfl)
/-! ### gnomonref10_isValue: function 83 -/
def gnomonref10_isValue.f (a0 : Int) : Option Bool := if a0 ≥ (-1048576) then (some (decide (a0 ≤ 1048576))) else (some false)
def gnomonref10_isValue.ce : CallE := ⟨[⟨false, (.int .i64)⟩], [⟨false, [.v .bool]⟩], fun (x : Int) => gnomonref10_isValue.f x⟩
def gnomonref10_isValue.F : Fam (RT.dens (gnomonref10_isValue.ce).rts) := ⟨fun k => ⟨TT0, GL0, callT [], cmpT CM0, []⟩, []⟩
theorem gnomonref10_isValue.is (k : Nat) (x : AT.dens (gnomonref10_isValue.ce).ats) : (gnomonref10_isValue.ce).fn x = den gnomonref10_isValue.F k (bodyOf Tryz.f83) (startAS (gnomonref10_isValue.ce).ats x) (retK (gnomonref10_isValue.F.c k) Tryz.f83.results.toList (gnomonref10_isValue.ce).rts) := by kernel_rfl
theorem gnomonref10_isValue.ob : Obl gnomonref10_isValue.F (bodyOf Tryz.f83) (fun k => retK (gnomonref10_isValue.F.c k) Tryz.f83.results.toList (gnomonref10_isValue.ce).rts) := obl_of (by kernel_rfl)
/-! ### gnomonref10_clockless: function 127 -/
def gnomonref10_clockless.f (l0_0 : List ByteArray) (l0_1 : List S104) (l0_2 : List ByteArray) (l0_3 : List S94) (l1_0 : Int) (l1_1 : Int) (l1_2 : Int) (l1_3 : Int) : Option Bool := if l1_0 < 1 then (some true) else (if l1_0 > (l0_0.length : Int) then (some true) else (if l1_1 < 0 then (some true) else (some (decide (l1_1 > (l0_0.length : Int))))))
def gnomonref10_clockless.ce : CallE := ⟨[⟨true, T26⟩, ⟨true, T38⟩], [⟨false, [.v .bool]⟩], fun (x : S26 × S38) => gnomonref10_clockless.f x.1.f0 x.1.f1 x.1.f2 x.1.f3 x.2.f0 x.2.f1 x.2.f2 x.2.f3⟩
def gnomonref10_clockless.F : Fam (RT.dens (gnomonref10_clockless.ce).rts) := ⟨fun k => ⟨TT0, GL0, callT [], cmpT CM0, []⟩, []⟩
theorem gnomonref10_clockless.is (k : Nat) (x : AT.dens (gnomonref10_clockless.ce).ats) : (gnomonref10_clockless.ce).fn x = den gnomonref10_clockless.F k (bodyOf Tryz.f127) (startAS (gnomonref10_clockless.ce).ats x) (retK (gnomonref10_clockless.F.c k) Tryz.f127.results.toList (gnomonref10_clockless.ce).rts) := by kernel_rfl
theorem gnomonref10_clockless.ob : Obl gnomonref10_clockless.F (bodyOf Tryz.f127) (fun k => retK (gnomonref10_clockless.F.c k) Tryz.f127.results.toList (gnomonref10_clockless.ce).rts) := obl_of (by kernel_rfl)
/-! ### gnomonref10_cmpless: function 128 -/
def gnomonref10_cmpless.f (l0_0 : Int) (l0_1 : Int) (l0_2 : Int) (l0_3 : Int) : Option Bool := if l0_2 < 1 then (some true) else (some (decide (l0_2 > 5)))
def gnomonref10_cmpless.ce : CallE := ⟨[⟨true, T38⟩], [⟨false, [.v .bool]⟩], fun (x : S38) => gnomonref10_cmpless.f x.f0 x.f1 x.f2 x.f3⟩
def gnomonref10_cmpless.F : Fam (RT.dens (gnomonref10_cmpless.ce).rts) := ⟨fun k => ⟨TT0, GL0, callT [], cmpT CM0, []⟩, []⟩
theorem gnomonref10_cmpless.is (k : Nat) (x : AT.dens (gnomonref10_cmpless.ce).ats) : (gnomonref10_cmpless.ce).fn x = den gnomonref10_cmpless.F k (bodyOf Tryz.f128) (startAS (gnomonref10_cmpless.ce).ats x) (retK (gnomonref10_cmpless.F.c k) Tryz.f128.results.toList (gnomonref10_cmpless.ce).rts) := by kernel_rfl
theorem gnomonref10_cmpless.ob : Obl gnomonref10_cmpless.F (bodyOf Tryz.f128) (fun k => retK (gnomonref10_cmpless.F.c k) Tryz.f128.results.toList (gnomonref10_cmpless.ce).rts) := obl_of (by kernel_rfl)
/-! ### gnomonref10_guards: function 97 -/
def gnomonref10_guards.l0 : Nat → (List S38) → Int → Int → (List ByteArray) → (List S104) → (List ByteArray) → (List S94) → Option Bool
 | 0, _, _, _, _, _, _, _ => none
 | k + 1, x1, x2, x7, x3_0, x3_1, x3_2, x3_3 => if x7 < (x1.length : Int) then (if x2 = 12 then (if 0 ≤ x7 then (if x7 < (x1.length : Int) then ((gnomonref10_clockless.f x3_0 x3_1 x3_2 x3_3 ((rd_T38 x1 x7).f0) ((rd_T38 x1 x7).f1) ((rd_T38 x1 x7).f2) ((rd_T38 x1 x7).f3)).bind fun t1 => (if t1 = true then (some true) else (if x2 = 7 then (if 0 ≤ x7 then (if x7 < (x1.length : Int) then ((gnomonref10_cmpless.f ((rd_T38 x1 x7).f0) ((rd_T38 x1 x7).f1) ((rd_T38 x1 x7).f2) ((rd_T38 x1 x7).f3)).bind fun t2 => (if t2 = true then (some true) else (gnomonref10_guards.l0 k x1 x2 (w64 (x7 + 1)) x3_0 x3_1 x3_2 x3_3))) else (none)) else (none)) else (gnomonref10_guards.l0 k x1 x2 (w64 (x7 + 1)) x3_0 x3_1 x3_2 x3_3)))) else (none)) else (none)) else (if x2 = 7 then (if 0 ≤ x7 then (if x7 < (x1.length : Int) then ((gnomonref10_cmpless.f ((rd_T38 x1 x7).f0) ((rd_T38 x1 x7).f1) ((rd_T38 x1 x7).f2) ((rd_T38 x1 x7).f3)).bind fun t3 => (if t3 = true then (some true) else (gnomonref10_guards.l0 k x1 x2 (w64 (x7 + 1)) x3_0 x3_1 x3_2 x3_3))) else (none)) else (none)) else (gnomonref10_guards.l0 k x1 x2 (w64 (x7 + 1)) x3_0 x3_1 x3_2 x3_3))) else (some false)
def gnomonref10_guards.f (k : Nat) (l0_0 : List ByteArray) (l0_1 : List S104) (l0_2 : List ByteArray) (l0_3 : List S94) (a1 : List S38) (a2 : Int) : Option Bool := gnomonref10_guards.l0 k a1 a2 0 l0_0 l0_1 l0_2 l0_3
def gnomonref10_guards.ce (k : Nat) : CallE := ⟨[⟨true, T26⟩, ⟨false, (.list T38)⟩, ⟨false, (.int .i64)⟩], [⟨false, [.v .bool]⟩], fun (x : S26 × (List S38) × Int) => gnomonref10_guards.f k x.1.f0 x.1.f1 x.1.f2 x.1.f3 x.2.1 x.2.2⟩
def gnomonref10_guards.F : Fam (RT.dens (gnomonref10_guards.ce 0).rts) := ⟨fun k => ⟨TT0, GL0, callT [(127, [], gnomonref10_clockless.ce), (128, [], gnomonref10_cmpless.ce)], cmpT CM0, []⟩, [(3, ⟨⟨[(1, .v false (.list T38)), (2, .v false (.int .i64)), (3, .k (.ptr 192 0)), (7, .v false (.int .i64))], [(192, [.v (.list .str), .v (.list T104), .v (.list .str), .v (.list T94)])]⟩, fun k s => gnomonref10_guards.l0 k s.1.1 s.1.2.1 s.1.2.2.1 s.2.1.1 s.2.1.2.1 s.2.1.2.2.1 s.2.1.2.2.2.1⟩)]⟩
theorem gnomonref10_guards.is (k : Nat) (x : AT.dens (gnomonref10_guards.ce 0).ats) : (gnomonref10_guards.ce k).fn x = den gnomonref10_guards.F k (bodyOf Tryz.f97) (startAS (gnomonref10_guards.ce 0).ats x) (retK (gnomonref10_guards.F.c k) Tryz.f97.results.toList (gnomonref10_guards.ce 0).rts) := by kernel_rfl
theorem gnomonref10_guards.ob : Obl gnomonref10_guards.F (bodyOf Tryz.f97) (fun k => retK (gnomonref10_guards.F.c k) Tryz.f97.results.toList (gnomonref10_guards.ce 0).rts) := obl_of (by kernel_rfl)
/-! ### gnomonref08_parts: function 213 -/
def gnomonref08_parts.j0 : Nat → Int → Bool → Option Int
 | 0, _, _ => none
 | k + 1, x3, x4 => if x4 = true then (some 1) else (if x3 = 4 then (if x3 = 4 then (some 2) else (some 0)) else (if x3 = 5 then (if x3 = 5 then (some 2) else (some 0)) else (if x3 = 6 then (if x3 = 6 then (some 2) else (some 0)) else (if x3 = 8 then (if x3 = 8 then (some 2) else (some 0)) else (if x3 = 9 then (if x3 = 9 then (some 2) else (some 0)) else (if x3 = 10 then (if x3 = 10 then (some 2) else (some 0)) else (if x3 = 11 then (if x3 = 11 then (some 2) else (some 0)) else (if x3 = 13 then (if x3 = 13 then (some 2) else (some 0)) else (if x3 = 14 then (some 2) else (some 0))))))))))
def gnomonref08_parts.f (k : Nat) (a0 : Int) : Option Int := if a0 = 3 then (gnomonref08_parts.j0 k a0 (decide (a0 = 3))) else (gnomonref08_parts.j0 k a0 (decide (a0 = 12)))
def gnomonref08_parts.ce (k : Nat) : CallE := ⟨[⟨false, (.int .u8)⟩], [⟨false, [.v (.int .i64)]⟩], fun (x : Int) => gnomonref08_parts.f k x⟩
def gnomonref08_parts.F : Fam (RT.dens (gnomonref08_parts.ce 0).rts) := ⟨fun k => ⟨TT0, GL0, callT [], cmpT CM0, []⟩, [(1000005, ⟨⟨[(3, .v false (.int .u8)), (4, .v false .bool)], []⟩, fun k s => gnomonref08_parts.j0 k s.1.1 s.1.2.1⟩)]⟩
theorem gnomonref08_parts.is (k : Nat) (x : AT.dens (gnomonref08_parts.ce 0).ats) : (gnomonref08_parts.ce k).fn x = den gnomonref08_parts.F k (bodyOf Tryz.f213) (startAS (gnomonref08_parts.ce 0).ats x) (retK (gnomonref08_parts.F.c k) Tryz.f213.results.toList (gnomonref08_parts.ce 0).rts) := by kernel_rfl
theorem gnomonref08_parts.ob : Obl gnomonref08_parts.F (bodyOf Tryz.f213) (fun k => retK (gnomonref08_parts.F.c k) Tryz.f213.results.toList (gnomonref08_parts.ce 0).rts) := obl_of (by kernel_rfl)
/-! ### gnomonref08_End: function 212 -/
mutual
def gnomonref08_End.j0 : Nat → (List S148) → Int → Option Int
 | 0, _, _ => none
 | k + 1, x0, x1 => gnomonref08_End.l1 k x0 1 x1
def gnomonref08_End.l1 : Nat → (List S148) → Int → Int → Option Int
 | 0, _, _, _ => none
 | k + 1, x0, x5, x6 => if x6 < (x0.length : Int) then (if 0 ≤ x6 then (if x6 < (x0.length : Int) then ((gnomonref08_parts.f k ((rd_T148 x0 x6).f0)).bind fun t1 => (if (w64 (x5 + (w64 (t1 - 1)))) = 0 then (some (w64 (x6 + 1))) else (gnomonref08_End.l1 k x0 (w64 (x5 + (w64 (t1 - 1)))) (w64 (x6 + 1))))) else (none)) else (none)) else (some 0)
end
def gnomonref08_End.f (k : Nat) (a0 : List S148) (a1 : Int) : Option Int := if a1 < 0 then (some 0) else (if a1 ≥ (a0.length : Int) then (some 0) else (gnomonref08_End.j0 k a0 a1))
def gnomonref08_End.ce (k : Nat) : CallE := ⟨[⟨false, (.list T148)⟩, ⟨false, (.int .i64)⟩], [⟨false, [.v (.int .i64)]⟩], fun (x : (List S148) × Int) => gnomonref08_End.f k x.1 x.2⟩
def gnomonref08_End.F : Fam (RT.dens (gnomonref08_End.ce 0).rts) := ⟨fun k => ⟨TT0, GL0, callT [(213, [], gnomonref08_parts.ce k)], cmpT CM0, []⟩, [(1000004, ⟨⟨[(0, .v false (.list T148)), (1, .v false (.int .i64))], []⟩, fun k s => gnomonref08_End.j0 k s.1.1 s.1.2.1⟩), (6, ⟨⟨[(0, .v false (.list T148)), (5, .v false (.int .i64)), (6, .v false (.int .i64))], []⟩, fun k s => gnomonref08_End.l1 k s.1.1 s.1.2.1 s.1.2.2.1⟩)]⟩
theorem gnomonref08_End.is (k : Nat) (x : AT.dens (gnomonref08_End.ce 0).ats) : (gnomonref08_End.ce k).fn x = den gnomonref08_End.F k (bodyOf Tryz.f212) (startAS (gnomonref08_End.ce 0).ats x) (retK (gnomonref08_End.F.c k) Tryz.f212.results.toList (gnomonref08_End.ce 0).rts) := by kernel_rfl
theorem gnomonref08_End.ob : Obl gnomonref08_End.F (bodyOf Tryz.f212) (fun k => retK (gnomonref08_End.F.c k) Tryz.f212.results.toList (gnomonref08_End.ce 0).rts) := obl_of (by kernel_rfl)
/-! ### gnomonref08_truth: function 214 -/
def gnomonref08_truth.f (a0 : Int) : Option Bool := if a0 ≥ 7 then (some (decide (a0 ≤ 14))) else (some false)
def gnomonref08_truth.ce : CallE := ⟨[⟨false, (.int .u8)⟩], [⟨false, [.v .bool]⟩], fun (x : Int) => gnomonref08_truth.f x⟩
def gnomonref08_truth.F : Fam (RT.dens (gnomonref08_truth.ce).rts) := ⟨fun k => ⟨TT0, GL0, callT [], cmpT CM0, []⟩, []⟩
theorem gnomonref08_truth.is (k : Nat) (x : AT.dens (gnomonref08_truth.ce).ats) : (gnomonref08_truth.ce).fn x = den gnomonref08_truth.F k (bodyOf Tryz.f214) (startAS (gnomonref08_truth.ce).ats x) (retK (gnomonref08_truth.F.c k) Tryz.f214.results.toList (gnomonref08_truth.ce).rts) := by kernel_rfl
theorem gnomonref08_truth.ob : Obl gnomonref08_truth.F (bodyOf Tryz.f214) (fun k => retK (gnomonref08_truth.F.c k) Tryz.f214.results.toList (gnomonref08_truth.ce).rts) := obl_of (by kernel_rfl)
/-! ### gnomonref08_numbers: function 215 -/
def gnomonref08_numbers.f (a0 : Int) : Option Bool := if a0 = 3 then (some true) else (if a0 = 4 then (some true) else (if a0 = 5 then (some true) else (if a0 = 6 then (some true) else (if a0 ≥ 8 then (some (decide (a0 ≤ 11))) else (some false)))))
def gnomonref08_numbers.ce : CallE := ⟨[⟨false, (.int .u8)⟩], [⟨false, [.v .bool]⟩], fun (x : Int) => gnomonref08_numbers.f x⟩
def gnomonref08_numbers.F : Fam (RT.dens (gnomonref08_numbers.ce).rts) := ⟨fun k => ⟨TT0, GL0, callT [], cmpT CM0, []⟩, []⟩
theorem gnomonref08_numbers.is (k : Nat) (x : AT.dens (gnomonref08_numbers.ce).ats) : (gnomonref08_numbers.ce).fn x = den gnomonref08_numbers.F k (bodyOf Tryz.f215) (startAS (gnomonref08_numbers.ce).ats x) (retK (gnomonref08_numbers.F.c k) Tryz.f215.results.toList (gnomonref08_numbers.ce).rts) := by kernel_rfl
theorem gnomonref08_numbers.ob : Obl gnomonref08_numbers.F (bodyOf Tryz.f215) (fun k => retK (gnomonref08_numbers.F.c k) Tryz.f215.results.toList (gnomonref08_numbers.ce).rts) := obl_of (by kernel_rfl)
/-! ### gnomonref08_Right: function 192 -/
mutual
def gnomonref08_Right.j0 : Nat → (List S148) → Int → Option Int
 | 0, _, _ => none
 | k + 1, x0, x1 => gnomonref08_Right.l1 k x0 x1 0
def gnomonref08_Right.l1 : Nat → (List S148) → Int → Int → Option Int
 | 0, _, _, _ => none
 | k + 1, x0, x1, x5 => if x5 < (x0.length : Int) then (if 0 ≤ x5 then (if x5 < (x0.length : Int) then (if 0 ≤ x5 then (if x5 < (x0.length : Int) then (if ((rd_T148 x0 x5).f0) < 1 then (some 121) else (if ((rd_T148 x0 x5).f0) > 14 then (some 121) else (gnomonref08_Right.j2 k x0 x1 x5 ((rd_T148 x0 x5).f0) ((rd_T148 x0 x5).f1)))) else (none)) else (none)) else (none)) else (none)) else (some 0)
def gnomonref08_Right.j2 : Nat → (List S148) → Int → Int → Int → Int → Option Int
 | 0, _, _, _, _, _ => none
 | k + 1, x0, x1, x5, x6, x7 => if x6 = 1 then (if x7 < 0 then (some 121) else (if x7 > 1048576 then (some 121) else (if x6 = 2 then (if x7 < 0 then (some 121) else (if x7 ≥ x1 then (some 121) else (if x6 = 1 then (gnomonref08_Right.j3 k x0 x1 x5 x6) else (if x6 = 2 then (gnomonref08_Right.j3 k x0 x1 x5 x6) else (if x7 = 0 then (gnomonref08_Right.j3 k x0 x1 x5 x6) else (some 121)))))) else (if x6 = 1 then (gnomonref08_Right.j3 k x0 x1 x5 x6) else (if x6 = 2 then (gnomonref08_Right.j3 k x0 x1 x5 x6) else (if x7 = 0 then (gnomonref08_Right.j3 k x0 x1 x5 x6) else (some 121))))))) else (if x6 = 2 then (if x7 < 0 then (some 121) else (if x7 ≥ x1 then (some 121) else (if x6 = 1 then (gnomonref08_Right.j3 k x0 x1 x5 x6) else (if x6 = 2 then (gnomonref08_Right.j3 k x0 x1 x5 x6) else (if x7 = 0 then (gnomonref08_Right.j3 k x0 x1 x5 x6) else (some 121)))))) else (if x6 = 1 then (gnomonref08_Right.j3 k x0 x1 x5 x6) else (if x6 = 2 then (gnomonref08_Right.j3 k x0 x1 x5 x6) else (if x7 = 0 then (gnomonref08_Right.j3 k x0 x1 x5 x6) else (some 121)))))
def gnomonref08_Right.j3 : Nat → (List S148) → Int → Int → Int → Option Int
 | 0, _, _, _, _ => none
 | k + 1, x0, x1, x5, x6 => gnomonref08_Right.l4 k x0 x1 x5 x6 (w64 (x5 + 1)) 0
def gnomonref08_Right.l4 : Nat → (List S148) → Int → Int → Int → Int → Int → Option Int
 | 0, _, _, _, _, _, _ => none
 | k + 1, x0, x1, x5, x6, x8, x9 => (gnomonref08_parts.f k x6).bind fun t2 => (if x9 < t2 then (if 0 ≤ x8 then (if x8 < (x0.length : Int) then ((gnomonref08_truth.f ((rd_T148 x0 x8).f0)).bind fun t3 => ((gnomonref08_numbers.f x6).bind fun t4 => (if t3 = t4 then (some 121) else ((gnomonref08_End.f k x0 x8).bind fun t5 => (gnomonref08_Right.l4 k x0 x1 x5 x6 t5 (w64 (x9 + 1))))))) else (none)) else (none)) else (gnomonref08_Right.l1 k x0 x1 (w64 (x5 + 1))))
end
def gnomonref08_Right.f (k : Nat) (a0 : List S148) (a1 : Int) : Option Int := if (a0.length : Int) = 0 then (some 121) else (if (a0.length : Int) > 64 then (some 121) else ((gnomonref08_End.f k a0 0).bind fun t1 => (if t1 = (a0.length : Int) then (gnomonref08_Right.j0 k a0 a1) else (some 121))))
def gnomonref08_Right.ce (k : Nat) : CallE := ⟨[⟨false, (.list T148)⟩, ⟨false, (.int .i64)⟩], [⟨false, [.v (.int .i64)]⟩], fun (x : (List S148) × Int) => gnomonref08_Right.f k x.1 x.2⟩
def gnomonref08_Right.F : Fam (RT.dens (gnomonref08_Right.ce 0).rts) := ⟨fun k => ⟨TT0, GL0, callT [(212, [], gnomonref08_End.ce k), (213, [], gnomonref08_parts.ce k), (214, [], gnomonref08_truth.ce), (215, [], gnomonref08_numbers.ce)], cmpT CM0, []⟩, [(1000004, ⟨⟨[(0, .v false (.list T148)), (1, .v false (.int .i64))], []⟩, fun k s => gnomonref08_Right.j0 k s.1.1 s.1.2.1⟩), (5, ⟨⟨[(0, .v false (.list T148)), (1, .v false (.int .i64)), (5, .v false (.int .i64))], []⟩, fun k s => gnomonref08_Right.l1 k s.1.1 s.1.2.1 s.1.2.2.1⟩), (1000011, ⟨⟨[(0, .v false (.list T148)), (1, .v false (.int .i64)), (5, .v false (.int .i64)), (6, .v false (.int .u8)), (7, .v false (.int .i64))], []⟩, fun k s => gnomonref08_Right.j2 k s.1.1 s.1.2.1 s.1.2.2.1 s.1.2.2.2.1 s.1.2.2.2.2.1⟩), (1000013, ⟨⟨[(0, .v false (.list T148)), (1, .v false (.int .i64)), (5, .v false (.int .i64)), (6, .v false (.int .u8))], []⟩, fun k s => gnomonref08_Right.j3 k s.1.1 s.1.2.1 s.1.2.2.1 s.1.2.2.2.1⟩), (15, ⟨⟨[(0, .v false (.list T148)), (1, .v false (.int .i64)), (5, .v false (.int .i64)), (6, .v false (.int .u8)), (8, .v false (.int .i64)), (9, .v false (.int .i64))], []⟩, fun k s => gnomonref08_Right.l4 k s.1.1 s.1.2.1 s.1.2.2.1 s.1.2.2.2.1 s.1.2.2.2.2.1 s.1.2.2.2.2.2.1⟩)]⟩
theorem gnomonref08_Right.is (k : Nat) (x : AT.dens (gnomonref08_Right.ce 0).ats) : (gnomonref08_Right.ce k).fn x = den gnomonref08_Right.F k (bodyOf Tryz.f192) (startAS (gnomonref08_Right.ce 0).ats x) (retK (gnomonref08_Right.F.c k) Tryz.f192.results.toList (gnomonref08_Right.ce 0).rts) := by kernel_rfl
theorem gnomonref08_Right.ob : Obl gnomonref08_Right.F (bodyOf Tryz.f192) (fun k => retK (gnomonref08_Right.F.c k) Tryz.f192.results.toList (gnomonref08_Right.ce 0).rts) := obl_of (by kernel_rfl)
/-! ### gnomonref08_IsTruth: function 193 -/
def gnomonref08_IsTruth.f (a0 : List S148) : Option Bool := if (a0.length : Int) > 0 then (if 0 ≤ 0 then (if 0 < (a0.length : Int) then ((gnomonref08_truth.f ((rd_T148 a0 0).f0)).bind fun t1 => (some t1)) else (none)) else (none)) else (some false)
def gnomonref08_IsTruth.ce : CallE := ⟨[⟨false, (.list T148)⟩], [⟨false, [.v .bool]⟩], fun (x : (List S148)) => gnomonref08_IsTruth.f x⟩
def gnomonref08_IsTruth.F : Fam (RT.dens (gnomonref08_IsTruth.ce).rts) := ⟨fun k => ⟨TT0, GL0, callT [(214, [], gnomonref08_truth.ce)], cmpT CM0, []⟩, []⟩
theorem gnomonref08_IsTruth.is (k : Nat) (x : AT.dens (gnomonref08_IsTruth.ce).ats) : (gnomonref08_IsTruth.ce).fn x = den gnomonref08_IsTruth.F k (bodyOf Tryz.f193) (startAS (gnomonref08_IsTruth.ce).ats x) (retK (gnomonref08_IsTruth.F.c k) Tryz.f193.results.toList (gnomonref08_IsTruth.ce).rts) := by kernel_rfl
theorem gnomonref08_IsTruth.ob : Obl gnomonref08_IsTruth.F (bodyOf Tryz.f193) (fun k => retK (gnomonref08_IsTruth.F.c k) Tryz.f193.results.toList (gnomonref08_IsTruth.ce).rts) := obl_of (by kernel_rfl)
/-! ### gnomonref10_testless: function 98 -/
def gnomonref10_testless.f (k : Nat) (l0_0 : List ByteArray) (l0_1 : List S104) (l0_2 : List ByteArray) (l0_3 : List S94) (a1 : List S148) : Option Bool := if (a1.length : Int) > 0 then ((gnomonref08_Right.f k a1 (l0_1.length : Int)).bind fun t1 => (if t1 = 0 then ((gnomonref08_IsTruth.f a1).bind fun t2 => (some (!t2))) else (some true))) else (some false)
def gnomonref10_testless.ce (k : Nat) : CallE := ⟨[⟨true, T26⟩, ⟨false, (.list T148)⟩], [⟨false, [.v .bool]⟩], fun (x : S26 × (List S148)) => gnomonref10_testless.f k x.1.f0 x.1.f1 x.1.f2 x.1.f3 x.2⟩
def gnomonref10_testless.F : Fam (RT.dens (gnomonref10_testless.ce 0).rts) := ⟨fun k => ⟨TT0, GL0, callT [(192, [], gnomonref08_Right.ce k), (193, [], gnomonref08_IsTruth.ce)], cmpT CM0, []⟩, []⟩
theorem gnomonref10_testless.is (k : Nat) (x : AT.dens (gnomonref10_testless.ce 0).ats) : (gnomonref10_testless.ce k).fn x = den gnomonref10_testless.F k (bodyOf Tryz.f98) (startAS (gnomonref10_testless.ce 0).ats x) (retK (gnomonref10_testless.F.c k) Tryz.f98.results.toList (gnomonref10_testless.ce 0).rts) := by kernel_rfl
theorem gnomonref10_testless.ob : Obl gnomonref10_testless.F (bodyOf Tryz.f98) (fun k => retK (gnomonref10_testless.F.c k) Tryz.f98.results.toList (gnomonref10_testless.ce 0).rts) := obl_of (by kernel_rfl)
/-! ### gnomonref10_edge: function 189 -/
mutual
def gnomonref10_edge.j0 : Nat → Int → (List ByteArray) → (List S104) → (List ByteArray) → (List S94) → Int → Int → (List S38) → (List S148) → Int → Bool → (List S99) → Option Bool
 | 0, _, _, _, _, _, _, _, _, _, _, _, _ => none
 | k + 1, x3, x4_0, x4_1, x4_2, x4_3, x6_0, x6_1, x6_2, x6_3, x6_4, x6_5, x6_6 => gnomonref10_edge.l1 k x3 0 x4_0 x4_1 x4_2 x4_3 x6_0 x6_1 x6_2 x6_3 x6_4 x6_5 x6_6
def gnomonref10_edge.l1 : Nat → Int → Int → (List ByteArray) → (List S104) → (List ByteArray) → (List S94) → Int → Int → (List S38) → (List S148) → Int → Bool → (List S99) → Option Bool
 | 0, _, _, _, _, _, _, _, _, _, _, _, _, _ => none
 | k + 1, x3, x9, x4_0, x4_1, x4_2, x4_3, x6_0, x6_1, x6_2, x6_3, x6_4, x6_5, x6_6 => if x9 < (x6_6.length : Int) then (if 0 ≤ x9 then (if x9 < (x6_6.length : Int) then (if x3 = 12 then (if ((rd_T99 x6_6 x9).f0) < 0 then (some true) else (if ((rd_T99 x6_6 x9).f0) > (x4_0.length : Int) then (some true) else (gnomonref10_edge.l1 k x3 (w64 (x9 + 1)) x4_0 x4_1 x4_2 x4_3 x6_0 x6_1 x6_2 x6_3 x6_4 x6_5 x6_6))) else (if x3 = 7 then (if ((rd_T99 x6_6 x9).f0) = 0 then (if ((rd_T99 x6_6 x9).f1) = 0 then (if ((rd_T99 x6_6 x9).f0) = 0 then (gnomonref10_edge.l1 k x3 (w64 (x9 + 1)) x4_0 x4_1 x4_2 x4_3 x6_0 x6_1 x6_2 x6_3 x6_4 x6_5 x6_6) else (if ((rd_T99 x6_6 x9).f2) = 0 then (if (((rd_T99 x6_6 x9).f3).length : Int) > 0 then (some true) else (gnomonref10_edge.l1 k x3 (w64 (x9 + 1)) x4_0 x4_1 x4_2 x4_3 x6_0 x6_1 x6_2 x6_3 x6_4 x6_5 x6_6)) else (some true))) else (some true)) else (if ((rd_T99 x6_6 x9).f0) = 0 then (gnomonref10_edge.l1 k x3 (w64 (x9 + 1)) x4_0 x4_1 x4_2 x4_3 x6_0 x6_1 x6_2 x6_3 x6_4 x6_5 x6_6) else (if ((rd_T99 x6_6 x9).f2) = 0 then (if (((rd_T99 x6_6 x9).f3).length : Int) > 0 then (some true) else (gnomonref10_edge.l1 k x3 (w64 (x9 + 1)) x4_0 x4_1 x4_2 x4_3 x6_0 x6_1 x6_2 x6_3 x6_4 x6_5 x6_6)) else (some true)))) else (if x3 = 121 then (if ((rd_T99 x6_6 x9).f0) = 0 then (if ((rd_T99 x6_6 x9).f2) < 0 then (some true) else (if ((rd_T99 x6_6 x9).f2) ≥ (x4_1.length : Int) then (some true) else ((gnomonref08_Right.f k ((rd_T99 x6_6 x9).f3) (x4_1.length : Int)).bind fun t2 => (if t2 = 0 then ((gnomonref08_IsTruth.f ((rd_T99 x6_6 x9).f3)).bind fun t3 => (if t3 = true then (some true) else (gnomonref10_edge.l1 k x3 (w64 (x9 + 1)) x4_0 x4_1 x4_2 x4_3 x6_0 x6_1 x6_2 x6_3 x6_4 x6_5 x6_6))) else (some true))))) else (gnomonref10_edge.l1 k x3 (w64 (x9 + 1)) x4_0 x4_1 x4_2 x4_3 x6_0 x6_1 x6_2 x6_3 x6_4 x6_5 x6_6)) else (gnomonref10_edge.l1 k x3 (w64 (x9 + 1)) x4_0 x4_1 x4_2 x4_3 x6_0 x6_1 x6_2 x6_3 x6_4 x6_5 x6_6)))) else (none)) else (none)) else (some false)
end
def gnomonref10_edge.f (k : Nat) (l0_0 : List ByteArray) (l0_1 : List S104) (l0_2 : List ByteArray) (l0_3 : List S94) (l1_0 : ByteArray) (l1_1 : List S102) (l1_2 : List S97) (l2_0 : Int) (l2_1 : Int) (l2_2 : List S38) (l2_3 : List S148) (l2_4 : Int) (l2_5 : Bool) (l2_6 : List S99) (a3 : Int) : Option Bool := if a3 = 123 then (if l2_0 < 0 then (some true) else (if l2_0 ≥ (l1_1.length : Int) then (some true) else (if l2_1 < 0 then (some true) else (if l2_1 ≥ (l1_1.length : Int) then (some true) else (if l2_4 < 0 then (some true) else (if l2_4 > (l0_2.length : Int) then (some true) else (if l2_4 = 0 then (some l2_5) else (some false)))))))) else (if a3 = 121 then ((gnomonref10_testless.f k l0_0 l0_1 l0_2 l0_3 l2_3).bind fun t1 => (if t1 = true then (some true) else (gnomonref10_edge.j0 k a3 l0_0 l0_1 l0_2 l0_3 l2_0 l2_1 l2_2 l2_3 l2_4 l2_5 l2_6))) else (gnomonref10_edge.j0 k a3 l0_0 l0_1 l0_2 l0_3 l2_0 l2_1 l2_2 l2_3 l2_4 l2_5 l2_6))
def gnomonref10_edge.ce (k : Nat) : CallE := ⟨[⟨true, T26⟩, ⟨true, T94⟩, ⟨true, T97⟩, ⟨false, (.int .i64)⟩], [⟨false, [.v .bool]⟩], fun (x : S26 × S94 × S97 × Int) => gnomonref10_edge.f k x.1.f0 x.1.f1 x.1.f2 x.1.f3 x.2.1.f0 x.2.1.f1 x.2.1.f2 x.2.2.1.f0 x.2.2.1.f1 x.2.2.1.f2 x.2.2.1.f3 x.2.2.1.f4 x.2.2.1.f5 x.2.2.1.f6 x.2.2.2⟩
def gnomonref10_edge.F : Fam (RT.dens (gnomonref10_edge.ce 0).rts) := ⟨fun k => ⟨TT0, GL0, callT [(98, [], gnomonref10_testless.ce k), (192, [], gnomonref08_Right.ce k), (193, [], gnomonref08_IsTruth.ce)], cmpT CM0, []⟩, [(1000008, ⟨⟨[(3, .v false (.int .i64)), (4, .k (.ptr 256 0)), (6, .k (.ptr 384 0))], [(256, [.v (.list .str), .v (.list T104), .v (.list .str), .v (.list T94)]), (384, [.v (.int .i64), .v (.int .i64), .v (.list T38), .v (.list T148), .v (.int .i64), .v .bool, .v (.list T99)])]⟩, fun k s => gnomonref10_edge.j0 k s.1.1 s.2.1.1 s.2.1.2.1 s.2.1.2.2.1 s.2.1.2.2.2.1 s.2.2.1.1 s.2.2.1.2.1 s.2.2.1.2.2.1 s.2.2.1.2.2.2.1 s.2.2.1.2.2.2.2.1 s.2.2.1.2.2.2.2.2.1 s.2.2.1.2.2.2.2.2.2.1⟩), (9, ⟨⟨[(3, .v false (.int .i64)), (4, .k (.ptr 256 0)), (6, .k (.ptr 384 0)), (9, .v false (.int .i64))], [(256, [.v (.list .str), .v (.list T104), .v (.list .str), .v (.list T94)]), (384, [.v (.int .i64), .v (.int .i64), .v (.list T38), .v (.list T148), .v (.int .i64), .v .bool, .v (.list T99)])]⟩, fun k s => gnomonref10_edge.l1 k s.1.1 s.1.2.1 s.2.1.1 s.2.1.2.1 s.2.1.2.2.1 s.2.1.2.2.2.1 s.2.2.1.1 s.2.2.1.2.1 s.2.2.1.2.2.1 s.2.2.1.2.2.2.1 s.2.2.1.2.2.2.2.1 s.2.2.1.2.2.2.2.2.1 s.2.2.1.2.2.2.2.2.2.1⟩)]⟩
theorem gnomonref10_edge.is (k : Nat) (x : AT.dens (gnomonref10_edge.ce 0).ats) : (gnomonref10_edge.ce k).fn x = den gnomonref10_edge.F k (bodyOf Tryz.f189) (startAS (gnomonref10_edge.ce 0).ats x) (retK (gnomonref10_edge.F.c k) Tryz.f189.results.toList (gnomonref10_edge.ce 0).rts) := by kernel_rfl
theorem gnomonref10_edge.ob : Obl gnomonref10_edge.F (bodyOf Tryz.f189) (fun k => retK (gnomonref10_edge.F.c k) Tryz.f189.results.toList (gnomonref10_edge.ce 0).rts) := obl_of (by kernel_rfl)
/-! ### gnomonref10_wrong: function 84 -/
mutual
def gnomonref10_wrong.l0 : Nat → Int → Int → (List ByteArray) → (List S104) → (List ByteArray) → (List S94) → Option Bool
 | 0, _, _, _, _, _, _ => none
 | k + 1, x1, x5, x2_0, x2_1, x2_2, x2_3 => if x5 < (x2_3.length : Int) then (if 0 ≤ x5 then (if x5 < (x2_3.length : Int) then (gnomonref10_wrong.l1 k x1 x5 0 x2_0 x2_1 x2_2 x2_3 ((rd_T94 x2_3 x5).f0) ((rd_T94 x2_3 x5).f1) ((rd_T94 x2_3 x5).f2)) else (none)) else (none)) else (some false)
def gnomonref10_wrong.l1 : Nat → Int → Int → Int → (List ByteArray) → (List S104) → (List ByteArray) → (List S94) → ByteArray → (List S102) → (List S97) → Option Bool
 | 0, _, _, _, _, _, _, _, _, _, _ => none
 | k + 1, x1, x5, x7, x2_0, x2_1, x2_2, x2_3, x6_0, x6_1, x6_2 => if x7 < (x6_1.length : Int) then (if x1 = 122 then (if 0 ≤ x7 then (if x7 < (x6_1.length : Int) then (if ((rd_T102 x6_1 x7).f1) > 2 then (some true) else (if 0 ≤ x7 then (if x7 < (x6_1.length : Int) then ((gnomonref10_guards.f k x2_0 x2_1 x2_2 x2_3 ((rd_T102 x6_1 x7).f2) x1).bind fun t1 => (if t1 = true then (some true) else (gnomonref10_wrong.l1 k x1 x5 (w64 (x7 + 1)) x2_0 x2_1 x2_2 x2_3 x6_0 x6_1 x6_2))) else (none)) else (none))) else (none)) else (none)) else (if 0 ≤ x7 then (if x7 < (x6_1.length : Int) then ((gnomonref10_guards.f k x2_0 x2_1 x2_2 x2_3 ((rd_T102 x6_1 x7).f2) x1).bind fun t2 => (if t2 = true then (some true) else (gnomonref10_wrong.l1 k x1 x5 (w64 (x7 + 1)) x2_0 x2_1 x2_2 x2_3 x6_0 x6_1 x6_2))) else (none)) else (none))) else (gnomonref10_wrong.l2 k x1 x5 0 x2_0 x2_1 x2_2 x2_3 x6_0 x6_1 x6_2)
def gnomonref10_wrong.l2 : Nat → Int → Int → Int → (List ByteArray) → (List S104) → (List ByteArray) → (List S94) → ByteArray → (List S102) → (List S97) → Option Bool
 | 0, _, _, _, _, _, _, _, _, _, _ => none
 | k + 1, x1, x5, x8, x2_0, x2_1, x2_2, x2_3, x6_0, x6_1, x6_2 => if x8 < (x6_2.length : Int) then (if 0 ≤ x8 then (if x8 < (x6_2.length : Int) then ((gnomonref10_guards.f k x2_0 x2_1 x2_2 x2_3 ((rd_T97 x6_2 x8).f2) x1).bind fun t3 => (if t3 = true then (some true) else (if 0 ≤ x8 then (if x8 < (x6_2.length : Int) then ((gnomonref10_edge.f k x2_0 x2_1 x2_2 x2_3 x6_0 x6_1 x6_2 ((rd_T97 x6_2 x8).f0) ((rd_T97 x6_2 x8).f1) ((rd_T97 x6_2 x8).f2) ((rd_T97 x6_2 x8).f3) ((rd_T97 x6_2 x8).f4) ((rd_T97 x6_2 x8).f5) ((rd_T97 x6_2 x8).f6) x1).bind fun t4 => (if t4 = true then (some true) else (gnomonref10_wrong.l2 k x1 x5 (w64 (x8 + 1)) x2_0 x2_1 x2_2 x2_3 x6_0 x6_1 x6_2))) else (none)) else (none)))) else (none)) else (none)) else (gnomonref10_wrong.l0 k x1 (w64 (x5 + 1)) x2_0 x2_1 x2_2 x2_3)
end
def gnomonref10_wrong.f (k : Nat) (l0_0 : List ByteArray) (l0_1 : List S104) (l0_2 : List ByteArray) (l0_3 : List S94) (a1 : Int) : Option Bool := gnomonref10_wrong.l0 k a1 0 l0_0 l0_1 l0_2 l0_3
def gnomonref10_wrong.ce (k : Nat) : CallE := ⟨[⟨true, T26⟩, ⟨false, (.int .i64)⟩], [⟨false, [.v .bool]⟩], fun (x : S26 × Int) => gnomonref10_wrong.f k x.1.f0 x.1.f1 x.1.f2 x.1.f3 x.2⟩
def gnomonref10_wrong.F : Fam (RT.dens (gnomonref10_wrong.ce 0).rts) := ⟨fun k => ⟨TT0, GL0, callT [(97, [], gnomonref10_guards.ce k), (189, [], gnomonref10_edge.ce k)], cmpT CM0, []⟩, [(3, ⟨⟨[(1, .v false (.int .i64)), (2, .k (.ptr 128 0)), (5, .v false (.int .i64))], [(128, [.v (.list .str), .v (.list T104), .v (.list .str), .v (.list T94)])]⟩, fun k s => gnomonref10_wrong.l0 k s.1.1 s.1.2.1 s.2.1.1 s.2.1.2.1 s.2.1.2.2.1 s.2.1.2.2.2.1⟩), (7, ⟨⟨[(1, .v false (.int .i64)), (2, .k (.ptr 128 0)), (5, .v false (.int .i64)), (6, .k (.ptr 384 0)), (7, .v false (.int .i64))], [(128, [.v (.list .str), .v (.list T104), .v (.list .str), .v (.list T94)]), (384, [.v .str, .v (.list T102), .v (.list T97)])]⟩, fun k s => gnomonref10_wrong.l1 k s.1.1 s.1.2.1 s.1.2.2.1 s.2.1.1 s.2.1.2.1 s.2.1.2.2.1 s.2.1.2.2.2.1 s.2.2.1.1 s.2.2.1.2.1 s.2.2.1.2.2.1⟩), (12, ⟨⟨[(1, .v false (.int .i64)), (2, .k (.ptr 128 0)), (5, .v false (.int .i64)), (6, .k (.ptr 384 0)), (8, .v false (.int .i64))], [(128, [.v (.list .str), .v (.list T104), .v (.list .str), .v (.list T94)]), (384, [.v .str, .v (.list T102), .v (.list T97)])]⟩, fun k s => gnomonref10_wrong.l2 k s.1.1 s.1.2.1 s.1.2.2.1 s.2.1.1 s.2.1.2.1 s.2.1.2.2.1 s.2.1.2.2.2.1 s.2.2.1.1 s.2.2.1.2.1 s.2.2.1.2.2.1⟩)]⟩
theorem gnomonref10_wrong.is (k : Nat) (x : AT.dens (gnomonref10_wrong.ce 0).ats) : (gnomonref10_wrong.ce k).fn x = den gnomonref10_wrong.F k (bodyOf Tryz.f84) (startAS (gnomonref10_wrong.ce 0).ats x) (retK (gnomonref10_wrong.F.c k) Tryz.f84.results.toList (gnomonref10_wrong.ce 0).rts) := by kernel_rfl
theorem gnomonref10_wrong.ob : Obl gnomonref10_wrong.F (bodyOf Tryz.f84) (fun k => retK (gnomonref10_wrong.F.c k) Tryz.f84.results.toList (gnomonref10_wrong.ce 0).rts) := obl_of (by kernel_rfl)
/-! ### gnomonref10_Whole: function 33 -/
mutual
def gnomonref10_Whole.l0 : Nat → Int → (List ByteArray) → (List S104) → (List ByteArray) → (List S94) → Option Int
 | 0, _, _, _, _, _ => none
 | k + 1, x3, x1_0, x1_1, x1_2, x1_3 => if x3 < (x1_3.length : Int) then (if 0 ≤ x3 then (if x3 < (x1_3.length : Int) then (if (((rd_T94 x1_3 x3).f1).length : Int) = 0 then (some 2) else (gnomonref10_Whole.l0 k (w64 (x3 + 1)) x1_0 x1_1 x1_2 x1_3)) else (none)) else (none)) else ((gnomonref10_long.f k x1_0 x1_1 x1_2 x1_3).bind fun t1 => (if t1 = true then (some 6) else ((gnomonref10_wrongNames.f k x1_0 x1_1 x1_2 x1_3).bind fun t2 => (if t2 = true then (some 112) else (gnomonref10_Whole.l1 k 0 x1_0 x1_1 x1_2 x1_3)))))
def gnomonref10_Whole.l1 : Nat → Int → (List ByteArray) → (List S104) → (List ByteArray) → (List S94) → Option Int
 | 0, _, _, _, _, _ => none
 | k + 1, x4, x1_0, x1_1, x1_2, x1_3 => if x4 < (x1_1.length : Int) then (if 0 ≤ x4 then (if x4 < (x1_1.length : Int) then ((gnomonref10_isValue.f ((rd_T104 x1_1 x4).f1)).bind fun t3 => (if (!t3) = true then (some 124) else ((gnomonref10_isValue.f ((rd_T104 x1_1 x4).f3)).bind fun t4 => (if (!t4) = true then (some 124) else ((gnomonref10_isValue.f ((rd_T104 x1_1 x4).f2)).bind fun t5 => (if (!t5) = true then (some 124) else (if ((rd_T104 x1_1 x4).f1) > ((rd_T104 x1_1 x4).f3) then (some 124) else (if ((rd_T104 x1_1 x4).f3) > ((rd_T104 x1_1 x4).f2) then (some 124) else (gnomonref10_Whole.l1 k (w64 (x4 + 1)) x1_0 x1_1 x1_2 x1_3))))))))) else (none)) else (none)) else (gnomonref10_Whole.l2 k ([122, 123, 12, 7, 121] : List Int) 0 x1_0 x1_1 x1_2 x1_3)
def gnomonref10_Whole.l2 : Nat → (List Int) → Int → (List ByteArray) → (List S104) → (List ByteArray) → (List S94) → Option Int
 | 0, _, _, _, _, _, _ => none
 | k + 1, x6, x7, x1_0, x1_1, x1_2, x1_3 => if x7 < (x6.length : Int) then (if 0 ≤ x7 then (if x7 < (x6.length : Int) then ((gnomonref10_wrong.f k x1_0 x1_1 x1_2 x1_3 (rd x6 x7)).bind fun t6 => (if t6 = true then (if 0 ≤ x7 then (if x7 < (x6.length : Int) then (some (rd x6 x7)) else (none)) else (none)) else (gnomonref10_Whole.l2 k x6 (w64 (x7 + 1)) x1_0 x1_1 x1_2 x1_3))) else (none)) else (none)) else (some 0)
end
def gnomonref10_Whole.f (k : Nat) (l0_0 : List ByteArray) (l0_1 : List S104) (l0_2 : List ByteArray) (l0_3 : List S94) : Option Int := if (l0_3.length : Int) = 0 then (some 2) else (gnomonref10_Whole.l0 k 0 l0_0 l0_1 l0_2 l0_3)
def gnomonref10_Whole.ce (k : Nat) : CallE := ⟨[⟨true, T26⟩], [⟨false, [.v (.int .i64)]⟩], fun (x : S26) => gnomonref10_Whole.f k x.f0 x.f1 x.f2 x.f3⟩
def gnomonref10_Whole.F : Fam (RT.dens (gnomonref10_Whole.ce 0).rts) := ⟨fun k => ⟨TT0, GL0, callT [(81, [], gnomonref10_long.ce k), (82, [], gnomonref10_wrongNames.ce k), (83, [], gnomonref10_isValue.ce), (84, [], gnomonref10_wrong.ce k)], cmpT CM0, []⟩, [(5, ⟨⟨[(1, .k (.ptr 64 0)), (3, .v false (.int .i64))], [(64, [.v (.list .str), .v (.list T104), .v (.list .str), .v (.list T94)])]⟩, fun k s => gnomonref10_Whole.l0 k s.1.1 s.2.1.1 s.2.1.2.1 s.2.1.2.2.1 s.2.1.2.2.2.1⟩), (14, ⟨⟨[(1, .k (.ptr 64 0)), (4, .v false (.int .i64))], [(64, [.v (.list .str), .v (.list T104), .v (.list .str), .v (.list T94)])]⟩, fun k s => gnomonref10_Whole.l1 k s.1.1 s.2.1.1 s.2.1.2.1 s.2.1.2.2.1 s.2.1.2.2.2.1⟩), (21, ⟨⟨[(1, .k (.ptr 64 0)), (6, .o 30 (.int .i64)), (7, .v false (.int .i64))], [(64, [.v (.list .str), .v (.list T104), .v (.list .str), .v (.list T94)])]⟩, fun k s => gnomonref10_Whole.l2 k s.1.1 s.1.2.1 s.2.1.1 s.2.1.2.1 s.2.1.2.2.1 s.2.1.2.2.2.1⟩)]⟩
theorem gnomonref10_Whole.is (k : Nat) (x : AT.dens (gnomonref10_Whole.ce 0).ats) : (gnomonref10_Whole.ce k).fn x = den gnomonref10_Whole.F k (bodyOf Tryz.f33) (startAS (gnomonref10_Whole.ce 0).ats x) (retK (gnomonref10_Whole.F.c k) Tryz.f33.results.toList (gnomonref10_Whole.ce 0).rts) := by kernel_rfl
theorem gnomonref10_Whole.ob : Obl gnomonref10_Whole.F (bodyOf Tryz.f33) (fun k => retK (gnomonref10_Whole.F.c k) Tryz.f33.results.toList (gnomonref10_Whole.ce 0).rts) := obl_of (by kernel_rfl)
/-! ### gnomonref10_Right: function 35 -/
def gnomonref10_Right.f (k : Nat) (l0_0 : List ByteArray) (l0_1 : List S104) (l0_2 : List ByteArray) (l0_3 : List S94) : Option Bool := (gnomonref10_Whole.f k l0_0 l0_1 l0_2 l0_3).bind fun t1 => (some (decide (t1 = 0)))
def gnomonref10_Right.ce (k : Nat) : CallE := ⟨[⟨true, T26⟩], [⟨false, [.v .bool]⟩], fun (x : S26) => gnomonref10_Right.f k x.f0 x.f1 x.f2 x.f3⟩
def gnomonref10_Right.F : Fam (RT.dens (gnomonref10_Right.ce 0).rts) := ⟨fun k => ⟨TT0, GL0, callT [(33, [], gnomonref10_Whole.ce k)], cmpT CM0, []⟩, []⟩
theorem gnomonref10_Right.is (k : Nat) (x : AT.dens (gnomonref10_Right.ce 0).ats) : (gnomonref10_Right.ce k).fn x = den gnomonref10_Right.F k (bodyOf Tryz.f35) (startAS (gnomonref10_Right.ce 0).ats x) (retK (gnomonref10_Right.F.c k) Tryz.f35.results.toList (gnomonref10_Right.ce 0).rts) := by kernel_rfl
theorem gnomonref10_Right.ob : Obl gnomonref10_Right.F (bodyOf Tryz.f35) (fun k => retK (gnomonref10_Right.F.c k) Tryz.f35.results.toList (gnomonref10_Right.ce 0).rts) := obl_of (by kernel_rfl)
/-! ### gnomonref13_Right: function 24 -/
mutual
def gnomonref13_Right.j0 : Nat → (List ByteArray) → (List S104) → (List ByteArray) → (List S94) → (List Int) → (List Int) → Option Bool
 | 0, _, _, _, _, _, _ => none
 | k + 1, x2_0, x2_1, x2_2, x2_3, x3_0, x3_1 => gnomonref13_Right.l1 k 0 x2_0 x2_1 x2_2 x2_3 x3_0 x3_1
def gnomonref13_Right.l1 : Nat → Int → (List ByteArray) → (List S104) → (List ByteArray) → (List S94) → (List Int) → (List Int) → Option Bool
 | 0, _, _, _, _, _, _, _ => none
 | k + 1, x5, x2_0, x2_1, x2_2, x2_3, x3_0, x3_1 => if x5 < (x3_0.length : Int) then (if 0 ≤ x5 then (if x5 < (x3_0.length : Int) then (if (rd x3_0 x5) < 0 then (some false) else (if 0 ≤ x5 then (if x5 < (x3_0.length : Int) then (if 0 ≤ x5 then (if x5 < (x2_3.length : Int) then (if (rd x3_0 x5) ≥ (((rd_T94 x2_3 x5).f1).length : Int) then (some false) else (gnomonref13_Right.l1 k (w64 (x5 + 1)) x2_0 x2_1 x2_2 x2_3 x3_0 x3_1)) else (none)) else (none)) else (none)) else (none))) else (none)) else (none)) else (gnomonref13_Right.l2 k 0 x2_0 x2_1 x2_2 x2_3 x3_0 x3_1)
def gnomonref13_Right.l2 : Nat → Int → (List ByteArray) → (List S104) → (List ByteArray) → (List S94) → (List Int) → (List Int) → Option Bool
 | 0, _, _, _, _, _, _, _ => none
 | k + 1, x6, x2_0, x2_1, x2_2, x2_3, x3_0, x3_1 => if x6 < (x3_1.length : Int) then (if 0 ≤ x6 then (if x6 < (x3_1.length : Int) then (if 0 ≤ x6 then (if x6 < (x2_1.length : Int) then (if (rd x3_1 x6) < ((rd_T104 x2_1 x6).f1) then (some false) else (if 0 ≤ x6 then (if x6 < (x3_1.length : Int) then (if 0 ≤ x6 then (if x6 < (x2_1.length : Int) then (if (rd x3_1 x6) > ((rd_T104 x2_1 x6).f2) then (some false) else (gnomonref13_Right.l2 k (w64 (x6 + 1)) x2_0 x2_1 x2_2 x2_3 x3_0 x3_1)) else (none)) else (none)) else (none)) else (none))) else (none)) else (none)) else (none)) else (none)) else (some true)
end
def gnomonref13_Right.f (k : Nat) (l0_0 : List ByteArray) (l0_1 : List S104) (l0_2 : List ByteArray) (l0_3 : List S94) (l1_0 : List Int) (l1_1 : List Int) : Option Bool := (gnomonref10_Right.f k l0_0 l0_1 l0_2 l0_3).bind fun t1 => (if (!t1) = true then (some false) else (if (l1_0.length : Int) = (l0_3.length : Int) then (if (l1_1.length : Int) = (l0_1.length : Int) then (gnomonref13_Right.j0 k l0_0 l0_1 l0_2 l0_3 l1_0 l1_1) else (some false)) else (some false)))
def gnomonref13_Right.ce (k : Nat) : CallE := ⟨[⟨true, T26⟩, ⟨true, T29⟩], [⟨false, [.v .bool]⟩], fun (x : S26 × S29) => gnomonref13_Right.f k x.1.f0 x.1.f1 x.1.f2 x.1.f3 x.2.f0 x.2.f1⟩
def gnomonref13_Right.F : Fam (RT.dens (gnomonref13_Right.ce 0).rts) := ⟨fun k => ⟨TT0, GL0, callT [(35, [], gnomonref10_Right.ce k)], cmpT CM0, []⟩, [(1000004, ⟨⟨[(2, .k (.ptr 128 0)), (3, .k (.ptr 192 0))], [(128, [.v (.list .str), .v (.list T104), .v (.list .str), .v (.list T94)]), (192, [.v (.list (.int .i64)), .v (.list (.int .i64))])]⟩, fun k s => gnomonref13_Right.j0 k s.2.1.1 s.2.1.2.1 s.2.1.2.2.1 s.2.1.2.2.2.1 s.2.2.1.1 s.2.2.1.2.1⟩), (5, ⟨⟨[(2, .k (.ptr 128 0)), (3, .k (.ptr 192 0)), (5, .v false (.int .i64))], [(128, [.v (.list .str), .v (.list T104), .v (.list .str), .v (.list T94)]), (192, [.v (.list (.int .i64)), .v (.list (.int .i64))])]⟩, fun k s => gnomonref13_Right.l1 k s.1.1 s.2.1.1 s.2.1.2.1 s.2.1.2.2.1 s.2.1.2.2.2.1 s.2.2.1.1 s.2.2.1.2.1⟩), (10, ⟨⟨[(2, .k (.ptr 128 0)), (3, .k (.ptr 192 0)), (6, .v false (.int .i64))], [(128, [.v (.list .str), .v (.list T104), .v (.list .str), .v (.list T94)]), (192, [.v (.list (.int .i64)), .v (.list (.int .i64))])]⟩, fun k s => gnomonref13_Right.l2 k s.1.1 s.2.1.1 s.2.1.2.1 s.2.1.2.2.1 s.2.1.2.2.2.1 s.2.2.1.1 s.2.2.1.2.1⟩)]⟩
theorem gnomonref13_Right.is (k : Nat) (x : AT.dens (gnomonref13_Right.ce 0).ats) : (gnomonref13_Right.ce k).fn x = den gnomonref13_Right.F k (bodyOf Tryz.f24) (startAS (gnomonref13_Right.ce 0).ats x) (retK (gnomonref13_Right.F.c k) Tryz.f24.results.toList (gnomonref13_Right.ce 0).rts) := by kernel_rfl
theorem gnomonref13_Right.ob : Obl gnomonref13_Right.F (bodyOf Tryz.f24) (fun k => retK (gnomonref13_Right.F.c k) Tryz.f24.results.toList (gnomonref13_Right.ce 0).rts) := obl_of (by kernel_rfl)
/-! ### gnomonref13_bad: function 57 -/
def gnomonref13_bad.f (k : Nat) (l0_0 : List ByteArray) (l0_1 : List S104) (l0_2 : List ByteArray) (l0_3 : List S94) (l1_0 : List Int) (l1_1 : List Int) : Option Int := (gnomonref10_Right.f k l0_0 l0_1 l0_2 l0_3).bind fun t1 => (if (!t1) = true then (some 7) else ((gnomonref13_Right.f k l0_0 l0_1 l0_2 l0_3 l1_0 l1_1).bind fun t2 => (if (!t2) = true then (some 130) else (some 0))))
def gnomonref13_bad.ce (k : Nat) : CallE := ⟨[⟨true, T26⟩, ⟨true, T29⟩], [⟨false, [.v (.int .i64)]⟩], fun (x : S26 × S29) => gnomonref13_bad.f k x.1.f0 x.1.f1 x.1.f2 x.1.f3 x.2.f0 x.2.f1⟩
def gnomonref13_bad.F : Fam (RT.dens (gnomonref13_bad.ce 0).rts) := ⟨fun k => ⟨TT0, GL0, callT [(24, [], gnomonref13_Right.ce k), (35, [], gnomonref10_Right.ce k)], cmpT CM0, []⟩, []⟩
theorem gnomonref13_bad.is (k : Nat) (x : AT.dens (gnomonref13_bad.ce 0).ats) : (gnomonref13_bad.ce k).fn x = den gnomonref13_bad.F k (bodyOf Tryz.f57) (startAS (gnomonref13_bad.ce 0).ats x) (retK (gnomonref13_bad.F.c k) Tryz.f57.results.toList (gnomonref13_bad.ce 0).rts) := by kernel_rfl
theorem gnomonref13_bad.ob : Obl gnomonref13_bad.F (bodyOf Tryz.f57) (fun k => retK (gnomonref13_bad.F.c k) Tryz.f57.results.toList (gnomonref13_bad.ce 0).rts) := obl_of (by kernel_rfl)
/-! ### gnomonref13_Invariants: function 12 -/
def gnomonref13_Invariants.l0 : Nat → (List S38) → Int → (List ByteArray) → (List S104) → (List ByteArray) → (List S94) → (List Int) → (List Int) → Option ((List S38) × Int)
 | 0, _, _, _, _, _, _, _, _ => none
 | k + 1, x7, x8, x2_0, x2_1, x2_2, x2_3, x3_0, x3_1 => if x8 < (x3_0.length : Int) then (if 0 ≤ x8 then (if x8 < (x2_3.length : Int) then (if 0 ≤ x8 then (if x8 < (x3_0.length : Int) then (if 0 ≤ (rd x3_0 x8) then (if (rd x3_0 x8) < (((rd_T94 x2_3 x8).f1).length : Int) then (if x7.length + ((rd_T102 ((rd_T94 x2_3 x8).f1) (rd x3_0 x8)).f2).length ≤ 4398046511104 then (gnomonref13_Invariants.l0 k (x7 ++ (rd_T102 ((rd_T94 x2_3 x8).f1) (rd x3_0 x8)).f2) (w64 (x8 + 1)) x2_0 x2_1 x2_2 x2_3 x3_0 x3_1) else (none)) else (none)) else (none)) else (none)) else (none)) else (none)) else (none)) else (some (x7, 0))
def gnomonref13_Invariants.f (k : Nat) (l0_0 : List ByteArray) (l0_1 : List S104) (l0_2 : List ByteArray) (l0_3 : List S94) (l1_0 : List Int) (l1_1 : List Int) : Option ((List S38) × Int) := (gnomonref13_bad.f k l0_0 l0_1 l0_2 l0_3 l1_0 l1_1).bind fun t1 => (if t1 = 0 then (gnomonref13_Invariants.l0 k ([] : List S38) 0 l0_0 l0_1 l0_2 l0_3 l1_0 l1_1) else (some (([] : List S38), t1)))
def gnomonref13_Invariants.ce (k : Nat) : CallE := ⟨[⟨true, T26⟩, ⟨true, T29⟩], [⟨false, [.o 38 T38]⟩, ⟨false, [.v (.int .i64)]⟩], fun (x : S26 × S29) => gnomonref13_Invariants.f k x.1.f0 x.1.f1 x.1.f2 x.1.f3 x.2.f0 x.2.f1⟩
def gnomonref13_Invariants.F : Fam (RT.dens (gnomonref13_Invariants.ce 0).rts) := ⟨fun k => ⟨TT0, GL0, callT [(57, [], gnomonref13_bad.ce k)], cmpT CM0, []⟩, [(7, ⟨⟨[(2, .k (.ptr 128 0)), (3, .k (.ptr 192 0)), (7, .o 38 T38), (8, .v false (.int .i64))], [(128, [.v (.list .str), .v (.list T104), .v (.list .str), .v (.list T94)]), (192, [.v (.list (.int .i64)), .v (.list (.int .i64))])]⟩, fun k s => gnomonref13_Invariants.l0 k s.1.1 s.1.2.1 s.2.1.1 s.2.1.2.1 s.2.1.2.2.1 s.2.1.2.2.2.1 s.2.2.1.1 s.2.2.1.2.1⟩)]⟩
theorem gnomonref13_Invariants.is (k : Nat) (x : AT.dens (gnomonref13_Invariants.ce 0).ats) : (gnomonref13_Invariants.ce k).fn x = den gnomonref13_Invariants.F k (bodyOf Tryz.f12) (startAS (gnomonref13_Invariants.ce 0).ats x) (retK (gnomonref13_Invariants.F.c k) Tryz.f12.results.toList (gnomonref13_Invariants.ce 0).rts) := by kernel_rfl
theorem gnomonref13_Invariants.ob : Obl gnomonref13_Invariants.F (bodyOf Tryz.f12) (fun k => retK (gnomonref13_Invariants.F.c k) Tryz.f12.results.toList (gnomonref13_Invariants.ce 0).rts) := obl_of (by kernel_rfl)
/-! ### state_Print: function 20 -/
mutual
def state_Print.l0 : Nat → (List ByteArray) → (List ByteArray) → (List Int) → Int → Int → (List ByteArray) → (List S104) → (List ByteArray) → (List S94) → (List Int) → (List Int) → Option (ByteArray × Int)
 | 0, _, _, _, _, _, _, _, _, _, _, _ => none
 | k + 1, x7, x8, x20, x21, x22, x2_0, x2_1, x2_2, x2_3, x3_0, x3_1 => if x22 < x21 then (if 0 ≤ x22 then (if x22 < (x20.length : Int) then (if 0 ≤ x22 then (if x22 < (x2_3.length : Int) then (if ((rd_T94 x2_3 x22).f0).size + (⟨#[46]⟩ : ByteArray).size ≤ 9223372036854775807 then (if 0 ≤ x22 then (if x22 < (x2_3.length : Int) then (if 0 ≤ (rd x20 x22) then (if (rd x20 x22) < (((rd_T94 x2_3 x22).f1).length : Int) then (if (((rd_T94 x2_3 x22).f0) ++ (⟨#[46]⟩ : ByteArray)).size + ((rd_T102 ((rd_T94 x2_3 x22).f1) (rd x20 x22)).f0).size ≤ 9223372036854775807 then (if x7.length < 8796093022208 then (state_Print.l0 k (x7 ++ [((((rd_T94 x2_3 x22).f0) ++ (⟨#[46]⟩ : ByteArray)) ++ ((rd_T102 ((rd_T94 x2_3 x22).f1) (rd x20 x22)).f0))]) x8 x20 x21 (w64 (x22 + 1)) x2_0 x2_1 x2_2 x2_3 x3_0 x3_1) else (none)) else (none)) else (none)) else (none)) else (none)) else (none)) else (none)) else (none)) else (none)) else (none)) else (none)) else (state_Print.l1 k x7 x8 x3_1 (x3_1.length : Int) 0 x2_0 x2_1 x2_2 x2_3)
def state_Print.l1 : Nat → (List ByteArray) → (List ByteArray) → (List Int) → Int → Int → (List ByteArray) → (List S104) → (List ByteArray) → (List S94) → Option (ByteArray × Int)
 | 0, _, _, _, _, _, _, _, _, _ => none
 | k + 1, x7, x8, x50, x51, x52, x2_0, x2_1, x2_2, x2_3 => if x52 < x51 then (if 0 ≤ x52 then (if x52 < (x50.length : Int) then (if 0 ≤ x52 then (if x52 < (x2_1.length : Int) then (if ((rd_T104 x2_1 x52).f0).size + (⟨#[61]⟩ : ByteArray).size ≤ 9223372036854775807 then ((strconv_Itoa.f (rd x50 x52)).bind fun t2 => (if (((rd_T104 x2_1 x52).f0) ++ (⟨#[61]⟩ : ByteArray)).size + t2.size ≤ 9223372036854775807 then (if x8.length < 8796093022208 then (state_Print.l1 k x7 (x8 ++ [((((rd_T104 x2_1 x52).f0) ++ (⟨#[61]⟩ : ByteArray)) ++ t2)]) x50 x51 (w64 (x52 + 1)) x2_0 x2_1 x2_2 x2_3) else (none)) else (none))) else (none)) else (none)) else (none)) else (none)) else (none)) else ((strings_Join.f x7 (⟨#[44]⟩ : ByteArray)).bind fun t3 => (if t3.size + (⟨#[59]⟩ : ByteArray).size ≤ 9223372036854775807 then ((strings_Join.f x8 (⟨#[44]⟩ : ByteArray)).bind fun t4 => (if (t3 ++ (⟨#[59]⟩ : ByteArray)).size + t4.size ≤ 9223372036854775807 then (some (((t3 ++ (⟨#[59]⟩ : ByteArray)) ++ t4), 0)) else (none))) else (none)))
end
def state_Print.f (k : Nat) (l0_0 : List ByteArray) (l0_1 : List S104) (l0_2 : List ByteArray) (l0_3 : List S94) (l1_0 : List Int) (l1_1 : List Int) : Option (ByteArray × Int) := (state_wrong.f k l0_0 l0_1 l0_2 l0_3 l1_0 l1_1).bind fun t1 => (if t1 = 0 then (state_Print.l0 k ([] : List ByteArray) ([] : List ByteArray) l1_0 (l1_0.length : Int) 0 l0_0 l0_1 l0_2 l0_3 l1_0 l1_1) else (some ((⟨#[]⟩ : ByteArray), t1)))
def state_Print.ce (k : Nat) : CallE := ⟨[⟨true, T26⟩, ⟨true, T29⟩], [⟨false, [.v .str]⟩, ⟨false, [.v (.int .i64)]⟩], fun (x : S26 × S29) => state_Print.f k x.1.f0 x.1.f1 x.1.f2 x.1.f3 x.2.f0 x.2.f1⟩
def state_Print.F : Fam (RT.dens (state_Print.ce 0).rts) := ⟨fun k => ⟨TT0, GL0, callT [(56, [], state_wrong.ce k), (60, [], strconv_Itoa.ce), (61, [], strings_Join.ce)], cmpT CM0, []⟩, [(7, ⟨⟨[(2, .k (.ptr 128 0)), (3, .k (.ptr 192 0)), (7, .o 9 .str), (8, .o 9 .str), (20, .v false (.list (.int .i64))), (21, .v false (.int .i64)), (22, .v false (.int .i64))], [(128, [.v (.list .str), .v (.list T104), .v (.list .str), .v (.list T94)]), (192, [.v (.list (.int .i64)), .v (.list (.int .i64))])]⟩, fun k s => state_Print.l0 k s.1.1 s.1.2.1 s.1.2.2.1 s.1.2.2.2.1 s.1.2.2.2.2.1 s.2.1.1 s.2.1.2.1 s.2.1.2.2.1 s.2.1.2.2.2.1 s.2.2.1.1 s.2.2.1.2.1⟩), (12, ⟨⟨[(2, .k (.ptr 128 0)), (7, .o 9 .str), (8, .o 9 .str), (50, .v false (.list (.int .i64))), (51, .v false (.int .i64)), (52, .v false (.int .i64))], [(128, [.v (.list .str), .v (.list T104), .v (.list .str), .v (.list T94)])]⟩, fun k s => state_Print.l1 k s.1.1 s.1.2.1 s.1.2.2.1 s.1.2.2.2.1 s.1.2.2.2.2.1 s.2.1.1 s.2.1.2.1 s.2.1.2.2.1 s.2.1.2.2.2.1⟩)]⟩
theorem state_Print.is (k : Nat) (x : AT.dens (state_Print.ce 0).ats) : (state_Print.ce k).fn x = den state_Print.F k (bodyOf Tryz.f20) (startAS (state_Print.ce 0).ats x) (retK (state_Print.F.c k) Tryz.f20.results.toList (state_Print.ce 0).rts) := by kernel_rfl
theorem state_Print.ob : Obl state_Print.F (bodyOf Tryz.f20) (fun k => retK (state_Print.F.c k) Tryz.f20.results.toList (state_Print.ce 0).rts) := obl_of (by kernel_rfl)
/-! ### state_Right: function 14 -/
def state_Right.f (k : Nat) (l0_0 : List ByteArray) (l0_1 : List S104) (l0_2 : List ByteArray) (l0_3 : List S94) (l1_0 : List Int) (l1_1 : List Int) : Option Bool := (net_Right.f k l0_0 l0_1 l0_2 l0_3).bind fun t1 => (if t1 = true then ((state_is.f k l0_0 l0_1 l0_2 l0_3 l1_0 l1_1).bind fun t2 => (some t2)) else (some false))
def state_Right.ce (k : Nat) : CallE := ⟨[⟨true, T26⟩, ⟨true, T29⟩], [⟨false, [.v .bool]⟩], fun (x : S26 × S29) => state_Right.f k x.1.f0 x.1.f1 x.1.f2 x.1.f3 x.2.f0 x.2.f1⟩
def state_Right.F : Fam (RT.dens (state_Right.ce 0).rts) := ⟨fun k => ⟨TT0, GL0, callT [(34, [], net_Right.ce k), (59, [], state_is.ce k)], cmpT CM0, []⟩, []⟩
theorem state_Right.is (k : Nat) (x : AT.dens (state_Right.ce 0).ats) : (state_Right.ce k).fn x = den state_Right.F k (bodyOf Tryz.f14) (startAS (state_Right.ce 0).ats x) (retK (state_Right.F.c k) Tryz.f14.results.toList (state_Right.ce 0).rts) := by kernel_rfl
theorem state_Right.ob : Obl state_Right.F (bodyOf Tryz.f14) (fun k => retK (state_Right.F.c k) Tryz.f14.results.toList (state_Right.ce 0).rts) := obl_of (by kernel_rfl)
/-! ### state_Stays_1: function 63 -/
def state_Stays_1.f (l0_0 : ByteArray) (l0_1 : List S102) (l0_2 : List S97) (a1 : Int) : Option Bool := if 0 ≤ a1 then (if a1 < (l0_1.length : Int) then (some (decide (((rd_T102 l0_1 a1).f1) = 0))) else (none)) else (none)
def state_Stays_1.ce : CallE := ⟨[⟨true, T94⟩, ⟨false, (.int .i64)⟩], [⟨false, [.v .bool]⟩], fun (x : S94 × Int) => state_Stays_1.f x.1.f0 x.1.f1 x.1.f2 x.2⟩
def state_Stays_1.F : Fam (RT.dens (state_Stays_1.ce).rts) := ⟨fun k => ⟨TT0, GL0, callT [], cmpT CM0, []⟩, []⟩
theorem state_Stays_1.is (k : Nat) (x : AT.dens (state_Stays_1.ce).ats) : (state_Stays_1.ce).fn x = den state_Stays_1.F k (bodyOf Tryz.f63) (startAS (state_Stays_1.ce).ats x) (retK (state_Stays_1.F.c k) Tryz.f63.results.toList (state_Stays_1.ce).rts) := by kernel_rfl
theorem state_Stays_1.ob : Obl state_Stays_1.F (bodyOf Tryz.f63) (fun k => retK (state_Stays_1.F.c k) Tryz.f63.results.toList (state_Stays_1.ce).rts) := obl_of (by kernel_rfl)
/-! ### state_beside_api_Auto_int_at63: function 64 -/
def state_beside_api_Auto_int_at63.l0 : Nat → (List Int) → Bool → (List S94) → Int → Int → Option Bool
 | 0, _, _, _, _, _ => none
 | k + 1, x1, x2, x14, x15, x16 => if x16 < x15 then (if 0 ≤ x16 then (if x16 < (x14.length : Int) then (if 0 ≤ x16 then (if x16 < (x1.length : Int) then ((state_Stays_1.f ((rd_T94 x14 x16).f0) ((rd_T94 x14 x16).f1) ((rd_T94 x14 x16).f2) (rd x1 x16)).bind fun t1 => (if (!t1) = true then (some false) else (state_beside_api_Auto_int_at63.l0 k x1 x2 x14 x15 (w64 (x16 + 1))))) else (none)) else (none)) else (none)) else (none)) else (some true)
def state_beside_api_Auto_int_at63.f (k : Nat) (a0 : List S94) (a1 : List Int) (a2 : Bool) : Option Bool := if (a0.length : Int) = (a1.length : Int) then (state_beside_api_Auto_int_at63.l0 k a1 a2 a0 (a0.length : Int) 0) else (some false)
def state_beside_api_Auto_int_at63.ce (k : Nat) : CallE := ⟨[⟨false, (.list T94)⟩, ⟨false, (.list (.int .i64))⟩, ⟨false, (.fn 63 [] .bool)⟩], [⟨false, [.v .bool]⟩], fun (x : (List S94) × (List Int) × Bool) => state_beside_api_Auto_int_at63.f k x.1 x.2.1 x.2.2⟩
def state_beside_api_Auto_int_at63.F : Fam (RT.dens (state_beside_api_Auto_int_at63.ce 0).rts) := ⟨fun k => ⟨TT0, GL0, callT [(63, [], state_Stays_1.ce)], cmpT CM0, []⟩, [(5, ⟨⟨[(1, .v false (.list (.int .i64))), (2, .v false (.fn 63 [] .bool)), (14, .v false (.list T94)), (15, .v false (.int .i64)), (16, .v false (.int .i64))], []⟩, fun k s => state_beside_api_Auto_int_at63.l0 k s.1.1 s.1.2.1 s.1.2.2.1 s.1.2.2.2.1 s.1.2.2.2.2.1⟩)]⟩
theorem state_beside_api_Auto_int_at63.is (k : Nat) (x : AT.dens (state_beside_api_Auto_int_at63.ce 0).ats) : (state_beside_api_Auto_int_at63.ce k).fn x = den state_beside_api_Auto_int_at63.F k (bodyOf Tryz.f64) (startAS (state_beside_api_Auto_int_at63.ce 0).ats x) (retK (state_beside_api_Auto_int_at63.F.c k) Tryz.f64.results.toList (state_beside_api_Auto_int_at63.ce 0).rts) := by kernel_rfl
theorem state_beside_api_Auto_int_at63.ob : Obl state_beside_api_Auto_int_at63.F (bodyOf Tryz.f64) (fun k => retK (state_beside_api_Auto_int_at63.F.c k) Tryz.f64.results.toList (state_beside_api_Auto_int_at63.ce 0).rts) := obl_of (by kernel_rfl)
/-! ### state_Stays: function 25 -/
def state_Stays.f (k : Nat) (l0_0 : List ByteArray) (l0_1 : List S104) (l0_2 : List ByteArray) (l0_3 : List S94) (l1_0 : List Int) (l1_1 : List Int) : Option Bool := (state_Right.f k l0_0 l0_1 l0_2 l0_3 l1_0 l1_1).bind fun t1 => (if t1 = true then ((state_beside_api_Auto_int_at63.f k l0_3 l1_0 false).bind fun t2 => (some t2)) else (some false))
def state_Stays.ce (k : Nat) : CallE := ⟨[⟨true, T26⟩, ⟨true, T29⟩], [⟨false, [.v .bool]⟩], fun (x : S26 × S29) => state_Stays.f k x.1.f0 x.1.f1 x.1.f2 x.1.f3 x.2.f0 x.2.f1⟩
def state_Stays.F : Fam (RT.dens (state_Stays.ce 0).rts) := ⟨fun k => ⟨TT0, GL0, callT [(14, [], state_Right.ce k), (64, [63], state_beside_api_Auto_int_at63.ce k)], cmpT CM0, []⟩, []⟩
theorem state_Stays.is (k : Nat) (x : AT.dens (state_Stays.ce 0).ats) : (state_Stays.ce k).fn x = den state_Stays.F k (bodyOf Tryz.f25) (startAS (state_Stays.ce 0).ats x) (retK (state_Stays.F.c k) Tryz.f25.results.toList (state_Stays.ce 0).rts) := by kernel_rfl
theorem state_Stays.ob : Obl state_Stays.F (bodyOf Tryz.f25) (fun k => retK (state_Stays.F.c k) Tryz.f25.results.toList (state_Stays.ce 0).rts) := obl_of (by kernel_rfl)
/-! ### math_bits_Mul64: function 170 -/
def math_bits_Mul64.f (a0 : Int) (a1 : Int) : Option (Int × Int) := (some (wk .u64 ((wk .u64 ((wk .u64 ((a0 / 4294967296) * (a1 / 4294967296))) + ((wk .u64 ((wk .u64 ((a0 / 4294967296) * (Wr.and .u64 a1 4294967295))) + ((wk .u64 ((Wr.and .u64 a0 4294967295) * (Wr.and .u64 a1 4294967295))) / 4294967296))) / 4294967296))) + ((wk .u64 ((Wr.and .u64 (wk .u64 ((wk .u64 ((a0 / 4294967296) * (Wr.and .u64 a1 4294967295))) + ((wk .u64 ((Wr.and .u64 a0 4294967295) * (Wr.and .u64 a1 4294967295))) / 4294967296))) 4294967295) + (wk .u64 ((Wr.and .u64 a0 4294967295) * (a1 / 4294967296))))) / 4294967296)), wk .u64 (a0 * a1)))
def math_bits_Mul64.ce : CallE := ⟨[⟨false, (.int .u64)⟩, ⟨false, (.int .u64)⟩], [⟨false, [.v (.int .u64)]⟩, ⟨false, [.v (.int .u64)]⟩], fun (x : Int × Int) => math_bits_Mul64.f x.1 x.2⟩
def math_bits_Mul64.F : Fam (RT.dens (math_bits_Mul64.ce).rts) := ⟨fun k => ⟨TT0, GL0, callT [], cmpT CM0, []⟩, []⟩
theorem math_bits_Mul64.is (k : Nat) (x : AT.dens (math_bits_Mul64.ce).ats) : (math_bits_Mul64.ce).fn x = den math_bits_Mul64.F k (bodyOf Tryz.f170) (startAS (math_bits_Mul64.ce).ats x) (retK (math_bits_Mul64.F.c k) Tryz.f170.results.toList (math_bits_Mul64.ce).rts) := by kernel_rfl
theorem math_bits_Mul64.ob : Obl math_bits_Mul64.F (bodyOf Tryz.f170) (fun k => retK (math_bits_Mul64.F.c k) Tryz.f170.results.toList (math_bits_Mul64.ce).rts) := obl_of (by kernel_rfl)
/-! ### state_times: function 65 -/
def state_times.f (a0 : Int) (a1 : Int) : Option Int := (math_bits_Mul64.f (wk .u64 (a0)) (wk .u64 (a1))).bind fun t1 => (if t1.1 = 0 then (if t1.2 > 9223372036854775807 then (some 9223372036854775807) else (some (w64 (t1.2)))) else (some 9223372036854775807))
def state_times.ce : CallE := ⟨[⟨false, (.int .i64)⟩, ⟨false, (.int .i64)⟩], [⟨false, [.v (.int .i64)]⟩], fun (x : Int × Int) => state_times.f x.1 x.2⟩
def state_times.F : Fam (RT.dens (state_times.ce).rts) := ⟨fun k => ⟨TT0, GL0, callT [(170, [], math_bits_Mul64.ce)], cmpT CM0, []⟩, []⟩
theorem state_times.is (k : Nat) (x : AT.dens (state_times.ce).ats) : (state_times.ce).fn x = den state_times.F k (bodyOf Tryz.f65) (startAS (state_times.ce).ats x) (retK (state_times.F.c k) Tryz.f65.results.toList (state_times.ce).rts) := by kernel_rfl
theorem state_times.ob : Obl state_times.F (bodyOf Tryz.f65) (fun k => retK (state_times.F.c k) Tryz.f65.results.toList (state_times.ce).rts) := obl_of (by kernel_rfl)
/-! ### state_Count: function 27 -/
mutual
def state_Count.l0 : Nat → Int → (List S94) → Int → Int → (List ByteArray) → (List S104) → (List ByteArray) → (List S94) → Option Int
 | 0, _, _, _, _, _, _, _, _ => none
 | k + 1, x3, x12, x13, x14, x1_0, x1_1, x1_2, x1_3 => if x14 < x13 then (if 0 ≤ x14 then (if x14 < (x12.length : Int) then ((state_times.f x3 (((rd_T94 x12 x14).f1).length : Int)).bind fun t2 => (state_Count.l0 k t2 x12 x13 (w64 (x14 + 1)) x1_0 x1_1 x1_2 x1_3)) else (none)) else (none)) else (state_Count.l1 k x3 x1_1 (x1_1.length : Int) 0)
def state_Count.l1 : Nat → Int → (List S104) → Int → Int → Option Int
 | 0, _, _, _, _ => none
 | k + 1, x3, x25, x26, x27 => if x27 < x26 then (if 0 ≤ x27 then (if x27 < (x25.length : Int) then ((state_times.f x3 (w64 ((w64 (((rd_T104 x25 x27).f2) - ((rd_T104 x25 x27).f1))) + 1))).bind fun t3 => (state_Count.l1 k t3 x25 x26 (w64 (x27 + 1)))) else (none)) else (none)) else (some x3)
end
def state_Count.f (k : Nat) (l0_0 : List ByteArray) (l0_1 : List S104) (l0_2 : List ByteArray) (l0_3 : List S94) : Option Int := (net_Right.f k l0_0 l0_1 l0_2 l0_3).bind fun t1 => (if (!t1) = true then (some 0) else (state_Count.l0 k 1 l0_3 (l0_3.length : Int) 0 l0_0 l0_1 l0_2 l0_3))
def state_Count.ce (k : Nat) : CallE := ⟨[⟨true, T26⟩], [⟨false, [.v (.int .i64)]⟩], fun (x : S26) => state_Count.f k x.f0 x.f1 x.f2 x.f3⟩
def state_Count.F : Fam (RT.dens (state_Count.ce 0).rts) := ⟨fun k => ⟨TT0, GL0, callT [(34, [], net_Right.ce k), (65, [], state_times.ce)], cmpT CM0, []⟩, [(6, ⟨⟨[(1, .k (.ptr 64 0)), (3, .v false (.int .i64)), (12, .v false (.list T94)), (13, .v false (.int .i64)), (14, .v false (.int .i64))], [(64, [.v (.list .str), .v (.list T104), .v (.list .str), .v (.list T94)])]⟩, fun k s => state_Count.l0 k s.1.1 s.1.2.1 s.1.2.2.1 s.1.2.2.2.1 s.2.1.1 s.2.1.2.1 s.2.1.2.2.1 s.2.1.2.2.2.1⟩), (11, ⟨⟨[(3, .v false (.int .i64)), (25, .v false (.list T104)), (26, .v false (.int .i64)), (27, .v false (.int .i64))], []⟩, fun k s => state_Count.l1 k s.1.1 s.1.2.1 s.1.2.2.1 s.1.2.2.2.1⟩)]⟩
theorem state_Count.is (k : Nat) (x : AT.dens (state_Count.ce 0).ats) : (state_Count.ce k).fn x = den state_Count.F k (bodyOf Tryz.f27) (startAS (state_Count.ce 0).ats x) (retK (state_Count.F.c k) Tryz.f27.results.toList (state_Count.ce 0).rts) := by kernel_rfl
theorem state_Count.ob : Obl state_Count.F (bodyOf Tryz.f27) (fun k => retK (state_Count.F.c k) Tryz.f27.results.toList (state_Count.ce 0).rts) := obl_of (by kernel_rfl)
/-! ### gnomonlaw13_net: function 58 -/
def gnomonlaw13_net.f : Option ((List ByteArray) × (List S104) × (List ByteArray) × (List S94)) := (some (([] : List ByteArray), ([(⟨(⟨#[110]⟩ : ByteArray), (-1), 3, 0⟩ : S104)] : List S104), ([] : List ByteArray), ([(⟨(⟨#[65]⟩ : ByteArray), ([(⟨(⟨#[97]⟩ : ByteArray), 0, ([] : List S38)⟩ : S102), (⟨(⟨#[98]⟩ : ByteArray), 1, ([] : List S38)⟩ : S102)] : List S102), ([] : List S97)⟩ : S94)] : List S94)))
def gnomonlaw13_net.ce : CallE := ⟨[], [⟨true, [.o 9 .str, .o 104 T104, .o 9 .str, .o 94 T94]⟩], fun (x : Unit) => gnomonlaw13_net.f⟩
def gnomonlaw13_net.F : Fam (RT.dens (gnomonlaw13_net.ce).rts) := ⟨fun k => ⟨TT0, GL0, callT [], cmpT CM0, []⟩, []⟩
theorem gnomonlaw13_net.is (k : Nat) (x : AT.dens (gnomonlaw13_net.ce).ats) : (gnomonlaw13_net.ce).fn x = den gnomonlaw13_net.F k (bodyOf Tryz.f58) (startAS (gnomonlaw13_net.ce).ats x) (retK (gnomonlaw13_net.F.c k) Tryz.f58.results.toList (gnomonlaw13_net.ce).rts) := by kernel_rfl
theorem gnomonlaw13_net.ob : Obl gnomonlaw13_net.F (bodyOf Tryz.f58) (fun k => retK (gnomonlaw13_net.F.c k) Tryz.f58.results.toList (gnomonlaw13_net.ce).rts) := obl_of (by kernel_rfl)
/-! ### gnomonlaw13_live: function 13 -/
def gnomonlaw13_live.f (k : Nat) : Option Bool := (gnomonlaw13_net.f).bind fun t1 => ((state_First.f k t1.1 t1.2.1 t1.2.2.1 t1.2.2.2).bind fun t2 => ((gnomonlaw13_net.f).bind fun t3 => ((state_Print.f k t3.1 t3.2.1 t3.2.2.1 t3.2.2.2 t2.1 t2.2.1).bind fun t4 => (if t2.2.2 = 0 then (if t4.2 = 0 then (if t4.1 = (⟨#[65, 46, 97, 59, 110, 61, 48]⟩ : ByteArray) then ((gnomonlaw13_net.f).bind fun t5 => ((state_Count.f k t5.1 t5.2.1 t5.2.2.1 t5.2.2.2).bind fun t6 => (if t6 = 10 then ((gnomonlaw13_net.f).bind fun t7 => ((state_Stays.f k t7.1 t7.2.1 t7.2.2.1 t7.2.2.2 t2.1 t2.2.1).bind fun t8 => (some t8))) else (some false)))) else (some false)) else (some false)) else (some false)))))
def gnomonlaw13_live.ce (k : Nat) : CallE := ⟨[], [⟨false, [.v .bool]⟩], fun (x : Unit) => gnomonlaw13_live.f k⟩
def gnomonlaw13_live.F : Fam (RT.dens (gnomonlaw13_live.ce 0).rts) := ⟨fun k => ⟨TT0, GL0, callT [(10, [], state_First.ce k), (20, [], state_Print.ce k), (25, [], state_Stays.ce k), (27, [], state_Count.ce k), (58, [], gnomonlaw13_net.ce)], cmpT CM0, []⟩, []⟩
theorem gnomonlaw13_live.is (k : Nat) (x : AT.dens (gnomonlaw13_live.ce 0).ats) : (gnomonlaw13_live.ce k).fn x = den gnomonlaw13_live.F k (bodyOf Tryz.f13) (startAS (gnomonlaw13_live.ce 0).ats x) (retK (gnomonlaw13_live.F.c k) Tryz.f13.results.toList (gnomonlaw13_live.ce 0).rts) := by kernel_rfl
theorem gnomonlaw13_live.ob : Obl gnomonlaw13_live.F (bodyOf Tryz.f13) (fun k => retK (gnomonlaw13_live.F.c k) Tryz.f13.results.toList (gnomonlaw13_live.ce 0).rts) := obl_of (by kernel_rfl)
/-! ### gnomonref11_SameGuards: function 15 -/
def gnomonref11_SameGuards.l0 : Nat → (List S38) → (List S38) → Int → Option Bool
 | 0, _, _, _ => none
 | k + 1, x0, x1, x5 => if x5 < (x0.length : Int) then (if 0 ≤ x5 then (if x5 < (x0.length : Int) then (if 0 ≤ x5 then (if x5 < (x1.length : Int) then (if (rd_T38 x0 x5) = (rd_T38 x1 x5) then (gnomonref11_SameGuards.l0 k x0 x1 (w64 (x5 + 1))) else (some false)) else (none)) else (none)) else (none)) else (none)) else (some true)
def gnomonref11_SameGuards.f (k : Nat) (a0 : List S38) (a1 : List S38) : Option Bool := if (a0.length : Int) = (a1.length : Int) then (gnomonref11_SameGuards.l0 k a0 a1 0) else (some false)
def gnomonref11_SameGuards.ce (k : Nat) : CallE := ⟨[⟨false, (.list T38)⟩, ⟨false, (.list T38)⟩], [⟨false, [.v .bool]⟩], fun (x : (List S38) × (List S38)) => gnomonref11_SameGuards.f k x.1 x.2⟩
def gnomonref11_SameGuards.F : Fam (RT.dens (gnomonref11_SameGuards.ce 0).rts) := ⟨fun k => ⟨TT0, GL0, callT [], cmpT CM0, []⟩, [(5, ⟨⟨[(0, .v false (.list T38)), (1, .v false (.list T38)), (5, .v false (.int .i64))], []⟩, fun k s => gnomonref11_SameGuards.l0 k s.1.1 s.1.2.1 s.1.2.2.1⟩)]⟩
theorem gnomonref11_SameGuards.is (k : Nat) (x : AT.dens (gnomonref11_SameGuards.ce 0).ats) : (gnomonref11_SameGuards.ce k).fn x = den gnomonref11_SameGuards.F k (bodyOf Tryz.f15) (startAS (gnomonref11_SameGuards.ce 0).ats x) (retK (gnomonref11_SameGuards.F.c k) Tryz.f15.results.toList (gnomonref11_SameGuards.ce 0).rts) := by kernel_rfl
theorem gnomonref11_SameGuards.ob : Obl gnomonref11_SameGuards.F (bodyOf Tryz.f15) (fun k => retK (gnomonref11_SameGuards.F.c k) Tryz.f15.results.toList (gnomonref11_SameGuards.ce 0).rts) := obl_of (by kernel_rfl)
/-! ### gnomonlaw13_StateOwn: function 3 -/
mutual
def gnomonlaw13_StateOwn.l0 : Nat → Int → Int → (List ByteArray) → (List S104) → (List ByteArray) → (List S94) → (List Int) → (List Int) → Option Bool
 | 0, _, _, _, _, _, _, _, _ => none
 | k + 1, x4, x5, x1_0, x1_1, x1_2, x1_3, x3_0, x3_1 => if x5 < (x3_0.length : Int) then (if 0 ≤ x5 then (if x5 < (x3_0.length : Int) then (gnomonlaw13_StateOwn.l0 k x4 (w64 (x5 + 1)) x1_0 x1_1 x1_2 x1_3 (x3_0.set (Int.toNat (x5)) 9) x3_1) else (none)) else (none)) else (gnomonlaw13_StateOwn.l1 k x4 0 x1_0 x1_1 x1_2 x1_3 x3_0 x3_1)
def gnomonlaw13_StateOwn.l1 : Nat → Int → Int → (List ByteArray) → (List S104) → (List ByteArray) → (List S94) → (List Int) → (List Int) → Option Bool
 | 0, _, _, _, _, _, _, _, _ => none
 | k + 1, x4, x6, x1_0, x1_1, x1_2, x1_3, x3_0, x3_1 => if x6 < (x3_1.length : Int) then (if 0 ≤ x6 then (if x6 < (x3_1.length : Int) then (gnomonlaw13_StateOwn.l1 k x4 (w64 (x6 + 1)) x1_0 x1_1 x1_2 x1_3 x3_0 (x3_1.set (Int.toNat (x6)) 9999)) else (none)) else (none)) else ((state_First.f k x1_0 x1_1 x1_2 x1_3).bind fun t2 => ((state_Invariants.f k x1_0 x1_1 x1_2 x1_3 t2.1 t2.2.1).bind fun t3 => ((gnomonref13_Invariants.f k x1_0 x1_1 x1_2 x1_3 t2.1 t2.2.1).bind fun t4 => (gnomonlaw13_StateOwn.l2 k x4 t2.2.2 t3.1 t4.1 0 x1_0 x1_1 x1_2 x1_3 t2.1 t2.2.1))))
def gnomonlaw13_StateOwn.l2 : Nat → Int → Int → (List S38) → (List S38) → Int → (List ByteArray) → (List S104) → (List ByteArray) → (List S94) → (List Int) → (List Int) → Option Bool
 | 0, _, _, _, _, _, _, _, _, _, _, _ => none
 | k + 1, x4, x8, x9, x11, x13, x1_0, x1_1, x1_2, x1_3, x7_0, x7_1 => if x13 < (x9.length : Int) then (if 0 ≤ x13 then (if x13 < (x9.length : Int) then (gnomonlaw13_StateOwn.l2 k x4 x8 (x9.set (Int.toNat (x13)) (⟨(rd_T38 x9 x13).f0, (rd_T38 x9 x13).f1, (rd_T38 x9 x13).f2, 77⟩ : S38)) x11 (w64 (x13 + 1)) x1_0 x1_1 x1_2 x1_3 x7_0 x7_1) else (none)) else (none)) else ((state_Invariants.f k x1_0 x1_1 x1_2 x1_3 x7_0 x7_1).bind fun t5 => ((gnomonlaw13_live.f k).bind fun t6 => (if t6 = true then (if x4 = x8 then (if x4 = 0 then ((state_Right.f k x1_0 x1_1 x1_2 x1_3 x7_0 x7_1).bind fun t7 => (if t7 = true then ((gnomonref11_SameGuards.f k t5.1 x11).bind fun t8 => (some t8)) else (some false))) else ((gnomonref11_SameGuards.f k t5.1 x11).bind fun t9 => (some t9))) else (some false)) else (some false))))
end
def gnomonlaw13_StateOwn.f (k : Nat) (l0_0 : List ByteArray) (l0_1 : List S104) (l0_2 : List ByteArray) (l0_3 : List S94) : Option Bool := (state_First.f k l0_0 l0_1 l0_2 l0_3).bind fun t1 => (gnomonlaw13_StateOwn.l0 k t1.2.2 0 l0_0 l0_1 l0_2 l0_3 t1.1 t1.2.1)
def gnomonlaw13_StateOwn.ce (k : Nat) : CallE := ⟨[⟨true, T26⟩], [⟨false, [.v .bool]⟩], fun (x : S26) => gnomonlaw13_StateOwn.f k x.f0 x.f1 x.f2 x.f3⟩
def gnomonlaw13_StateOwn.F : Fam (RT.dens (gnomonlaw13_StateOwn.ce 0).rts) := ⟨fun k => ⟨TT0, GL0, callT [(10, [], state_First.ce k), (11, [], state_Invariants.ce k), (12, [], gnomonref13_Invariants.ce k), (13, [], gnomonlaw13_live.ce k), (14, [], state_Right.ce k), (15, [], gnomonref11_SameGuards.ce k)], cmpT CM0, []⟩, [(4, ⟨⟨[(1, .k (.ptr 64 0)), (3, .k (.ptr 192 0)), (4, .v false (.int .i64)), (5, .v false (.int .i64))], [(64, [.v (.list .str), .v (.list T104), .v (.list .str), .v (.list T94)]), (192, [.o 3 (.int .i64), .o 3 (.int .i64)])]⟩, fun k s => gnomonlaw13_StateOwn.l0 k s.1.1 s.1.2.1 s.2.1.1 s.2.1.2.1 s.2.1.2.2.1 s.2.1.2.2.2.1 s.2.2.1.1 s.2.2.1.2.1⟩), (8, ⟨⟨[(1, .k (.ptr 64 0)), (3, .k (.ptr 192 0)), (4, .v false (.int .i64)), (6, .v false (.int .i64))], [(64, [.v (.list .str), .v (.list T104), .v (.list .str), .v (.list T94)]), (192, [.o 3 (.int .i64), .o 3 (.int .i64)])]⟩, fun k s => gnomonlaw13_StateOwn.l1 k s.1.1 s.1.2.1 s.2.1.1 s.2.1.2.1 s.2.1.2.2.1 s.2.1.2.2.2.1 s.2.2.1.1 s.2.2.1.2.1⟩), (15, ⟨⟨[(1, .k (.ptr 64 0)), (4, .v false (.int .i64)), (7, .k (.ptr 448 0)), (8, .v false (.int .i64)), (9, .o 38 T38), (11, .o 38 T38), (13, .v false (.int .i64))], [(64, [.v (.list .str), .v (.list T104), .v (.list .str), .v (.list T94)]), (448, [.v (.list (.int .i64)), .v (.list (.int .i64))])]⟩, fun k s => gnomonlaw13_StateOwn.l2 k s.1.1 s.1.2.1 s.1.2.2.1 s.1.2.2.2.1 s.1.2.2.2.2.1 s.2.1.1 s.2.1.2.1 s.2.1.2.2.1 s.2.1.2.2.2.1 s.2.2.1.1 s.2.2.1.2.1⟩)]⟩
theorem gnomonlaw13_StateOwn.is (k : Nat) (x : AT.dens (gnomonlaw13_StateOwn.ce 0).ats) : (gnomonlaw13_StateOwn.ce k).fn x = den gnomonlaw13_StateOwn.F k (bodyOf Tryz.f3) (startAS (gnomonlaw13_StateOwn.ce 0).ats x) (retK (gnomonlaw13_StateOwn.F.c k) Tryz.f3.results.toList (gnomonlaw13_StateOwn.ce 0).rts) := by kernel_rfl
theorem gnomonlaw13_StateOwn.ob : Obl gnomonlaw13_StateOwn.F (bodyOf Tryz.f3) (fun k => retK (gnomonlaw13_StateOwn.F.c k) Tryz.f3.results.toList (gnomonlaw13_StateOwn.ce 0).rts) := obl_of (by kernel_rfl)
end
theorem TT0.ok : ∀ t i, TT.find TT0 t = some i → TIOK Tryz.prog t i :=
  tt_cons (TIOK.of rfl (by kernel_rfl) (by kernel_rfl) (by kernel_rfl) (kd_eq rfl (by kernel_rfl))) <|
  tt_cons (TIOK.of rfl (by kernel_rfl) (by kernel_rfl) (by kernel_rfl) (kd_eq rfl (by kernel_rfl))) <|
  tt_cons (TIOK.of rfl (by kernel_rfl) (by kernel_rfl) (by kernel_rfl) (kd_eq rfl (by kernel_rfl))) <|
  tt_cons (TIOK.of rfl (by kernel_rfl) (by kernel_rfl) (by kernel_rfl) (kd_eq rfl (by kernel_rfl))) <|
  tt_cons (TIOK.of rfl (by kernel_rfl) (by kernel_rfl) (by kernel_rfl) (kd_eq rfl (by kernel_rfl))) <|
  tt_cons (TIOK.of rfl (by kernel_rfl) (by kernel_rfl) (by kernel_rfl) (kd_eq rfl (by kernel_rfl))) <|
  tt_cons (TIOK.of rfl (by kernel_rfl) (by kernel_rfl) (by kernel_rfl) (kd_eq rfl (by kernel_rfl))) <|
  tt_cons (TIOK.of rfl (by kernel_rfl) (by kernel_rfl) (by kernel_rfl) (kd_struct (by kernel_rfl))) <|
  tt_cons (TIOK.of rfl (by kernel_rfl) (by kernel_rfl) (by kernel_rfl) (kd_eq rfl (by kernel_rfl))) <|
  tt_cons (TIOK.of rfl (by kernel_rfl) (by kernel_rfl) (by kernel_rfl) (kd_struct (by kernel_rfl))) <|
  tt_cons (TIOK.of rfl (by kernel_rfl) (by kernel_rfl) (by kernel_rfl) (kd_eq rfl (by kernel_rfl))) <|
  tt_cons (TIOK.of rfl (by kernel_rfl) (by kernel_rfl) (by kernel_rfl) (kd_eq rfl (by kernel_rfl))) <|
  tt_cons (TIOK.of rfl (by kernel_rfl) (by kernel_rfl) (by kernel_rfl) (kd_eq rfl (by kernel_rfl))) <|
  tt_cons (TIOK.of rfl (by kernel_rfl) (by kernel_rfl) (by kernel_rfl) (kd_struct (by kernel_rfl))) <|
  tt_cons (TIOK.of0 [.nilFunc] rfl (by kernel_rfl) (by kernel_rfl) (kd_func (by kernel_rfl))) <|
  tt_cons (TIOK.of rfl (by kernel_rfl) (by kernel_rfl) (by kernel_rfl) (kd_eq rfl (by kernel_rfl))) <|
  tt_cons (TIOK.of rfl (by kernel_rfl) (by kernel_rfl) (by kernel_rfl) (kd_eq rfl (by kernel_rfl))) <|
  tt_cons (TIOK.of rfl (by kernel_rfl) (by kernel_rfl) (by kernel_rfl) (kd_eq rfl (by kernel_rfl))) <|
  tt_cons (TIOK.of rfl (by kernel_rfl) (by kernel_rfl) (by kernel_rfl) (kd_eq rfl (by kernel_rfl))) <|
  tt_cons (TIOK.of rfl (by kernel_rfl) (by kernel_rfl) (by kernel_rfl) (kd_struct (by kernel_rfl))) <|
  tt_cons (TIOK.of rfl (by kernel_rfl) (by kernel_rfl) (by kernel_rfl) (kd_eq rfl (by kernel_rfl))) <|
  tt_cons (TIOK.of rfl (by kernel_rfl) (by kernel_rfl) (by kernel_rfl) (kd_struct (by kernel_rfl))) <|
  tt_cons (TIOK.of rfl (by kernel_rfl) (by kernel_rfl) (by kernel_rfl) (kd_struct (by kernel_rfl))) <|
  tt_cons (TIOK.of rfl (by kernel_rfl) (by kernel_rfl) (by kernel_rfl) (kd_eq rfl (by kernel_rfl))) <|
  tt_cons (TIOK.of rfl (by kernel_rfl) (by kernel_rfl) (by kernel_rfl) (kd_struct (by kernel_rfl))) <|
  tt_cons (TIOK.of rfl (by kernel_rfl) (by kernel_rfl) (by kernel_rfl) (kd_struct (by kernel_rfl))) <|
  tt_cons (TIOK.of0 [.slice none 0 0] rfl (by kernel_rfl) (by kernel_rfl) (kd_eq rfl (by kernel_rfl))) <|
  tt_cons (TIOK.of rfl (by kernel_rfl) (by kernel_rfl) (by kernel_rfl) (kd_eq rfl (by kernel_rfl))) <|
  tt_cons (TIOK.of rfl (by kernel_rfl) (by kernel_rfl) (by kernel_rfl) (kd_eq rfl (by kernel_rfl))) <|
  tt_cons (TIOK.of rfl (by kernel_rfl) (by kernel_rfl) (by kernel_rfl) (kd_struct (by kernel_rfl))) <|
  tt_cons (TIOK.of rfl (by kernel_rfl) (by kernel_rfl) (by kernel_rfl) (kd_eq rfl (by kernel_rfl))) <|
  tt_cons (TIOK.of0 [.map none] rfl (by kernel_rfl) (by kernel_rfl) (kd_smap (by kernel_rfl))) <|
  tt_cons (TIOK.of rfl (by kernel_rfl) (by kernel_rfl) (by kernel_rfl) (kd_struct (by kernel_rfl))) <|
  tt_cons (TIOK.of rfl (by kernel_rfl) (by kernel_rfl) (by kernel_rfl) (kd_eq rfl (by kernel_rfl))) <|
  tt_cons (TIOK.of rfl (by kernel_rfl) (by kernel_rfl) (by kernel_rfl) (kd_eq rfl (by kernel_rfl))) <|
  tt_cons (TIOK.of rfl (by kernel_rfl) (by kernel_rfl) (by kernel_rfl) (kd_eq rfl (by kernel_rfl))) <|
  tt_cons (TIOK.of rfl (by kernel_rfl) (by kernel_rfl) (by kernel_rfl) (kd_eq rfl (by kernel_rfl))) <|
  tt_cons (TIOK.of rfl (by kernel_rfl) (by kernel_rfl) (by kernel_rfl) (kd_struct (by kernel_rfl))) <|
  tt_cons (TIOK.of rfl (by kernel_rfl) (by kernel_rfl) (by kernel_rfl) (kd_eq rfl (by kernel_rfl))) <|
  tt_nil
theorem CM0.ok : ∀ t T, cmpT CM0 t = some T → cmpChk Tryz.prog t T = true := cm_cons (by kernel_rfl) <| cm_nil
theorem net_some_1.ok (k : Nat) : CallOK Tryz.prog GL0 177 (net_some_1.ce) := call_ok (F := net_some_1.F) (c := bodyOf Tryz.f177) (g := fun k => (net_some_1.ce).fn) (by kernel_rfl) (by kernel_rfl) (by kernel_rfl) (by kernel_rfl) (fun k => env_ok TT0.ok cl_nil CM0.ok) (by kernel_rfl) (by kernel_rfl) (by kernel_rfl) net_some_1.ob net_some_1.is k
theorem slices_IndexFunc_api_Auto_api_Auto_at177.ok (k : Nat) : CallOK Tryz.prog GL0 174 (slices_IndexFunc_api_Auto_api_Auto_at177.ce k) := call_ok (F := slices_IndexFunc_api_Auto_api_Auto_at177.F) (c := bodyOf Tryz.f174) (g := fun k => (slices_IndexFunc_api_Auto_api_Auto_at177.ce k).fn) (by kernel_rfl) (by kernel_rfl) (by kernel_rfl) (by kernel_rfl) (fun k => env_ok TT0.ok (cl_cons (net_some_1.ok k) cl_nil) CM0.ok) (by kernel_rfl) (by kernel_rfl) (by kernel_rfl) slices_IndexFunc_api_Auto_api_Auto_at177.ob slices_IndexFunc_api_Auto_api_Auto_at177.is k
theorem slices_ContainsFunc_api_Auto_api_Auto_at177.ok (k : Nat) : CallOK Tryz.prog GL0 176 (slices_ContainsFunc_api_Auto_api_Auto_at177.ce k) := call_ok (F := slices_ContainsFunc_api_Auto_api_Auto_at177.F) (c := bodyOf Tryz.f176) (g := fun k => (slices_ContainsFunc_api_Auto_api_Auto_at177.ce k).fn) (by kernel_rfl) (by kernel_rfl) (by kernel_rfl) (by kernel_rfl) (fun k => env_ok TT0.ok (cl_cons (slices_IndexFunc_api_Auto_api_Auto_at177.ok k) cl_nil) CM0.ok) (by kernel_rfl) (by kernel_rfl) (by kernel_rfl) slices_ContainsFunc_api_Auto_api_Auto_at177.ob slices_ContainsFunc_api_Auto_api_Auto_at177.is k
theorem net_some.ok (k : Nat) : CallOK Tryz.prog GL0 72 (net_some.ce k) := call_ok (F := net_some.F) (c := bodyOf Tryz.f72) (g := fun k => (net_some.ce k).fn) (by kernel_rfl) (by kernel_rfl) (by kernel_rfl) (by kernel_rfl) (fun k => env_ok TT0.ok (cl_cons (slices_ContainsFunc_api_Auto_api_Auto_at177.ok k) cl_nil) CM0.ok) (by kernel_rfl) (by kernel_rfl) (by kernel_rfl) net_some.ob net_some.is k
theorem net_sizes.ok (k : Nat) : CallOK Tryz.prog GL0 73 (net_sizes.ce k) := call_ok (F := net_sizes.F) (c := bodyOf Tryz.f73) (g := fun k => (net_sizes.ce k).fn) (by kernel_rfl) (by kernel_rfl) (by kernel_rfl) (by kernel_rfl) (fun k => env_ok TT0.ok cl_nil CM0.ok) (by kernel_rfl) (by kernel_rfl) (by kernel_rfl) net_sizes.ob net_sizes.is k
theorem lex_of.ok (k : Nat) : CallOK Tryz.prog GL0 224 (lex_of.ce k) := call_ok (F := lex_of.F) (c := bodyOf Tryz.f224) (g := fun k => (lex_of.ce k).fn) (by kernel_rfl) (by kernel_rfl) (by kernel_rfl) (by kernel_rfl) (fun k => env_ok TT0.ok cl_nil CM0.ok) (by kernel_rfl) (by kernel_rfl) (by kernel_rfl) lex_of.ob lex_of.is k
theorem lex_word.ok (k : Nat) : CallOK Tryz.prog GL0 225 (lex_word.ce k) := call_ok (F := lex_word.F) (c := bodyOf Tryz.f225) (g := fun k => (lex_word.ce k).fn) (by kernel_rfl) (by kernel_rfl) (by kernel_rfl) (by kernel_rfl) (fun k => env_ok TT0.ok (cl_cons (lex_of.ok k) cl_nil) CM0.ok) (by kernel_rfl) (by kernel_rfl) (by kernel_rfl) lex_word.ob lex_word.is k
theorem slices_Index_string_string.ok (k : Nat) : CallOK Tryz.prog GL0 172 (slices_Index_string_string.ce k) := call_ok (F := slices_Index_string_string.F) (c := bodyOf Tryz.f172) (g := fun k => (slices_Index_string_string.ce k).fn) (by kernel_rfl) (by kernel_rfl) (by kernel_rfl) (by kernel_rfl) (fun k => env_ok TT0.ok cl_nil CM0.ok) (by kernel_rfl) (by kernel_rfl) (by kernel_rfl) slices_Index_string_string.ob slices_Index_string_string.is k
theorem slices_Contains_string_string.ok (k : Nat) : CallOK Tryz.prog GL0 226 (slices_Contains_string_string.ce k) := call_ok (F := slices_Contains_string_string.F) (c := bodyOf Tryz.f226) (g := fun k => (slices_Contains_string_string.ce k).fn) (by kernel_rfl) (by kernel_rfl) (by kernel_rfl) (by kernel_rfl) (fun k => env_ok TT0.ok (cl_cons (slices_Index_string_string.ok k) cl_nil) CM0.ok) (by kernel_rfl) (by kernel_rfl) (by kernel_rfl) slices_Contains_string_string.ob slices_Contains_string_string.is k
theorem lex_IsName.ok (k : Nat) : CallOK Tryz.prog GL0 207 (lex_IsName.ce k) := call_ok (F := lex_IsName.F) (c := bodyOf Tryz.f207) (g := fun k => (lex_IsName.ce k).fn) (by kernel_rfl) (by kernel_rfl) (by kernel_rfl) (by kernel_rfl) (fun k => env_ok TT0.ok (cl_cons (lex_of.ok k) (cl_cons (lex_word.ok k) (cl_cons (slices_Contains_string_string.ok k) cl_nil))) CM0.ok) (by kernel_rfl) (by kernel_rfl) (by kernel_rfl) lex_IsName.ob lex_IsName.is k
theorem net_given.ok (k : Nat) : CallOK Tryz.prog GL0 178 (net_given.ce k) := call_ok (F := net_given.F) (c := bodyOf Tryz.f178) (g := fun k => (net_given.ce k).fn) (by kernel_rfl) (by kernel_rfl) (by kernel_rfl) (by kernel_rfl) (fun k => env_ok TT0.ok (cl_cons (lex_IsName.ok k) cl_nil) CM0.ok) (by kernel_rfl) (by kernel_rfl) (by kernel_rfl) net_given.ob net_given.is k
theorem net_Names.ok (k : Nat) : CallOK Tryz.prog GL0 173 (net_Names.ce k) := call_ok (F := net_Names.F) (c := bodyOf Tryz.f173) (g := fun k => (net_Names.ce k).fn) (by kernel_rfl) (by kernel_rfl) (by kernel_rfl) (by kernel_rfl) (fun k => env_ok TT0.ok cl_nil CM0.ok) (by kernel_rfl) (by kernel_rfl) (by kernel_rfl) net_Names.ob net_Names.is k
theorem slices_Grow_string_string.ok (k : Nat) : CallOK Tryz.prog GL0 227 (slices_Grow_string_string.ce) := call_ok (F := slices_Grow_string_string.F) (c := bodyOf Tryz.f227) (g := fun k => (slices_Grow_string_string.ce).fn) (by kernel_rfl) (by kernel_rfl) (by kernel_rfl) (by kernel_rfl) (fun k => env_ok TT0.ok cl_nil CM0.ok) (by kernel_rfl) (by kernel_rfl) (by kernel_rfl) slices_Grow_string_string.ob slices_Grow_string_string.is k
theorem slices_Concat_string_string.ok (k : Nat) : CallOK Tryz.prog GL0 208 (slices_Concat_string_string.ce k) := call_ok (F := slices_Concat_string_string.F) (c := bodyOf Tryz.f208) (g := fun k => (slices_Concat_string_string.ce k).fn) (by kernel_rfl) (by kernel_rfl) (by kernel_rfl) (by kernel_rfl) (fun k => env_ok TT0.ok (cl_cons (slices_Grow_string_string.ok k) cl_nil) CM0.ok) (by kernel_rfl) (by kernel_rfl) (by kernel_rfl) slices_Concat_string_string.ob slices_Concat_string_string.is k
theorem net_all.ok (k : Nat) : CallOK Tryz.prog GL0 179 (net_all.ce k) := call_ok (F := net_all.F) (c := bodyOf Tryz.f179) (g := fun k => (net_all.ce k).fn) (by kernel_rfl) (by kernel_rfl) (by kernel_rfl) (by kernel_rfl) (fun k => env_ok TT0.ok (cl_cons (net_Names.ok k) (cl_cons (slices_Concat_string_string.ok k) cl_nil)) CM0.ok) (by kernel_rfl) (by kernel_rfl) (by kernel_rfl) net_all.ob net_all.is k
theorem net_locNames.ok (k : Nat) : CallOK Tryz.prog GL0 180 (net_locNames.ce k) := call_ok (F := net_locNames.F) (c := bodyOf Tryz.f180) (g := fun k => (net_locNames.ce k).fn) (by kernel_rfl) (by kernel_rfl) (by kernel_rfl) (by kernel_rfl) (fun k => env_ok TT0.ok cl_nil CM0.ok) (by kernel_rfl) (by kernel_rfl) (by kernel_rfl) net_locNames.ob net_locNames.is k
theorem net_names.ok (k : Nat) : CallOK Tryz.prog GL0 74 (net_names.ce k) := call_ok (F := net_names.F) (c := bodyOf Tryz.f74) (g := fun k => (net_names.ce k).fn) (by kernel_rfl) (by kernel_rfl) (by kernel_rfl) (by kernel_rfl) (fun k => env_ok TT0.ok (cl_cons (net_given.ok k) (cl_cons (net_all.ok k) (cl_cons (net_locNames.ok k) cl_nil))) CM0.ok) (by kernel_rfl) (by kernel_rfl) (by kernel_rfl) net_names.ob net_names.is k
theorem net_vars.ok (k : Nat) : CallOK Tryz.prog GL0 75 (net_vars.ce k) := call_ok (F := net_vars.F) (c := bodyOf Tryz.f75) (g := fun k => (net_vars.ce k).fn) (by kernel_rfl) (by kernel_rfl) (by kernel_rfl) (by kernel_rfl) (fun k => env_ok TT0.ok cl_nil CM0.ok) (by kernel_rfl) (by kernel_rfl) (by kernel_rfl) net_vars.ob net_vars.is k
theorem net_locs.ok (k : Nat) : CallOK Tryz.prog GL0 76 (net_locs.ce k) := call_ok (F := net_locs.F) (c := bodyOf Tryz.f76) (g := fun k => (net_locs.ce k).fn) (by kernel_rfl) (by kernel_rfl) (by kernel_rfl) (by kernel_rfl) (fun k => env_ok TT0.ok cl_nil CM0.ok) (by kernel_rfl) (by kernel_rfl) (by kernel_rfl) net_locs.ob net_locs.is k
theorem net_edges_1.ok (k : Nat) : CallOK Tryz.prog GL0 181 (net_edges_1.ce) := call_ok (F := net_edges_1.F) (c := bodyOf Tryz.f181) (g := fun k => (net_edges_1.ce).fn) (by kernel_rfl) (by kernel_rfl) (by kernel_rfl) (by kernel_rfl) (fun k => env_ok TT0.ok cl_nil CM0.ok) (by kernel_rfl) (by kernel_rfl) (by kernel_rfl) net_edges_1.ob net_edges_1.is k
theorem net_edges.ok (k : Nat) : CallOK Tryz.prog GL0 77 (net_edges.ce k) := call_ok (F := net_edges.F) (c := bodyOf Tryz.f77) (g := fun k => (net_edges.ce k).fn) (by kernel_rfl) (by kernel_rfl) (by kernel_rfl) (by kernel_rfl) (fun k => env_ok TT0.ok (cl_cons (net_edges_1.ok k) cl_nil) CM0.ok) (by kernel_rfl) (by kernel_rfl) (by kernel_rfl) net_edges.ob net_edges.is k
theorem net_isClock.ok (k : Nat) : CallOK Tryz.prog GL0 184 (net_isClock.ce) := call_ok (F := net_isClock.F) (c := bodyOf Tryz.f184) (g := fun k => (net_isClock.ce).fn) (by kernel_rfl) (by kernel_rfl) (by kernel_rfl) (by kernel_rfl) (fun k => env_ok TT0.ok cl_nil CM0.ok) (by kernel_rfl) (by kernel_rfl) (by kernel_rfl) net_isClock.ob net_isClock.is k
theorem net_clocksOf.ok (k : Nat) : CallOK Tryz.prog GL0 92 (net_clocksOf.ce k) := call_ok (F := net_clocksOf.F) (c := bodyOf Tryz.f92) (g := fun k => (net_clocksOf.ce k).fn) (by kernel_rfl) (by kernel_rfl) (by kernel_rfl) (by kernel_rfl) (fun k => env_ok TT0.ok (cl_cons (net_isClock.ok k) cl_nil) CM0.ok) (by kernel_rfl) (by kernel_rfl) (by kernel_rfl) net_clocksOf.ob net_clocksOf.is k
theorem net_guards.ok (k : Nat) : CallOK Tryz.prog GL0 182 (net_guards.ce k) := call_ok (F := net_guards.F) (c := bodyOf Tryz.f182) (g := fun k => (net_guards.ce k).fn) (by kernel_rfl) (by kernel_rfl) (by kernel_rfl) (by kernel_rfl) (fun k => env_ok TT0.ok cl_nil CM0.ok) (by kernel_rfl) (by kernel_rfl) (by kernel_rfl) net_guards.ob net_guards.is k
theorem net_sets.ok (k : Nat) : CallOK Tryz.prog GL0 183 (net_sets.ce k) := call_ok (F := net_sets.F) (c := bodyOf Tryz.f183) (g := fun k => (net_sets.ce k).fn) (by kernel_rfl) (by kernel_rfl) (by kernel_rfl) (by kernel_rfl) (fun k => env_ok TT0.ok cl_nil CM0.ok) (by kernel_rfl) (by kernel_rfl) (by kernel_rfl) net_sets.ob net_sets.is k
theorem net_clocks.ok (k : Nat) : CallOK Tryz.prog GL0 78 (net_clocks.ce k) := call_ok (F := net_clocks.F) (c := bodyOf Tryz.f78) (g := fun k => (net_clocks.ce k).fn) (by kernel_rfl) (by kernel_rfl) (by kernel_rfl) (by kernel_rfl) (fun k => env_ok TT0.ok (cl_cons (net_clocksOf.ok k) (cl_cons (net_guards.ok k) (cl_cons (net_sets.ok k) (cl_cons (net_isClock.ok k) cl_nil)))) CM0.ok) (by kernel_rfl) (by kernel_rfl) (by kernel_rfl) net_clocks.ob net_clocks.is k
theorem net_cmps.ok (k : Nat) : CallOK Tryz.prog GL0 94 (net_cmps.ce k) := call_ok (F := net_cmps.F) (c := bodyOf Tryz.f94) (g := fun k => (net_cmps.ce k).fn) (by kernel_rfl) (by kernel_rfl) (by kernel_rfl) (by kernel_rfl) (fun k => env_ok TT0.ok cl_nil CM0.ok) (by kernel_rfl) (by kernel_rfl) (by kernel_rfl) net_cmps.ob net_cmps.is k
theorem net_forms.ok (k : Nat) : CallOK Tryz.prog GL0 79 (net_forms.ce k) := call_ok (F := net_forms.F) (c := bodyOf Tryz.f79) (g := fun k => (net_forms.ce k).fn) (by kernel_rfl) (by kernel_rfl) (by kernel_rfl) (by kernel_rfl) (fun k => env_ok TT0.ok (cl_cons (net_cmps.ok k) (cl_cons (net_guards.ok k) (cl_cons (net_sets.ok k) cl_nil))) CM0.ok) (by kernel_rfl) (by kernel_rfl) (by kernel_rfl) net_forms.ob net_forms.is k
theorem expr_of.ok (k : Nat) : CallOK Tryz.prog GL0 210 (expr_of.ce) := call_ok (F := expr_of.F) (c := bodyOf Tryz.f210) (g := fun k => (expr_of.ce).fn) (by kernel_rfl) (by kernel_rfl) (by kernel_rfl) (by kernel_rfl) (fun k => env_ok TT0.ok cl_nil CM0.ok) (by kernel_rfl) (by kernel_rfl) (by kernel_rfl) expr_of.ob expr_of.is k
theorem expr_End.ok (k : Nat) : CallOK Tryz.prog GL0 209 (expr_End.ce k) := call_ok (F := expr_End.F) (c := bodyOf Tryz.f209) (g := fun k => (expr_End.ce k).fn) (by kernel_rfl) (by kernel_rfl) (by kernel_rfl) (by kernel_rfl) (fun k => env_ok TT0.ok (cl_cons (expr_of.ok k) cl_nil) CM0.ok) (by kernel_rfl) (by kernel_rfl) (by kernel_rfl) expr_End.ob expr_End.is k
theorem expr_Right.ok (k : Nat) : CallOK Tryz.prog GL0 185 (expr_Right.ce k) := call_ok (F := expr_Right.F) (c := bodyOf Tryz.f185) (g := fun k => (expr_Right.ce k).fn) (by kernel_rfl) (by kernel_rfl) (by kernel_rfl) (by kernel_rfl) (fun k => env_ok TT0.ok (cl_cons (expr_End.ok k) (cl_cons (expr_of.ok k) cl_nil)) CM0.ok) (by kernel_rfl) (by kernel_rfl) (by kernel_rfl) expr_Right.ob expr_Right.is k
theorem expr_IsTruth.ok (k : Nat) : CallOK Tryz.prog GL0 186 (expr_IsTruth.ce) := call_ok (F := expr_IsTruth.F) (c := bodyOf Tryz.f186) (g := fun k => (expr_IsTruth.ce).fn) (by kernel_rfl) (by kernel_rfl) (by kernel_rfl) (by kernel_rfl) (fun k => env_ok TT0.ok (cl_cons (expr_of.ok k) cl_nil) CM0.ok) (by kernel_rfl) (by kernel_rfl) (by kernel_rfl) expr_IsTruth.ob expr_IsTruth.is k
theorem net_truth.ok (k : Nat) : CallOK Tryz.prog GL0 96 (net_truth.ce k) := call_ok (F := net_truth.F) (c := bodyOf Tryz.f96) (g := fun k => (net_truth.ce k).fn) (by kernel_rfl) (by kernel_rfl) (by kernel_rfl) (by kernel_rfl) (fun k => env_ok TT0.ok (cl_cons (expr_Right.ok k) (cl_cons (expr_IsTruth.ok k) cl_nil)) CM0.ok) (by kernel_rfl) (by kernel_rfl) (by kernel_rfl) net_truth.ob net_truth.is k
theorem net_tests.ok (k : Nat) : CallOK Tryz.prog GL0 80 (net_tests.ce k) := call_ok (F := net_tests.F) (c := bodyOf Tryz.f80) (g := fun k => (net_tests.ce k).fn) (by kernel_rfl) (by kernel_rfl) (by kernel_rfl) (by kernel_rfl) (fun k => env_ok TT0.ok (cl_cons (net_truth.ok k) (cl_cons (net_sets.ok k) (cl_cons (expr_Right.ok k) (cl_cons (expr_IsTruth.ok k) cl_nil)))) CM0.ok) (by kernel_rfl) (by kernel_rfl) (by kernel_rfl) net_tests.ob net_tests.is k
theorem net_Whole.ok (k : Nat) : CallOK Tryz.prog GL0 32 (net_Whole.ce k) := call_ok (F := net_Whole.F) (c := bodyOf Tryz.f32) (g := fun k => (net_Whole.ce k).fn) (by kernel_rfl) (by kernel_rfl) (by kernel_rfl) (by kernel_rfl) (fun k => env_ok TT0.ok (cl_cons (net_some.ok k) (cl_cons (net_sizes.ok k) (cl_cons (net_names.ok k) (cl_cons (net_vars.ok k) (cl_cons (net_locs.ok k) (cl_cons (net_edges.ok k) (cl_cons (net_clocks.ok k) (cl_cons (net_forms.ok k) (cl_cons (net_tests.ok k) cl_nil))))))))) CM0.ok) (by kernel_rfl) (by kernel_rfl) (by kernel_rfl) net_Whole.ob net_Whole.is k
theorem net_Right.ok (k : Nat) : CallOK Tryz.prog GL0 34 (net_Right.ce k) := call_ok (F := net_Right.F) (c := bodyOf Tryz.f34) (g := fun k => (net_Right.ce k).fn) (by kernel_rfl) (by kernel_rfl) (by kernel_rfl) (by kernel_rfl) (fun k => env_ok TT0.ok (cl_cons (net_Whole.ok k) cl_nil) CM0.ok) (by kernel_rfl) (by kernel_rfl) (by kernel_rfl) net_Right.ob net_Right.is k
theorem state_First.ok (k : Nat) : CallOK Tryz.prog GL0 10 (state_First.ce k) := call_ok (F := state_First.F) (c := bodyOf Tryz.f10) (g := fun k => (state_First.ce k).fn) (by kernel_rfl) (by kernel_rfl) (by kernel_rfl) (by kernel_rfl) (fun k => env_ok TT0.ok (cl_cons (net_Right.ok k) cl_nil) CM0.ok) (by kernel_rfl) (by kernel_rfl) (by kernel_rfl) state_First.ob state_First.is k
theorem state_is_1.ok (k : Nat) : CallOK Tryz.prog GL0 163 (state_is_1.ce) := call_ok (F := state_is_1.F) (c := bodyOf Tryz.f163) (g := fun k => (state_is_1.ce).fn) (by kernel_rfl) (by kernel_rfl) (by kernel_rfl) (by kernel_rfl) (fun k => env_ok TT0.ok cl_nil CM0.ok) (by kernel_rfl) (by kernel_rfl) (by kernel_rfl) state_is_1.ob state_is_1.is k
theorem state_is_2.ok (k : Nat) : CallOK Tryz.prog GL0 164 (state_is_2.ce) := call_ok (F := state_is_2.F) (c := bodyOf Tryz.f164) (g := fun k => (state_is_2.ce).fn) (by kernel_rfl) (by kernel_rfl) (by kernel_rfl) (by kernel_rfl) (fun k => env_ok TT0.ok cl_nil CM0.ok) (by kernel_rfl) (by kernel_rfl) (by kernel_rfl) state_is_2.ob state_is_2.is k
theorem state_beside_api_Auto_int_at163.ok (k : Nat) : CallOK Tryz.prog GL0 64 (state_beside_api_Auto_int_at163.ce k) := call_ok (F := state_beside_api_Auto_int_at163.F) (c := bodyOf Tryz.f64) (g := fun k => (state_beside_api_Auto_int_at163.ce k).fn) (by kernel_rfl) (by kernel_rfl) (by kernel_rfl) (by kernel_rfl) (fun k => env_ok TT0.ok (cl_cons (state_is_1.ok k) cl_nil) CM0.ok) (by kernel_rfl) (by kernel_rfl) (by kernel_rfl) state_beside_api_Auto_int_at163.ob state_beside_api_Auto_int_at163.is k
theorem state_beside_api_Variable_int_at164.ok (k : Nat) : CallOK Tryz.prog GL0 165 (state_beside_api_Variable_int_at164.ce k) := call_ok (F := state_beside_api_Variable_int_at164.F) (c := bodyOf Tryz.f165) (g := fun k => (state_beside_api_Variable_int_at164.ce k).fn) (by kernel_rfl) (by kernel_rfl) (by kernel_rfl) (by kernel_rfl) (fun k => env_ok TT0.ok (cl_cons (state_is_2.ok k) cl_nil) CM0.ok) (by kernel_rfl) (by kernel_rfl) (by kernel_rfl) state_beside_api_Variable_int_at164.ob state_beside_api_Variable_int_at164.is k
theorem state_is.ok (k : Nat) : CallOK Tryz.prog GL0 59 (state_is.ce k) := call_ok (F := state_is.F) (c := bodyOf Tryz.f59) (g := fun k => (state_is.ce k).fn) (by kernel_rfl) (by kernel_rfl) (by kernel_rfl) (by kernel_rfl) (fun k => env_ok TT0.ok (cl_cons (state_beside_api_Auto_int_at163.ok k) (cl_cons (state_beside_api_Variable_int_at164.ok k) cl_nil)) CM0.ok) (by kernel_rfl) (by kernel_rfl) (by kernel_rfl) state_is.ob state_is.is k
theorem state_wrong.ok (k : Nat) : CallOK Tryz.prog GL0 56 (state_wrong.ce k) := call_ok (F := state_wrong.F) (c := bodyOf Tryz.f56) (g := fun k => (state_wrong.ce k).fn) (by kernel_rfl) (by kernel_rfl) (by kernel_rfl) (by kernel_rfl) (fun k => env_ok TT0.ok (cl_cons (net_Right.ok k) (cl_cons (state_is.ok k) cl_nil)) CM0.ok) (by kernel_rfl) (by kernel_rfl) (by kernel_rfl) state_wrong.ob state_wrong.is k
theorem state_Invariants.ok (k : Nat) : CallOK Tryz.prog GL0 11 (state_Invariants.ce k) := call_ok (F := state_Invariants.F) (c := bodyOf Tryz.f11) (g := fun k => (state_Invariants.ce k).fn) (by kernel_rfl) (by kernel_rfl) (by kernel_rfl) (by kernel_rfl) (fun k => env_ok TT0.ok (cl_cons (state_wrong.ok k) cl_nil) CM0.ok) (by kernel_rfl) (by kernel_rfl) (by kernel_rfl) state_Invariants.ob state_Invariants.is k
theorem gnomonref10_long.ok (k : Nat) : CallOK Tryz.prog GL0 81 (gnomonref10_long.ce k) := call_ok (F := gnomonref10_long.F) (c := bodyOf Tryz.f81) (g := fun k => (gnomonref10_long.ce k).fn) (by kernel_rfl) (by kernel_rfl) (by kernel_rfl) (by kernel_rfl) (fun k => env_ok TT0.ok cl_nil CM0.ok) (by kernel_rfl) (by kernel_rfl) (by kernel_rfl) gnomonref10_long.ob gnomonref10_long.is k
theorem gnomonref09_begin.ok (k : Nat) : CallOK Tryz.prog GL0 241 (gnomonref09_begin.ce k) := call_ok (F := gnomonref09_begin.F) (c := bodyOf Tryz.f241) (g := fun k => (gnomonref09_begin.ce k).fn) (by kernel_rfl) (by kernel_rfl) (by kernel_rfl) (by kernel_rfl) (fun k => env_ok TT0.ok cl_nil CM0.ok) (by kernel_rfl) (by kernel_rfl) (by kernel_rfl) gnomonref09_begin.ob gnomonref09_begin.is k
theorem gnomonref09_digit.ok (k : Nat) : CallOK Tryz.prog GL0 242 (gnomonref09_digit.ce) := call_ok (F := gnomonref09_digit.F) (c := bodyOf Tryz.f242) (g := fun k => (gnomonref09_digit.ce).fn) (by kernel_rfl) (by kernel_rfl) (by kernel_rfl) (by kernel_rfl) (fun k => env_ok TT0.ok cl_nil CM0.ok) (by kernel_rfl) (by kernel_rfl) (by kernel_rfl) gnomonref09_digit.ob gnomonref09_digit.is k
theorem gnomonref09_number.ok (k : Nat) : CallOK Tryz.prog GL0 243 (gnomonref09_number.ce k) := call_ok (F := gnomonref09_number.F) (c := bodyOf Tryz.f243) (g := fun k => (gnomonref09_number.ce k).fn) (by kernel_rfl) (by kernel_rfl) (by kernel_rfl) (by kernel_rfl) (fun k => env_ok TT0.ok (cl_cons (gnomonref09_digit.ok k) cl_nil) CM0.ok) (by kernel_rfl) (by kernel_rfl) (by kernel_rfl) gnomonref09_number.ob gnomonref09_number.is k
theorem gnomonref09_letter.ok (k : Nat) : CallOK Tryz.prog GL0 244 (gnomonref09_letter.ce) := call_ok (F := gnomonref09_letter.F) (c := bodyOf Tryz.f244) (g := fun k => (gnomonref09_letter.ce).fn) (by kernel_rfl) (by kernel_rfl) (by kernel_rfl) (by kernel_rfl) (fun k => env_ok TT0.ok cl_nil CM0.ok) (by kernel_rfl) (by kernel_rfl) (by kernel_rfl) gnomonref09_letter.ob gnomonref09_letter.is k
theorem gnomonref09_Next.ok (k : Nat) : CallOK Tryz.prog GL0 238 (gnomonref09_Next.ce k) := call_ok (F := gnomonref09_Next.F) (c := bodyOf Tryz.f238) (g := fun k => (gnomonref09_Next.ce k).fn) (by kernel_rfl) (by kernel_rfl) (by kernel_rfl) (by kernel_rfl) (fun k => env_ok TT0.ok (cl_cons (gnomonref09_begin.ok k) (cl_cons (gnomonref09_digit.ok k) (cl_cons (gnomonref09_number.ok k) (cl_cons (gnomonref09_letter.ok k) cl_nil)))) CM0.ok) (by kernel_rfl) (by kernel_rfl) (by kernel_rfl) gnomonref09_Next.ob gnomonref09_Next.is k
theorem gnomonref09_IsName.ok (k : Nat) : CallOK Tryz.prog GL0 228 (gnomonref09_IsName.ce k) := call_ok (F := gnomonref09_IsName.F) (c := bodyOf Tryz.f228) (g := fun k => (gnomonref09_IsName.ce k).fn) (by kernel_rfl) (by kernel_rfl) (by kernel_rfl) (by kernel_rfl) (fun k => env_ok TT0.ok (cl_cons (gnomonref09_Next.ok k) cl_nil) CM0.ok) (by kernel_rfl) (by kernel_rfl) (by kernel_rfl) gnomonref09_IsName.ob gnomonref09_IsName.is k
theorem gnomonref10_isName.ok (k : Nat) : CallOK Tryz.prog GL0 211 (gnomonref10_isName.ce k) := call_ok (F := gnomonref10_isName.F) (c := bodyOf Tryz.f211) (g := fun k => (gnomonref10_isName.ce k).fn) (by kernel_rfl) (by kernel_rfl) (by kernel_rfl) (by kernel_rfl) (fun k => env_ok TT0.ok (cl_cons (gnomonref09_IsName.ok k) cl_nil) CM0.ok) (by kernel_rfl) (by kernel_rfl) (by kernel_rfl) gnomonref10_isName.ob gnomonref10_isName.is k
theorem gnomonref10_named.ok (k : Nat) : CallOK Tryz.prog GL0 187 (gnomonref10_named.ce k) := call_ok (F := gnomonref10_named.F) (c := bodyOf Tryz.f187) (g := fun k => (gnomonref10_named.ce k).fn) (by kernel_rfl) (by kernel_rfl) (by kernel_rfl) (by kernel_rfl) (fun k => env_ok TT0.ok (cl_cons (gnomonref10_isName.ok k) cl_nil) CM0.ok) (by kernel_rfl) (by kernel_rfl) (by kernel_rfl) gnomonref10_named.ob gnomonref10_named.is k
theorem gnomonref10_Names.ok (k : Nat) : CallOK Tryz.prog GL0 200 (gnomonref10_Names.ce k) := call_ok (F := gnomonref10_Names.F) (c := bodyOf Tryz.f200) (g := fun k => (gnomonref10_Names.ce k).fn) (by kernel_rfl) (by kernel_rfl) (by kernel_rfl) (by kernel_rfl) (fun k => env_ok TT0.ok cl_nil CM0.ok) (by kernel_rfl) (by kernel_rfl) (by kernel_rfl) gnomonref10_Names.ob gnomonref10_Names.is k
theorem gnomonref10_names.ok (k : Nat) : CallOK Tryz.prog GL0 188 (gnomonref10_names.ce k) := call_ok (F := gnomonref10_names.F) (c := bodyOf Tryz.f188) (g := fun k => (gnomonref10_names.ce k).fn) (by kernel_rfl) (by kernel_rfl) (by kernel_rfl) (by kernel_rfl) (fun k => env_ok TT0.ok (cl_cons (gnomonref10_Names.ok k) cl_nil) CM0.ok) (by kernel_rfl) (by kernel_rfl) (by kernel_rfl) gnomonref10_names.ob gnomonref10_names.is k
theorem gnomonref10_wrongNames.ok (k : Nat) : CallOK Tryz.prog GL0 82 (gnomonref10_wrongNames.ce k) := call_ok (F := gnomonref10_wrongNames.F) (c := bodyOf Tryz.f82) (g := fun k => (gnomonref10_wrongNames.ce k).fn) (by kernel_rfl) (by kernel_rfl) (by kernel_rfl) (by kernel_rfl) (fun k => env_ok TT0.ok (cl_cons (gnomonref10_named.ok k) (cl_cons (gnomonref10_names.ok k) cl_nil)) CM0.ok) (by kernel_rfl) (by kernel_rfl) (by kernel_rfl) gnomonref10_wrongNames.ob gnomonref10_wrongNames.is k
theorem gnomonref10_isValue.ok (k : Nat) : CallOK Tryz.prog GL0 83 (gnomonref10_isValue.ce) := call_ok (F := gnomonref10_isValue.F) (c := bodyOf Tryz.f83) (g := fun k => (gnomonref10_isValue.ce).fn) (by kernel_rfl) (by kernel_rfl) (by kernel_rfl) (by kernel_rfl) (fun k => env_ok TT0.ok cl_nil CM0.ok) (by kernel_rfl) (by kernel_rfl) (by kernel_rfl) gnomonref10_isValue.ob gnomonref10_isValue.is k
theorem gnomonref10_clockless.ok (k : Nat) : CallOK Tryz.prog GL0 127 (gnomonref10_clockless.ce) := call_ok (F := gnomonref10_clockless.F) (c := bodyOf Tryz.f127) (g := fun k => (gnomonref10_clockless.ce).fn) (by kernel_rfl) (by kernel_rfl) (by kernel_rfl) (by kernel_rfl) (fun k => env_ok TT0.ok cl_nil CM0.ok) (by kernel_rfl) (by kernel_rfl) (by kernel_rfl) gnomonref10_clockless.ob gnomonref10_clockless.is k
theorem gnomonref10_cmpless.ok (k : Nat) : CallOK Tryz.prog GL0 128 (gnomonref10_cmpless.ce) := call_ok (F := gnomonref10_cmpless.F) (c := bodyOf Tryz.f128) (g := fun k => (gnomonref10_cmpless.ce).fn) (by kernel_rfl) (by kernel_rfl) (by kernel_rfl) (by kernel_rfl) (fun k => env_ok TT0.ok cl_nil CM0.ok) (by kernel_rfl) (by kernel_rfl) (by kernel_rfl) gnomonref10_cmpless.ob gnomonref10_cmpless.is k
theorem gnomonref10_guards.ok (k : Nat) : CallOK Tryz.prog GL0 97 (gnomonref10_guards.ce k) := call_ok (F := gnomonref10_guards.F) (c := bodyOf Tryz.f97) (g := fun k => (gnomonref10_guards.ce k).fn) (by kernel_rfl) (by kernel_rfl) (by kernel_rfl) (by kernel_rfl) (fun k => env_ok TT0.ok (cl_cons (gnomonref10_clockless.ok k) (cl_cons (gnomonref10_cmpless.ok k) cl_nil)) CM0.ok) (by kernel_rfl) (by kernel_rfl) (by kernel_rfl) gnomonref10_guards.ob gnomonref10_guards.is k
theorem gnomonref08_parts.ok (k : Nat) : CallOK Tryz.prog GL0 213 (gnomonref08_parts.ce k) := call_ok (F := gnomonref08_parts.F) (c := bodyOf Tryz.f213) (g := fun k => (gnomonref08_parts.ce k).fn) (by kernel_rfl) (by kernel_rfl) (by kernel_rfl) (by kernel_rfl) (fun k => env_ok TT0.ok cl_nil CM0.ok) (by kernel_rfl) (by kernel_rfl) (by kernel_rfl) gnomonref08_parts.ob gnomonref08_parts.is k
theorem gnomonref08_End.ok (k : Nat) : CallOK Tryz.prog GL0 212 (gnomonref08_End.ce k) := call_ok (F := gnomonref08_End.F) (c := bodyOf Tryz.f212) (g := fun k => (gnomonref08_End.ce k).fn) (by kernel_rfl) (by kernel_rfl) (by kernel_rfl) (by kernel_rfl) (fun k => env_ok TT0.ok (cl_cons (gnomonref08_parts.ok k) cl_nil) CM0.ok) (by kernel_rfl) (by kernel_rfl) (by kernel_rfl) gnomonref08_End.ob gnomonref08_End.is k
theorem gnomonref08_truth.ok (k : Nat) : CallOK Tryz.prog GL0 214 (gnomonref08_truth.ce) := call_ok (F := gnomonref08_truth.F) (c := bodyOf Tryz.f214) (g := fun k => (gnomonref08_truth.ce).fn) (by kernel_rfl) (by kernel_rfl) (by kernel_rfl) (by kernel_rfl) (fun k => env_ok TT0.ok cl_nil CM0.ok) (by kernel_rfl) (by kernel_rfl) (by kernel_rfl) gnomonref08_truth.ob gnomonref08_truth.is k
theorem gnomonref08_numbers.ok (k : Nat) : CallOK Tryz.prog GL0 215 (gnomonref08_numbers.ce) := call_ok (F := gnomonref08_numbers.F) (c := bodyOf Tryz.f215) (g := fun k => (gnomonref08_numbers.ce).fn) (by kernel_rfl) (by kernel_rfl) (by kernel_rfl) (by kernel_rfl) (fun k => env_ok TT0.ok cl_nil CM0.ok) (by kernel_rfl) (by kernel_rfl) (by kernel_rfl) gnomonref08_numbers.ob gnomonref08_numbers.is k
theorem gnomonref08_Right.ok (k : Nat) : CallOK Tryz.prog GL0 192 (gnomonref08_Right.ce k) := call_ok (F := gnomonref08_Right.F) (c := bodyOf Tryz.f192) (g := fun k => (gnomonref08_Right.ce k).fn) (by kernel_rfl) (by kernel_rfl) (by kernel_rfl) (by kernel_rfl) (fun k => env_ok TT0.ok (cl_cons (gnomonref08_End.ok k) (cl_cons (gnomonref08_parts.ok k) (cl_cons (gnomonref08_truth.ok k) (cl_cons (gnomonref08_numbers.ok k) cl_nil)))) CM0.ok) (by kernel_rfl) (by kernel_rfl) (by kernel_rfl) gnomonref08_Right.ob gnomonref08_Right.is k
theorem gnomonref08_IsTruth.ok (k : Nat) : CallOK Tryz.prog GL0 193 (gnomonref08_IsTruth.ce) := call_ok (F := gnomonref08_IsTruth.F) (c := bodyOf Tryz.f193) (g := fun k => (gnomonref08_IsTruth.ce).fn) (by kernel_rfl) (by kernel_rfl) (by kernel_rfl) (by kernel_rfl) (fun k => env_ok TT0.ok (cl_cons (gnomonref08_truth.ok k) cl_nil) CM0.ok) (by kernel_rfl) (by kernel_rfl) (by kernel_rfl) gnomonref08_IsTruth.ob gnomonref08_IsTruth.is k
theorem gnomonref10_testless.ok (k : Nat) : CallOK Tryz.prog GL0 98 (gnomonref10_testless.ce k) := call_ok (F := gnomonref10_testless.F) (c := bodyOf Tryz.f98) (g := fun k => (gnomonref10_testless.ce k).fn) (by kernel_rfl) (by kernel_rfl) (by kernel_rfl) (by kernel_rfl) (fun k => env_ok TT0.ok (cl_cons (gnomonref08_Right.ok k) (cl_cons (gnomonref08_IsTruth.ok k) cl_nil)) CM0.ok) (by kernel_rfl) (by kernel_rfl) (by kernel_rfl) gnomonref10_testless.ob gnomonref10_testless.is k
theorem gnomonref10_edge.ok (k : Nat) : CallOK Tryz.prog GL0 189 (gnomonref10_edge.ce k) := call_ok (F := gnomonref10_edge.F) (c := bodyOf Tryz.f189) (g := fun k => (gnomonref10_edge.ce k).fn) (by kernel_rfl) (by kernel_rfl) (by kernel_rfl) (by kernel_rfl) (fun k => env_ok TT0.ok (cl_cons (gnomonref10_testless.ok k) (cl_cons (gnomonref08_Right.ok k) (cl_cons (gnomonref08_IsTruth.ok k) cl_nil))) CM0.ok) (by kernel_rfl) (by kernel_rfl) (by kernel_rfl) gnomonref10_edge.ob gnomonref10_edge.is k
theorem gnomonref10_wrong.ok (k : Nat) : CallOK Tryz.prog GL0 84 (gnomonref10_wrong.ce k) := call_ok (F := gnomonref10_wrong.F) (c := bodyOf Tryz.f84) (g := fun k => (gnomonref10_wrong.ce k).fn) (by kernel_rfl) (by kernel_rfl) (by kernel_rfl) (by kernel_rfl) (fun k => env_ok TT0.ok (cl_cons (gnomonref10_guards.ok k) (cl_cons (gnomonref10_edge.ok k) cl_nil)) CM0.ok) (by kernel_rfl) (by kernel_rfl) (by kernel_rfl) gnomonref10_wrong.ob gnomonref10_wrong.is k
theorem gnomonref10_Whole.ok (k : Nat) : CallOK Tryz.prog GL0 33 (gnomonref10_Whole.ce k) := call_ok (F := gnomonref10_Whole.F) (c := bodyOf Tryz.f33) (g := fun k => (gnomonref10_Whole.ce k).fn) (by kernel_rfl) (by kernel_rfl) (by kernel_rfl) (by kernel_rfl) (fun k => env_ok TT0.ok (cl_cons (gnomonref10_long.ok k) (cl_cons (gnomonref10_wrongNames.ok k) (cl_cons (gnomonref10_isValue.ok k) (cl_cons (gnomonref10_wrong.ok k) cl_nil)))) CM0.ok) (by kernel_rfl) (by kernel_rfl) (by kernel_rfl) gnomonref10_Whole.ob gnomonref10_Whole.is k
theorem gnomonref10_Right.ok (k : Nat) : CallOK Tryz.prog GL0 35 (gnomonref10_Right.ce k) := call_ok (F := gnomonref10_Right.F) (c := bodyOf Tryz.f35) (g := fun k => (gnomonref10_Right.ce k).fn) (by kernel_rfl) (by kernel_rfl) (by kernel_rfl) (by kernel_rfl) (fun k => env_ok TT0.ok (cl_cons (gnomonref10_Whole.ok k) cl_nil) CM0.ok) (by kernel_rfl) (by kernel_rfl) (by kernel_rfl) gnomonref10_Right.ob gnomonref10_Right.is k
theorem gnomonref13_Right.ok (k : Nat) : CallOK Tryz.prog GL0 24 (gnomonref13_Right.ce k) := call_ok (F := gnomonref13_Right.F) (c := bodyOf Tryz.f24) (g := fun k => (gnomonref13_Right.ce k).fn) (by kernel_rfl) (by kernel_rfl) (by kernel_rfl) (by kernel_rfl) (fun k => env_ok TT0.ok (cl_cons (gnomonref10_Right.ok k) cl_nil) CM0.ok) (by kernel_rfl) (by kernel_rfl) (by kernel_rfl) gnomonref13_Right.ob gnomonref13_Right.is k
theorem gnomonref13_bad.ok (k : Nat) : CallOK Tryz.prog GL0 57 (gnomonref13_bad.ce k) := call_ok (F := gnomonref13_bad.F) (c := bodyOf Tryz.f57) (g := fun k => (gnomonref13_bad.ce k).fn) (by kernel_rfl) (by kernel_rfl) (by kernel_rfl) (by kernel_rfl) (fun k => env_ok TT0.ok (cl_cons (gnomonref13_Right.ok k) (cl_cons (gnomonref10_Right.ok k) cl_nil)) CM0.ok) (by kernel_rfl) (by kernel_rfl) (by kernel_rfl) gnomonref13_bad.ob gnomonref13_bad.is k
theorem gnomonref13_Invariants.ok (k : Nat) : CallOK Tryz.prog GL0 12 (gnomonref13_Invariants.ce k) := call_ok (F := gnomonref13_Invariants.F) (c := bodyOf Tryz.f12) (g := fun k => (gnomonref13_Invariants.ce k).fn) (by kernel_rfl) (by kernel_rfl) (by kernel_rfl) (by kernel_rfl) (fun k => env_ok TT0.ok (cl_cons (gnomonref13_bad.ok k) cl_nil) CM0.ok) (by kernel_rfl) (by kernel_rfl) (by kernel_rfl) gnomonref13_Invariants.ob gnomonref13_Invariants.is k
theorem state_Print.ok (k : Nat) : CallOK Tryz.prog GL0 20 (state_Print.ce k) := call_ok (F := state_Print.F) (c := bodyOf Tryz.f20) (g := fun k => (state_Print.ce k).fn) (by kernel_rfl) (by kernel_rfl) (by kernel_rfl) (by kernel_rfl) (fun k => env_ok TT0.ok (cl_cons (state_wrong.ok k) (cl_cons (strconv_Itoa.ok k) (cl_cons (strings_Join.ok k) cl_nil))) CM0.ok) (by kernel_rfl) (by kernel_rfl) (by kernel_rfl) state_Print.ob state_Print.is k
theorem state_Right.ok (k : Nat) : CallOK Tryz.prog GL0 14 (state_Right.ce k) := call_ok (F := state_Right.F) (c := bodyOf Tryz.f14) (g := fun k => (state_Right.ce k).fn) (by kernel_rfl) (by kernel_rfl) (by kernel_rfl) (by kernel_rfl) (fun k => env_ok TT0.ok (cl_cons (net_Right.ok k) (cl_cons (state_is.ok k) cl_nil)) CM0.ok) (by kernel_rfl) (by kernel_rfl) (by kernel_rfl) state_Right.ob state_Right.is k
theorem state_Stays_1.ok (k : Nat) : CallOK Tryz.prog GL0 63 (state_Stays_1.ce) := call_ok (F := state_Stays_1.F) (c := bodyOf Tryz.f63) (g := fun k => (state_Stays_1.ce).fn) (by kernel_rfl) (by kernel_rfl) (by kernel_rfl) (by kernel_rfl) (fun k => env_ok TT0.ok cl_nil CM0.ok) (by kernel_rfl) (by kernel_rfl) (by kernel_rfl) state_Stays_1.ob state_Stays_1.is k
theorem state_beside_api_Auto_int_at63.ok (k : Nat) : CallOK Tryz.prog GL0 64 (state_beside_api_Auto_int_at63.ce k) := call_ok (F := state_beside_api_Auto_int_at63.F) (c := bodyOf Tryz.f64) (g := fun k => (state_beside_api_Auto_int_at63.ce k).fn) (by kernel_rfl) (by kernel_rfl) (by kernel_rfl) (by kernel_rfl) (fun k => env_ok TT0.ok (cl_cons (state_Stays_1.ok k) cl_nil) CM0.ok) (by kernel_rfl) (by kernel_rfl) (by kernel_rfl) state_beside_api_Auto_int_at63.ob state_beside_api_Auto_int_at63.is k
theorem state_Stays.ok (k : Nat) : CallOK Tryz.prog GL0 25 (state_Stays.ce k) := call_ok (F := state_Stays.F) (c := bodyOf Tryz.f25) (g := fun k => (state_Stays.ce k).fn) (by kernel_rfl) (by kernel_rfl) (by kernel_rfl) (by kernel_rfl) (fun k => env_ok TT0.ok (cl_cons (state_Right.ok k) (cl_cons (state_beside_api_Auto_int_at63.ok k) cl_nil)) CM0.ok) (by kernel_rfl) (by kernel_rfl) (by kernel_rfl) state_Stays.ob state_Stays.is k
theorem math_bits_Mul64.ok (k : Nat) : CallOK Tryz.prog GL0 170 (math_bits_Mul64.ce) := call_ok (F := math_bits_Mul64.F) (c := bodyOf Tryz.f170) (g := fun k => (math_bits_Mul64.ce).fn) (by kernel_rfl) (by kernel_rfl) (by kernel_rfl) (by kernel_rfl) (fun k => env_ok TT0.ok cl_nil CM0.ok) (by kernel_rfl) (by kernel_rfl) (by kernel_rfl) math_bits_Mul64.ob math_bits_Mul64.is k
theorem state_times.ok (k : Nat) : CallOK Tryz.prog GL0 65 (state_times.ce) := call_ok (F := state_times.F) (c := bodyOf Tryz.f65) (g := fun k => (state_times.ce).fn) (by kernel_rfl) (by kernel_rfl) (by kernel_rfl) (by kernel_rfl) (fun k => env_ok TT0.ok (cl_cons (math_bits_Mul64.ok k) cl_nil) CM0.ok) (by kernel_rfl) (by kernel_rfl) (by kernel_rfl) state_times.ob state_times.is k
theorem state_Count.ok (k : Nat) : CallOK Tryz.prog GL0 27 (state_Count.ce k) := call_ok (F := state_Count.F) (c := bodyOf Tryz.f27) (g := fun k => (state_Count.ce k).fn) (by kernel_rfl) (by kernel_rfl) (by kernel_rfl) (by kernel_rfl) (fun k => env_ok TT0.ok (cl_cons (net_Right.ok k) (cl_cons (state_times.ok k) cl_nil)) CM0.ok) (by kernel_rfl) (by kernel_rfl) (by kernel_rfl) state_Count.ob state_Count.is k
theorem gnomonlaw13_net.ok (k : Nat) : CallOK Tryz.prog GL0 58 (gnomonlaw13_net.ce) := call_ok (F := gnomonlaw13_net.F) (c := bodyOf Tryz.f58) (g := fun k => (gnomonlaw13_net.ce).fn) (by kernel_rfl) (by kernel_rfl) (by kernel_rfl) (by kernel_rfl) (fun k => env_ok TT0.ok cl_nil CM0.ok) (by kernel_rfl) (by kernel_rfl) (by kernel_rfl) gnomonlaw13_net.ob gnomonlaw13_net.is k
theorem gnomonlaw13_live.ok (k : Nat) : CallOK Tryz.prog GL0 13 (gnomonlaw13_live.ce k) := call_ok (F := gnomonlaw13_live.F) (c := bodyOf Tryz.f13) (g := fun k => (gnomonlaw13_live.ce k).fn) (by kernel_rfl) (by kernel_rfl) (by kernel_rfl) (by kernel_rfl) (fun k => env_ok TT0.ok (cl_cons (state_First.ok k) (cl_cons (state_Print.ok k) (cl_cons (state_Stays.ok k) (cl_cons (state_Count.ok k) (cl_cons (gnomonlaw13_net.ok k) cl_nil))))) CM0.ok) (by kernel_rfl) (by kernel_rfl) (by kernel_rfl) gnomonlaw13_live.ob gnomonlaw13_live.is k
theorem gnomonref11_SameGuards.ok (k : Nat) : CallOK Tryz.prog GL0 15 (gnomonref11_SameGuards.ce k) := call_ok (F := gnomonref11_SameGuards.F) (c := bodyOf Tryz.f15) (g := fun k => (gnomonref11_SameGuards.ce k).fn) (by kernel_rfl) (by kernel_rfl) (by kernel_rfl) (by kernel_rfl) (fun k => env_ok TT0.ok cl_nil CM0.ok) (by kernel_rfl) (by kernel_rfl) (by kernel_rfl) gnomonref11_SameGuards.ob gnomonref11_SameGuards.is k
theorem gnomonlaw13_StateOwn.ok (k : Nat) : CallOK Tryz.prog GL0 3 (gnomonlaw13_StateOwn.ce k) := call_ok (F := gnomonlaw13_StateOwn.F) (c := bodyOf Tryz.f3) (g := fun k => (gnomonlaw13_StateOwn.ce k).fn) (by kernel_rfl) (by kernel_rfl) (by kernel_rfl) (by kernel_rfl) (fun k => env_ok TT0.ok (cl_cons (state_First.ok k) (cl_cons (state_Invariants.ok k) (cl_cons (gnomonref13_Invariants.ok k) (cl_cons (gnomonlaw13_live.ok k) (cl_cons (state_Right.ok k) (cl_cons (gnomonref11_SameGuards.ok k) cl_nil)))))) CM0.ok) (by kernel_rfl) (by kernel_rfl) (by kernel_rfl) gnomonlaw13_StateOwn.ob gnomonlaw13_StateOwn.is k
end Go.Proofs.YtcfapbnblailbaaGreatDoor.Q
