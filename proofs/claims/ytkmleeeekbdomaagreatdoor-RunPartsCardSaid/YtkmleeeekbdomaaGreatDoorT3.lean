/- Part of the proof: T3. -/
import Derived.Test.YtkmleeeekbdomaaGreatDoorShelf
import Derived.Lib.AppendIntMem
import Derived.Shelf.Spec.BitsCarry
import Derived.Test.YtkmleeeekbdomaaGreatDoorBLD
import Derived.Test.YtkmleeeekbdomaaGreatDoorD4f
set_option linter.unusedSectionVars false
set_option linter.unusedSimpArgs false
set_option linter.unusedVariables false
set_option maxRecDepth 100000
namespace Go.Proofs.YtkmleeeekbdomaaGreatDoor.Q
open Go Go.Den Go.RowKit Go.Proofs
def rd (xs : List Int) (i : Int) : Int := xs.getD i.toNat 0
@[reducible] def T171 : Ty := .prod (.int .i64) (.prod .bool (.prod .bool (.prod .str ((.int .i64)))))
abbrev S171 := Int × Bool × Bool × ByteArray × Int
abbrev S171.f0 (x : S171) : Int := x.1
abbrev S171.f1 (x : S171) : Bool := x.2.1
abbrev S171.f2 (x : S171) : Bool := x.2.2.1
abbrev S171.f3 (x : S171) : ByteArray := x.2.2.2.1
abbrev S171.f4 (x : S171) : Int := x.2.2.2.2
abbrev rd_T171 (xs : List S171) (i : Int) : S171 := rdT T171 xs i
@[reducible] def T24 : Ty := .prod (.int .i64) ((.int .i64))
abbrev S24 := Int × Int
abbrev S24.f0 (x : S24) : Int := x.1
abbrev S24.f1 (x : S24) : Int := x.2
abbrev rd_T24 (xs : List S24) (i : Int) : S24 := rdT T24 xs i
@[reducible] def T39 : Ty := .prod (.int .i64) (.prod (.int .i64) (.prod (.int .i64) ((.int .i64))))
abbrev S39 := Int × Int × Int × Int
abbrev S39.f0 (x : S39) : Int := x.1
abbrev S39.f1 (x : S39) : Int := x.2.1
abbrev S39.f2 (x : S39) : Int := x.2.2.1
abbrev S39.f3 (x : S39) : Int := x.2.2.2
abbrev rd_T39 (xs : List S39) (i : Int) : S39 := rdT T39 xs i
@[reducible] def T41 : Ty := .prod T24 (T39)
abbrev S41 := S24 × S39
abbrev S41.f0 (x : S41) : S24 := x.1
abbrev S41.f1 (x : S41) : S39 := x.2
abbrev rd_T41 (xs : List S41) (i : Int) : S41 := rdT T41 xs i
@[reducible] def T26 : Ty := .prod (.list T41) (T24)
abbrev S26 := (List S41) × S24
abbrev S26.f0 (x : S26) : List S41 := x.1
abbrev S26.f1 (x : S26) : S24 := x.2
abbrev rd_T26 (xs : List S26) (i : Int) : S26 := rdT T26 xs i
@[reducible] def T91 : Ty := .prod (.int .u64) ((.int .u64))
abbrev S91 := Int × Int
abbrev S91.f0 (x : S91) : Int := x.1
abbrev S91.f1 (x : S91) : Int := x.2
abbrev rd_T91 (xs : List S91) (i : Int) : S91 := rdT T91 xs i
@[reducible] def T93 : Ty := .prod T91 (.bool)
abbrev S93 := S91 × Bool
abbrev S93.f0 (x : S93) : S91 := x.1
abbrev S93.f1 (x : S93) : Bool := x.2
abbrev rd_T93 (xs : List S93) (i : Int) : S93 := rdT T93 xs i
@[reducible] def T165 : Ty := .prod (.int .i64) (.prod (.int .i64) (.prod (.int .u8) ((.int .i64))))
abbrev S165 := Int × Int × Int × Int
abbrev S165.f0 (x : S165) : Int := x.1
abbrev S165.f1 (x : S165) : Int := x.2.1
abbrev S165.f2 (x : S165) : Int := x.2.2.1
abbrev S165.f3 (x : S165) : Int := x.2.2.2
abbrev rd_T165 (xs : List S165) (i : Int) : S165 := rdT T165 xs i
@[reducible] def T74 : Ty := .prod .str (.prod (.int .u8) ((.list T165)))
abbrev S74 := ByteArray × Int × (List S165)
abbrev S74.f0 (x : S74) : ByteArray := x.1
abbrev S74.f1 (x : S74) : Int := x.2.1
abbrev S74.f2 (x : S74) : List S165 := x.2.2
abbrev rd_T74 (xs : List S74) (i : Int) : S74 := rdT T74 xs i
@[reducible] def T169 : Ty := .prod (.int .u8) ((.int .i64))
abbrev S169 := Int × Int
abbrev S169.f0 (x : S169) : Int := x.1
abbrev S169.f1 (x : S169) : Int := x.2
abbrev rd_T169 (xs : List S169) (i : Int) : S169 := rdT T169 xs i
@[reducible] def T135 : Ty := .prod (.int .i64) (.prod (.int .i64) (.prod (.int .i64) ((.list T169))))
abbrev S135 := Int × Int × Int × (List S169)
abbrev S135.f0 (x : S135) : Int := x.1
abbrev S135.f1 (x : S135) : Int := x.2.1
abbrev S135.f2 (x : S135) : Int := x.2.2.1
abbrev S135.f3 (x : S135) : List S169 := x.2.2.2
abbrev rd_T135 (xs : List S135) (i : Int) : S135 := rdT T135 xs i
@[reducible] def T79 : Ty := .prod (.int .i64) (.prod (.int .i64) (.prod (.list T165) (.prod (.list T169) (.prod (.int .i64) (.prod .bool ((.list T135)))))))
abbrev S79 := Int × Int × (List S165) × (List S169) × Int × Bool × (List S135)
abbrev S79.f0 (x : S79) : Int := x.1
abbrev S79.f1 (x : S79) : Int := x.2.1
abbrev S79.f2 (x : S79) : List S165 := x.2.2.1
abbrev S79.f3 (x : S79) : List S169 := x.2.2.2.1
abbrev S79.f4 (x : S79) : Int := x.2.2.2.2.1
abbrev S79.f5 (x : S79) : Bool := x.2.2.2.2.2.1
abbrev S79.f6 (x : S79) : List S135 := x.2.2.2.2.2.2
abbrev rd_T79 (xs : List S79) (i : Int) : S79 := rdT T79 xs i
@[reducible] def T82 : Ty := .prod .str (.prod (.list T74) ((.list T79)))
abbrev S82 := ByteArray × (List S74) × (List S79)
abbrev S82.f0 (x : S82) : ByteArray := x.1
abbrev S82.f1 (x : S82) : List S74 := x.2.1
abbrev S82.f2 (x : S82) : List S79 := x.2.2
abbrev rd_T82 (xs : List S82) (i : Int) : S82 := rdT T82 xs i
@[reducible] def T140 : Ty := .prod .str (.prod (.int .i64) (.prod (.int .i64) ((.int .i64))))
abbrev S140 := ByteArray × Int × Int × Int
abbrev S140.f0 (x : S140) : ByteArray := x.1
abbrev S140.f1 (x : S140) : Int := x.2.1
abbrev S140.f2 (x : S140) : Int := x.2.2.1
abbrev S140.f3 (x : S140) : Int := x.2.2.2
abbrev rd_T140 (xs : List S140) (i : Int) : S140 := rdT T140 xs i
@[reducible] def T48 : Ty := .prod (.list .str) (.prod (.list T140) (.prod (.list .str) ((.list T82))))
abbrev S48 := (List ByteArray) × (List S140) × (List ByteArray) × (List S82)
abbrev S48.f0 (x : S48) : List ByteArray := x.1
abbrev S48.f1 (x : S48) : List S140 := x.2.1
abbrev S48.f2 (x : S48) : List ByteArray := x.2.2.1
abbrev S48.f3 (x : S48) : List S82 := x.2.2.2
abbrev rd_T48 (xs : List S48) (i : Int) : S48 := rdT T48 xs i
@[reducible] def T118 : Ty := .prod (.int .i64) (T79)
abbrev S118 := Int × S79
abbrev S118.f0 (x : S118) : Int := x.1
abbrev S118.f1 (x : S118) : S79 := x.2
abbrev rd_T118 (xs : List S118) (i : Int) : S118 := rdT T118 xs i
@[reducible] def A1 : Ty := .alt (.fn 65 [] .bool) .fz
abbrev DA1 := Bool ⊕ Unit
@[reducible] def A2 : Ty := .alt (.fn 64 [] .bool) A1
abbrev DA2 := Bool ⊕ DA1
@[reducible] def A3 : Ty := .alt (.fn 63 [] .bool) A2
abbrev DA3 := Bool ⊕ DA2
@[reducible] def A4 : Ty := .alt (.fn 62 [] .bool) A3
abbrev DA4 := Bool ⊕ DA3
@[reducible] def A5 : Ty := .alt (.fn 61 [] .bool) A4
abbrev DA5 := Bool ⊕ DA4
@[reducible] def A6 : Ty := .alt (.fn 60 [] .bool) A5
abbrev DA6 := Bool ⊕ DA5
@[reducible] def A7 : Ty := .alt (.fn 59 [] .bool) A6
abbrev DA7 := Bool ⊕ DA6
@[reducible] def A8 : Ty := .alt (.fn 58 [] .bool) A7
abbrev DA8 := Bool ⊕ DA7
@[reducible] def A0 : Ty := .alt (.fn 57 [] .bool) A8
abbrev DA0 := Bool ⊕ DA8
def TT0 : TT := [(2, ⟨1, 8, [.i .i64 0], .int .i64, some (.int .i64)⟩),
  (3, ⟨1, 8, [.i .i64 0], .int .i64, some (.int .i64)⟩),
  (4, ⟨1, 1, [.b false], .bool, some .bool⟩),
  (5, ⟨1, 1, [.i .u8 0], .int .u8, some (.int .u8)⟩),
  (9, ⟨1, 16, [.s ⟨#[]⟩], .str, some .str⟩),
  (22, ⟨1, 24, [.nl], .slice 41, some (.list T41)⟩),
  (24, ⟨2, 16, [.i .i64 0, .i .i64 0], .struct [(0, 2), (1, 2)], some T24⟩),
  (26, ⟨3, 40, [.nl, .i .i64 0, .i .i64 0], .struct [(0, 22), (1, 24)], some T26⟩),
  (30, ⟨1, 24, [.nl], .slice 24, some (.list T24)⟩),
  (31, ⟨1, 8, [.i .i64 0], .int .i64, some (.int .i64)⟩),
  (39, ⟨4, 32, [.i .i64 0, .i .i64 0, .i .i64 0, .i .i64 0], .struct [(0, 3), (1, 3), (2, 3), (3, 3)], some T39⟩),
  (41, ⟨6, 48, [.i .i64 0, .i .i64 0, .i .i64 0, .i .i64 0, .i .i64 0, .i .i64 0], .struct [(0, 24), (2, 39)], some T41⟩),
  (44, ⟨1, 24, [.nl], .slice 9, some (.list .str)⟩),
  (45, ⟨1, 24, [.nl], .slice 140, some (.list T140)⟩),
  (46, ⟨1, 24, [.nl], .slice 82, some (.list T82)⟩),
  (48, ⟨4, 96, [.nl, .nl, .nl, .nl], .struct [(0, 44), (1, 45), (2, 44), (3, 46)], some T48⟩),
  (59, ⟨1, 24, [.nl], .slice 26, some (.list T26)⟩),
  (63, ⟨2, 32, [.np, .nl], .struct [(0, 60), (1, 61)], none⟩),
  (71, ⟨1, 1, [.i .u8 0], .int .u8, some (.int .u8)⟩),
  (72, ⟨1, 24, [.nl], .slice 165, some (.list T165)⟩),
  (74, ⟨3, 48, [.s ⟨#[]⟩, .i .u8 0, .nl], .struct [(0, 9), (1, 71), (2, 72)], some T74⟩),
  (75, ⟨1, 24, [.nl], .slice 74, some (.list T74)⟩),
  (76, ⟨1, 24, [.nl], .slice 169, some (.list T169)⟩),
  (77, ⟨1, 24, [.nl], .slice 135, some (.list T135)⟩),
  (79, ⟨7, 104, [.i .i64 0, .i .i64 0, .nl, .nl, .i .i64 0, .b false, .nl], .struct [(0, 3), (1, 3), (2, 72), (3, 76), (4, 3), (5, 4), (6, 77)], some T79⟩),
  (80, ⟨1, 24, [.nl], .slice 79, some (.list T79)⟩),
  (82, ⟨3, 64, [.s ⟨#[]⟩, .nl, .nl], .struct [(0, 9), (1, 75), (2, 80)], some T82⟩),
  (84, ⟨1, 24, [.nl], .slice 39, some (.list T39)⟩),
  (89, ⟨1, 8, [.i .u64 0], .int .u64, some (.int .u64)⟩),
  (91, ⟨2, 16, [.i .u64 0, .i .u64 0], .struct [(0, 89), (1, 89)], some T91⟩),
  (93, ⟨3, 24, [.i .u64 0, .i .u64 0, .b false], .struct [(0, 91), (2, 4)], some T93⟩),
  (96, ⟨1, 24, [.nl], .slice 118, some (.list T118)⟩),
  (103, ⟨1, 8, [.nf], .func, none⟩),
  (118, ⟨8, 112, [.i .i64 0, .i .i64 0, .i .i64 0, .nl, .nl, .i .i64 0, .b false, .nl], .struct [(0, 3), (1, 79)], some T118⟩),
  (122, ⟨1, 24, [.nl], .slice 103, none⟩),
  (135, ⟨4, 48, [.i .i64 0, .i .i64 0, .i .i64 0, .nl], .struct [(0, 3), (1, 3), (2, 3), (3, 76)], some T135⟩),
  (140, ⟨4, 40, [.s ⟨#[]⟩, .i .i64 0, .i .i64 0, .i .i64 0], .struct [(0, 9), (1, 3), (2, 3), (3, 3)], some T140⟩),
  (150, ⟨1, 24, [.nl], .slice 3, some (.list (.int .i64))⟩),
  (160, ⟨1, 8, [.nm], .smap, none⟩),
  (163, ⟨1, 1, [.i .u8 0], .int .u8, some (.int .u8)⟩),
  (165, ⟨4, 32, [.i .i64 0, .i .i64 0, .i .u8 0, .i .i64 0], .struct [(0, 3), (1, 3), (2, 163), (3, 3)], some T165⟩),
  (167, ⟨1, 1, [.i .u8 0], .int .u8, some (.int .u8)⟩),
  (169, ⟨2, 16, [.i .u8 0, .i .i64 0], .struct [(0, 167), (1, 3)], some T169⟩),
  (171, ⟨5, 40, [.i .i64 0, .b false, .b false, .s ⟨#[]⟩, .i .i64 0], .struct [(0, 3), (1, 4), (2, 4), (3, 9), (4, 3)], some T171⟩),
  (175, ⟨1, 1, [.i .u8 0], .int .u8, some (.int .u8)⟩),
  (179, ⟨16, 256, [.s ⟨#[]⟩, .s ⟨#[]⟩, .s ⟨#[]⟩, .s ⟨#[]⟩, .s ⟨#[]⟩, .s ⟨#[]⟩, .s ⟨#[]⟩, .s ⟨#[]⟩, .s ⟨#[]⟩, .s ⟨#[]⟩, .s ⟨#[]⟩, .s ⟨#[]⟩, .s ⟨#[]⟩, .s ⟨#[]⟩, .s ⟨#[]⟩, .s ⟨#[]⟩], .arr 16 9, some (.prod .str (.prod .str (.prod .str (.prod .str (.prod .str (.prod .str (.prod .str (.prod .str (.prod .str (.prod .str (.prod .str (.prod .str (.prod .str (.prod .str (.prod .str .str)))))))))))))))⟩),
  (180, ⟨1, 24, [.nl], .slice 44, some (.list (.list .str))⟩),
  (182, ⟨75, 600, [.i .i64 0, .b false, .b false, .s ⟨#[]⟩, .i .i64 0, .i .i64 0, .b false, .b false, .s ⟨#[]⟩, .i .i64 0, .i .i64 0, .b false, .b false, .s ⟨#[]⟩, .i .i64 0, .i .i64 0, .b false, .b false, .s ⟨#[]⟩, .i .i64 0, .i .i64 0, .b false, .b false, .s ⟨#[]⟩, .i .i64 0, .i .i64 0, .b false, .b false, .s ⟨#[]⟩, .i .i64 0, .i .i64 0, .b false, .b false, .s ⟨#[]⟩, .i .i64 0, .i .i64 0, .b false, .b false, .s ⟨#[]⟩, .i .i64 0, .i .i64 0, .b false, .b false, .s ⟨#[]⟩, .i .i64 0, .i .i64 0, .b false, .b false, .s ⟨#[]⟩, .i .i64 0, .i .i64 0, .b false, .b false, .s ⟨#[]⟩, .i .i64 0, .i .i64 0, .b false, .b false, .s ⟨#[]⟩, .i .i64 0, .i .i64 0, .b false, .b false, .s ⟨#[]⟩, .i .i64 0, .i .i64 0, .b false, .b false, .s ⟨#[]⟩, .i .i64 0, .i .i64 0, .b false, .b false, .s ⟨#[]⟩, .i .i64 0], .arr 15 171, some (.prod T171 (.prod T171 (.prod T171 (.prod T171 (.prod T171 (.prod T171 (.prod T171 (.prod T171 (.prod T171 (.prod T171 (.prod T171 (.prod T171 (.prod T171 (.prod T171 T171))))))))))))))⟩)]
def CM0 : List (Nat × Ty) := [(24, T24), (41, T41)]
def lex_kept : List ByteArray := [(⟨#[99, 108, 111, 99, 107]⟩ : ByteArray), (⟨#[105, 110, 116]⟩ : ByteArray), (⟨#[99, 104, 97, 110]⟩ : ByteArray), (⟨#[97, 117, 116, 111]⟩ : ByteArray), (⟨#[108, 111, 99]⟩ : ByteArray), (⟨#[101, 100, 103, 101]⟩ : ByteArray), (⟨#[105, 110]⟩ : ByteArray), (⟨#[105, 110, 118]⟩ : ByteArray), (⟨#[119, 104, 101, 110]⟩ : ByteArray), (⟨#[115, 121, 110, 99]⟩ : ByteArray), (⟨#[100, 111]⟩ : ByteArray), (⟨#[117, 114, 103, 101, 110, 116]⟩ : ByteArray), (⟨#[99, 111, 109, 109, 105, 116, 116, 101, 100]⟩ : ByteArray), (⟨#[116, 114, 117, 101]⟩ : ByteArray), (⟨#[114, 101, 97, 99, 104]⟩ : ByteArray), (⟨#[110, 101, 118, 101, 114]⟩ : ByteArray)]
def expr_kinds : List S171 := [(⟨0, false, false, (⟨#[]⟩ : ByteArray), 0⟩ : S171), (⟨0, false, false, (⟨#[]⟩ : ByteArray), 9⟩ : S171), (⟨0, false, false, (⟨#[]⟩ : ByteArray), 9⟩ : S171), (⟨1, false, false, (⟨#[45]⟩ : ByteArray), 6⟩ : S171), (⟨2, false, false, (⟨#[43]⟩ : ByteArray), 4⟩ : S171), (⟨2, false, false, (⟨#[45]⟩ : ByteArray), 4⟩ : S171), (⟨2, false, false, (⟨#[42]⟩ : ByteArray), 5⟩ : S171), (⟨0, true, false, (⟨#[116, 114, 117, 101]⟩ : ByteArray), 9⟩ : S171), (⟨2, true, false, (⟨#[60]⟩ : ByteArray), 3⟩ : S171), (⟨2, true, false, (⟨#[60, 61]⟩ : ByteArray), 3⟩ : S171), (⟨2, true, false, (⟨#[61, 61]⟩ : ByteArray), 3⟩ : S171), (⟨2, true, false, (⟨#[33, 61]⟩ : ByteArray), 3⟩ : S171), (⟨1, true, true, (⟨#[33]⟩ : ByteArray), 9⟩ : S171), (⟨2, true, true, (⟨#[38, 38]⟩ : ByteArray), 2⟩ : S171), (⟨2, true, true, (⟨#[124, 124]⟩ : ByteArray), 1⟩ : S171)]
def GL0 : GT := fun g => bif Nat.beq g 0 then some (.arr .u64 Lib.pow10Tab) else bif Nat.beq g 2 then some (.tab .str lex_kept) else bif Nat.beq g 3 then some (.tab T171 expr_kinds) else none
def math_bits_Add64.f (x y c : Int) : Option (Int × Int) := if 0 ≤ x ∧ 0 ≤ y ∧ 0 ≤ c ∧ c ≤ 1 then some ((x + y + c) % 18446744073709551616, (x + y + c) / 18446744073709551616) else none
def math_bits_Add64.ce : CallE := ⟨[⟨false, .int .u64⟩, ⟨false, .int .u64⟩, ⟨false, .int .u64⟩], [⟨false, [.v (.int .u64)]⟩, ⟨false, [.v (.int .u64)]⟩], fun (x : Int × Int × Int) => math_bits_Add64.f x.1 x.2.1 x.2.2⟩
theorem math_bits_Add64.ok (k : Nat) : ExtOK Tryz.prog 66 math_bits_Add64.ce := by
  intro x r hx w J args hargs
  have hx : math_bits_Add64.f x.1 x.2.1 x.2.2 = some r := hx
  obtain ⟨a, b, c⟩ := x
  unfold math_bits_Add64.f at hx
  split at hx
  · rename_i hb
    cases hx
    obtain ⟨u, q, rfl, hu, u2, q2, rfl, hu2, u3, rfl, hu3⟩ := hargs
    have e1 : [u] = [Value.int .u64 a] := hu
    have e2 : [u2] = [Value.int .u64 b] := hu2
    have e3 : [u3] = [Value.int .u64 c] := hu3
    simp only [List.cons.injEq, and_true] at e1 e2 e3
    subst e1; subst e2; subst e3
    refine ⟨.tuple #[.int .u64 ((a + b + c) % 18446744073709551616), .int .u64 ((a + b + c) / 18446744073709551616)], ?_, J, [.int .u64 ((a + b + c) % 18446744073709551616), .int .u64 ((a + b + c) / 18446744073709551616)], [], [.int .u64 ((a + b + c) % 18446744073709551616), .int .u64 ((a + b + c) / 18446744073709551616)], fun b h => .inl h, ⟨[_], [_], rfl, rfl, rfl, rfl⟩, List.nodup_nil, ⟨[_], [_], _, [_], rfl, rfl, rfl, rfl, [_], [], _, [], rfl, rfl, rfl, rfl, rfl, rfl⟩, rfl⟩
    have h1 := run_callFunc_extern Tryz.func66 (by kernel_rfl) (by kernel_rfl) (by kernel_rfl) (e := add64Entry) (by kernel_rfl) #[.int .u64 a, .int .u64 b, .int .u64 c] w
    rw [run_add64 a b c hb.1 hb.2.1 hb.2.2.1 hb.2.2.2] at h1
    exact h1
  · cases hx
def math_bits_Sub64.f (x y c : Int) : Option (Int × Int) := if 0 ≤ x ∧ 0 ≤ y ∧ 0 ≤ c ∧ c ≤ 1 then some ((((x.toNat + 18446744073709551616 - y.toNat - c.toNat) % 18446744073709551616 : Nat) : Int), ((if x.toNat < y.toNat + c.toNat then 1 else 0 : Nat) : Int)) else none
def math_bits_Sub64.ce : CallE := ⟨[⟨false, .int .u64⟩, ⟨false, .int .u64⟩, ⟨false, .int .u64⟩], [⟨false, [.v (.int .u64)]⟩, ⟨false, [.v (.int .u64)]⟩], fun (x : Int × Int × Int) => math_bits_Sub64.f x.1 x.2.1 x.2.2⟩
theorem math_bits_Sub64.ok (k : Nat) : ExtOK Tryz.prog 69 math_bits_Sub64.ce := by
  intro x r hx w J args hargs
  have hx : math_bits_Sub64.f x.1 x.2.1 x.2.2 = some r := hx
  obtain ⟨a, b, c⟩ := x
  unfold math_bits_Sub64.f at hx
  split at hx
  · rename_i hb
    obtain ⟨A, rfl⟩ := Int.eq_ofNat_of_zero_le hb.1
    obtain ⟨B, rfl⟩ := Int.eq_ofNat_of_zero_le hb.2.1
    obtain ⟨C, rfl⟩ := Int.eq_ofNat_of_zero_le hb.2.2.1
    simp only [Int.toNat_natCast] at hx
    cases hx
    obtain ⟨u, q, rfl, hu, u2, q2, rfl, hu2, u3, rfl, hu3⟩ := hargs
    have e1 : [u] = [Value.int .u64 (A : Int)] := hu
    have e2 : [u2] = [Value.int .u64 (B : Int)] := hu2
    have e3 : [u3] = [Value.int .u64 (C : Int)] := hu3
    simp only [List.cons.injEq, and_true] at e1 e2 e3
    subst e1; subst e2; subst e3
    generalize hX : (((A + 18446744073709551616 - B - C) % 18446744073709551616 : Nat) : Int) = X
    generalize hY : ((if A < B + C then 1 else 0 : Nat) : Int) = Y
    refine ⟨.tuple #[.int .u64 X, .int .u64 Y], ?_, J, [.int .u64 X, .int .u64 Y], [], [.int .u64 X, .int .u64 Y], fun b h => .inl h, ⟨[_], [_], rfl, rfl, rfl, rfl⟩, List.nodup_nil, ⟨[_], [_], _, [_], rfl, rfl, rfl, rfl, [_], [], _, [], rfl, rfl, rfl, rfl, rfl, rfl⟩, rfl⟩
    have h1 := run_callFunc_extern Tryz.func69 (by kernel_rfl) (by kernel_rfl) (by kernel_rfl) (e := sub64Entry) (by kernel_rfl) #[.int .u64 A, .int .u64 B, .int .u64 C] w
    have hC : (C : Int) ≤ 1 := hb.2.2.2
    rw [run_sub64 A B C (by omega) w] at h1
    rw [← hX, ← hY]
    exact h1
  · cases hx
def internal_strconv_FormatInt.f (n base : Int) : Option ByteArray := if base = 10 ∧ -9223372036854775808 ≤ n ∧ n ≤ 9223372036854775807 then some ⟨(Lib.itoa n).toArray⟩ else none
def internal_strconv_FormatInt.ce : CallE := ⟨[⟨false, .int .i64⟩, ⟨false, .int .i64⟩], [⟨false, [.v .str]⟩], fun (x : Int × Int) => internal_strconv_FormatInt.f x.1 x.2⟩
theorem internal_strconv_FormatInt.ok (k : Nat) : CallOK Tryz.prog GL0 56 internal_strconv_FormatInt.ce where
  there := ⟨_, Tryz.func56, by kernel_rfl, by kernel_rfl⟩
  calls := by
    intro x r hx w J args hJ hglob hargs
    have hx : internal_strconv_FormatInt.f x.1 x.2 = some r := hx
    obtain ⟨n, base⟩ := x
    unfold internal_strconv_FormatInt.f at hx
    split at hx
    · rename_i hb
      cases hx
      obtain ⟨v, q, rfl, hv, v2, rfl, hv2⟩ := hargs
      have hv : [v] = [Value.int .i64 n] := hv
      have hv2 : [v2] = [Value.int .i64 base] := hv2
      simp only [List.cons.injEq, and_true] at hv hv2
      subst hv; subst hv2
      obtain ⟨rfl, hb1, hb2⟩ := hb
      obtain ⟨_, e, fz, hg⟩ := hglob 0 (.arr .u64 Lib.pow10Tab) rfl
      refine (Tryz.internal_strconv_FormatInt_10 n hb1 hb2 w (by unfold Lib.TabIs World.var?; rw [show Tryz.prog.globalNamed "internal/strconv.uint64pow10" = some 0 from by kernel_rfl]; simp [hg])).mono ?_
      rintro e w' ⟨rfl, k, os, rfl⟩
      exact ⟨_, rfl, Lib.below_grow _ _ (Nat.le_refl _) _ _, J, [_], [], [_], fun b h => .inl h, ⟨rfl, rfl⟩, List.nodup_nil, ⟨[_], [], _, [], rfl, rfl, rfl, rfl, rfl, rfl⟩, rfl⟩
    · cases hx
def strconv_Itoa.f (n : Int) : Option ByteArray := if -9223372036854775808 ≤ n ∧ n ≤ 9223372036854775807 then some ⟨(Lib.itoa n).toArray⟩ else none
def strconv_Itoa.ce : CallE := ⟨[⟨false, .int .i64⟩], [⟨false, [.v .str]⟩], fun (x : Int) => strconv_Itoa.f x⟩
theorem strconv_Itoa.ok (k : Nat) : CallOK Tryz.prog GL0 37 strconv_Itoa.ce where
  there := ⟨_, Tryz.func37, by kernel_rfl, by kernel_rfl⟩
  calls := by
    intro x r hx w J args hJ hglob hargs
    have hx : strconv_Itoa.f x = some r := hx
    unfold strconv_Itoa.f at hx
    split at hx
    · rename_i hb
      cases hx
      obtain ⟨v, rfl, hv⟩ := hargs
      have hv : [v] = [Value.int .i64 x] := hv
      simp only [List.cons.injEq, and_true] at hv
      subst hv
      obtain ⟨_, e, fz, hg⟩ := hglob 0 (.arr .u64 Lib.pow10Tab) rfl
      refine (Tryz.strconv_Itoa x hb.1 hb.2 w (by unfold Lib.TabIs World.var?; rw [show Tryz.prog.globalNamed "internal/strconv.uint64pow10" = some 0 from by kernel_rfl]; simp [hg])).mono ?_
      rintro e w' ⟨rfl, k, os, rfl⟩
      exact ⟨_, rfl, Lib.below_grow _ _ (Nat.le_refl _) _ _, J, [_], [], [_], fun b h => .inl h, ⟨rfl, rfl⟩, List.nodup_nil, ⟨[_], [], _, [], rfl, rfl, rfl, rfl, rfl, rfl⟩, rfl⟩
    · cases hx
def strings_Join.f (l : List ByteArray) (sep : ByteArray) : Option ByteArray := if l.length ≤ 140737488355328 ∧ (Lib.join (l.map (·.data.toList)) sep.data.toList).length ≤ 140737488355328 then some ⟨(Lib.join (l.map (·.data.toList)) sep.data.toList).toArray⟩ else none
def strings_Join.ce : CallE := ⟨[⟨false, .list .str⟩, ⟨false, .str⟩], [⟨false, [.v .str]⟩], fun (x : List ByteArray × ByteArray) => strings_Join.f x.1 x.2⟩
theorem strings_Join.ok (k : Nat) : CallOK Tryz.prog GL0 38 strings_Join.ce where
  there := ⟨_, Tryz.func38, by kernel_rfl, by kernel_rfl⟩
  calls := by
    intro x r hx w J args hJ hglob hargs
    have hx : strings_Join.f x.1 x.2 = some r := hx
    obtain ⟨l, sep⟩ := x
    unfold strings_Join.f at hx
    split at hx
    · rename_i hb
      cases hx
      obtain ⟨v, q, rfl, hv, u, rfl, hu⟩ := hargs
      have hu : [u] = [Value.string sep] := hu
      simp only [List.cons.injEq, and_true] at hu
      subst hu
      have hv : K w J (.list .str) l [v] := hv
      obtain ⟨A, c, hv, hle, hcm, hr⟩ := hv
      simp only [List.cons.injEq, and_true] at hv
      subst hv
      have fin : ∀ (s : ByteArray) (w' : World), Below w.heap.size w w' → s = ⟨(Lib.join (l.map (·.data.toList)) sep.data.toList).toArray⟩ → ∃ v, Ending.returned (Value.string s) = .returned v ∧ Below w.heap.size w w' ∧ ResRep w.heap.size w' J [⟨false, [.v .str]⟩] (⟨(Lib.join (l.map (·.data.toList)) sep.data.toList).toArray⟩ : ByteArray) v := fun s w' hB hs => by
        subst hs
        exact ⟨_, rfl, hB, J, [_], [], [_], fun b h => .inl h, ⟨rfl, rfl⟩, List.nodup_nil, ⟨[_], [], _, [], rfl, rfl, rfl, rfl, rfl, rfl⟩, rfl⟩
      by_cases hl : l = []
      · subst hl
        refine (Tryz.strings_Join_none A c sep w).mono ?_
        rintro e w' ⟨rfl, rfl⟩
        exact fin _ _ (Below.refl _ _) rfl
      · rcases hr with hr | ⟨a, rfl, ⟨hI, hs⟩, hall⟩
        · exact absurd hr hl
        · obtain ⟨b, o, sp⟩ := a
          simp only at hs
          subst hs
          refine (Tryz.strings_Join b o c l sep w (fun j x hx => ?_) (hJ _ hI) hb.1 hle hb.2).mono ?_
          · obtain ⟨d, hd, hc⟩ := hall j x hx
            have hd : d = [Value.string x] := hd
            subst hd
            have := hc 0 _ rfl
            rw [add_add, add_mk] at this
            simpa [Ty.sz] using this
          · rintro e w' ⟨rfl, hB⟩
            exact fin _ _ hB rfl
    · cases hx
def BLD0 : Option BldC := some ⟨63, 5, 24, 26⟩
section
variable [Wr]
/-! ### rat_Of: function 17 -/
def rat_Of.f (a0 : Int) : Option (Int × Int) := (some (a0, 1))
def rat_Of.ce : CallE := ⟨[⟨false, (.int .i64)⟩], [⟨true, [.v (.int .i64), .v (.int .i64)]⟩], fun (x : Int) => rat_Of.f x⟩
def rat_Of.F : Fam (RT.dens (rat_Of.ce).rts) := ⟨fun k => ⟨TT0, GL0, callT [], cmpT CM0, [], BLD0⟩, []⟩
theorem rat_Of.is (k : Nat) (x : AT.dens (rat_Of.ce).ats) : (rat_Of.ce).fn x = den rat_Of.F k (bodyOf Tryz.f17) (startAS (rat_Of.ce).ats x) (retK (rat_Of.F.c k) Tryz.f17.results.toList (rat_Of.ce).rts) := by kernel_rfl
theorem rat_Of.ob : Obl rat_Of.F (bodyOf Tryz.f17) (fun k => retK (rat_Of.F.c k) Tryz.f17.results.toList (rat_Of.ce).rts) := obl_of (by kernel_rfl)
/-! ### run_delays: function 18 -/
def run_delays.l0 : Nat → (List S24) → (List S41) → Int → Int → (List S41) → Int → Int → Option (List S24)
 | 0, _, _, _, _, _, _, _ => none
 | k + 1, x3, x7, x8, x9, x1_0, x1_1, x1_2 => if x9 < x8 then (if 0 ≤ x9 then (if x9 < (x7.length : Int) then (if x3.length < 8796093022208 then (run_delays.l0 k (x3 ++ [((rd_T41 x7 x9).f0)]) x7 x8 (w64 (x9 + 1)) x1_0 x1_1 x1_2) else (none)) else (none)) else (none)) else (if x3.length < 8796093022208 then (some (x3 ++ [(⟨x1_1, x1_2⟩ : S24)])) else (none))
def run_delays.f (k : Nat) (l0_0 : List S41) (l0_1 : S24) : Option (List S24) := run_delays.l0 k ([] : List S24) l0_0 (l0_0.length : Int) 0 l0_0 l0_1.f0 l0_1.f1
def run_delays.ce (k : Nat) : CallE := ⟨[⟨true, T26⟩], [⟨false, [.o 24 T24]⟩], fun (x : S26) => run_delays.f k x.f0 x.f1⟩
def run_delays.F : Fam (RT.dens (run_delays.ce 0).rts) := ⟨fun k => ⟨TT0, GL0, callT [], cmpT CM0, [], BLD0⟩, [(4, ⟨⟨[(1, .k (.ptr 64 0)), (3, .o 24 T24), (7, .v false (.list T41)), (8, .v false (.int .i64)), (9, .v false (.int .i64))], [(64, [.v (.list T41), .v (.int .i64), .v (.int .i64)])]⟩, fun k s => run_delays.l0 k s.1.1 s.1.2.1 s.1.2.2.1 s.1.2.2.2.1 s.2.1.1 s.2.1.2.1 s.2.1.2.2.1⟩)]⟩
theorem run_delays.is (k : Nat) (x : AT.dens (run_delays.ce 0).ats) : (run_delays.ce k).fn x = den run_delays.F k (bodyOf Tryz.f18) (startAS (run_delays.ce 0).ats x) (retK (run_delays.F.c k) Tryz.f18.results.toList (run_delays.ce 0).rts) := by kernel_rfl
theorem run_delays.ob : Obl run_delays.F (bodyOf Tryz.f18) (fun k => retK (run_delays.F.c k) Tryz.f18.results.toList (run_delays.ce 0).rts) := obl_of (by kernel_rfl)
/-! ### cmp_Or_int: function 67 -/
def cmp_Or_int.l0 : Nat → Int → (List Int) → Int → Int → Option Int
 | 0, _, _, _, _ => none
 | k + 1, x3, x6, x7, x8 => if x8 < x7 then (if 0 ≤ x8 then (if x8 < (x6.length : Int) then (if (rd x6 x8) = x3 then (cmp_Or_int.l0 k x3 x6 x7 (w64 (x8 + 1))) else (some (rd x6 x8))) else (none)) else (none)) else (some x3)
def cmp_Or_int.f (k : Nat) (a0 : List Int) : Option Int := cmp_Or_int.l0 k 0 a0 (a0.length : Int) 0
def cmp_Or_int.ce (k : Nat) : CallE := ⟨[⟨false, (.list (.int .i64))⟩], [⟨false, [.v (.int .i64)]⟩], fun (x : (List Int)) => cmp_Or_int.f k x⟩
def cmp_Or_int.F : Fam (RT.dens (cmp_Or_int.ce 0).rts) := ⟨fun k => ⟨TT0, GL0, callT [], cmpT CM0, [], BLD0⟩, [(4, ⟨⟨[(3, .v false (.int .i64)), (6, .v false (.list (.int .i64))), (7, .v false (.int .i64)), (8, .v false (.int .i64))], []⟩, fun k s => cmp_Or_int.l0 k s.1.1 s.1.2.1 s.1.2.2.1 s.1.2.2.2.1⟩)]⟩
theorem cmp_Or_int.is (k : Nat) (x : AT.dens (cmp_Or_int.ce 0).ats) : (cmp_Or_int.ce k).fn x = den cmp_Or_int.F k (bodyOf Tryz.f67) (startAS (cmp_Or_int.ce 0).ats x) (retK (cmp_Or_int.F.c k) Tryz.f67.results.toList (cmp_Or_int.ce 0).rts) := by kernel_rfl
theorem cmp_Or_int.ob : Obl cmp_Or_int.F (bodyOf Tryz.f67) (fun k => retK (cmp_Or_int.F.c k) Tryz.f67.results.toList (cmp_Or_int.ce 0).rts) := obl_of (by kernel_rfl)
/-! ### cmp_isNaN_uint64: function 89 -/
def cmp_isNaN_uint64.f (a0 : Int) : Option Bool := (some (!decide (a0 = a0)))
def cmp_isNaN_uint64.ce : CallE := ⟨[⟨false, (.int .u64)⟩], [⟨false, [.v .bool]⟩], fun (x : Int) => cmp_isNaN_uint64.f x⟩
def cmp_isNaN_uint64.F : Fam (RT.dens (cmp_isNaN_uint64.ce).rts) := ⟨fun k => ⟨TT0, GL0, callT [], cmpT CM0, [], BLD0⟩, []⟩
theorem cmp_isNaN_uint64.is (k : Nat) (x : AT.dens (cmp_isNaN_uint64.ce).ats) : (cmp_isNaN_uint64.ce).fn x = den cmp_isNaN_uint64.F k (bodyOf Tryz.f89) (startAS (cmp_isNaN_uint64.ce).ats x) (retK (cmp_isNaN_uint64.F.c k) Tryz.f89.results.toList (cmp_isNaN_uint64.ce).rts) := by kernel_rfl
theorem cmp_isNaN_uint64.ob : Obl cmp_isNaN_uint64.F (bodyOf Tryz.f89) (fun k => retK (cmp_isNaN_uint64.F.c k) Tryz.f89.results.toList (cmp_isNaN_uint64.ce).rts) := obl_of (by kernel_rfl)
/-! ### cmp_Compare_uint64: function 68 -/
def cmp_Compare_uint64.f (a0 : Int) (a1 : Int) : Option Int := (cmp_isNaN_uint64.f a0).bind fun t1 => ((cmp_isNaN_uint64.f a1).bind fun t2 => (if t1 = true then (if t2 = true then (some 0) else (some (-1))) else (if t2 = true then (some 1) else (if a0 < a1 then (some (-1)) else (if a0 > a1 then (some 1) else (some 0))))))
def cmp_Compare_uint64.ce : CallE := ⟨[⟨false, (.int .u64)⟩, ⟨false, (.int .u64)⟩], [⟨false, [.v (.int .i64)]⟩], fun (x : Int × Int) => cmp_Compare_uint64.f x.1 x.2⟩
def cmp_Compare_uint64.F : Fam (RT.dens (cmp_Compare_uint64.ce).rts) := ⟨fun k => ⟨TT0, GL0, callT [(89, [], cmp_isNaN_uint64.ce)], cmpT CM0, [], BLD0⟩, []⟩
theorem cmp_Compare_uint64.is (k : Nat) (x : AT.dens (cmp_Compare_uint64.ce).ats) : (cmp_Compare_uint64.ce).fn x = den cmp_Compare_uint64.F k (bodyOf Tryz.f68) (startAS (cmp_Compare_uint64.ce).ats x) (retK (cmp_Compare_uint64.F.c k) Tryz.f68.results.toList (cmp_Compare_uint64.ce).rts) := by kernel_rfl
theorem cmp_Compare_uint64.ob : Obl cmp_Compare_uint64.F (bodyOf Tryz.f68) (fun k => retK (cmp_Compare_uint64.F.c k) Tryz.f68.results.toList (cmp_Compare_uint64.ce).rts) := obl_of (by kernel_rfl)
/-! ### rat_size_compare: function 50 -/
def rat_size_compare.f (k : Nat) (l0_0 : Int) (l0_1 : Int) (l1_0 : Int) (l1_1 : Int) : Option Int := (cmp_Compare_uint64.f l0_0 l1_0).bind fun t1 => ((cmp_Compare_uint64.f l0_1 l1_1).bind fun t2 => ((cmp_Or_int.f k ([t1, t2] : List Int)).bind fun t3 => (some t3)))
def rat_size_compare.ce (k : Nat) : CallE := ⟨[⟨true, T91⟩, ⟨true, T91⟩], [⟨false, [.v (.int .i64)]⟩], fun (x : S91 × S91) => rat_size_compare.f k x.1.f0 x.1.f1 x.2.f0 x.2.f1⟩
def rat_size_compare.F : Fam (RT.dens (rat_size_compare.ce 0).rts) := ⟨fun k => ⟨TT0, GL0, callT [(67, [], cmp_Or_int.ce k), (68, [], cmp_Compare_uint64.ce)], cmpT CM0, [], BLD0⟩, []⟩
theorem rat_size_compare.is (k : Nat) (x : AT.dens (rat_size_compare.ce 0).ats) : (rat_size_compare.ce k).fn x = den rat_size_compare.F k (bodyOf Tryz.f50) (startAS (rat_size_compare.ce 0).ats x) (retK (rat_size_compare.F.c k) Tryz.f50.results.toList (rat_size_compare.ce 0).rts) := by kernel_rfl
theorem rat_size_compare.ob : Obl rat_size_compare.F (bodyOf Tryz.f50) (fun k => retK (rat_size_compare.F.c k) Tryz.f50.results.toList (rat_size_compare.ce 0).rts) := obl_of (by kernel_rfl)
/-! ### rat_size_less: function 51 -/
def rat_size_less.f (l0_0 : Int) (l0_1 : Int) (l1_0 : Int) (l1_1 : Int) : Option (Int × Int) := (math_bits_Sub64.f l0_1 l1_1 0).bind fun t1 => ((math_bits_Sub64.f l0_0 l1_0 t1.2).bind fun t2 => (some (t2.1, t1.1)))
def rat_size_less.ce : CallE := ⟨[⟨true, T91⟩, ⟨true, T91⟩], [⟨true, [.v (.int .u64), .v (.int .u64)]⟩], fun (x : S91 × S91) => rat_size_less.f x.1.f0 x.1.f1 x.2.f0 x.2.f1⟩
def rat_size_less.F : Fam (RT.dens (rat_size_less.ce).rts) := ⟨fun k => ⟨TT0, GL0, callT [(69, [], math_bits_Sub64.ce)], cmpT CM0, [], BLD0⟩, []⟩
theorem rat_size_less.is (k : Nat) (x : AT.dens (rat_size_less.ce).ats) : (rat_size_less.ce).fn x = den rat_size_less.F k (bodyOf Tryz.f51) (startAS (rat_size_less.ce).ats x) (retK (rat_size_less.F.c k) Tryz.f51.results.toList (rat_size_less.ce).rts) := by kernel_rfl
theorem rat_size_less.ob : Obl rat_size_less.F (bodyOf Tryz.f51) (fun k => retK (rat_size_less.F.c k) Tryz.f51.results.toList (rat_size_less.ce).rts) := obl_of (by kernel_rfl)
/-! ### rat_size_over: function 44 -/
mutual
def rat_size_over.l0 : Nat → Int → Int → Int → Int → Int → Int → Int → Int → Int → Int → Int → Int → Int → Option (Int × Int × Int × Int)
 | 0, _, _, _, _, _, _, _, _, _, _, _, _, _ => none
 | k + 1, x8, x2_0, x2_1, x3_0, x3_1, x4_0, x4_1, x5_0, x5_1, x6_0, x6_1, x7_0, x7_1 => if x8 ≥ 0 then (if 0 ≤ x8 then (if x8 > 63 then (if 0 ≤ (w64 (x8 - 64)) then (rat_size_over.j1 k x8 (Wr.and .u64 (Wr.shr .u64 x2_0 (w64 (x8 - 64))) 1) x2_0 x2_1 x3_0 x3_1 x4_0 x4_1 x5_0 x5_1 x6_0 x6_1 (Wr.or .u64 (wk .u64 (x7_0 * 2)) (x7_1 / 9223372036854775808)) (wk .u64 (x7_1 * 2))) else (none)) else (rat_size_over.j1 k x8 (Wr.and .u64 (Wr.shr .u64 x2_1 x8) 1) x2_0 x2_1 x3_0 x3_1 x4_0 x4_1 x5_0 x5_1 x6_0 x6_1 (Wr.or .u64 (wk .u64 (x7_0 * 2)) (x7_1 / 9223372036854775808)) (wk .u64 (x7_1 * 2)))) else (none)) else (some (x6_0, x6_1, x7_0, x7_1))
def rat_size_over.j1 : Nat → Int → Int → Int → Int → Int → Int → Int → Int → Int → Int → Int → Int → Int → Int → Option (Int × Int × Int × Int)
 | 0, _, _, _, _, _, _, _, _, _, _, _, _, _, _ => none
 | k + 1, x8, x9, x2_0, x2_1, x3_0, x3_1, x4_0, x4_1, x5_0, x5_1, x6_0, x6_1, x7_0, x7_1 => (rat_size_compare.f k x7_0 (Wr.or .u64 x7_1 x9) x3_0 x3_1).bind fun t1 => (if t1 ≥ 0 then ((rat_size_less.f x7_0 (Wr.or .u64 x7_1 x9) x3_0 x3_1).bind fun t2 => (if x8 > 63 then (if 0 ≤ (w64 (x8 - 64)) then (rat_size_over.l0 k (w64 (x8 - 1)) x2_0 x2_1 x3_0 x3_1 x4_0 x4_1 x5_0 x5_1 (Wr.or .u64 x6_0 (Wr.shl .u64 1 (w64 (x8 - 64)))) x6_1 t2.1 t2.2) else (none)) else (if 0 ≤ x8 then (rat_size_over.l0 k (w64 (x8 - 1)) x2_0 x2_1 x3_0 x3_1 x4_0 x4_1 x5_0 x5_1 x6_0 (Wr.or .u64 x6_1 (Wr.shl .u64 1 x8)) t2.1 t2.2) else (none)))) else (rat_size_over.l0 k (w64 (x8 - 1)) x2_0 x2_1 x3_0 x3_1 x4_0 x4_1 x5_0 x5_1 x6_0 x6_1 x7_0 (Wr.or .u64 x7_1 x9)))
end
def rat_size_over.f (k : Nat) (l0_0 : Int) (l0_1 : Int) (l1_0 : Int) (l1_1 : Int) : Option (Int × Int × Int × Int) := rat_size_over.l0 k 127 l0_0 l0_1 l1_0 l1_1 0 0 0 0 0 0 0 0
def rat_size_over.ce (k : Nat) : CallE := ⟨[⟨true, T91⟩, ⟨true, T91⟩], [⟨true, [.v (.int .u64), .v (.int .u64)]⟩, ⟨true, [.v (.int .u64), .v (.int .u64)]⟩], fun (x : S91 × S91) => rat_size_over.f k x.1.f0 x.1.f1 x.2.f0 x.2.f1⟩
def rat_size_over.F : Fam (RT.dens (rat_size_over.ce 0).rts) := ⟨fun k => ⟨TT0, GL0, callT [(50, [], rat_size_compare.ce k), (51, [], rat_size_less.ce)], cmpT CM0, [], BLD0⟩, [(4, ⟨⟨[(2, .k (.ptr 128 0)), (3, .k (.ptr 192 0)), (4, .k (.ptr 256 0)), (5, .k (.ptr 320 0)), (6, .k (.ptr 384 0)), (7, .k (.ptr 448 0)), (8, .v false (.int .i64))], [(128, [.v (.int .u64), .v (.int .u64)]), (192, [.v (.int .u64), .v (.int .u64)]), (256, [.v (.int .u64), .v (.int .u64)]), (320, [.v (.int .u64), .v (.int .u64)]), (384, [.v (.int .u64), .v (.int .u64)]), (448, [.v (.int .u64), .v (.int .u64)])]⟩, fun k s => rat_size_over.l0 k s.1.1 s.2.1.1 s.2.1.2.1 s.2.2.1.1 s.2.2.1.2.1 s.2.2.2.1.1 s.2.2.2.1.2.1 s.2.2.2.2.1.1 s.2.2.2.2.1.2.1 s.2.2.2.2.2.1.1 s.2.2.2.2.2.1.2.1 s.2.2.2.2.2.2.1.1 s.2.2.2.2.2.2.1.2.1⟩), (1000010, ⟨⟨[(2, .k (.ptr 128 0)), (3, .k (.ptr 192 0)), (4, .k (.ptr 256 0)), (5, .k (.ptr 320 0)), (6, .k (.ptr 384 0)), (7, .k (.ptr 448 0)), (8, .v false (.int .i64)), (9, .v false (.int .u64))], [(128, [.v (.int .u64), .v (.int .u64)]), (192, [.v (.int .u64), .v (.int .u64)]), (256, [.v (.int .u64), .v (.int .u64)]), (320, [.v (.int .u64), .v (.int .u64)]), (384, [.v (.int .u64), .v (.int .u64)]), (448, [.v (.int .u64), .v (.int .u64)])]⟩, fun k s => rat_size_over.j1 k s.1.1 s.1.2.1 s.2.1.1 s.2.1.2.1 s.2.2.1.1 s.2.2.1.2.1 s.2.2.2.1.1 s.2.2.2.1.2.1 s.2.2.2.2.1.1 s.2.2.2.2.1.2.1 s.2.2.2.2.2.1.1 s.2.2.2.2.2.1.2.1 s.2.2.2.2.2.2.1.1 s.2.2.2.2.2.2.1.2.1⟩)]⟩
theorem rat_size_over.is (k : Nat) (x : AT.dens (rat_size_over.ce 0).ats) : (rat_size_over.ce k).fn x = den rat_size_over.F k (bodyOf Tryz.f44) (startAS (rat_size_over.ce 0).ats x) (retK (rat_size_over.F.c k) Tryz.f44.results.toList (rat_size_over.ce 0).rts) := by kernel_rfl
theorem rat_size_over.ob : Obl rat_size_over.F (bodyOf Tryz.f44) (fun k => retK (rat_size_over.F.c k) Tryz.f44.results.toList (rat_size_over.ce 0).rts) := obl_of (by kernel_rfl)
/-! ### rat_size_isZero: function 45 -/
def rat_size_isZero.f (l0_0 : Int) (l0_1 : Int) : Option Bool := if l0_0 = 0 then (some (decide (l0_1 = 0))) else (some false)
def rat_size_isZero.ce : CallE := ⟨[⟨true, T91⟩], [⟨false, [.v .bool]⟩], fun (x : S91) => rat_size_isZero.f x.f0 x.f1⟩
def rat_size_isZero.F : Fam (RT.dens (rat_size_isZero.ce).rts) := ⟨fun k => ⟨TT0, GL0, callT [], cmpT CM0, [], BLD0⟩, []⟩
theorem rat_size_isZero.is (k : Nat) (x : AT.dens (rat_size_isZero.ce).ats) : (rat_size_isZero.ce).fn x = den rat_size_isZero.F k (bodyOf Tryz.f45) (startAS (rat_size_isZero.ce).ats x) (retK (rat_size_isZero.F.c k) Tryz.f45.results.toList (rat_size_isZero.ce).rts) := by kernel_rfl
theorem rat_size_isZero.ob : Obl rat_size_isZero.F (bodyOf Tryz.f45) (fun k => retK (rat_size_isZero.F.c k) Tryz.f45.results.toList (rat_size_isZero.ce).rts) := obl_of (by kernel_rfl)
/-! ### rat_common: function 43 -/
def rat_common.l0 : Nat → Int → Int → Int → Int → Int → Int → Option (Int × Int)
 | 0, _, _, _, _, _, _ => none
 | k + 1, x2_0, x2_1, x3_0, x3_1, x4_0, x4_1 => (rat_size_isZero.f x3_0 x3_1).bind fun t1 => (if (!t1) = true then ((rat_size_over.f k x2_0 x2_1 x3_0 x3_1).bind fun t2 => (rat_common.l0 k x3_0 x3_1 t2.2.2.1 t2.2.2.2 x4_0 x4_1)) else (some (x2_0, x2_1)))
def rat_common.f (k : Nat) (l0_0 : Int) (l0_1 : Int) (l1_0 : Int) (l1_1 : Int) : Option (Int × Int) := rat_common.l0 k l0_0 l0_1 l1_0 l1_1 0 0
def rat_common.ce (k : Nat) : CallE := ⟨[⟨true, T91⟩, ⟨true, T91⟩], [⟨true, [.v (.int .u64), .v (.int .u64)]⟩], fun (x : S91 × S91) => rat_common.f k x.1.f0 x.1.f1 x.2.f0 x.2.f1⟩
def rat_common.F : Fam (RT.dens (rat_common.ce 0).rts) := ⟨fun k => ⟨TT0, GL0, callT [(44, [], rat_size_over.ce k), (45, [], rat_size_isZero.ce)], cmpT CM0, [], BLD0⟩, [(2, ⟨⟨[(2, .k (.ptr 128 0)), (3, .k (.ptr 192 0)), (4, .k (.ptr 256 0))], [(128, [.v (.int .u64), .v (.int .u64)]), (192, [.v (.int .u64), .v (.int .u64)]), (256, [.v (.int .u64), .v (.int .u64)])]⟩, fun k s => rat_common.l0 k s.2.1.1 s.2.1.2.1 s.2.2.1.1 s.2.2.1.2.1 s.2.2.2.1.1 s.2.2.2.1.2.1⟩)]⟩
theorem rat_common.is (k : Nat) (x : AT.dens (rat_common.ce 0).ats) : (rat_common.ce k).fn x = den rat_common.F k (bodyOf Tryz.f43) (startAS (rat_common.ce 0).ats x) (retK (rat_common.F.c k) Tryz.f43.results.toList (rat_common.ce 0).rts) := by kernel_rfl
theorem rat_common.ob : Obl rat_common.F (bodyOf Tryz.f43) (fun k => retK (rat_common.F.c k) Tryz.f43.results.toList (rat_common.ce 0).rts) := obl_of (by kernel_rfl)
/-! ### rat_wide_number: function 46 -/
def rat_wide_number.j0 : Nat → Int → Int → Bool → Option (Int × Bool)
 | 0, _, _, _ => none
 | k + 1, x1_0, x1_1, x1_2 => if x1_2 = true then (some (w64 (wk .u64 (0 - x1_1)), true)) else (some (w64 (x1_1), true))
def rat_wide_number.f (k : Nat) (l0_0 : S91) (l0_1 : Bool) : Option (Int × Bool) := if l0_0.f0 > 0 then (some (0, false)) else (if l0_0.f1 > 9223372036854775808 then (some (0, false)) else (if l0_0.f1 = 9223372036854775808 then (if (!l0_1) = true then (some (0, false)) else (rat_wide_number.j0 k l0_0.f0 l0_0.f1 l0_1)) else (rat_wide_number.j0 k l0_0.f0 l0_0.f1 l0_1)))
def rat_wide_number.ce (k : Nat) : CallE := ⟨[⟨true, T93⟩], [⟨false, [.v (.int .i64)]⟩, ⟨false, [.v .bool]⟩], fun (x : S93) => rat_wide_number.f k x.f0 x.f1⟩
def rat_wide_number.F : Fam (RT.dens (rat_wide_number.ce 0).rts) := ⟨fun k => ⟨TT0, GL0, callT [], cmpT CM0, [], BLD0⟩, [(1000004, ⟨⟨[(1, .k (.ptr 64 0))], [(64, [.v (.int .u64), .v (.int .u64), .v .bool])]⟩, fun k s => rat_wide_number.j0 k s.2.1.1 s.2.1.2.1 s.2.1.2.2.1⟩)]⟩
theorem rat_wide_number.is (k : Nat) (x : AT.dens (rat_wide_number.ce 0).ats) : (rat_wide_number.ce k).fn x = den rat_wide_number.F k (bodyOf Tryz.f46) (startAS (rat_wide_number.ce 0).ats x) (retK (rat_wide_number.F.c k) Tryz.f46.results.toList (rat_wide_number.ce 0).rts) := by kernel_rfl
theorem rat_wide_number.ob : Obl rat_wide_number.F (bodyOf Tryz.f46) (fun k => retK (rat_wide_number.F.c k) Tryz.f46.results.toList (rat_wide_number.ce 0).rts) := obl_of (by kernel_rfl)
/-! ### rat_made: function 33 -/
def rat_made.j0 : Nat → Bool → Int → Int → Int → Int → Int → Int → Option (Int × Int × Int)
 | 0, _, _, _, _, _, _, _ => none
 | k + 1, x11, x4_0, x4_1, x7_0, x7_1, x9_0, x9_1 => (rat_wide_number.f k (⟨x7_0, x7_1⟩ : S91) x11).bind fun t4 => ((rat_wide_number.f k (⟨x9_0, x9_1⟩ : S91) false).bind fun t5 => (if (!t4.2) = true then (some (0, 0, 20)) else (if (!t5.2) = true then (some (0, 0, 20)) else (some (t4.1, t5.1, 0)))))
def rat_made.f (k : Nat) (l0_0 : S91) (l0_1 : Bool) (l1_0 : S91) (l1_1 : Bool) : Option (Int × Int × Int) := (rat_common.f k l0_0.f0 l0_0.f1 l1_0.f0 l1_0.f1).bind fun t1 => ((rat_size_over.f k l0_0.f0 l0_0.f1 t1.1 t1.2).bind fun t2 => ((rat_size_over.f k l1_0.f0 l1_0.f1 t1.1 t1.2).bind fun t3 => (if l0_1 = l1_1 then (rat_made.j0 k false 0 0 t2.1 t2.2.1 t3.1 t3.2.1) else ((rat_size_isZero.f t2.1 t2.2.1).bind fun t6 => (rat_made.j0 k (!t6) 0 0 t2.1 t2.2.1 t3.1 t3.2.1)))))
def rat_made.ce (k : Nat) : CallE := ⟨[⟨true, T93⟩, ⟨true, T93⟩], [⟨true, [.v (.int .i64), .v (.int .i64)]⟩, ⟨false, [.v (.int .i64)]⟩], fun (x : S93 × S93) => rat_made.f k x.1.f0 x.1.f1 x.2.f0 x.2.f1⟩
def rat_made.F : Fam (RT.dens (rat_made.ce 0).rts) := ⟨fun k => ⟨TT0, GL0, callT [(43, [], rat_common.ce k), (44, [], rat_size_over.ce k), (45, [], rat_size_isZero.ce), (46, [], rat_wide_number.ce k)], cmpT CM0, [], BLD0⟩, [(1000006, ⟨⟨[(4, .k (.ptr 256 0)), (7, .k (.ptr 448 0)), (9, .k (.ptr 576 0)), (11, .v false .bool)], [(256, [.v (.int .i64), .v (.int .i64)]), (448, [.v (.int .u64), .v (.int .u64)]), (576, [.v (.int .u64), .v (.int .u64)])]⟩, fun k s => rat_made.j0 k s.1.1 s.2.1.1 s.2.1.2.1 s.2.2.1.1 s.2.2.1.2.1 s.2.2.2.1.1 s.2.2.2.1.2.1⟩)]⟩
theorem rat_made.is (k : Nat) (x : AT.dens (rat_made.ce 0).ats) : (rat_made.ce k).fn x = den rat_made.F k (bodyOf Tryz.f33) (startAS (rat_made.ce 0).ats x) (retK (rat_made.F.c k) Tryz.f33.results.toList (rat_made.ce 0).rts) := by kernel_rfl
theorem rat_made.ob : Obl rat_made.F (bodyOf Tryz.f33) (fun k => retK (rat_made.F.c k) Tryz.f33.results.toList (rat_made.ce 0).rts) := obl_of (by kernel_rfl)
/-! ### rat_of: function 47 -/
def rat_of.f (a0 : Int) : Option (S91 × Bool) := if a0 < 0 then (some ((⟨0, wk .u64 (0 - (wk .u64 (a0)))⟩ : S91), true)) else (some ((⟨0, wk .u64 (a0)⟩ : S91), false))
def rat_of.ce : CallE := ⟨[⟨false, (.int .i64)⟩], [⟨true, [.v T91, .v .bool]⟩], fun (x : Int) => rat_of.f x⟩
def rat_of.F : Fam (RT.dens (rat_of.ce).rts) := ⟨fun k => ⟨TT0, GL0, callT [], cmpT CM0, [], BLD0⟩, []⟩
theorem rat_of.is (k : Nat) (x : AT.dens (rat_of.ce).ats) : (rat_of.ce).fn x = den rat_of.F k (bodyOf Tryz.f47) (startAS (rat_of.ce).ats x) (retK (rat_of.F.c k) Tryz.f47.results.toList (rat_of.ce).rts) := by kernel_rfl
theorem rat_of.ob : Obl rat_of.F (bodyOf Tryz.f47) (fun k => retK (rat_of.F.c k) Tryz.f47.results.toList (rat_of.ce).rts) := obl_of (by kernel_rfl)
/-! ### rat_New: function 42 -/
def rat_New.f (k : Nat) (a0 : Int) (a1 : Int) : Option (Int × Int × Int) := if a1 = 0 then (some (0, 0, 21)) else ((rat_of.f a0).bind fun t1 => ((rat_of.f a1).bind fun t2 => ((rat_made.f k t1.1 t1.2 t2.1 t2.2).bind fun t3 => (some (t3.1, t3.2.1, t3.2.2)))))
def rat_New.ce (k : Nat) : CallE := ⟨[⟨false, (.int .i64)⟩, ⟨false, (.int .i64)⟩], [⟨true, [.v (.int .i64), .v (.int .i64)]⟩, ⟨false, [.v (.int .i64)]⟩], fun (x : Int × Int) => rat_New.f k x.1 x.2⟩
def rat_New.F : Fam (RT.dens (rat_New.ce 0).rts) := ⟨fun k => ⟨TT0, GL0, callT [(33, [], rat_made.ce k), (47, [], rat_of.ce)], cmpT CM0, [], BLD0⟩, []⟩
theorem rat_New.is (k : Nat) (x : AT.dens (rat_New.ce 0).ats) : (rat_New.ce k).fn x = den rat_New.F k (bodyOf Tryz.f42) (startAS (rat_New.ce 0).ats x) (retK (rat_New.F.c k) Tryz.f42.results.toList (rat_New.ce 0).rts) := by kernel_rfl
theorem rat_New.ob : Obl rat_New.F (bodyOf Tryz.f42) (fun k => retK (rat_New.F.c k) Tryz.f42.results.toList (rat_New.ce 0).rts) := obl_of (by kernel_rfl)
/-! ### rat_Right: function 31 -/
def rat_Right.f (k : Nat) (l0_0 : Int) (l0_1 : Int) : Option Bool := if l0_1 < 1 then (some false) else ((rat_New.f k l0_0 l0_1).bind fun t1 => (if t1.2.2 = 0 then (some (decide ((⟨t1.1, t1.2.1⟩ : S24) = (⟨l0_0, l0_1⟩ : S24)))) else (some false)))
def rat_Right.ce (k : Nat) : CallE := ⟨[⟨true, T24⟩], [⟨false, [.v .bool]⟩], fun (x : S24) => rat_Right.f k x.f0 x.f1⟩
def rat_Right.F : Fam (RT.dens (rat_Right.ce 0).rts) := ⟨fun k => ⟨TT0, GL0, callT [(42, [], rat_New.ce k)], cmpT CM0, [], BLD0⟩, []⟩
theorem rat_Right.is (k : Nat) (x : AT.dens (rat_Right.ce 0).ats) : (rat_Right.ce k).fn x = den rat_Right.F k (bodyOf Tryz.f31) (startAS (rat_Right.ce 0).ats x) (retK (rat_Right.F.c k) Tryz.f31.results.toList (rat_Right.ce 0).rts) := by kernel_rfl
theorem rat_Right.ob : Obl rat_Right.F (bodyOf Tryz.f31) (fun k => retK (rat_Right.F.c k) Tryz.f31.results.toList (rat_Right.ce 0).rts) := obl_of (by kernel_rfl)
/-! ### rat_both: function 32 -/
def rat_both.f (k : Nat) (l0_0 : Int) (l0_1 : Int) (l1_0 : Int) (l1_1 : Int) : Option Bool := (rat_Right.f k l0_0 l0_1).bind fun t1 => (if t1 = true then ((rat_Right.f k l1_0 l1_1).bind fun t2 => (some t2)) else (some false))
def rat_both.ce (k : Nat) : CallE := ⟨[⟨true, T24⟩, ⟨true, T24⟩], [⟨false, [.v .bool]⟩], fun (x : S24 × S24) => rat_both.f k x.1.f0 x.1.f1 x.2.f0 x.2.f1⟩
def rat_both.F : Fam (RT.dens (rat_both.ce 0).rts) := ⟨fun k => ⟨TT0, GL0, callT [(31, [], rat_Right.ce k)], cmpT CM0, [], BLD0⟩, []⟩
theorem rat_both.is (k : Nat) (x : AT.dens (rat_both.ce 0).ats) : (rat_both.ce k).fn x = den rat_both.F k (bodyOf Tryz.f32) (startAS (rat_both.ce 0).ats x) (retK (rat_both.F.c k) Tryz.f32.results.toList (rat_both.ce 0).rts) := by kernel_rfl
theorem rat_both.ob : Obl rat_both.F (bodyOf Tryz.f32) (fun k => retK (rat_both.F.c k) Tryz.f32.results.toList (rat_both.ce 0).rts) := obl_of (by kernel_rfl)
/-! ### math_bits_Mul64: function 48 -/
def math_bits_Mul64.f (a0 : Int) (a1 : Int) : Option (Int × Int) := (some (wk .u64 ((wk .u64 ((wk .u64 ((a0 / 4294967296) * (a1 / 4294967296))) + ((wk .u64 ((wk .u64 ((a0 / 4294967296) * (Wr.and .u64 a1 4294967295))) + ((wk .u64 ((Wr.and .u64 a0 4294967295) * (Wr.and .u64 a1 4294967295))) / 4294967296))) / 4294967296))) + ((wk .u64 ((Wr.and .u64 (wk .u64 ((wk .u64 ((a0 / 4294967296) * (Wr.and .u64 a1 4294967295))) + ((wk .u64 ((Wr.and .u64 a0 4294967295) * (Wr.and .u64 a1 4294967295))) / 4294967296))) 4294967295) + (wk .u64 ((Wr.and .u64 a0 4294967295) * (a1 / 4294967296))))) / 4294967296)), wk .u64 (a0 * a1)))
def math_bits_Mul64.ce : CallE := ⟨[⟨false, (.int .u64)⟩, ⟨false, (.int .u64)⟩], [⟨false, [.v (.int .u64)]⟩, ⟨false, [.v (.int .u64)]⟩], fun (x : Int × Int) => math_bits_Mul64.f x.1 x.2⟩
def math_bits_Mul64.F : Fam (RT.dens (math_bits_Mul64.ce).rts) := ⟨fun k => ⟨TT0, GL0, callT [], cmpT CM0, [], BLD0⟩, []⟩
theorem math_bits_Mul64.is (k : Nat) (x : AT.dens (math_bits_Mul64.ce).ats) : (math_bits_Mul64.ce).fn x = den math_bits_Mul64.F k (bodyOf Tryz.f48) (startAS (math_bits_Mul64.ce).ats x) (retK (math_bits_Mul64.F.c k) Tryz.f48.results.toList (math_bits_Mul64.ce).rts) := by kernel_rfl
theorem math_bits_Mul64.ob : Obl math_bits_Mul64.F (bodyOf Tryz.f48) (fun k => retK (math_bits_Mul64.F.c k) Tryz.f48.results.toList (math_bits_Mul64.ce).rts) := obl_of (by kernel_rfl)
/-! ### rat_times: function 34 -/
def rat_times.f (a0 : Int) (a1 : Int) : Option (S91 × Bool) := (rat_of.f a0).bind fun t1 => ((rat_of.f a1).bind fun t2 => ((math_bits_Mul64.f t1.1.f1 t2.1.f1).bind fun t3 => (if t1.2 = t2.2 then (some ((⟨t3.1, t3.2⟩ : S91), false)) else ((rat_size_isZero.f t3.1 t3.2).bind fun t4 => (some ((⟨t3.1, t3.2⟩ : S91), !t4))))))
def rat_times.ce : CallE := ⟨[⟨false, (.int .i64)⟩, ⟨false, (.int .i64)⟩], [⟨true, [.v T91, .v .bool]⟩], fun (x : Int × Int) => rat_times.f x.1 x.2⟩
def rat_times.F : Fam (RT.dens (rat_times.ce).rts) := ⟨fun k => ⟨TT0, GL0, callT [(45, [], rat_size_isZero.ce), (47, [], rat_of.ce), (48, [], math_bits_Mul64.ce)], cmpT CM0, [], BLD0⟩, []⟩
theorem rat_times.is (k : Nat) (x : AT.dens (rat_times.ce).ats) : (rat_times.ce).fn x = den rat_times.F k (bodyOf Tryz.f34) (startAS (rat_times.ce).ats x) (retK (rat_times.F.c k) Tryz.f34.results.toList (rat_times.ce).rts) := by kernel_rfl
theorem rat_times.ob : Obl rat_times.F (bodyOf Tryz.f34) (fun k => retK (rat_times.F.c k) Tryz.f34.results.toList (rat_times.ce).rts) := obl_of (by kernel_rfl)
/-! ### rat_size_plus: function 49 -/
def rat_size_plus.f (l0_0 : Int) (l0_1 : Int) (l1_0 : Int) (l1_1 : Int) : Option (Int × Int) := (math_bits_Add64.f l0_1 l1_1 0).bind fun t1 => ((math_bits_Add64.f l0_0 l1_0 t1.2).bind fun t2 => (some (t2.1, t1.1)))
def rat_size_plus.ce : CallE := ⟨[⟨true, T91⟩, ⟨true, T91⟩], [⟨true, [.v (.int .u64), .v (.int .u64)]⟩], fun (x : S91 × S91) => rat_size_plus.f x.1.f0 x.1.f1 x.2.f0 x.2.f1⟩
def rat_size_plus.F : Fam (RT.dens (rat_size_plus.ce).rts) := ⟨fun k => ⟨TT0, GL0, callT [(66, [], math_bits_Add64.ce)], cmpT CM0, [], BLD0⟩, []⟩
theorem rat_size_plus.is (k : Nat) (x : AT.dens (rat_size_plus.ce).ats) : (rat_size_plus.ce).fn x = den rat_size_plus.F k (bodyOf Tryz.f49) (startAS (rat_size_plus.ce).ats x) (retK (rat_size_plus.F.c k) Tryz.f49.results.toList (rat_size_plus.ce).rts) := by kernel_rfl
theorem rat_size_plus.ob : Obl rat_size_plus.F (bodyOf Tryz.f49) (fun k => retK (rat_size_plus.F.c k) Tryz.f49.results.toList (rat_size_plus.ce).rts) := obl_of (by kernel_rfl)
/-! ### rat_wide_sum: function 35 -/
def rat_wide_sum.f (k : Nat) (l0_0 : S91) (l0_1 : Bool) (l1_0 : S91) (l1_1 : Bool) : Option (S91 × Bool) := if l0_1 = l1_1 then ((rat_size_plus.f l0_0.f0 l0_0.f1 l1_0.f0 l1_0.f1).bind fun t1 => (some ((⟨t1.1, t1.2⟩ : S91), l0_1))) else ((rat_size_compare.f k l0_0.f0 l0_0.f1 l1_0.f0 l1_0.f1).bind fun t2 => (if t2 = 0 then (some ((⟨0, 0⟩ : S91), false)) else (if t2 = 1 then ((rat_size_less.f l0_0.f0 l0_0.f1 l1_0.f0 l1_0.f1).bind fun t3 => (some ((⟨t3.1, t3.2⟩ : S91), l0_1))) else ((rat_size_less.f l1_0.f0 l1_0.f1 l0_0.f0 l0_0.f1).bind fun t4 => (some ((⟨t4.1, t4.2⟩ : S91), l1_1))))))
def rat_wide_sum.ce (k : Nat) : CallE := ⟨[⟨true, T93⟩, ⟨true, T93⟩], [⟨true, [.v T91, .v .bool]⟩], fun (x : S93 × S93) => rat_wide_sum.f k x.1.f0 x.1.f1 x.2.f0 x.2.f1⟩
def rat_wide_sum.F : Fam (RT.dens (rat_wide_sum.ce 0).rts) := ⟨fun k => ⟨TT0, GL0, callT [(49, [], rat_size_plus.ce), (50, [], rat_size_compare.ce k), (51, [], rat_size_less.ce)], cmpT CM0, [], BLD0⟩, []⟩
theorem rat_wide_sum.is (k : Nat) (x : AT.dens (rat_wide_sum.ce 0).ats) : (rat_wide_sum.ce k).fn x = den rat_wide_sum.F k (bodyOf Tryz.f35) (startAS (rat_wide_sum.ce 0).ats x) (retK (rat_wide_sum.F.c k) Tryz.f35.results.toList (rat_wide_sum.ce 0).rts) := by kernel_rfl
theorem rat_wide_sum.ob : Obl rat_wide_sum.F (bodyOf Tryz.f35) (fun k => retK (rat_wide_sum.F.c k) Tryz.f35.results.toList (rat_wide_sum.ce 0).rts) := obl_of (by kernel_rfl)
/-! ### rat_Add: function 22 -/
def rat_Add.f (k : Nat) (l0_0 : Int) (l0_1 : Int) (l1_0 : Int) (l1_1 : Int) : Option (Int × Int × Int) := (rat_both.f k l0_0 l0_1 l1_0 l1_1).bind fun t1 => (if (!t1) = true then (some (0, 0, 7)) else ((rat_times.f l0_0 l1_1).bind fun t2 => ((rat_times.f l1_0 l0_1).bind fun t3 => ((rat_wide_sum.f k t2.1 t2.2 t3.1 t3.2).bind fun t4 => ((rat_times.f l0_1 l1_1).bind fun t5 => ((rat_made.f k t4.1 t4.2 t5.1 t5.2).bind fun t6 => (some (t6.1, t6.2.1, t6.2.2))))))))
def rat_Add.ce (k : Nat) : CallE := ⟨[⟨true, T24⟩, ⟨true, T24⟩], [⟨true, [.v (.int .i64), .v (.int .i64)]⟩, ⟨false, [.v (.int .i64)]⟩], fun (x : S24 × S24) => rat_Add.f k x.1.f0 x.1.f1 x.2.f0 x.2.f1⟩
def rat_Add.F : Fam (RT.dens (rat_Add.ce 0).rts) := ⟨fun k => ⟨TT0, GL0, callT [(32, [], rat_both.ce k), (33, [], rat_made.ce k), (34, [], rat_times.ce), (35, [], rat_wide_sum.ce k)], cmpT CM0, [], BLD0⟩, []⟩
theorem rat_Add.is (k : Nat) (x : AT.dens (rat_Add.ce 0).ats) : (rat_Add.ce k).fn x = den rat_Add.F k (bodyOf Tryz.f22) (startAS (rat_Add.ce 0).ats x) (retK (rat_Add.F.c k) Tryz.f22.results.toList (rat_Add.ce 0).rts) := by kernel_rfl
theorem rat_Add.ob : Obl rat_Add.F (bodyOf Tryz.f22) (fun k => retK (rat_Add.F.c k) Tryz.f22.results.toList (rat_Add.ce 0).rts) := obl_of (by kernel_rfl)
/-! ### run_isDelay: function 21 -/
def run_isDelay.f (k : Nat) (l0_0 : Int) (l0_1 : Int) : Option Bool := (rat_Right.f k l0_0 l0_1).bind fun t1 => (if t1 = true then (some (decide (l0_0 ≥ 0))) else (some false))
def run_isDelay.ce (k : Nat) : CallE := ⟨[⟨true, T24⟩], [⟨false, [.v .bool]⟩], fun (x : S24) => run_isDelay.f k x.f0 x.f1⟩
def run_isDelay.F : Fam (RT.dens (run_isDelay.ce 0).rts) := ⟨fun k => ⟨TT0, GL0, callT [(31, [], rat_Right.ce k)], cmpT CM0, [], BLD0⟩, []⟩
theorem run_isDelay.is (k : Nat) (x : AT.dens (run_isDelay.ce 0).ats) : (run_isDelay.ce k).fn x = den run_isDelay.F k (bodyOf Tryz.f21) (startAS (run_isDelay.ce 0).ats x) (retK (run_isDelay.F.c k) Tryz.f21.results.toList (run_isDelay.ce 0).rts) := by kernel_rfl
theorem run_isDelay.ob : Obl run_isDelay.F (bodyOf Tryz.f21) (fun k => retK (run_isDelay.F.c k) Tryz.f21.results.toList (run_isDelay.ce 0).rts) := obl_of (by kernel_rfl)
/-! ### run_Times_1: function 20 -/
def run_Times_1.f (k : Nat) (l0_0 : Int) (l0_1 : Int) : Option Bool := (run_isDelay.f k l0_0 l0_1).bind fun t1 => (some (!t1))
def run_Times_1.ce (k : Nat) : CallE := ⟨[⟨true, T24⟩], [⟨false, [.v .bool]⟩], fun (x : S24) => run_Times_1.f k x.f0 x.f1⟩
def run_Times_1.F : Fam (RT.dens (run_Times_1.ce 0).rts) := ⟨fun k => ⟨TT0, GL0, callT [(21, [], run_isDelay.ce k)], cmpT CM0, [], BLD0⟩, []⟩
theorem run_Times_1.is (k : Nat) (x : AT.dens (run_Times_1.ce 0).ats) : (run_Times_1.ce k).fn x = den run_Times_1.F k (bodyOf Tryz.f20) (startAS (run_Times_1.ce 0).ats x) (retK (run_Times_1.F.c k) Tryz.f20.results.toList (run_Times_1.ce 0).rts) := by kernel_rfl
theorem run_Times_1.ob : Obl run_Times_1.F (bodyOf Tryz.f20) (fun k => retK (run_Times_1.F.c k) Tryz.f20.results.toList (run_Times_1.ce 0).rts) := obl_of (by kernel_rfl)
/-! ### slices_IndexFunc_api_Rat_api_Rat_at20: function 30 -/
def slices_IndexFunc_api_Rat_api_Rat_at20.l0 : Nat → (List S24) → Bool → Int → Int → Option Int
 | 0, _, _, _, _ => none
 | k + 1, x0, x1, x7, x8 => if x8 < x7 then (if 0 ≤ x8 then (if x8 < (x0.length : Int) then ((run_Times_1.f k ((rd_T24 x0 x8).f0) ((rd_T24 x0 x8).f1)).bind fun t1 => (if t1 = true then (some x8) else (slices_IndexFunc_api_Rat_api_Rat_at20.l0 k x0 x1 x7 (w64 (x8 + 1))))) else (none)) else (none)) else (some (-1))
def slices_IndexFunc_api_Rat_api_Rat_at20.f (k : Nat) (a0 : List S24) (a1 : Bool) : Option Int := slices_IndexFunc_api_Rat_api_Rat_at20.l0 k a0 a1 (a0.length : Int) 0
def slices_IndexFunc_api_Rat_api_Rat_at20.ce (k : Nat) : CallE := ⟨[⟨false, (.list T24)⟩, ⟨false, (.fn 20 [] .bool)⟩], [⟨false, [.v (.int .i64)]⟩], fun (x : (List S24) × Bool) => slices_IndexFunc_api_Rat_api_Rat_at20.f k x.1 x.2⟩
def slices_IndexFunc_api_Rat_api_Rat_at20.F : Fam (RT.dens (slices_IndexFunc_api_Rat_api_Rat_at20.ce 0).rts) := ⟨fun k => ⟨TT0, GL0, callT [(20, [], run_Times_1.ce k)], cmpT CM0, [], BLD0⟩, [(3, ⟨⟨[(0, .v false (.list T24)), (1, .v false (.fn 20 [] .bool)), (7, .v false (.int .i64)), (8, .v false (.int .i64))], []⟩, fun k s => slices_IndexFunc_api_Rat_api_Rat_at20.l0 k s.1.1 s.1.2.1 s.1.2.2.1 s.1.2.2.2.1⟩)]⟩
theorem slices_IndexFunc_api_Rat_api_Rat_at20.is (k : Nat) (x : AT.dens (slices_IndexFunc_api_Rat_api_Rat_at20.ce 0).ats) : (slices_IndexFunc_api_Rat_api_Rat_at20.ce k).fn x = den slices_IndexFunc_api_Rat_api_Rat_at20.F k (bodyOf Tryz.f30) (startAS (slices_IndexFunc_api_Rat_api_Rat_at20.ce 0).ats x) (retK (slices_IndexFunc_api_Rat_api_Rat_at20.F.c k) Tryz.f30.results.toList (slices_IndexFunc_api_Rat_api_Rat_at20.ce 0).rts) := by kernel_rfl
theorem slices_IndexFunc_api_Rat_api_Rat_at20.ob : Obl slices_IndexFunc_api_Rat_api_Rat_at20.F (bodyOf Tryz.f30) (fun k => retK (slices_IndexFunc_api_Rat_api_Rat_at20.F.c k) Tryz.f30.results.toList (slices_IndexFunc_api_Rat_api_Rat_at20.ce 0).rts) := obl_of (by kernel_rfl)
/-! ### slices_ContainsFunc_api_Rat_api_Rat_at20: function 19 -/
def slices_ContainsFunc_api_Rat_api_Rat_at20.f (k : Nat) (a0 : List S24) (a1 : Bool) : Option Bool := (slices_IndexFunc_api_Rat_api_Rat_at20.f k a0 a1).bind fun t1 => (some (decide (t1 ≥ 0)))
def slices_ContainsFunc_api_Rat_api_Rat_at20.ce (k : Nat) : CallE := ⟨[⟨false, (.list T24)⟩, ⟨false, (.fn 20 [] .bool)⟩], [⟨false, [.v .bool]⟩], fun (x : (List S24) × Bool) => slices_ContainsFunc_api_Rat_api_Rat_at20.f k x.1 x.2⟩
def slices_ContainsFunc_api_Rat_api_Rat_at20.F : Fam (RT.dens (slices_ContainsFunc_api_Rat_api_Rat_at20.ce 0).rts) := ⟨fun k => ⟨TT0, GL0, callT [(30, [20], slices_IndexFunc_api_Rat_api_Rat_at20.ce k)], cmpT CM0, [], BLD0⟩, []⟩
theorem slices_ContainsFunc_api_Rat_api_Rat_at20.is (k : Nat) (x : AT.dens (slices_ContainsFunc_api_Rat_api_Rat_at20.ce 0).ats) : (slices_ContainsFunc_api_Rat_api_Rat_at20.ce k).fn x = den slices_ContainsFunc_api_Rat_api_Rat_at20.F k (bodyOf Tryz.f19) (startAS (slices_ContainsFunc_api_Rat_api_Rat_at20.ce 0).ats x) (retK (slices_ContainsFunc_api_Rat_api_Rat_at20.F.c k) Tryz.f19.results.toList (slices_ContainsFunc_api_Rat_api_Rat_at20.ce 0).rts) := by kernel_rfl
theorem slices_ContainsFunc_api_Rat_api_Rat_at20.ob : Obl slices_ContainsFunc_api_Rat_api_Rat_at20.F (bodyOf Tryz.f19) (fun k => retK (slices_ContainsFunc_api_Rat_api_Rat_at20.F.c k) Tryz.f19.results.toList (slices_ContainsFunc_api_Rat_api_Rat_at20.ce 0).rts) := obl_of (by kernel_rfl)
/-! ### run_Times: function 9 -/
def run_Times.l0 : Nat → (List S24) → Int → Int → Int → Int → Option ((List S24) × Int)
 | 0, _, _, _, _, _ => none
 | k + 1, x4, x15, x16, x5_0, x5_1 => if x16 < x15 then (if 0 ≤ x16 then (if x16 < (x4.length : Int) then ((rat_Add.f k x5_0 x5_1 ((rd_T24 x4 x16).f0) ((rd_T24 x4 x16).f1)).bind fun t4 => (if t4.2.2 = 0 then (if 0 ≤ x16 then (if x16 < (x4.length : Int) then (run_Times.l0 k (x4.set (Int.toNat (x16)) (⟨t4.1, t4.2.1⟩ : S24)) x15 (w64 (x16 + 1)) t4.1 t4.2.1) else (none)) else (none)) else (some (([] : List S24), t4.2.2)))) else (none)) else (none)) else (some (x4, 0))
def run_Times.f (k : Nat) (l0_0 : List S41) (l0_1 : S24) : Option ((List S24) × Int) := (run_delays.f k l0_0 l0_1).bind fun t1 => ((slices_ContainsFunc_api_Rat_api_Rat_at20.f k t1 false).bind fun t2 => (if t2 = true then (some (([] : List S24), 210)) else ((rat_Of.f 0).bind fun t3 => (run_Times.l0 k t1 (t1.length : Int) 0 t3.1 t3.2))))
def run_Times.ce (k : Nat) : CallE := ⟨[⟨true, T26⟩], [⟨false, [.v (.list T24)]⟩, ⟨false, [.v (.int .i64)]⟩], fun (x : S26) => run_Times.f k x.f0 x.f1⟩
def run_Times.F : Fam (RT.dens (run_Times.ce 0).rts) := ⟨fun k => ⟨TT0, GL0, callT [(17, [], rat_Of.ce), (18, [], run_delays.ce k), (19, [20], slices_ContainsFunc_api_Rat_api_Rat_at20.ce k), (22, [], rat_Add.ce k)], cmpT CM0, [], BLD0⟩, [(7, ⟨⟨[(4, .o 24 T24), (5, .k (.ptr 320 0)), (14, .al 4), (15, .v false (.int .i64)), (16, .v false (.int .i64))], [(320, [.v (.int .i64), .v (.int .i64)])]⟩, fun k s => run_Times.l0 k s.1.1 s.1.2.1 s.1.2.2.1 s.2.1.1 s.2.1.2.1⟩)]⟩
theorem run_Times.is (k : Nat) (x : AT.dens (run_Times.ce 0).ats) : (run_Times.ce k).fn x = den run_Times.F k (bodyOf Tryz.f9) (startAS (run_Times.ce 0).ats x) (retK (run_Times.F.c k) Tryz.f9.results.toList (run_Times.ce 0).rts) := by kernel_rfl
theorem run_Times.ob : Obl run_Times.F (bodyOf Tryz.f9) (fun k => retK (run_Times.F.c k) Tryz.f9.results.toList (run_Times.ce 0).rts) := obl_of (by kernel_rfl)
/-! ### net_some_1: function 76 -/
def net_some_1.f (l0_0 : ByteArray) (l0_1 : List S74) (l0_2 : List S79) : Option Bool := (some (decide ((l0_1.length : Int) = 0)))
def net_some_1.ce : CallE := ⟨[⟨true, T82⟩], [⟨false, [.v .bool]⟩], fun (x : S82) => net_some_1.f x.f0 x.f1 x.f2⟩
def net_some_1.F : Fam (RT.dens (net_some_1.ce).rts) := ⟨fun k => ⟨TT0, GL0, callT [], cmpT CM0, [], BLD0⟩, []⟩
theorem net_some_1.is (k : Nat) (x : AT.dens (net_some_1.ce).ats) : (net_some_1.ce).fn x = den net_some_1.F k (bodyOf Tryz.f76) (startAS (net_some_1.ce).ats x) (retK (net_some_1.F.c k) Tryz.f76.results.toList (net_some_1.ce).rts) := by kernel_rfl
theorem net_some_1.ob : Obl net_some_1.F (bodyOf Tryz.f76) (fun k => retK (net_some_1.F.c k) Tryz.f76.results.toList (net_some_1.ce).rts) := obl_of (by kernel_rfl)
/-! ### slices_IndexFunc_api_Auto_api_Auto_at76: function 96 -/
def slices_IndexFunc_api_Auto_api_Auto_at76.l0 : Nat → (List S82) → Bool → Int → Int → Option Int
 | 0, _, _, _, _ => none
 | k + 1, x0, x1, x7, x8 => if x8 < x7 then (if 0 ≤ x8 then (if x8 < (x0.length : Int) then ((net_some_1.f ((rd_T82 x0 x8).f0) ((rd_T82 x0 x8).f1) ((rd_T82 x0 x8).f2)).bind fun t1 => (if t1 = true then (some x8) else (slices_IndexFunc_api_Auto_api_Auto_at76.l0 k x0 x1 x7 (w64 (x8 + 1))))) else (none)) else (none)) else (some (-1))
def slices_IndexFunc_api_Auto_api_Auto_at76.f (k : Nat) (a0 : List S82) (a1 : Bool) : Option Int := slices_IndexFunc_api_Auto_api_Auto_at76.l0 k a0 a1 (a0.length : Int) 0
def slices_IndexFunc_api_Auto_api_Auto_at76.ce (k : Nat) : CallE := ⟨[⟨false, (.list T82)⟩, ⟨false, (.fn 76 [] .bool)⟩], [⟨false, [.v (.int .i64)]⟩], fun (x : (List S82) × Bool) => slices_IndexFunc_api_Auto_api_Auto_at76.f k x.1 x.2⟩
def slices_IndexFunc_api_Auto_api_Auto_at76.F : Fam (RT.dens (slices_IndexFunc_api_Auto_api_Auto_at76.ce 0).rts) := ⟨fun k => ⟨TT0, GL0, callT [(76, [], net_some_1.ce)], cmpT CM0, [], BLD0⟩, [(3, ⟨⟨[(0, .v false (.list T82)), (1, .v false (.fn 76 [] .bool)), (7, .v false (.int .i64)), (8, .v false (.int .i64))], []⟩, fun k s => slices_IndexFunc_api_Auto_api_Auto_at76.l0 k s.1.1 s.1.2.1 s.1.2.2.1 s.1.2.2.2.1⟩)]⟩
theorem slices_IndexFunc_api_Auto_api_Auto_at76.is (k : Nat) (x : AT.dens (slices_IndexFunc_api_Auto_api_Auto_at76.ce 0).ats) : (slices_IndexFunc_api_Auto_api_Auto_at76.ce k).fn x = den slices_IndexFunc_api_Auto_api_Auto_at76.F k (bodyOf Tryz.f96) (startAS (slices_IndexFunc_api_Auto_api_Auto_at76.ce 0).ats x) (retK (slices_IndexFunc_api_Auto_api_Auto_at76.F.c k) Tryz.f96.results.toList (slices_IndexFunc_api_Auto_api_Auto_at76.ce 0).rts) := by kernel_rfl
theorem slices_IndexFunc_api_Auto_api_Auto_at76.ob : Obl slices_IndexFunc_api_Auto_api_Auto_at76.F (bodyOf Tryz.f96) (fun k => retK (slices_IndexFunc_api_Auto_api_Auto_at76.F.c k) Tryz.f96.results.toList (slices_IndexFunc_api_Auto_api_Auto_at76.ce 0).rts) := obl_of (by kernel_rfl)
/-! ### slices_ContainsFunc_api_Auto_api_Auto_at76: function 75 -/
def slices_ContainsFunc_api_Auto_api_Auto_at76.f (k : Nat) (a0 : List S82) (a1 : Bool) : Option Bool := (slices_IndexFunc_api_Auto_api_Auto_at76.f k a0 a1).bind fun t1 => (some (decide (t1 ≥ 0)))
def slices_ContainsFunc_api_Auto_api_Auto_at76.ce (k : Nat) : CallE := ⟨[⟨false, (.list T82)⟩, ⟨false, (.fn 76 [] .bool)⟩], [⟨false, [.v .bool]⟩], fun (x : (List S82) × Bool) => slices_ContainsFunc_api_Auto_api_Auto_at76.f k x.1 x.2⟩
def slices_ContainsFunc_api_Auto_api_Auto_at76.F : Fam (RT.dens (slices_ContainsFunc_api_Auto_api_Auto_at76.ce 0).rts) := ⟨fun k => ⟨TT0, GL0, callT [(96, [76], slices_IndexFunc_api_Auto_api_Auto_at76.ce k)], cmpT CM0, [], BLD0⟩, []⟩
theorem slices_ContainsFunc_api_Auto_api_Auto_at76.is (k : Nat) (x : AT.dens (slices_ContainsFunc_api_Auto_api_Auto_at76.ce 0).ats) : (slices_ContainsFunc_api_Auto_api_Auto_at76.ce k).fn x = den slices_ContainsFunc_api_Auto_api_Auto_at76.F k (bodyOf Tryz.f75) (startAS (slices_ContainsFunc_api_Auto_api_Auto_at76.ce 0).ats x) (retK (slices_ContainsFunc_api_Auto_api_Auto_at76.F.c k) Tryz.f75.results.toList (slices_ContainsFunc_api_Auto_api_Auto_at76.ce 0).rts) := by kernel_rfl
theorem slices_ContainsFunc_api_Auto_api_Auto_at76.ob : Obl slices_ContainsFunc_api_Auto_api_Auto_at76.F (bodyOf Tryz.f75) (fun k => retK (slices_ContainsFunc_api_Auto_api_Auto_at76.F.c k) Tryz.f75.results.toList (slices_ContainsFunc_api_Auto_api_Auto_at76.ce 0).rts) := obl_of (by kernel_rfl)
/-! ### net_some: function 57 -/
def net_some.f (k : Nat) (l0_0 : List ByteArray) (l0_1 : List S140) (l0_2 : List ByteArray) (l0_3 : List S82) : Option Int := if (l0_3.length : Int) = 0 then (some 2) else ((slices_ContainsFunc_api_Auto_api_Auto_at76.f k l0_3 false).bind fun t1 => (if t1 = true then (some 2) else (some 0)))
def net_some.ce (k : Nat) : CallE := ⟨[⟨true, T48⟩], [⟨false, [.v (.int .i64)]⟩], fun (x : S48) => net_some.f k x.f0 x.f1 x.f2 x.f3⟩
def net_some.F : Fam (RT.dens (net_some.ce 0).rts) := ⟨fun k => ⟨TT0, GL0, callT [(75, [76], slices_ContainsFunc_api_Auto_api_Auto_at76.ce k)], cmpT CM0, [], BLD0⟩, []⟩
theorem net_some.is (k : Nat) (x : AT.dens (net_some.ce 0).ats) : (net_some.ce k).fn x = den net_some.F k (bodyOf Tryz.f57) (startAS (net_some.ce 0).ats x) (retK (net_some.F.c k) Tryz.f57.results.toList (net_some.ce 0).rts) := by kernel_rfl
theorem net_some.ob : Obl net_some.F (bodyOf Tryz.f57) (fun k => retK (net_some.F.c k) Tryz.f57.results.toList (net_some.ce 0).rts) := obl_of (by kernel_rfl)
/-! ### net_sizes: function 58 -/
mutual
def net_sizes.j0 : Nat → (List ByteArray) → (List S140) → (List ByteArray) → (List S82) → Option Int
 | 0, _, _, _, _ => none
 | k + 1, x1_0, x1_1, x1_2, x1_3 => net_sizes.l1 k x1_3 (x1_3.length : Int) 0
def net_sizes.l1 : Nat → (List S82) → Int → Int → Option Int
 | 0, _, _, _ => none
 | k + 1, x34, x35, x36 => if x36 < x35 then (if 0 ≤ x36 then (if x36 < (x34.length : Int) then (if (((rd_T82 x34 x36).f1).length : Int) > 64 then (some 6) else (if (((rd_T82 x34 x36).f2).length : Int) > 256 then (some 6) else (net_sizes.j2 k x34 x35 x36 ((rd_T82 x34 x36).f0) ((rd_T82 x34 x36).f1) ((rd_T82 x34 x36).f2)))) else (none)) else (none)) else (some 0)
def net_sizes.j2 : Nat → (List S82) → Int → Int → ByteArray → (List S74) → (List S79) → Option Int
 | 0, _, _, _, _, _, _ => none
 | k + 1, x34, x35, x36, x4_0, x4_1, x4_2 => net_sizes.l3 k x34 x35 x36 x4_1 (x4_1.length : Int) 0 x4_0 x4_1 x4_2
def net_sizes.l3 : Nat → (List S82) → Int → Int → (List S74) → Int → Int → ByteArray → (List S74) → (List S79) → Option Int
 | 0, _, _, _, _, _, _, _, _, _ => none
 | k + 1, x34, x35, x36, x51, x52, x53, x4_0, x4_1, x4_2 => if x53 < x52 then (if 0 ≤ x53 then (if x53 < (x51.length : Int) then (if (((rd_T74 x51 x53).f2).length : Int) > 16 then (some 6) else (net_sizes.l3 k x34 x35 x36 x51 x52 (w64 (x53 + 1)) x4_0 x4_1 x4_2)) else (none)) else (none)) else (net_sizes.l4 k x34 x35 x36 x4_2 (x4_2.length : Int) 0)
def net_sizes.l4 : Nat → (List S82) → Int → Int → (List S79) → Int → Int → Option Int
 | 0, _, _, _, _, _, _ => none
 | k + 1, x34, x35, x36, x63, x64, x65 => if x65 < x64 then (if 0 ≤ x65 then (if x65 < (x63.length : Int) then (if (((rd_T79 x63 x65).f2).length : Int) > 16 then (some 6) else (if (((rd_T79 x63 x65).f6).length : Int) > 16 then (some 6) else (if (((rd_T79 x63 x65).f3).length : Int) > 64 then (some 6) else (net_sizes.j5 k x34 x35 x36 x63 x64 x65 ((rd_T79 x63 x65).f0) ((rd_T79 x63 x65).f1) ((rd_T79 x63 x65).f2) ((rd_T79 x63 x65).f3) ((rd_T79 x63 x65).f4) ((rd_T79 x63 x65).f5) ((rd_T79 x63 x65).f6))))) else (none)) else (none)) else (net_sizes.l1 k x34 x35 (w64 (x36 + 1)))
def net_sizes.j5 : Nat → (List S82) → Int → Int → (List S79) → Int → Int → Int → Int → (List S165) → (List S169) → Int → Bool → (List S135) → Option Int
 | 0, _, _, _, _, _, _, _, _, _, _, _, _, _ => none
 | k + 1, x34, x35, x36, x63, x64, x65, x8_0, x8_1, x8_2, x8_3, x8_4, x8_5, x8_6 => net_sizes.l6 k x34 x35 x36 x63 x64 x65 x8_6 (x8_6.length : Int) 0
def net_sizes.l6 : Nat → (List S82) → Int → Int → (List S79) → Int → Int → (List S135) → Int → Int → Option Int
 | 0, _, _, _, _, _, _, _, _, _ => none
 | k + 1, x34, x35, x36, x63, x64, x65, x86, x87, x88 => if x88 < x87 then (if 0 ≤ x88 then (if x88 < (x86.length : Int) then (if (((rd_T135 x86 x88).f3).length : Int) > 64 then (some 6) else (net_sizes.l6 k x34 x35 x36 x63 x64 x65 x86 x87 (w64 (x88 + 1)))) else (none)) else (none)) else (net_sizes.l4 k x34 x35 x36 x63 x64 (w64 (x65 + 1)))
end
def net_sizes.f (k : Nat) (l0_0 : List ByteArray) (l0_1 : List S140) (l0_2 : List ByteArray) (l0_3 : List S82) : Option Int := if (l0_0.length : Int) > 8 then (some 6) else (if (l0_1.length : Int) > 16 then (some 6) else (if (l0_2.length : Int) > 16 then (some 6) else (if (l0_3.length : Int) > 8 then (some 6) else (net_sizes.j0 k l0_0 l0_1 l0_2 l0_3))))
def net_sizes.ce (k : Nat) : CallE := ⟨[⟨true, T48⟩], [⟨false, [.v (.int .i64)]⟩], fun (x : S48) => net_sizes.f k x.f0 x.f1 x.f2 x.f3⟩
def net_sizes.F : Fam (RT.dens (net_sizes.ce 0).rts) := ⟨fun k => ⟨TT0, GL0, callT [], cmpT CM0, [], BLD0⟩, [(1000004, ⟨⟨[(1, .k (.ptr 64 0))], [(64, [.v (.list .str), .v (.list T140), .v (.list .str), .v (.list T82)])]⟩, fun k s => net_sizes.j0 k s.2.1.1 s.2.1.2.1 s.2.1.2.2.1 s.2.1.2.2.2.1⟩), (5, ⟨⟨[(34, .v false (.list T82)), (35, .v false (.int .i64)), (36, .v false (.int .i64))], []⟩, fun k s => net_sizes.l1 k s.1.1 s.1.2.1 s.1.2.2.1⟩), (1000009, ⟨⟨[(4, .k (.ptr 256 0)), (34, .v false (.list T82)), (35, .v false (.int .i64)), (36, .v false (.int .i64))], [(256, [.v .str, .v (.list T74), .v (.list T79)])]⟩, fun k s => net_sizes.j2 k s.1.1 s.1.2.1 s.1.2.2.1 s.2.1.1 s.2.1.2.1 s.2.1.2.2.1⟩), (10, ⟨⟨[(4, .k (.ptr 256 0)), (34, .v false (.list T82)), (35, .v false (.int .i64)), (36, .v false (.int .i64)), (51, .v false (.list T74)), (52, .v false (.int .i64)), (53, .v false (.int .i64))], [(256, [.v .str, .v (.list T74), .v (.list T79)])]⟩, fun k s => net_sizes.l3 k s.1.1 s.1.2.1 s.1.2.2.1 s.1.2.2.2.1 s.1.2.2.2.2.1 s.1.2.2.2.2.2.1 s.2.1.1 s.2.1.2.1 s.2.1.2.2.1⟩), (16, ⟨⟨[(34, .v false (.list T82)), (35, .v false (.int .i64)), (36, .v false (.int .i64)), (63, .v false (.list T79)), (64, .v false (.int .i64)), (65, .v false (.int .i64))], []⟩, fun k s => net_sizes.l4 k s.1.1 s.1.2.1 s.1.2.2.1 s.1.2.2.2.1 s.1.2.2.2.2.1 s.1.2.2.2.2.2.1⟩), (1000020, ⟨⟨[(8, .k (.ptr 512 0)), (34, .v false (.list T82)), (35, .v false (.int .i64)), (36, .v false (.int .i64)), (63, .v false (.list T79)), (64, .v false (.int .i64)), (65, .v false (.int .i64))], [(512, [.v (.int .i64), .v (.int .i64), .v (.list T165), .v (.list T169), .v (.int .i64), .v .bool, .v (.list T135)])]⟩, fun k s => net_sizes.j5 k s.1.1 s.1.2.1 s.1.2.2.1 s.1.2.2.2.1 s.1.2.2.2.2.1 s.1.2.2.2.2.2.1 s.2.1.1 s.2.1.2.1 s.2.1.2.2.1 s.2.1.2.2.2.1 s.2.1.2.2.2.2.1 s.2.1.2.2.2.2.2.1 s.2.1.2.2.2.2.2.2.1⟩), (21, ⟨⟨[(34, .v false (.list T82)), (35, .v false (.int .i64)), (36, .v false (.int .i64)), (63, .v false (.list T79)), (64, .v false (.int .i64)), (65, .v false (.int .i64)), (86, .v false (.list T135)), (87, .v false (.int .i64)), (88, .v false (.int .i64))], []⟩, fun k s => net_sizes.l6 k s.1.1 s.1.2.1 s.1.2.2.1 s.1.2.2.2.1 s.1.2.2.2.2.1 s.1.2.2.2.2.2.1 s.1.2.2.2.2.2.2.1 s.1.2.2.2.2.2.2.2.1 s.1.2.2.2.2.2.2.2.2.1⟩)]⟩
theorem net_sizes.is (k : Nat) (x : AT.dens (net_sizes.ce 0).ats) : (net_sizes.ce k).fn x = den net_sizes.F k (bodyOf Tryz.f58) (startAS (net_sizes.ce 0).ats x) (retK (net_sizes.F.c k) Tryz.f58.results.toList (net_sizes.ce 0).rts) := by kernel_rfl
theorem net_sizes.ob : Obl net_sizes.F (bodyOf Tryz.f58) (fun k => retK (net_sizes.F.c k) Tryz.f58.results.toList (net_sizes.ce 0).rts) := obl_of (by kernel_rfl)
/-! ### lex_of: function 104 -/
def lex_of.j0 : Nat → Int → Bool → Option Int
 | 0, _, _ => none
 | k + 1, x0, x3 => if x3 = true then (some 1) else (if x0 = 35 then (some 4) else (if x0 ≥ 97 then (if x0 ≤ 122 then (if x0 ≤ 122 then (some 2) else (if x0 ≥ 48 then (if x0 ≤ 57 then (some 3) else (some 0)) else (some 0))) else (if x0 ≥ 65 then (if x0 ≤ 90 then (some 2) else (if x0 ≥ 48 then (if x0 ≤ 57 then (some 3) else (some 0)) else (some 0))) else (if x0 ≥ 48 then (if x0 ≤ 57 then (some 3) else (some 0)) else (some 0)))) else (if x0 ≥ 65 then (if x0 ≤ 90 then (some 2) else (if x0 ≥ 48 then (if x0 ≤ 57 then (some 3) else (some 0)) else (some 0))) else (if x0 ≥ 48 then (if x0 ≤ 57 then (some 3) else (some 0)) else (some 0)))))
def lex_of.f (k : Nat) (a0 : Int) : Option Int := if a0 = 32 then (lex_of.j0 k a0 (decide (a0 = 32))) else (if a0 = 9 then (lex_of.j0 k a0 (decide (a0 = 9))) else (if a0 = 13 then (lex_of.j0 k a0 (decide (a0 = 13))) else (lex_of.j0 k a0 (decide (a0 = 10)))))
def lex_of.ce (k : Nat) : CallE := ⟨[⟨false, (.int .u8)⟩], [⟨false, [.v (.int .u8)]⟩], fun (x : Int) => lex_of.f k x⟩
def lex_of.F : Fam (RT.dens (lex_of.ce 0).rts) := ⟨fun k => ⟨TT0, GL0, callT [], cmpT CM0, [], BLD0⟩, [(1000006, ⟨⟨[(0, .v false (.int .u8)), (3, .v false .bool)], []⟩, fun k s => lex_of.j0 k s.1.1 s.1.2.1⟩)]⟩
theorem lex_of.is (k : Nat) (x : AT.dens (lex_of.ce 0).ats) : (lex_of.ce k).fn x = den lex_of.F k (bodyOf Tryz.f104) (startAS (lex_of.ce 0).ats x) (retK (lex_of.F.c k) Tryz.f104.results.toList (lex_of.ce 0).rts) := by kernel_rfl
theorem lex_of.ob : Obl lex_of.F (bodyOf Tryz.f104) (fun k => retK (lex_of.F.c k) Tryz.f104.results.toList (lex_of.ce 0).rts) := obl_of (by kernel_rfl)
/-! ### lex_word: function 105 -/
def lex_word.l0 : Nat → ByteArray → Int → Option Int
 | 0, _, _ => none
 | k + 1, x0, x3 => if x3 < (x0.size : Int) then (if 0 ≤ x3 then (if x3 < (x0.size : Int) then ((lex_of.f k (btI x0 x3)).bind fun t1 => (if t1 = 2 then (lex_word.l0 k x0 (w64 (x3 + 1))) else (if 0 ≤ x3 then (if x3 < (x0.size : Int) then ((lex_of.f k (btI x0 x3)).bind fun t2 => (if t2 = 3 then (lex_word.l0 k x0 (w64 (x3 + 1))) else (if 0 ≤ x3 then (if x3 < (x0.size : Int) then (if (btI x0 x3) = 95 then (lex_word.l0 k x0 (w64 (x3 + 1))) else (some x3)) else (none)) else (none)))) else (none)) else (none)))) else (none)) else (none)) else (some x3)
def lex_word.f (k : Nat) (a0 : ByteArray) : Option Int := lex_word.l0 k a0 1
def lex_word.ce (k : Nat) : CallE := ⟨[⟨false, .str⟩], [⟨false, [.v (.int .i64)]⟩], fun (x : ByteArray) => lex_word.f k x⟩
def lex_word.F : Fam (RT.dens (lex_word.ce 0).rts) := ⟨fun k => ⟨TT0, GL0, callT [(104, [], lex_of.ce k)], cmpT CM0, [], BLD0⟩, [(3, ⟨⟨[(0, .v false .str), (3, .v false (.int .i64))], []⟩, fun k s => lex_word.l0 k s.1.1 s.1.2.1⟩)]⟩
theorem lex_word.is (k : Nat) (x : AT.dens (lex_word.ce 0).ats) : (lex_word.ce k).fn x = den lex_word.F k (bodyOf Tryz.f105) (startAS (lex_word.ce 0).ats x) (retK (lex_word.F.c k) Tryz.f105.results.toList (lex_word.ce 0).rts) := by kernel_rfl
theorem lex_word.ob : Obl lex_word.F (bodyOf Tryz.f105) (fun k => retK (lex_word.F.c k) Tryz.f105.results.toList (lex_word.ce 0).rts) := obl_of (by kernel_rfl)
/-! ### slices_Index_string_string: function 108 -/
def slices_Index_string_string.l0 : Nat → (List ByteArray) → ByteArray → Int → Int → Option Int
 | 0, _, _, _, _ => none
 | k + 1, x0, x1, x7, x8 => if x8 < x7 then (if 0 ≤ x8 then (if x8 < (x0.length : Int) then (if x1 = (rdT .str x0 x8) then (some x8) else (slices_Index_string_string.l0 k x0 x1 x7 (w64 (x8 + 1)))) else (none)) else (none)) else (some (-1))
def slices_Index_string_string.f (k : Nat) (a0 : List ByteArray) (a1 : ByteArray) : Option Int := slices_Index_string_string.l0 k a0 a1 (a0.length : Int) 0
def slices_Index_string_string.ce (k : Nat) : CallE := ⟨[⟨false, (.list .str)⟩, ⟨false, .str⟩], [⟨false, [.v (.int .i64)]⟩], fun (x : (List ByteArray) × ByteArray) => slices_Index_string_string.f k x.1 x.2⟩
def slices_Index_string_string.F : Fam (RT.dens (slices_Index_string_string.ce 0).rts) := ⟨fun k => ⟨TT0, GL0, callT [], cmpT CM0, [], BLD0⟩, [(3, ⟨⟨[(0, .v false (.list .str)), (1, .v false .str), (7, .v false (.int .i64)), (8, .v false (.int .i64))], []⟩, fun k s => slices_Index_string_string.l0 k s.1.1 s.1.2.1 s.1.2.2.1 s.1.2.2.2.1⟩)]⟩
theorem slices_Index_string_string.is (k : Nat) (x : AT.dens (slices_Index_string_string.ce 0).ats) : (slices_Index_string_string.ce k).fn x = den slices_Index_string_string.F k (bodyOf Tryz.f108) (startAS (slices_Index_string_string.ce 0).ats x) (retK (slices_Index_string_string.F.c k) Tryz.f108.results.toList (slices_Index_string_string.ce 0).rts) := by kernel_rfl
theorem slices_Index_string_string.ob : Obl slices_Index_string_string.F (bodyOf Tryz.f108) (fun k => retK (slices_Index_string_string.F.c k) Tryz.f108.results.toList (slices_Index_string_string.ce 0).rts) := obl_of (by kernel_rfl)
/-! ### slices_Contains_string_string: function 106 -/
def slices_Contains_string_string.f (k : Nat) (a0 : List ByteArray) (a1 : ByteArray) : Option Bool := (slices_Index_string_string.f k a0 a1).bind fun t1 => (some (decide (t1 ≥ 0)))
def slices_Contains_string_string.ce (k : Nat) : CallE := ⟨[⟨false, (.list .str)⟩, ⟨false, .str⟩], [⟨false, [.v .bool]⟩], fun (x : (List ByteArray) × ByteArray) => slices_Contains_string_string.f k x.1 x.2⟩
def slices_Contains_string_string.F : Fam (RT.dens (slices_Contains_string_string.ce 0).rts) := ⟨fun k => ⟨TT0, GL0, callT [(108, [], slices_Index_string_string.ce k)], cmpT CM0, [], BLD0⟩, []⟩
theorem slices_Contains_string_string.is (k : Nat) (x : AT.dens (slices_Contains_string_string.ce 0).ats) : (slices_Contains_string_string.ce k).fn x = den slices_Contains_string_string.F k (bodyOf Tryz.f106) (startAS (slices_Contains_string_string.ce 0).ats x) (retK (slices_Contains_string_string.F.c k) Tryz.f106.results.toList (slices_Contains_string_string.ce 0).rts) := by kernel_rfl
theorem slices_Contains_string_string.ob : Obl slices_Contains_string_string.F (bodyOf Tryz.f106) (fun k => retK (slices_Contains_string_string.F.c k) Tryz.f106.results.toList (slices_Contains_string_string.ce 0).rts) := obl_of (by kernel_rfl)
/-! ### lex_IsName: function 97 -/
def lex_IsName.f (k : Nat) (a0 : ByteArray) : Option Bool := if a0 = (⟨#[]⟩ : ByteArray) then (some false) else (if (a0.size : Int) ≤ 16 then (if 0 ≤ 0 then (if 0 < (a0.size : Int) then ((lex_of.f k (btI a0 0)).bind fun t1 => (if t1 = 2 then ((lex_word.f k a0).bind fun t2 => (if t2 = (a0.size : Int) then ((slices_Contains_string_string.f k lex_kept a0).bind fun t3 => (some (!t3))) else (some false))) else (some false))) else (none)) else (none)) else (some false))
def lex_IsName.ce (k : Nat) : CallE := ⟨[⟨false, .str⟩], [⟨false, [.v .bool]⟩], fun (x : ByteArray) => lex_IsName.f k x⟩
def lex_IsName.F : Fam (RT.dens (lex_IsName.ce 0).rts) := ⟨fun k => ⟨TT0, GL0, callT [(104, [], lex_of.ce k), (105, [], lex_word.ce k), (106, [], slices_Contains_string_string.ce k)], cmpT CM0, [], BLD0⟩, []⟩
theorem lex_IsName.is (k : Nat) (x : AT.dens (lex_IsName.ce 0).ats) : (lex_IsName.ce k).fn x = den lex_IsName.F k (bodyOf Tryz.f97) (startAS (lex_IsName.ce 0).ats x) (retK (lex_IsName.F.c k) Tryz.f97.results.toList (lex_IsName.ce 0).rts) := by kernel_rfl
theorem lex_IsName.ob : Obl lex_IsName.F (bodyOf Tryz.f97) (fun k => retK (lex_IsName.F.c k) Tryz.f97.results.toList (lex_IsName.ce 0).rts) := obl_of (by kernel_rfl)
/-! ### net_given: function 77 -/
def net_given.l0 : Nat → (List ByteArray) → (List ByteArray) → Int → Int → Option Bool
 | 0, _, _, _, _ => none
 | k + 1, x3, x7, x8, x9 => if x9 < x8 then (if 0 ≤ x9 then (if x9 < (x7.length : Int) then ((lex_IsName.f k (rdT .str x7 x9)).bind fun t1 => (if (!t1) = true then (some false) else (if ((rdT .str x7 x9).size : Int) > 16 then (some false) else (if (rdT .str x7 x9).size ≤ 9223372036854775807 then (if (hasK (rdT .str x7 x9) x3) = true then (some false) else (if (rdT .str x7 x9).size ≤ 9223372036854775807 then (if x3.length < 9223372036854775807 then (net_given.l0 k ((rdT .str x7 x9) :: x3) x7 x8 (w64 (x9 + 1))) else (none)) else (none))) else (none))))) else (none)) else (none)) else (some true)
def net_given.f (k : Nat) (a0 : List ByteArray) : Option Bool := net_given.l0 k ([] : List ByteArray) a0 (a0.length : Int) 0
def net_given.ce (k : Nat) : CallE := ⟨[⟨false, (.list .str)⟩], [⟨false, [.v .bool]⟩], fun (x : (List ByteArray)) => net_given.f k x⟩
def net_given.F : Fam (RT.dens (net_given.ce 0).rts) := ⟨fun k => ⟨TT0, GL0, callT [(97, [], lex_IsName.ce k)], cmpT CM0, [], BLD0⟩, [(4, ⟨⟨[(3, .m), (7, .v false (.list .str)), (8, .v false (.int .i64)), (9, .v false (.int .i64))], []⟩, fun k s => net_given.l0 k s.1.1 s.1.2.1 s.1.2.2.1 s.1.2.2.2.1⟩)]⟩
theorem net_given.is (k : Nat) (x : AT.dens (net_given.ce 0).ats) : (net_given.ce k).fn x = den net_given.F k (bodyOf Tryz.f77) (startAS (net_given.ce 0).ats x) (retK (net_given.F.c k) Tryz.f77.results.toList (net_given.ce 0).rts) := by kernel_rfl
theorem net_given.ob : Obl net_given.F (bodyOf Tryz.f77) (fun k => retK (net_given.F.c k) Tryz.f77.results.toList (net_given.ce 0).rts) := obl_of (by kernel_rfl)
/-! ### slices_Grow_string_string: function 107 -/
def slices_Grow_string_string.f (a0 : Unit) (a1 : Int) : Option (List ByteArray) := if a1 < 0 then (none) else (if (w64 (a1 - (w64 (0 - 0)))) > 0 then (if 0 ≤ 0 then (if 0 ≤ 0 then (if 0 < w64 (a1 - (w64 (0 - 0))) then (if w64 (a1 - (w64 (0 - 0))) ≤ 8796093022208 then (if 0 ≤ 0 then (if 0 ≤ ((List.replicate (Int.toNat (w64 (a1 - (w64 (0 - 0))))) (⟨#[]⟩ : ByteArray)).length : Int) then (some (List.take (Int.toNat (0)) (List.replicate (Int.toNat (w64 (a1 - (w64 (0 - 0))))) (⟨#[]⟩ : ByteArray)))) else (none)) else (none)) else (none)) else (none)) else (none)) else (none)) else (some ([] : List ByteArray)))
def slices_Grow_string_string.ce : CallE := ⟨[⟨false, .nl⟩, ⟨false, (.int .i64)⟩], [⟨false, [.o 9 .str]⟩], fun (x : Unit × Int) => slices_Grow_string_string.f x.1 x.2⟩
def slices_Grow_string_string.F : Fam (RT.dens (slices_Grow_string_string.ce).rts) := ⟨fun k => ⟨TT0, GL0, callT [], cmpT CM0, [25], BLD0⟩, []⟩
theorem slices_Grow_string_string.is (k : Nat) (x : AT.dens (slices_Grow_string_string.ce).ats) : (slices_Grow_string_string.ce).fn x = den slices_Grow_string_string.F k (bodyOf Tryz.f107) (startAS (slices_Grow_string_string.ce).ats x) (retK (slices_Grow_string_string.F.c k) Tryz.f107.results.toList (slices_Grow_string_string.ce).rts) := by kernel_rfl
theorem slices_Grow_string_string.ob : Obl slices_Grow_string_string.F (bodyOf Tryz.f107) (fun k => retK (slices_Grow_string_string.F.c k) Tryz.f107.results.toList (slices_Grow_string_string.ce).rts) := obl_of (by kernel_rfl)
/-! ### slices_Concat_string_string: function 98 -/
mutual
def slices_Concat_string_string.l0 : Nat → (List (List ByteArray)) → Int → (List (List ByteArray)) → Int → Int → Option (List ByteArray)
 | 0, _, _, _, _, _ => none
 | k + 1, x0, x3, x9, x10, x11 => if x11 < x10 then (if 0 ≤ x11 then (if x11 < (x9.length : Int) then (if (w64 (x3 + ((rdT (.list .str) x9 x11).length : Int))) < 0 then (none) else (slices_Concat_string_string.l0 k x0 (w64 (x3 + ((rdT (.list .str) x9 x11).length : Int))) x9 x10 (w64 (x11 + 1)))) else (none)) else (none)) else ((slices_Grow_string_string.f () x3).bind fun t1 => (slices_Concat_string_string.l1 k t1 x0 (x0.length : Int) 0))
def slices_Concat_string_string.l1 : Nat → (List ByteArray) → (List (List ByteArray)) → Int → Int → Option (List ByteArray)
 | 0, _, _, _, _ => none
 | k + 1, x6, x25, x26, x27 => if x27 < x26 then (if 0 ≤ x27 then (if x27 < (x25.length : Int) then (if x6.length + (rdT (.list .str) x25 x27).length ≤ 8796093022208 then (slices_Concat_string_string.l1 k (x6 ++ (rdT (.list .str) x25 x27)) x25 x26 (w64 (x27 + 1))) else (none)) else (none)) else (none)) else (some x6)
end
def slices_Concat_string_string.f (k : Nat) (a0 : List (List ByteArray)) : Option (List ByteArray) := slices_Concat_string_string.l0 k a0 0 a0 (a0.length : Int) 0
def slices_Concat_string_string.ce (k : Nat) : CallE := ⟨[⟨false, (.list (.list .str))⟩], [⟨false, [.o 9 .str]⟩], fun (x : (List (List ByteArray))) => slices_Concat_string_string.f k x⟩
def slices_Concat_string_string.F : Fam (RT.dens (slices_Concat_string_string.ce 0).rts) := ⟨fun k => ⟨TT0, GL0, callT [(107, [], slices_Grow_string_string.ce)], cmpT CM0, [], BLD0⟩, [(4, ⟨⟨[(0, .v false (.list (.list .str))), (3, .v false (.int .i64)), (9, .v false (.list (.list .str))), (10, .v false (.int .i64)), (11, .v false (.int .i64))], []⟩, fun k s => slices_Concat_string_string.l0 k s.1.1 s.1.2.1 s.1.2.2.1 s.1.2.2.2.1 s.1.2.2.2.2.1⟩), (12, ⟨⟨[(6, .o 9 .str), (25, .v false (.list (.list .str))), (26, .v false (.int .i64)), (27, .v false (.int .i64))], []⟩, fun k s => slices_Concat_string_string.l1 k s.1.1 s.1.2.1 s.1.2.2.1 s.1.2.2.2.1⟩)]⟩
theorem slices_Concat_string_string.is (k : Nat) (x : AT.dens (slices_Concat_string_string.ce 0).ats) : (slices_Concat_string_string.ce k).fn x = den slices_Concat_string_string.F k (bodyOf Tryz.f98) (startAS (slices_Concat_string_string.ce 0).ats x) (retK (slices_Concat_string_string.F.c k) Tryz.f98.results.toList (slices_Concat_string_string.ce 0).rts) := by kernel_rfl
theorem slices_Concat_string_string.ob : Obl slices_Concat_string_string.F (bodyOf Tryz.f98) (fun k => retK (slices_Concat_string_string.F.c k) Tryz.f98.results.toList (slices_Concat_string_string.ce 0).rts) := obl_of (by kernel_rfl)
/-! ### net_Names: function 99 -/
def net_Names.l0 : Nat → (List ByteArray) → (List S140) → Int → Int → Option (List ByteArray)
 | 0, _, _, _, _ => none
 | k + 1, x3, x7, x8, x9 => if x9 < x8 then (if 0 ≤ x9 then (if x9 < (x7.length : Int) then (if x3.length < 8796093022208 then (net_Names.l0 k (x3 ++ [(rd_T140 x7 x9).f0]) x7 x8 (w64 (x9 + 1))) else (none)) else (none)) else (none)) else (some x3)
def net_Names.f (k : Nat) (l0_0 : List ByteArray) (l0_1 : List S140) (l0_2 : List ByteArray) (l0_3 : List S82) : Option (List ByteArray) := net_Names.l0 k ([] : List ByteArray) l0_1 (l0_1.length : Int) 0
def net_Names.ce (k : Nat) : CallE := ⟨[⟨true, T48⟩], [⟨false, [.o 9 .str]⟩], fun (x : S48) => net_Names.f k x.f0 x.f1 x.f2 x.f3⟩
def net_Names.F : Fam (RT.dens (net_Names.ce 0).rts) := ⟨fun k => ⟨TT0, GL0, callT [], cmpT CM0, [], BLD0⟩, [(4, ⟨⟨[(3, .o 9 .str), (7, .v false (.list T140)), (8, .v false (.int .i64)), (9, .v false (.int .i64))], []⟩, fun k s => net_Names.l0 k s.1.1 s.1.2.1 s.1.2.2.1 s.1.2.2.2.1⟩)]⟩
theorem net_Names.is (k : Nat) (x : AT.dens (net_Names.ce 0).ats) : (net_Names.ce k).fn x = den net_Names.F k (bodyOf Tryz.f99) (startAS (net_Names.ce 0).ats x) (retK (net_Names.F.c k) Tryz.f99.results.toList (net_Names.ce 0).rts) := by kernel_rfl
theorem net_Names.ob : Obl net_Names.F (bodyOf Tryz.f99) (fun k => retK (net_Names.F.c k) Tryz.f99.results.toList (net_Names.ce 0).rts) := obl_of (by kernel_rfl)
/-! ### net_all: function 78 -/
def net_all.l0 : Nat → (List ByteArray) → (List S82) → Int → Int → Option (List ByteArray)
 | 0, _, _, _, _ => none
 | k + 1, x3, x15, x16, x17 => if x17 < x16 then (if 0 ≤ x17 then (if x17 < (x15.length : Int) then (if x3.length < 8796093022208 then (net_all.l0 k (x3 ++ [(rd_T82 x15 x17).f0]) x15 x16 (w64 (x17 + 1))) else (none)) else (none)) else (none)) else (some x3)
def net_all.f (k : Nat) (l0_0 : List ByteArray) (l0_1 : List S140) (l0_2 : List ByteArray) (l0_3 : List S82) : Option (List ByteArray) := (net_Names.f k l0_0 l0_1 l0_2 l0_3).bind fun t1 => ((slices_Concat_string_string.f k ([l0_0, t1, l0_2] : List (List ByteArray))).bind fun t2 => (net_all.l0 k t2 l0_3 (l0_3.length : Int) 0))
def net_all.ce (k : Nat) : CallE := ⟨[⟨true, T48⟩], [⟨false, [.o 9 .str]⟩], fun (x : S48) => net_all.f k x.f0 x.f1 x.f2 x.f3⟩
def net_all.F : Fam (RT.dens (net_all.ce 0).rts) := ⟨fun k => ⟨TT0, GL0, callT [(98, [], slices_Concat_string_string.ce k), (99, [], net_Names.ce k)], cmpT CM0, [], BLD0⟩, [(4, ⟨⟨[(3, .o 9 .str), (15, .v false (.list T82)), (16, .v false (.int .i64)), (17, .v false (.int .i64))], []⟩, fun k s => net_all.l0 k s.1.1 s.1.2.1 s.1.2.2.1 s.1.2.2.2.1⟩)]⟩
theorem net_all.is (k : Nat) (x : AT.dens (net_all.ce 0).ats) : (net_all.ce k).fn x = den net_all.F k (bodyOf Tryz.f78) (startAS (net_all.ce 0).ats x) (retK (net_all.F.c k) Tryz.f78.results.toList (net_all.ce 0).rts) := by kernel_rfl
theorem net_all.ob : Obl net_all.F (bodyOf Tryz.f78) (fun k => retK (net_all.F.c k) Tryz.f78.results.toList (net_all.ce 0).rts) := obl_of (by kernel_rfl)
/-! ### net_locNames: function 79 -/
def net_locNames.l0 : Nat → (List ByteArray) → (List S74) → Int → Int → Option (List ByteArray)
 | 0, _, _, _, _ => none
 | k + 1, x3, x7, x8, x9 => if x9 < x8 then (if 0 ≤ x9 then (if x9 < (x7.length : Int) then (if x3.length < 8796093022208 then (net_locNames.l0 k (x3 ++ [(rd_T74 x7 x9).f0]) x7 x8 (w64 (x9 + 1))) else (none)) else (none)) else (none)) else (some x3)
def net_locNames.f (k : Nat) (l0_0 : ByteArray) (l0_1 : List S74) (l0_2 : List S79) : Option (List ByteArray) := net_locNames.l0 k ([] : List ByteArray) l0_1 (l0_1.length : Int) 0
def net_locNames.ce (k : Nat) : CallE := ⟨[⟨true, T82⟩], [⟨false, [.o 9 .str]⟩], fun (x : S82) => net_locNames.f k x.f0 x.f1 x.f2⟩
def net_locNames.F : Fam (RT.dens (net_locNames.ce 0).rts) := ⟨fun k => ⟨TT0, GL0, callT [], cmpT CM0, [], BLD0⟩, [(4, ⟨⟨[(3, .o 9 .str), (7, .v false (.list T74)), (8, .v false (.int .i64)), (9, .v false (.int .i64))], []⟩, fun k s => net_locNames.l0 k s.1.1 s.1.2.1 s.1.2.2.1 s.1.2.2.2.1⟩)]⟩
theorem net_locNames.is (k : Nat) (x : AT.dens (net_locNames.ce 0).ats) : (net_locNames.ce k).fn x = den net_locNames.F k (bodyOf Tryz.f79) (startAS (net_locNames.ce 0).ats x) (retK (net_locNames.F.c k) Tryz.f79.results.toList (net_locNames.ce 0).rts) := by kernel_rfl
theorem net_locNames.ob : Obl net_locNames.F (bodyOf Tryz.f79) (fun k => retK (net_locNames.F.c k) Tryz.f79.results.toList (net_locNames.ce 0).rts) := obl_of (by kernel_rfl)
/-! ### net_names: function 59 -/
def net_names.l0 : Nat → (List S82) → Int → Int → Option Int
 | 0, _, _, _ => none
 | k + 1, x10, x11, x12 => if x12 < x11 then (if 0 ≤ x12 then (if x12 < (x10.length : Int) then ((net_locNames.f k ((rd_T82 x10 x12).f0) ((rd_T82 x10 x12).f1) ((rd_T82 x10 x12).f2)).bind fun t3 => ((net_given.f k t3).bind fun t4 => (if (!t4) = true then (some 112) else (net_names.l0 k x10 x11 (w64 (x12 + 1)))))) else (none)) else (none)) else (some 0)
def net_names.f (k : Nat) (l0_0 : List ByteArray) (l0_1 : List S140) (l0_2 : List ByteArray) (l0_3 : List S82) : Option Int := (net_all.f k l0_0 l0_1 l0_2 l0_3).bind fun t1 => ((net_given.f k t1).bind fun t2 => (if (!t2) = true then (some 112) else (net_names.l0 k l0_3 (l0_3.length : Int) 0)))
def net_names.ce (k : Nat) : CallE := ⟨[⟨true, T48⟩], [⟨false, [.v (.int .i64)]⟩], fun (x : S48) => net_names.f k x.f0 x.f1 x.f2 x.f3⟩
def net_names.F : Fam (RT.dens (net_names.ce 0).rts) := ⟨fun k => ⟨TT0, GL0, callT [(77, [], net_given.ce k), (78, [], net_all.ce k), (79, [], net_locNames.ce k)], cmpT CM0, [], BLD0⟩, [(5, ⟨⟨[(10, .v false (.list T82)), (11, .v false (.int .i64)), (12, .v false (.int .i64))], []⟩, fun k s => net_names.l0 k s.1.1 s.1.2.1 s.1.2.2.1⟩)]⟩
theorem net_names.is (k : Nat) (x : AT.dens (net_names.ce 0).ats) : (net_names.ce k).fn x = den net_names.F k (bodyOf Tryz.f59) (startAS (net_names.ce 0).ats x) (retK (net_names.F.c k) Tryz.f59.results.toList (net_names.ce 0).rts) := by kernel_rfl
theorem net_names.ob : Obl net_names.F (bodyOf Tryz.f59) (fun k => retK (net_names.F.c k) Tryz.f59.results.toList (net_names.ce 0).rts) := obl_of (by kernel_rfl)
/-! ### net_vars: function 60 -/
def net_vars.l0 : Nat → (List S140) → Int → Int → Option Int
 | 0, _, _, _ => none
 | k + 1, x6, x7, x8 => if x8 < x7 then (if 0 ≤ x8 then (if x8 < (x6.length : Int) then (if ((rd_T140 x6 x8).f1) > ((rd_T140 x6 x8).f3) then (some 124) else (if ((rd_T140 x6 x8).f3) > ((rd_T140 x6 x8).f2) then (some 124) else (if ((rd_T140 x6 x8).f1) < (-1048576) then (some 124) else (if ((rd_T140 x6 x8).f2) > 1048576 then (some 124) else (net_vars.l0 k x6 x7 (w64 (x8 + 1))))))) else (none)) else (none)) else (some 0)
def net_vars.f (k : Nat) (l0_0 : List ByteArray) (l0_1 : List S140) (l0_2 : List ByteArray) (l0_3 : List S82) : Option Int := net_vars.l0 k l0_1 (l0_1.length : Int) 0
def net_vars.ce (k : Nat) : CallE := ⟨[⟨true, T48⟩], [⟨false, [.v (.int .i64)]⟩], fun (x : S48) => net_vars.f k x.f0 x.f1 x.f2 x.f3⟩
def net_vars.F : Fam (RT.dens (net_vars.ce 0).rts) := ⟨fun k => ⟨TT0, GL0, callT [], cmpT CM0, [], BLD0⟩, [(3, ⟨⟨[(6, .v false (.list T140)), (7, .v false (.int .i64)), (8, .v false (.int .i64))], []⟩, fun k s => net_vars.l0 k s.1.1 s.1.2.1 s.1.2.2.1⟩)]⟩
theorem net_vars.is (k : Nat) (x : AT.dens (net_vars.ce 0).ats) : (net_vars.ce k).fn x = den net_vars.F k (bodyOf Tryz.f60) (startAS (net_vars.ce 0).ats x) (retK (net_vars.F.c k) Tryz.f60.results.toList (net_vars.ce 0).rts) := by kernel_rfl
theorem net_vars.ob : Obl net_vars.F (bodyOf Tryz.f60) (fun k => retK (net_vars.F.c k) Tryz.f60.results.toList (net_vars.ce 0).rts) := obl_of (by kernel_rfl)
/-! ### net_locs: function 61 -/
mutual
def net_locs.l0 : Nat → (List S82) → Int → Int → Option Int
 | 0, _, _, _ => none
 | k + 1, x8, x9, x10 => if x10 < x9 then (if 0 ≤ x10 then (if x10 < (x8.length : Int) then (net_locs.l1 k x8 x9 x10 ((rd_T82 x8 x10).f1) (((rd_T82 x8 x10).f1).length : Int) 0) else (none)) else (none)) else (some 0)
def net_locs.l1 : Nat → (List S82) → Int → Int → (List S74) → Int → Int → Option Int
 | 0, _, _, _, _, _, _ => none
 | k + 1, x8, x9, x10, x15, x16, x17 => if x17 < x16 then (if 0 ≤ x17 then (if x17 < (x15.length : Int) then (if ((rd_T74 x15 x17).f1) > 2 then (some 122) else (net_locs.l1 k x8 x9 x10 x15 x16 (w64 (x17 + 1)))) else (none)) else (none)) else (net_locs.l0 k x8 x9 (w64 (x10 + 1)))
end
def net_locs.f (k : Nat) (l0_0 : List ByteArray) (l0_1 : List S140) (l0_2 : List ByteArray) (l0_3 : List S82) : Option Int := net_locs.l0 k l0_3 (l0_3.length : Int) 0
def net_locs.ce (k : Nat) : CallE := ⟨[⟨true, T48⟩], [⟨false, [.v (.int .i64)]⟩], fun (x : S48) => net_locs.f k x.f0 x.f1 x.f2 x.f3⟩
def net_locs.F : Fam (RT.dens (net_locs.ce 0).rts) := ⟨fun k => ⟨TT0, GL0, callT [], cmpT CM0, [], BLD0⟩, [(3, ⟨⟨[(8, .v false (.list T82)), (9, .v false (.int .i64)), (10, .v false (.int .i64))], []⟩, fun k s => net_locs.l0 k s.1.1 s.1.2.1 s.1.2.2.1⟩), (6, ⟨⟨[(8, .v false (.list T82)), (9, .v false (.int .i64)), (10, .v false (.int .i64)), (15, .v false (.list T74)), (16, .v false (.int .i64)), (17, .v false (.int .i64))], []⟩, fun k s => net_locs.l1 k s.1.1 s.1.2.1 s.1.2.2.1 s.1.2.2.2.1 s.1.2.2.2.2.1 s.1.2.2.2.2.2.1⟩)]⟩
theorem net_locs.is (k : Nat) (x : AT.dens (net_locs.ce 0).ats) : (net_locs.ce k).fn x = den net_locs.F k (bodyOf Tryz.f61) (startAS (net_locs.ce 0).ats x) (retK (net_locs.F.c k) Tryz.f61.results.toList (net_locs.ce 0).rts) := by kernel_rfl
theorem net_locs.ob : Obl net_locs.F (bodyOf Tryz.f61) (fun k => retK (net_locs.F.c k) Tryz.f61.results.toList (net_locs.ce 0).rts) := obl_of (by kernel_rfl)
/-! ### net_edges_1: function 80 -/
def net_edges_1.f (a0 : Int) (a1 : S82) : Option Bool := if a0 ≥ 0 then (some (decide (a0 < (a1.f1.length : Int)))) else (some false)
def net_edges_1.ce : CallE := ⟨[⟨false, (.int .i64)⟩, ⟨false, (.ref T82)⟩], [⟨false, [.v .bool]⟩], fun (x : Int × S82) => net_edges_1.f x.1 x.2⟩
def net_edges_1.F : Fam (RT.dens (net_edges_1.ce).rts) := ⟨fun k => ⟨TT0, GL0, callT [], cmpT CM0, [], BLD0⟩, []⟩
theorem net_edges_1.is (k : Nat) (x : AT.dens (net_edges_1.ce).ats) : (net_edges_1.ce).fn x = den net_edges_1.F k (bodyOf Tryz.f80) (startAS (net_edges_1.ce).ats x) (retK (net_edges_1.F.c k) Tryz.f80.results.toList (net_edges_1.ce).rts) := by kernel_rfl
theorem net_edges_1.ob : Obl net_edges_1.F (bodyOf Tryz.f80) (fun k => retK (net_edges_1.F.c k) Tryz.f80.results.toList (net_edges_1.ce).rts) := obl_of (by kernel_rfl)
/-! ### net_edges: function 62 -/
mutual
def net_edges.l0 : Nat → (List S82) → Int → Int → (List ByteArray) → (List S140) → (List ByteArray) → (List S82) → Option Int
 | 0, _, _, _, _, _, _, _ => none
 | k + 1, x9, x10, x11, x1_0, x1_1, x1_2, x1_3 => if x11 < x10 then (if 0 ≤ x11 then (if x11 < (x9.length : Int) then (net_edges.l1 k (rd_T82 x9 x11) x9 x10 x11 ((rd_T82 x9 x11).f2) (((rd_T82 x9 x11).f2).length : Int) 0 x1_0 x1_1 x1_2 x1_3) else (none)) else (none)) else (some 0)
def net_edges.l1 : Nat → S82 → (List S82) → Int → Int → (List S79) → Int → Int → (List ByteArray) → (List S140) → (List ByteArray) → (List S82) → Option Int
 | 0, _, _, _, _, _, _, _, _, _, _, _ => none
 | k + 1, x5, x9, x10, x11, x17, x18, x19, x1_0, x1_1, x1_2, x1_3 => if x19 < x18 then (if 0 ≤ x19 then (if x19 < (x17.length : Int) then ((net_edges_1.f ((rd_T79 x17 x19).f0) x5).bind fun t1 => (if (!t1) = true then (some 123) else ((net_edges_1.f ((rd_T79 x17 x19).f1) x5).bind fun t2 => (if (!t2) = true then (some 123) else (if ((rd_T79 x17 x19).f4) < 0 then (some 123) else (if ((rd_T79 x17 x19).f4) > (x1_2.length : Int) then (some 123) else (if ((rd_T79 x17 x19).f5) = true then (if ((rd_T79 x17 x19).f4) = 0 then (some 123) else (net_edges.l1 k x5 x9 x10 x11 x17 x18 (w64 (x19 + 1)) x1_0 x1_1 x1_2 x1_3)) else (net_edges.l1 k x5 x9 x10 x11 x17 x18 (w64 (x19 + 1)) x1_0 x1_1 x1_2 x1_3)))))))) else (none)) else (none)) else (net_edges.l0 k x9 x10 (w64 (x11 + 1)) x1_0 x1_1 x1_2 x1_3)
end
def net_edges.f (k : Nat) (l0_0 : List ByteArray) (l0_1 : List S140) (l0_2 : List ByteArray) (l0_3 : List S82) : Option Int := net_edges.l0 k l0_3 (l0_3.length : Int) 0 l0_0 l0_1 l0_2 l0_3
def net_edges.ce (k : Nat) : CallE := ⟨[⟨true, T48⟩], [⟨false, [.v (.int .i64)]⟩], fun (x : S48) => net_edges.f k x.f0 x.f1 x.f2 x.f3⟩
def net_edges.F : Fam (RT.dens (net_edges.ce 0).rts) := ⟨fun k => ⟨TT0, GL0, callT [(80, [], net_edges_1.ce)], cmpT CM0, [], BLD0⟩, [(3, ⟨⟨[(1, .k (.ptr 64 0)), (9, .v false (.list T82)), (10, .v false (.int .i64)), (11, .v false (.int .i64))], [(64, [.v (.list .str), .v (.list T140), .v (.list .str), .v (.list T82)])]⟩, fun k s => net_edges.l0 k s.1.1 s.1.2.1 s.1.2.2.1 s.2.1.1 s.2.1.2.1 s.2.1.2.2.1 s.2.1.2.2.2.1⟩), (7, ⟨⟨[(1, .k (.ptr 64 0)), (5, .v false (.fn 80 [(false, 1)] (.ref T82))), (9, .v false (.list T82)), (10, .v false (.int .i64)), (11, .v false (.int .i64)), (17, .v false (.list T79)), (18, .v false (.int .i64)), (19, .v false (.int .i64))], [(64, [.v (.list .str), .v (.list T140), .v (.list .str), .v (.list T82)])]⟩, fun k s => net_edges.l1 k s.1.1 s.1.2.1 s.1.2.2.1 s.1.2.2.2.1 s.1.2.2.2.2.1 s.1.2.2.2.2.2.1 s.1.2.2.2.2.2.2.1 s.2.1.1 s.2.1.2.1 s.2.1.2.2.1 s.2.1.2.2.2.1⟩)]⟩
theorem net_edges.is (k : Nat) (x : AT.dens (net_edges.ce 0).ats) : (net_edges.ce k).fn x = den net_edges.F k (bodyOf Tryz.f62) (startAS (net_edges.ce 0).ats x) (retK (net_edges.F.c k) Tryz.f62.results.toList (net_edges.ce 0).rts) := by kernel_rfl
theorem net_edges.ob : Obl net_edges.F (bodyOf Tryz.f62) (fun k => retK (net_edges.F.c k) Tryz.f62.results.toList (net_edges.ce 0).rts) := obl_of (by kernel_rfl)
/-! ### net_isClock: function 84 -/
def net_isClock.f (l0_0 : List ByteArray) (l0_1 : List S140) (l0_2 : List ByteArray) (l0_3 : List S82) (a1 : Int) : Option Bool := if a1 ≥ 1 then (some (decide (a1 ≤ (l0_0.length : Int)))) else (some false)
def net_isClock.ce : CallE := ⟨[⟨true, T48⟩, ⟨false, (.int .i64)⟩], [⟨false, [.v .bool]⟩], fun (x : S48 × Int) => net_isClock.f x.1.f0 x.1.f1 x.1.f2 x.1.f3 x.2⟩
def net_isClock.F : Fam (RT.dens (net_isClock.ce).rts) := ⟨fun k => ⟨TT0, GL0, callT [], cmpT CM0, [], BLD0⟩, []⟩
theorem net_isClock.is (k : Nat) (x : AT.dens (net_isClock.ce).ats) : (net_isClock.ce).fn x = den net_isClock.F k (bodyOf Tryz.f84) (startAS (net_isClock.ce).ats x) (retK (net_isClock.F.c k) Tryz.f84.results.toList (net_isClock.ce).rts) := by kernel_rfl
theorem net_isClock.ob : Obl net_isClock.F (bodyOf Tryz.f84) (fun k => retK (net_isClock.F.c k) Tryz.f84.results.toList (net_isClock.ce).rts) := obl_of (by kernel_rfl)
/-! ### net_clocksOf: function 81 -/
def net_clocksOf.l0 : Nat → (List S165) → Int → Int → (List ByteArray) → (List S140) → (List ByteArray) → (List S82) → Option Int
 | 0, _, _, _, _, _, _, _ => none
 | k + 1, x7, x8, x9, x2_0, x2_1, x2_2, x2_3 => if x9 < x8 then (if 0 ≤ x9 then (if x9 < (x7.length : Int) then ((net_isClock.f x2_0 x2_1 x2_2 x2_3 ((rd_T165 x7 x9).f0)).bind fun t1 => (if (!t1) = true then (some 12) else (if ((rd_T165 x7 x9).f1) = 0 then (net_clocksOf.l0 k x7 x8 (w64 (x9 + 1)) x2_0 x2_1 x2_2 x2_3) else ((net_isClock.f x2_0 x2_1 x2_2 x2_3 ((rd_T165 x7 x9).f1)).bind fun t2 => (if (!t2) = true then (some 12) else (net_clocksOf.l0 k x7 x8 (w64 (x9 + 1)) x2_0 x2_1 x2_2 x2_3)))))) else (none)) else (none)) else (some 0)
def net_clocksOf.f (k : Nat) (l0_0 : List ByteArray) (l0_1 : List S140) (l0_2 : List ByteArray) (l0_3 : List S82) (a1 : List S165) : Option Int := net_clocksOf.l0 k a1 (a1.length : Int) 0 l0_0 l0_1 l0_2 l0_3
def net_clocksOf.ce (k : Nat) : CallE := ⟨[⟨true, T48⟩, ⟨false, (.list T165)⟩], [⟨false, [.v (.int .i64)]⟩], fun (x : S48 × (List S165)) => net_clocksOf.f k x.1.f0 x.1.f1 x.1.f2 x.1.f3 x.2⟩
def net_clocksOf.F : Fam (RT.dens (net_clocksOf.ce 0).rts) := ⟨fun k => ⟨TT0, GL0, callT [(84, [], net_isClock.ce)], cmpT CM0, [], BLD0⟩, [(3, ⟨⟨[(2, .k (.ptr 128 0)), (7, .v false (.list T165)), (8, .v false (.int .i64)), (9, .v false (.int .i64))], [(128, [.v (.list .str), .v (.list T140), .v (.list .str), .v (.list T82)])]⟩, fun k s => net_clocksOf.l0 k s.1.1 s.1.2.1 s.1.2.2.1 s.2.1.1 s.2.1.2.1 s.2.1.2.2.1 s.2.1.2.2.2.1⟩)]⟩
theorem net_clocksOf.is (k : Nat) (x : AT.dens (net_clocksOf.ce 0).ats) : (net_clocksOf.ce k).fn x = den net_clocksOf.F k (bodyOf Tryz.f81) (startAS (net_clocksOf.ce 0).ats x) (retK (net_clocksOf.F.c k) Tryz.f81.results.toList (net_clocksOf.ce 0).rts) := by kernel_rfl
theorem net_clocksOf.ob : Obl net_clocksOf.F (bodyOf Tryz.f81) (fun k => retK (net_clocksOf.F.c k) Tryz.f81.results.toList (net_clocksOf.ce 0).rts) := obl_of (by kernel_rfl)
/-! ### net_guards: function 82 -/
mutual
def net_guards.l0 : Nat → (List S165) → (List S82) → Int → Int → Option (List S165)
 | 0, _, _, _, _ => none
 | k + 1, x3, x11, x12, x13 => if x13 < x12 then (if 0 ≤ x13 then (if x13 < (x11.length : Int) then (net_guards.l1 k x3 x11 x12 x13 ((rd_T82 x11 x13).f1) (((rd_T82 x11 x13).f1).length : Int) 0 ((rd_T82 x11 x13).f0) ((rd_T82 x11 x13).f1) ((rd_T82 x11 x13).f2)) else (none)) else (none)) else (some x3)
def net_guards.l1 : Nat → (List S165) → (List S82) → Int → Int → (List S74) → Int → Int → ByteArray → (List S74) → (List S79) → Option (List S165)
 | 0, _, _, _, _, _, _, _, _, _, _ => none
 | k + 1, x3, x11, x12, x13, x18, x19, x20, x5_0, x5_1, x5_2 => if x20 < x19 then (if 0 ≤ x20 then (if x20 < (x18.length : Int) then (if x3.length + ((rd_T74 x18 x20).f2).length ≤ 4398046511104 then (net_guards.l1 k (x3 ++ (rd_T74 x18 x20).f2) x11 x12 x13 x18 x19 (w64 (x20 + 1)) x5_0 x5_1 x5_2) else (none)) else (none)) else (none)) else (net_guards.l2 k x3 x11 x12 x13 x5_2 (x5_2.length : Int) 0)
def net_guards.l2 : Nat → (List S165) → (List S82) → Int → Int → (List S79) → Int → Int → Option (List S165)
 | 0, _, _, _, _, _, _, _ => none
 | k + 1, x3, x11, x12, x13, x30, x31, x32 => if x32 < x31 then (if 0 ≤ x32 then (if x32 < (x30.length : Int) then (if x3.length + ((rd_T79 x30 x32).f2).length ≤ 4398046511104 then (net_guards.l2 k (x3 ++ (rd_T79 x30 x32).f2) x11 x12 x13 x30 x31 (w64 (x32 + 1))) else (none)) else (none)) else (none)) else (net_guards.l0 k x3 x11 x12 (w64 (x13 + 1)))
end
def net_guards.f (k : Nat) (l0_0 : List ByteArray) (l0_1 : List S140) (l0_2 : List ByteArray) (l0_3 : List S82) : Option (List S165) := net_guards.l0 k ([] : List S165) l0_3 (l0_3.length : Int) 0
def net_guards.ce (k : Nat) : CallE := ⟨[⟨true, T48⟩], [⟨false, [.o 165 T165]⟩], fun (x : S48) => net_guards.f k x.f0 x.f1 x.f2 x.f3⟩
def net_guards.F : Fam (RT.dens (net_guards.ce 0).rts) := ⟨fun k => ⟨TT0, GL0, callT [], cmpT CM0, [], BLD0⟩, [(4, ⟨⟨[(3, .o 165 T165), (11, .v false (.list T82)), (12, .v false (.int .i64)), (13, .v false (.int .i64))], []⟩, fun k s => net_guards.l0 k s.1.1 s.1.2.1 s.1.2.2.1 s.1.2.2.2.1⟩), (7, ⟨⟨[(3, .o 165 T165), (5, .k (.ptr 320 0)), (11, .v false (.list T82)), (12, .v false (.int .i64)), (13, .v false (.int .i64)), (18, .v false (.list T74)), (19, .v false (.int .i64)), (20, .v false (.int .i64))], [(320, [.v .str, .v (.list T74), .v (.list T79)])]⟩, fun k s => net_guards.l1 k s.1.1 s.1.2.1 s.1.2.2.1 s.1.2.2.2.1 s.1.2.2.2.2.1 s.1.2.2.2.2.2.1 s.1.2.2.2.2.2.2.1 s.2.1.1 s.2.1.2.1 s.2.1.2.2.1⟩), (12, ⟨⟨[(3, .o 165 T165), (11, .v false (.list T82)), (12, .v false (.int .i64)), (13, .v false (.int .i64)), (30, .v false (.list T79)), (31, .v false (.int .i64)), (32, .v false (.int .i64))], []⟩, fun k s => net_guards.l2 k s.1.1 s.1.2.1 s.1.2.2.1 s.1.2.2.2.1 s.1.2.2.2.2.1 s.1.2.2.2.2.2.1 s.1.2.2.2.2.2.2.1⟩)]⟩
theorem net_guards.is (k : Nat) (x : AT.dens (net_guards.ce 0).ats) : (net_guards.ce k).fn x = den net_guards.F k (bodyOf Tryz.f82) (startAS (net_guards.ce 0).ats x) (retK (net_guards.F.c k) Tryz.f82.results.toList (net_guards.ce 0).rts) := by kernel_rfl
theorem net_guards.ob : Obl net_guards.F (bodyOf Tryz.f82) (fun k => retK (net_guards.F.c k) Tryz.f82.results.toList (net_guards.ce 0).rts) := obl_of (by kernel_rfl)
/-! ### net_sets: function 83 -/
mutual
def net_sets.l0 : Nat → (List S135) → (List S82) → Int → Int → Option (List S135)
 | 0, _, _, _, _ => none
 | k + 1, x3, x9, x10, x11 => if x11 < x10 then (if 0 ≤ x11 then (if x11 < (x9.length : Int) then (net_sets.l1 k x3 x9 x10 x11 ((rd_T82 x9 x11).f2) (((rd_T82 x9 x11).f2).length : Int) 0) else (none)) else (none)) else (some x3)
def net_sets.l1 : Nat → (List S135) → (List S82) → Int → Int → (List S79) → Int → Int → Option (List S135)
 | 0, _, _, _, _, _, _, _ => none
 | k + 1, x3, x9, x10, x11, x16, x17, x18 => if x18 < x17 then (if 0 ≤ x18 then (if x18 < (x16.length : Int) then (if x3.length + ((rd_T79 x16 x18).f6).length ≤ 2932031007402 then (net_sets.l1 k (x3 ++ (rd_T79 x16 x18).f6) x9 x10 x11 x16 x17 (w64 (x18 + 1))) else (none)) else (none)) else (none)) else (net_sets.l0 k x3 x9 x10 (w64 (x11 + 1)))
end
def net_sets.f (k : Nat) (l0_0 : List ByteArray) (l0_1 : List S140) (l0_2 : List ByteArray) (l0_3 : List S82) : Option (List S135) := net_sets.l0 k ([] : List S135) l0_3 (l0_3.length : Int) 0
def net_sets.ce (k : Nat) : CallE := ⟨[⟨true, T48⟩], [⟨false, [.o 135 T135]⟩], fun (x : S48) => net_sets.f k x.f0 x.f1 x.f2 x.f3⟩
def net_sets.F : Fam (RT.dens (net_sets.ce 0).rts) := ⟨fun k => ⟨TT0, GL0, callT [], cmpT CM0, [], BLD0⟩, [(4, ⟨⟨[(3, .o 135 T135), (9, .v false (.list T82)), (10, .v false (.int .i64)), (11, .v false (.int .i64))], []⟩, fun k s => net_sets.l0 k s.1.1 s.1.2.1 s.1.2.2.1 s.1.2.2.2.1⟩), (7, ⟨⟨[(3, .o 135 T135), (9, .v false (.list T82)), (10, .v false (.int .i64)), (11, .v false (.int .i64)), (16, .v false (.list T79)), (17, .v false (.int .i64)), (18, .v false (.int .i64))], []⟩, fun k s => net_sets.l1 k s.1.1 s.1.2.1 s.1.2.2.1 s.1.2.2.2.1 s.1.2.2.2.2.1 s.1.2.2.2.2.2.1 s.1.2.2.2.2.2.2.1⟩)]⟩
theorem net_sets.is (k : Nat) (x : AT.dens (net_sets.ce 0).ats) : (net_sets.ce k).fn x = den net_sets.F k (bodyOf Tryz.f83) (startAS (net_sets.ce 0).ats x) (retK (net_sets.F.c k) Tryz.f83.results.toList (net_sets.ce 0).rts) := by kernel_rfl
theorem net_sets.ob : Obl net_sets.F (bodyOf Tryz.f83) (fun k => retK (net_sets.F.c k) Tryz.f83.results.toList (net_sets.ce 0).rts) := obl_of (by kernel_rfl)
/-! ### net_clocks: function 63 -/
def net_clocks.l0 : Nat → (List S135) → Int → Int → (List ByteArray) → (List S140) → (List ByteArray) → (List S82) → Option Int
 | 0, _, _, _, _, _, _, _ => none
 | k + 1, x14, x15, x16, x1_0, x1_1, x1_2, x1_3 => if x16 < x15 then (if 0 ≤ x16 then (if x16 < (x14.length : Int) then (if ((rd_T135 x14 x16).f0) = 0 then (net_clocks.l0 k x14 x15 (w64 (x16 + 1)) x1_0 x1_1 x1_2 x1_3) else ((net_isClock.f x1_0 x1_1 x1_2 x1_3 ((rd_T135 x14 x16).f0)).bind fun t4 => (if (!t4) = true then (some 12) else (net_clocks.l0 k x14 x15 (w64 (x16 + 1)) x1_0 x1_1 x1_2 x1_3)))) else (none)) else (none)) else (some 0)
def net_clocks.f (k : Nat) (l0_0 : List ByteArray) (l0_1 : List S140) (l0_2 : List ByteArray) (l0_3 : List S82) : Option Int := (net_guards.f k l0_0 l0_1 l0_2 l0_3).bind fun t1 => ((net_clocksOf.f k l0_0 l0_1 l0_2 l0_3 t1).bind fun t2 => (if t2 = 0 then ((net_sets.f k l0_0 l0_1 l0_2 l0_3).bind fun t3 => (net_clocks.l0 k t3 (t3.length : Int) 0 l0_0 l0_1 l0_2 l0_3)) else (some t2)))
def net_clocks.ce (k : Nat) : CallE := ⟨[⟨true, T48⟩], [⟨false, [.v (.int .i64)]⟩], fun (x : S48) => net_clocks.f k x.f0 x.f1 x.f2 x.f3⟩
def net_clocks.F : Fam (RT.dens (net_clocks.ce 0).rts) := ⟨fun k => ⟨TT0, GL0, callT [(81, [], net_clocksOf.ce k), (82, [], net_guards.ce k), (83, [], net_sets.ce k), (84, [], net_isClock.ce)], cmpT CM0, [], BLD0⟩, [(6, ⟨⟨[(1, .k (.ptr 64 0)), (14, .o 135 T135), (15, .v false (.int .i64)), (16, .v false (.int .i64))], [(64, [.v (.list .str), .v (.list T140), .v (.list .str), .v (.list T82)])]⟩, fun k s => net_clocks.l0 k s.1.1 s.1.2.1 s.1.2.2.1 s.2.1.1 s.2.1.2.1 s.2.1.2.2.1 s.2.1.2.2.2.1⟩)]⟩
theorem net_clocks.is (k : Nat) (x : AT.dens (net_clocks.ce 0).ats) : (net_clocks.ce k).fn x = den net_clocks.F k (bodyOf Tryz.f63) (startAS (net_clocks.ce 0).ats x) (retK (net_clocks.F.c k) Tryz.f63.results.toList (net_clocks.ce 0).rts) := by kernel_rfl
theorem net_clocks.ob : Obl net_clocks.F (bodyOf Tryz.f63) (fun k => retK (net_clocks.F.c k) Tryz.f63.results.toList (net_clocks.ce 0).rts) := obl_of (by kernel_rfl)
/-! ### net_cmps: function 85 -/
def net_cmps.l0 : Nat → (List S165) → Int → Int → Option Int
 | 0, _, _, _ => none
 | k + 1, x5, x6, x7 => if x7 < x6 then (if 0 ≤ x7 then (if x7 < (x5.length : Int) then (if ((rd_T165 x5 x7).f2) < 1 then (some 7) else (if ((rd_T165 x5 x7).f2) > 5 then (some 7) else (net_cmps.l0 k x5 x6 (w64 (x7 + 1))))) else (none)) else (none)) else (some 0)
def net_cmps.f (k : Nat) (a0 : List S165) : Option Int := net_cmps.l0 k a0 (a0.length : Int) 0
def net_cmps.ce (k : Nat) : CallE := ⟨[⟨false, (.list T165)⟩], [⟨false, [.v (.int .i64)]⟩], fun (x : (List S165)) => net_cmps.f k x⟩
def net_cmps.F : Fam (RT.dens (net_cmps.ce 0).rts) := ⟨fun k => ⟨TT0, GL0, callT [], cmpT CM0, [], BLD0⟩, [(3, ⟨⟨[(5, .v false (.list T165)), (6, .v false (.int .i64)), (7, .v false (.int .i64))], []⟩, fun k s => net_cmps.l0 k s.1.1 s.1.2.1 s.1.2.2.1⟩)]⟩
theorem net_cmps.is (k : Nat) (x : AT.dens (net_cmps.ce 0).ats) : (net_cmps.ce k).fn x = den net_cmps.F k (bodyOf Tryz.f85) (startAS (net_cmps.ce 0).ats x) (retK (net_cmps.F.c k) Tryz.f85.results.toList (net_cmps.ce 0).rts) := by kernel_rfl
theorem net_cmps.ob : Obl net_cmps.F (bodyOf Tryz.f85) (fun k => retK (net_cmps.F.c k) Tryz.f85.results.toList (net_cmps.ce 0).rts) := obl_of (by kernel_rfl)
/-! ### net_forms: function 64 -/
def net_forms.l0 : Nat → (List S135) → Int → Int → Option Int
 | 0, _, _, _ => none
 | k + 1, x13, x14, x15 => if x15 < x14 then (if 0 ≤ x15 then (if x15 < (x13.length : Int) then (if ((rd_T135 x13 x15).f0) = 0 then (if ((rd_T135 x13 x15).f1) = 0 then (if ((rd_T135 x13 x15).f0) = 0 then (net_forms.l0 k x13 x14 (w64 (x15 + 1))) else (if ((rd_T135 x13 x15).f2) = 0 then (if (((rd_T135 x13 x15).f3).length : Int) > 0 then (some 7) else (net_forms.l0 k x13 x14 (w64 (x15 + 1)))) else (some 7))) else (some 7)) else (if ((rd_T135 x13 x15).f0) = 0 then (net_forms.l0 k x13 x14 (w64 (x15 + 1))) else (if ((rd_T135 x13 x15).f2) = 0 then (if (((rd_T135 x13 x15).f3).length : Int) > 0 then (some 7) else (net_forms.l0 k x13 x14 (w64 (x15 + 1)))) else (some 7)))) else (none)) else (none)) else (some 0)
def net_forms.f (k : Nat) (l0_0 : List ByteArray) (l0_1 : List S140) (l0_2 : List ByteArray) (l0_3 : List S82) : Option Int := (net_guards.f k l0_0 l0_1 l0_2 l0_3).bind fun t1 => ((net_cmps.f k t1).bind fun t2 => (if t2 = 0 then ((net_sets.f k l0_0 l0_1 l0_2 l0_3).bind fun t3 => (net_forms.l0 k t3 (t3.length : Int) 0)) else (some t2)))
def net_forms.ce (k : Nat) : CallE := ⟨[⟨true, T48⟩], [⟨false, [.v (.int .i64)]⟩], fun (x : S48) => net_forms.f k x.f0 x.f1 x.f2 x.f3⟩
def net_forms.F : Fam (RT.dens (net_forms.ce 0).rts) := ⟨fun k => ⟨TT0, GL0, callT [(82, [], net_guards.ce k), (83, [], net_sets.ce k), (85, [], net_cmps.ce k)], cmpT CM0, [], BLD0⟩, [(6, ⟨⟨[(13, .o 135 T135), (14, .v false (.int .i64)), (15, .v false (.int .i64))], []⟩, fun k s => net_forms.l0 k s.1.1 s.1.2.1 s.1.2.2.1⟩)]⟩
theorem net_forms.is (k : Nat) (x : AT.dens (net_forms.ce 0).ats) : (net_forms.ce k).fn x = den net_forms.F k (bodyOf Tryz.f64) (startAS (net_forms.ce 0).ats x) (retK (net_forms.F.c k) Tryz.f64.results.toList (net_forms.ce 0).rts) := by kernel_rfl
theorem net_forms.ob : Obl net_forms.F (bodyOf Tryz.f64) (fun k => retK (net_forms.F.c k) Tryz.f64.results.toList (net_forms.ce 0).rts) := obl_of (by kernel_rfl)
/-! ### expr_of: function 101 -/
def expr_of.f (a0 : Int) : Option (Int × Bool × Bool × ByteArray × Int × Bool) := if a0 < 1 then (some (0, false, false, (⟨#[]⟩ : ByteArray), 0, false)) else (if a0 > 14 then (some (0, false, false, (⟨#[]⟩ : ByteArray), 0, false)) else (if 0 ≤ a0 then (if a0 < (expr_kinds.length : Int) then (some ((rd_T171 expr_kinds a0).f0, (rd_T171 expr_kinds a0).f1, (rd_T171 expr_kinds a0).f2, (rd_T171 expr_kinds a0).f3, (rd_T171 expr_kinds a0).f4, true)) else (none)) else (none)))
def expr_of.ce : CallE := ⟨[⟨false, (.int .u8)⟩], [⟨true, [.v (.int .i64), .v .bool, .v .bool, .v .str, .v (.int .i64)]⟩, ⟨false, [.v .bool]⟩], fun (x : Int) => expr_of.f x⟩
def expr_of.F : Fam (RT.dens (expr_of.ce).rts) := ⟨fun k => ⟨TT0, GL0, callT [], cmpT CM0, [], BLD0⟩, []⟩
theorem expr_of.is (k : Nat) (x : AT.dens (expr_of.ce).ats) : (expr_of.ce).fn x = den expr_of.F k (bodyOf Tryz.f101) (startAS (expr_of.ce).ats x) (retK (expr_of.F.c k) Tryz.f101.results.toList (expr_of.ce).rts) := by kernel_rfl
theorem expr_of.ob : Obl expr_of.F (bodyOf Tryz.f101) (fun k => retK (expr_of.F.c k) Tryz.f101.results.toList (expr_of.ce).rts) := obl_of (by kernel_rfl)
/-! ### expr_End: function 100 -/
def expr_End.l0 : Nat → (List S169) → Int → Int → Option Int
 | 0, _, _, _ => none
 | k + 1, x0, x1, x5 => if x5 > 0 then (if x1 ≥ (x0.length : Int) then (some 0) else (if 0 ≤ x1 then (if x1 < (x0.length : Int) then ((expr_of.f ((rd_T169 x0 x1).f0)).bind fun t1 => (expr_End.l0 k x0 (w64 (x1 + 1)) (w64 ((w64 (x5 + t1.1)) - 1)))) else (none)) else (none))) else (some x1)
def expr_End.f (k : Nat) (a0 : List S169) (a1 : Int) : Option Int := if a1 < 0 then (some 0) else (expr_End.l0 k a0 a1 1)
def expr_End.ce (k : Nat) : CallE := ⟨[⟨false, (.list T169)⟩, ⟨false, (.int .i64)⟩], [⟨false, [.v (.int .i64)]⟩], fun (x : (List S169) × Int) => expr_End.f k x.1 x.2⟩
def expr_End.F : Fam (RT.dens (expr_End.ce 0).rts) := ⟨fun k => ⟨TT0, GL0, callT [(101, [], expr_of.ce)], cmpT CM0, [], BLD0⟩, [(5, ⟨⟨[(0, .v false (.list T169)), (1, .v false (.int .i64)), (5, .v false (.int .i64))], []⟩, fun k s => expr_End.l0 k s.1.1 s.1.2.1 s.1.2.2.1⟩)]⟩
theorem expr_End.is (k : Nat) (x : AT.dens (expr_End.ce 0).ats) : (expr_End.ce k).fn x = den expr_End.F k (bodyOf Tryz.f100) (startAS (expr_End.ce 0).ats x) (retK (expr_End.F.c k) Tryz.f100.results.toList (expr_End.ce 0).rts) := by kernel_rfl
theorem expr_End.ob : Obl expr_End.F (bodyOf Tryz.f100) (fun k => retK (expr_End.F.c k) Tryz.f100.results.toList (expr_End.ce 0).rts) := obl_of (by kernel_rfl)
/-! ### expr_Right: function 87 -/
mutual
def expr_Right.j0 : Nat → (List S169) → Int → Option Int
 | 0, _, _ => none
 | k + 1, x0, x1 => expr_Right.l1 k x0 x1 x0 (x0.length : Int) 0
def expr_Right.l1 : Nat → (List S169) → Int → (List S169) → Int → Int → Option Int
 | 0, _, _, _, _, _ => none
 | k + 1, x0, x1, x28, x29, x30 => if x30 < x29 then (if 0 ≤ x30 then (if x30 < (x28.length : Int) then ((expr_of.f ((rd_T169 x28 x30).f0)).bind fun t2 => (if ((rd_T169 x28 x30).f0) = 1 then (expr_Right.j2 k x0 x1 x30 t2.2.2.2.2.2 1048576 x28 x29 x30 ((rd_T169 x28 x30).f0) ((rd_T169 x28 x30).f1) t2.1 t2.2.1 t2.2.2.1 t2.2.2.2.1 t2.2.2.2.2.1) else (if ((rd_T169 x28 x30).f0) = 2 then (expr_Right.j2 k x0 x1 x30 t2.2.2.2.2.2 (w64 ((if 0 > x1 then 0 else x1) - 1)) x28 x29 x30 ((rd_T169 x28 x30).f0) ((rd_T169 x28 x30).f1) t2.1 t2.2.1 t2.2.2.1 t2.2.2.2.1 t2.2.2.2.2.1) else (expr_Right.j2 k x0 x1 x30 t2.2.2.2.2.2 0 x28 x29 x30 ((rd_T169 x28 x30).f0) ((rd_T169 x28 x30).f1) t2.1 t2.2.1 t2.2.2.1 t2.2.2.2.1 t2.2.2.2.2.1)))) else (none)) else (none)) else (some 0)
def expr_Right.j2 : Nat → (List S169) → Int → Int → Bool → Int → (List S169) → Int → Int → Int → Int → Int → Bool → Bool → ByteArray → Int → Option Int
 | 0, _, _, _, _, _, _, _, _, _, _, _, _, _, _, _ => none
 | k + 1, x0, x1, x5, x8, x9, x28, x29, x30, x6_0, x6_1, x7_0, x7_1, x7_2, x7_3, x7_4 => if (!x8) = true then (some 121) else (if x6_1 < 0 then (some 121) else (if x6_1 > x9 then (some 121) else (expr_Right.j3 k x0 x1 x5 x28 x29 x30 x7_0 x7_1 x7_2 x7_3 x7_4)))
def expr_Right.j3 : Nat → (List S169) → Int → Int → (List S169) → Int → Int → Int → Bool → Bool → ByteArray → Int → Option Int
 | 0, _, _, _, _, _, _, _, _, _, _, _ => none
 | k + 1, x0, x1, x5, x28, x29, x30, x7_0, x7_1, x7_2, x7_3, x7_4 => expr_Right.l4 k x0 x1 (w64 (x5 + 1)) x28 x29 x30 x7_0 0 x7_0 x7_1 x7_2 x7_3 x7_4
def expr_Right.l4 : Nat → (List S169) → Int → Int → (List S169) → Int → Int → Int → Int → Int → Bool → Bool → ByteArray → Int → Option Int
 | 0, _, _, _, _, _, _, _, _, _, _, _, _, _ => none
 | k + 1, x0, x1, x10, x28, x29, x30, x66, x67, x7_0, x7_1, x7_2, x7_3, x7_4 => if x67 < x66 then (if 0 ≤ x10 then (if x10 < (x0.length : Int) then ((expr_of.f ((rd_T169 x0 x10).f0)).bind fun t3 => (if t3.2.1 = x7_2 then ((expr_End.f k x0 x10).bind fun t4 => (expr_Right.l4 k x0 x1 t4 x28 x29 x30 x66 (w64 (x67 + 1)) x7_0 x7_1 x7_2 x7_3 x7_4)) else (some 121))) else (none)) else (none)) else (expr_Right.l1 k x0 x1 x28 x29 (w64 (x30 + 1)))
end
def expr_Right.f (k : Nat) (a0 : List S169) (a1 : Int) : Option Int := if (a0.length : Int) = 0 then (some 121) else (if (a0.length : Int) > 64 then (some 121) else ((expr_End.f k a0 0).bind fun t1 => (if t1 = (a0.length : Int) then (expr_Right.j0 k a0 a1) else (some 121))))
def expr_Right.ce (k : Nat) : CallE := ⟨[⟨false, (.list T169)⟩, ⟨false, (.int .i64)⟩], [⟨false, [.v (.int .i64)]⟩], fun (x : (List S169) × Int) => expr_Right.f k x.1 x.2⟩
def expr_Right.F : Fam (RT.dens (expr_Right.ce 0).rts) := ⟨fun k => ⟨TT0, GL0, callT [(100, [], expr_End.ce k), (101, [], expr_of.ce)], cmpT CM0, [], BLD0⟩, [(1000004, ⟨⟨[(0, .v false (.list T169)), (1, .v false (.int .i64))], []⟩, fun k s => expr_Right.j0 k s.1.1 s.1.2.1⟩), (5, ⟨⟨[(0, .v false (.list T169)), (1, .v false (.int .i64)), (28, .v false (.list T169)), (29, .v false (.int .i64)), (30, .v false (.int .i64))], []⟩, fun k s => expr_Right.l1 k s.1.1 s.1.2.1 s.1.2.2.1 s.1.2.2.2.1 s.1.2.2.2.2.1⟩), (1000014, ⟨⟨[(0, .v false (.list T169)), (1, .v false (.int .i64)), (5, .v false (.int .i64)), (6, .k (.ptr 384 0)), (7, .k (.ptr 448 0)), (8, .v false .bool), (9, .v false (.int .i64)), (28, .v false (.list T169)), (29, .v false (.int .i64)), (30, .v false (.int .i64))], [(384, [.v (.int .u8), .v (.int .i64)]), (448, [.v (.int .i64), .v .bool, .v .bool, .v .str, .v (.int .i64)])]⟩, fun k s => expr_Right.j2 k s.1.1 s.1.2.1 s.1.2.2.1 s.1.2.2.2.1 s.1.2.2.2.2.1 s.1.2.2.2.2.2.1 s.1.2.2.2.2.2.2.1 s.1.2.2.2.2.2.2.2.1 s.2.1.1 s.2.1.2.1 s.2.2.1.1 s.2.2.1.2.1 s.2.2.1.2.2.1 s.2.2.1.2.2.2.1 s.2.2.1.2.2.2.2.1⟩), (1000016, ⟨⟨[(0, .v false (.list T169)), (1, .v false (.int .i64)), (5, .v false (.int .i64)), (7, .k (.ptr 448 0)), (28, .v false (.list T169)), (29, .v false (.int .i64)), (30, .v false (.int .i64))], [(448, [.v (.int .i64), .v .bool, .v .bool, .v .str, .v (.int .i64)])]⟩, fun k s => expr_Right.j3 k s.1.1 s.1.2.1 s.1.2.2.1 s.1.2.2.2.1 s.1.2.2.2.2.1 s.1.2.2.2.2.2.1 s.2.1.1 s.2.1.2.1 s.2.1.2.2.1 s.2.1.2.2.2.1 s.2.1.2.2.2.2.1⟩), (18, ⟨⟨[(0, .v false (.list T169)), (1, .v false (.int .i64)), (7, .k (.ptr 448 0)), (10, .v false (.int .i64)), (28, .v false (.list T169)), (29, .v false (.int .i64)), (30, .v false (.int .i64)), (66, .v false (.int .i64)), (67, .v false (.int .i64))], [(448, [.v (.int .i64), .v .bool, .v .bool, .v .str, .v (.int .i64)])]⟩, fun k s => expr_Right.l4 k s.1.1 s.1.2.1 s.1.2.2.1 s.1.2.2.2.1 s.1.2.2.2.2.1 s.1.2.2.2.2.2.1 s.1.2.2.2.2.2.2.1 s.1.2.2.2.2.2.2.2.1 s.2.1.1 s.2.1.2.1 s.2.1.2.2.1 s.2.1.2.2.2.1 s.2.1.2.2.2.2.1⟩)]⟩
theorem expr_Right.is (k : Nat) (x : AT.dens (expr_Right.ce 0).ats) : (expr_Right.ce k).fn x = den expr_Right.F k (bodyOf Tryz.f87) (startAS (expr_Right.ce 0).ats x) (retK (expr_Right.F.c k) Tryz.f87.results.toList (expr_Right.ce 0).rts) := by kernel_rfl
theorem expr_Right.ob : Obl expr_Right.F (bodyOf Tryz.f87) (fun k => retK (expr_Right.F.c k) Tryz.f87.results.toList (expr_Right.ce 0).rts) := obl_of (by kernel_rfl)
/-! ### expr_IsTruth: function 88 -/
def expr_IsTruth.f (a0 : List S169) : Option Bool := if (a0.length : Int) = 0 then (some false) else (if 0 ≤ 0 then (if 0 < (a0.length : Int) then ((expr_of.f ((rd_T169 a0 0).f0)).bind fun t1 => (some t1.2.1)) else (none)) else (none))
def expr_IsTruth.ce : CallE := ⟨[⟨false, (.list T169)⟩], [⟨false, [.v .bool]⟩], fun (x : (List S169)) => expr_IsTruth.f x⟩
def expr_IsTruth.F : Fam (RT.dens (expr_IsTruth.ce).rts) := ⟨fun k => ⟨TT0, GL0, callT [(101, [], expr_of.ce)], cmpT CM0, [], BLD0⟩, []⟩
theorem expr_IsTruth.is (k : Nat) (x : AT.dens (expr_IsTruth.ce).ats) : (expr_IsTruth.ce).fn x = den expr_IsTruth.F k (bodyOf Tryz.f88) (startAS (expr_IsTruth.ce).ats x) (retK (expr_IsTruth.F.c k) Tryz.f88.results.toList (expr_IsTruth.ce).rts) := by kernel_rfl
theorem expr_IsTruth.ob : Obl expr_IsTruth.F (bodyOf Tryz.f88) (fun k => retK (expr_IsTruth.F.c k) Tryz.f88.results.toList (expr_IsTruth.ce).rts) := obl_of (by kernel_rfl)
/-! ### net_truth: function 86 -/
def net_truth.f (k : Nat) (l0_0 : List ByteArray) (l0_1 : List S140) (l0_2 : List ByteArray) (l0_3 : List S82) (a1 : List S169) : Option Int := if (a1.length : Int) > 0 then ((expr_Right.f k a1 (l0_1.length : Int)).bind fun t1 => (if t1 = 0 then ((expr_IsTruth.f a1).bind fun t2 => (if (!t2) = true then (some 121) else (some 0))) else (some 121))) else (some 0)
def net_truth.ce (k : Nat) : CallE := ⟨[⟨true, T48⟩, ⟨false, (.list T169)⟩], [⟨false, [.v (.int .i64)]⟩], fun (x : S48 × (List S169)) => net_truth.f k x.1.f0 x.1.f1 x.1.f2 x.1.f3 x.2⟩
def net_truth.F : Fam (RT.dens (net_truth.ce 0).rts) := ⟨fun k => ⟨TT0, GL0, callT [(87, [], expr_Right.ce k), (88, [], expr_IsTruth.ce)], cmpT CM0, [], BLD0⟩, []⟩
theorem net_truth.is (k : Nat) (x : AT.dens (net_truth.ce 0).ats) : (net_truth.ce k).fn x = den net_truth.F k (bodyOf Tryz.f86) (startAS (net_truth.ce 0).ats x) (retK (net_truth.F.c k) Tryz.f86.results.toList (net_truth.ce 0).rts) := by kernel_rfl
theorem net_truth.ob : Obl net_truth.F (bodyOf Tryz.f86) (fun k => retK (net_truth.F.c k) Tryz.f86.results.toList (net_truth.ce 0).rts) := obl_of (by kernel_rfl)
/-! ### net_tests: function 65 -/
mutual
def net_tests.l0 : Nat → (List S82) → Int → Int → (List ByteArray) → (List S140) → (List ByteArray) → (List S82) → Option Int
 | 0, _, _, _, _, _, _, _ => none
 | k + 1, x11, x12, x13, x1_0, x1_1, x1_2, x1_3 => if x13 < x12 then (if 0 ≤ x13 then (if x13 < (x11.length : Int) then (net_tests.l1 k x11 x12 x13 ((rd_T82 x11 x13).f2) (((rd_T82 x11 x13).f2).length : Int) 0 x1_0 x1_1 x1_2 x1_3) else (none)) else (none)) else ((net_sets.f k x1_0 x1_1 x1_2 x1_3).bind fun t2 => (net_tests.l2 k t2 (t2.length : Int) 0 x1_0 x1_1 x1_2 x1_3))
def net_tests.l1 : Nat → (List S82) → Int → Int → (List S79) → Int → Int → (List ByteArray) → (List S140) → (List ByteArray) → (List S82) → Option Int
 | 0, _, _, _, _, _, _, _, _, _, _ => none
 | k + 1, x11, x12, x13, x18, x19, x20, x1_0, x1_1, x1_2, x1_3 => if x20 < x19 then (if 0 ≤ x20 then (if x20 < (x18.length : Int) then ((net_truth.f k x1_0 x1_1 x1_2 x1_3 ((rd_T79 x18 x20).f3)).bind fun t1 => (if t1 = 0 then (net_tests.l1 k x11 x12 x13 x18 x19 (w64 (x20 + 1)) x1_0 x1_1 x1_2 x1_3) else (some t1))) else (none)) else (none)) else (net_tests.l0 k x11 x12 (w64 (x13 + 1)) x1_0 x1_1 x1_2 x1_3)
def net_tests.l2 : Nat → (List S135) → Int → Int → (List ByteArray) → (List S140) → (List ByteArray) → (List S82) → Option Int
 | 0, _, _, _, _, _, _, _ => none
 | k + 1, x34, x35, x36, x1_0, x1_1, x1_2, x1_3 => if x36 < x35 then (if 0 ≤ x36 then (if x36 < (x34.length : Int) then (if ((rd_T135 x34 x36).f0) = 0 then (if ((rd_T135 x34 x36).f2) < 0 then (some 121) else (if ((rd_T135 x34 x36).f2) ≥ (x1_1.length : Int) then (some 121) else ((expr_Right.f k ((rd_T135 x34 x36).f3) (x1_1.length : Int)).bind fun t3 => (if t3 = 0 then ((expr_IsTruth.f ((rd_T135 x34 x36).f3)).bind fun t4 => (if t4 = true then (some 121) else (net_tests.l2 k x34 x35 (w64 (x36 + 1)) x1_0 x1_1 x1_2 x1_3))) else (some 121))))) else (net_tests.l2 k x34 x35 (w64 (x36 + 1)) x1_0 x1_1 x1_2 x1_3)) else (none)) else (none)) else (some 0)
end
def net_tests.f (k : Nat) (l0_0 : List ByteArray) (l0_1 : List S140) (l0_2 : List ByteArray) (l0_3 : List S82) : Option Int := net_tests.l0 k l0_3 (l0_3.length : Int) 0 l0_0 l0_1 l0_2 l0_3
def net_tests.ce (k : Nat) : CallE := ⟨[⟨true, T48⟩], [⟨false, [.v (.int .i64)]⟩], fun (x : S48) => net_tests.f k x.f0 x.f1 x.f2 x.f3⟩
def net_tests.F : Fam (RT.dens (net_tests.ce 0).rts) := ⟨fun k => ⟨TT0, GL0, callT [(83, [], net_sets.ce k), (86, [], net_truth.ce k), (87, [], expr_Right.ce k), (88, [], expr_IsTruth.ce)], cmpT CM0, [], BLD0⟩, [(3, ⟨⟨[(1, .k (.ptr 64 0)), (11, .v false (.list T82)), (12, .v false (.int .i64)), (13, .v false (.int .i64))], [(64, [.v (.list .str), .v (.list T140), .v (.list .str), .v (.list T82)])]⟩, fun k s => net_tests.l0 k s.1.1 s.1.2.1 s.1.2.2.1 s.2.1.1 s.2.1.2.1 s.2.1.2.2.1 s.2.1.2.2.2.1⟩), (6, ⟨⟨[(1, .k (.ptr 64 0)), (11, .v false (.list T82)), (12, .v false (.int .i64)), (13, .v false (.int .i64)), (18, .v false (.list T79)), (19, .v false (.int .i64)), (20, .v false (.int .i64))], [(64, [.v (.list .str), .v (.list T140), .v (.list .str), .v (.list T82)])]⟩, fun k s => net_tests.l1 k s.1.1 s.1.2.1 s.1.2.2.1 s.1.2.2.2.1 s.1.2.2.2.2.1 s.1.2.2.2.2.2.1 s.2.1.1 s.2.1.2.1 s.2.1.2.2.1 s.2.1.2.2.2.1⟩), (14, ⟨⟨[(1, .k (.ptr 64 0)), (34, .o 135 T135), (35, .v false (.int .i64)), (36, .v false (.int .i64))], [(64, [.v (.list .str), .v (.list T140), .v (.list .str), .v (.list T82)])]⟩, fun k s => net_tests.l2 k s.1.1 s.1.2.1 s.1.2.2.1 s.2.1.1 s.2.1.2.1 s.2.1.2.2.1 s.2.1.2.2.2.1⟩)]⟩
theorem net_tests.is (k : Nat) (x : AT.dens (net_tests.ce 0).ats) : (net_tests.ce k).fn x = den net_tests.F k (bodyOf Tryz.f65) (startAS (net_tests.ce 0).ats x) (retK (net_tests.F.c k) Tryz.f65.results.toList (net_tests.ce 0).rts) := by kernel_rfl
theorem net_tests.ob : Obl net_tests.F (bodyOf Tryz.f65) (fun k => retK (net_tests.F.c k) Tryz.f65.results.toList (net_tests.ce 0).rts) := obl_of (by kernel_rfl)
/-! ### net_Whole: function 41 -/
def net_Whole.l0 : Nat → (List DA0) → Int → Int → (List ByteArray) → (List S140) → (List ByteArray) → (List S82) → Option Int
 | 0, _, _, _, _, _, _, _ => none
 | k + 1, x8, x9, x10, x1_0, x1_1, x1_2, x1_3 => if x10 < x9 then (if 0 ≤ x10 then (if x10 < (x8.length : Int) then ((Sum.elim (fun (_ : Bool) => net_some.f k x1_0 x1_1 x1_2 x1_3) (Sum.elim (fun (_ : Bool) => net_sizes.f k x1_0 x1_1 x1_2 x1_3) (Sum.elim (fun (_ : Bool) => net_names.f k x1_0 x1_1 x1_2 x1_3) (Sum.elim (fun (_ : Bool) => net_vars.f k x1_0 x1_1 x1_2 x1_3) (Sum.elim (fun (_ : Bool) => net_locs.f k x1_0 x1_1 x1_2 x1_3) (Sum.elim (fun (_ : Bool) => net_edges.f k x1_0 x1_1 x1_2 x1_3) (Sum.elim (fun (_ : Bool) => net_clocks.f k x1_0 x1_1 x1_2 x1_3) (Sum.elim (fun (_ : Bool) => net_forms.f k x1_0 x1_1 x1_2 x1_3) (Sum.elim (fun (_ : Bool) => net_tests.f k x1_0 x1_1 x1_2 x1_3) (fun _ => none))))))))) (rdT A0 x8 x10)).bind fun t1 => (if t1 = 0 then (net_Whole.l0 k x8 x9 (w64 (x10 + 1)) x1_0 x1_1 x1_2 x1_3) else (some t1))) else (none)) else (none)) else (some 0)
def net_Whole.f (k : Nat) (l0_0 : List ByteArray) (l0_1 : List S140) (l0_2 : List ByteArray) (l0_3 : List S82) : Option Int := net_Whole.l0 k ([(Sum.inl false), (Sum.inr (Sum.inl false)), (Sum.inr (Sum.inr (Sum.inl false))), (Sum.inr (Sum.inr (Sum.inr (Sum.inl false)))), (Sum.inr (Sum.inr (Sum.inr (Sum.inr (Sum.inl false))))), (Sum.inr (Sum.inr (Sum.inr (Sum.inr (Sum.inr (Sum.inl false)))))), (Sum.inr (Sum.inr (Sum.inr (Sum.inr (Sum.inr (Sum.inr (Sum.inl false))))))), (Sum.inr (Sum.inr (Sum.inr (Sum.inr (Sum.inr (Sum.inr (Sum.inr (Sum.inl false)))))))), (Sum.inr (Sum.inr (Sum.inr (Sum.inr (Sum.inr (Sum.inr (Sum.inr (Sum.inr (Sum.inl false)))))))))] : List DA0) (([(Sum.inl false), (Sum.inr (Sum.inl false)), (Sum.inr (Sum.inr (Sum.inl false))), (Sum.inr (Sum.inr (Sum.inr (Sum.inl false)))), (Sum.inr (Sum.inr (Sum.inr (Sum.inr (Sum.inl false))))), (Sum.inr (Sum.inr (Sum.inr (Sum.inr (Sum.inr (Sum.inl false)))))), (Sum.inr (Sum.inr (Sum.inr (Sum.inr (Sum.inr (Sum.inr (Sum.inl false))))))), (Sum.inr (Sum.inr (Sum.inr (Sum.inr (Sum.inr (Sum.inr (Sum.inr (Sum.inl false)))))))), (Sum.inr (Sum.inr (Sum.inr (Sum.inr (Sum.inr (Sum.inr (Sum.inr (Sum.inr (Sum.inl false)))))))))] : List DA0).length : Int) 0 l0_0 l0_1 l0_2 l0_3
def net_Whole.ce (k : Nat) : CallE := ⟨[⟨true, T48⟩], [⟨false, [.v (.int .i64)]⟩], fun (x : S48) => net_Whole.f k x.f0 x.f1 x.f2 x.f3⟩
def net_Whole.F : Fam (RT.dens (net_Whole.ce 0).rts) := ⟨fun k => ⟨TT0, GL0, callT [(57, [], net_some.ce k), (58, [], net_sizes.ce k), (59, [], net_names.ce k), (60, [], net_vars.ce k), (61, [], net_locs.ce k), (62, [], net_edges.ce k), (63, [], net_clocks.ce k), (64, [], net_forms.ce k), (65, [], net_tests.ce k)], cmpT CM0, [], BLD0⟩, [(4, ⟨⟨[(1, .k (.ptr 64 0)), (8, .o 103 A0), (9, .v false (.int .i64)), (10, .v false (.int .i64))], [(64, [.v (.list .str), .v (.list T140), .v (.list .str), .v (.list T82)])]⟩, fun k s => net_Whole.l0 k s.1.1 s.1.2.1 s.1.2.2.1 s.2.1.1 s.2.1.2.1 s.2.1.2.2.1 s.2.1.2.2.2.1⟩)]⟩
theorem net_Whole.is (k : Nat) (x : AT.dens (net_Whole.ce 0).ats) : (net_Whole.ce k).fn x = den net_Whole.F k (bodyOf Tryz.f41) (startAS (net_Whole.ce 0).ats x) (retK (net_Whole.F.c k) Tryz.f41.results.toList (net_Whole.ce 0).rts) := by kernel_rfl
theorem net_Whole.ob : Obl net_Whole.F (bodyOf Tryz.f41) (fun k => retK (net_Whole.F.c k) Tryz.f41.results.toList (net_Whole.ce 0).rts) := obl_of (by kernel_rfl)
/-! ### net_Right: function 27 -/
def net_Right.f (k : Nat) (l0_0 : List ByteArray) (l0_1 : List S140) (l0_2 : List ByteArray) (l0_3 : List S82) : Option Bool := (net_Whole.f k l0_0 l0_1 l0_2 l0_3).bind fun t1 => (some (decide (t1 = 0)))
def net_Right.ce (k : Nat) : CallE := ⟨[⟨true, T48⟩], [⟨false, [.v .bool]⟩], fun (x : S48) => net_Right.f k x.f0 x.f1 x.f2 x.f3⟩
def net_Right.F : Fam (RT.dens (net_Right.ce 0).rts) := ⟨fun k => ⟨TT0, GL0, callT [(41, [], net_Whole.ce k)], cmpT CM0, [], BLD0⟩, []⟩
theorem net_Right.is (k : Nat) (x : AT.dens (net_Right.ce 0).ats) : (net_Right.ce k).fn x = den net_Right.F k (bodyOf Tryz.f27) (startAS (net_Right.ce 0).ats x) (retK (net_Right.F.c k) Tryz.f27.results.toList (net_Right.ce 0).rts) := by kernel_rfl
theorem net_Right.ob : Obl net_Right.F (bodyOf Tryz.f27) (fun k => retK (net_Right.F.c k) Tryz.f27.results.toList (net_Right.ce 0).rts) := obl_of (by kernel_rfl)
/-! ### moves_edge: function 52 -/
def moves_edge.f (l0_0 : List ByteArray) (l0_1 : List S140) (l0_2 : List ByteArray) (l0_3 : List S82) (a1 : Int) (a2 : Int) : Option (Int × Int × (List S165) × (List S169) × Int × Bool × (List S135) × Bool) := if a1 < 0 then (some (0, 0, ([] : List S165), ([] : List S169), 0, false, ([] : List S135), false)) else (if a1 ≥ (l0_3.length : Int) then (some (0, 0, ([] : List S165), ([] : List S169), 0, false, ([] : List S135), false)) else (if a2 < 0 then (some (0, 0, ([] : List S165), ([] : List S169), 0, false, ([] : List S135), false)) else (if 0 ≤ a1 then (if a1 < (l0_3.length : Int) then (if a2 ≥ (((rd_T82 l0_3 a1).f2).length : Int) then (some (0, 0, ([] : List S165), ([] : List S169), 0, false, ([] : List S135), false)) else (if 0 ≤ a1 then (if a1 < (l0_3.length : Int) then (if 0 ≤ a2 then (if a2 < (((rd_T82 l0_3 a1).f2).length : Int) then (some ((rd_T79 ((rd_T82 l0_3 a1).f2) a2).f0, (rd_T79 ((rd_T82 l0_3 a1).f2) a2).f1, (rd_T79 ((rd_T82 l0_3 a1).f2) a2).f2, (rd_T79 ((rd_T82 l0_3 a1).f2) a2).f3, (rd_T79 ((rd_T82 l0_3 a1).f2) a2).f4, (rd_T79 ((rd_T82 l0_3 a1).f2) a2).f5, (rd_T79 ((rd_T82 l0_3 a1).f2) a2).f6, true)) else (none)) else (none)) else (none)) else (none))) else (none)) else (none))))
def moves_edge.ce : CallE := ⟨[⟨true, T48⟩, ⟨false, (.int .i64)⟩, ⟨false, (.int .i64)⟩], [⟨true, [.v (.int .i64), .v (.int .i64), .v (.list T165), .v (.list T169), .v (.int .i64), .v .bool, .v (.list T135)]⟩, ⟨false, [.v .bool]⟩], fun (x : S48 × Int × Int) => moves_edge.f x.1.f0 x.1.f1 x.1.f2 x.1.f3 x.2.1 x.2.2⟩
def moves_edge.F : Fam (RT.dens (moves_edge.ce).rts) := ⟨fun k => ⟨TT0, GL0, callT [], cmpT CM0, [], BLD0⟩, []⟩
theorem moves_edge.is (k : Nat) (x : AT.dens (moves_edge.ce).ats) : (moves_edge.ce).fn x = den moves_edge.F k (bodyOf Tryz.f52) (startAS (moves_edge.ce).ats x) (retK (moves_edge.F.c k) Tryz.f52.results.toList (moves_edge.ce).rts) := by kernel_rfl
theorem moves_edge.ob : Obl moves_edge.F (bodyOf Tryz.f52) (fun k => retK (moves_edge.F.c k) Tryz.f52.results.toList (moves_edge.ce).rts) := obl_of (by kernel_rfl)
/-! ### moves_sides: function 36 -/
def moves_sides.j0 : Nat → Int → Int → Int → Int → Int → Int → (List S165) → (List S169) → Int → Bool → (List S135) → Int → Int → (List S165) → (List S169) → Int → Bool → (List S135) → Option ((List S118) × Bool)
 | 0, _, _, _, _, _, _, _, _, _, _, _, _, _, _, _, _, _, _ => none
 | k + 1, x3_0, x3_1, x3_2, x3_3, x6_0, x6_1, x6_2, x6_3, x6_4, x6_5, x6_6, x8_0, x8_1, x8_2, x8_3, x8_4, x8_5, x8_6 => (some (([(⟨x3_0, (⟨x6_0, x6_1, x6_2, x6_3, x6_4, x6_5, x6_6⟩ : S79)⟩ : S118), (⟨w64 (x3_2 - 1), (⟨x8_0, x8_1, x8_2, x8_3, x8_4, x8_5, x8_6⟩ : S79)⟩ : S118)] : List S118), true))
def moves_sides.f (k : Nat) (l0_0 : List ByteArray) (l0_1 : List S140) (l0_2 : List ByteArray) (l0_3 : List S82) (l1_0 : Int) (l1_1 : Int) (l1_2 : Int) (l1_3 : Int) : Option ((List S118) × Bool) := (moves_edge.f l0_0 l0_1 l0_2 l0_3 l1_0 l1_1).bind fun t1 => (if (!t1.2.2.2.2.2.2.2) = true then (some (([] : List S118), false)) else (if l1_2 = 0 then (if t1.2.2.2.2.1 = 0 then (some (([(⟨l1_0, (⟨t1.1, t1.2.1, t1.2.2.1, t1.2.2.2.1, t1.2.2.2.2.1, t1.2.2.2.2.2.1, t1.2.2.2.2.2.2.1⟩ : S79)⟩ : S118)] : List S118), decide (l1_3 = 0))) else (some (([(⟨l1_0, (⟨t1.1, t1.2.1, t1.2.2.1, t1.2.2.2.1, t1.2.2.2.2.1, t1.2.2.2.2.2.1, t1.2.2.2.2.2.2.1⟩ : S79)⟩ : S118)] : List S118), false))) else ((moves_edge.f l0_0 l0_1 l0_2 l0_3 (w64 (l1_2 - 1)) l1_3).bind fun t2 => (if (!t2.2.2.2.2.2.2.2) = true then (some (([] : List S118), false)) else (if (w64 (l1_2 - 1)) = l1_0 then (some (([] : List S118), false)) else (if t1.2.2.2.2.1 = 0 then (some (([] : List S118), false)) else (if t1.2.2.2.2.1 = t2.2.2.2.2.1 then (if (!t1.2.2.2.2.2.1) = true then (some (([] : List S118), false)) else (if t2.2.2.2.2.2.1 = true then (some (([] : List S118), false)) else (moves_sides.j0 k l1_0 l1_1 l1_2 l1_3 t1.1 t1.2.1 t1.2.2.1 t1.2.2.2.1 t1.2.2.2.2.1 t1.2.2.2.2.2.1 t1.2.2.2.2.2.2.1 t2.1 t2.2.1 t2.2.2.1 t2.2.2.2.1 t2.2.2.2.2.1 t2.2.2.2.2.2.1 t2.2.2.2.2.2.2.1))) else (some (([] : List S118), false)))))))))
def moves_sides.ce (k : Nat) : CallE := ⟨[⟨true, T48⟩, ⟨true, T39⟩], [⟨false, [.o 118 T118]⟩, ⟨false, [.v .bool]⟩], fun (x : S48 × S39) => moves_sides.f k x.1.f0 x.1.f1 x.1.f2 x.1.f3 x.2.f0 x.2.f1 x.2.f2 x.2.f3⟩
def moves_sides.F : Fam (RT.dens (moves_sides.ce 0).rts) := ⟨fun k => ⟨TT0, GL0, callT [(52, [], moves_edge.ce)], cmpT CM0, [], BLD0⟩, [(1000010, ⟨⟨[(3, .k (.ptr 192 0)), (6, .k (.ptr 384 0)), (8, .k (.ptr 512 0))], [(192, [.v (.int .i64), .v (.int .i64), .v (.int .i64), .v (.int .i64)]), (384, [.v (.int .i64), .v (.int .i64), .v (.list T165), .v (.list T169), .v (.int .i64), .v .bool, .v (.list T135)]), (512, [.v (.int .i64), .v (.int .i64), .v (.list T165), .v (.list T169), .v (.int .i64), .v .bool, .v (.list T135)])]⟩, fun k s => moves_sides.j0 k s.2.1.1 s.2.1.2.1 s.2.1.2.2.1 s.2.1.2.2.2.1 s.2.2.1.1 s.2.2.1.2.1 s.2.2.1.2.2.1 s.2.2.1.2.2.2.1 s.2.2.1.2.2.2.2.1 s.2.2.1.2.2.2.2.2.1 s.2.2.1.2.2.2.2.2.2.1 s.2.2.2.1.1 s.2.2.2.1.2.1 s.2.2.2.1.2.2.1 s.2.2.2.1.2.2.2.1 s.2.2.2.1.2.2.2.2.1 s.2.2.2.1.2.2.2.2.2.1 s.2.2.2.1.2.2.2.2.2.2.1⟩)]⟩
theorem moves_sides.is (k : Nat) (x : AT.dens (moves_sides.ce 0).ats) : (moves_sides.ce k).fn x = den moves_sides.F k (bodyOf Tryz.f36) (startAS (moves_sides.ce 0).ats x) (retK (moves_sides.F.c k) Tryz.f36.results.toList (moves_sides.ce 0).rts) := by kernel_rfl
theorem moves_sides.ob : Obl moves_sides.F (bodyOf Tryz.f36) (fun k => retK (moves_sides.F.c k) Tryz.f36.results.toList (moves_sides.ce 0).rts) := obl_of (by kernel_rfl)
/-! ### moves_Print: function 23 -/
def moves_Print.l0 : Nat → (List ByteArray) → (List S39) → Int → Int → (List ByteArray) → (List S140) → (List ByteArray) → (List S82) → Option (ByteArray × Int)
 | 0, _, _, _, _, _, _, _, _ => none
 | k + 1, x6, x15, x16, x17, x2_0, x2_1, x2_2, x2_3 => if x17 < x16 then (if 0 ≤ x17 then (if x17 < (x15.length : Int) then ((moves_sides.f k x2_0 x2_1 x2_2 x2_3 ((rd_T39 x15 x17).f0) ((rd_T39 x15 x17).f1) ((rd_T39 x15 x17).f2) ((rd_T39 x15 x17).f3)).bind fun t2 => (if (!t2.2) = true then (some ((⟨#[]⟩ : ByteArray), 213)) else (if 0 ≤ (rd_T39 x15 x17).f0 then (if (rd_T39 x15 x17).f0 < (x2_3.length : Int) then (if ((rd_T82 x2_3 ((rd_T39 x15 x17).f0)).f0).size + (⟨#[46]⟩ : ByteArray).size ≤ 9223372036854775807 then ((strconv_Itoa.f ((rd_T39 x15 x17).f1)).bind fun t3 => (if (((rd_T82 x2_3 ((rd_T39 x15 x17).f0)).f0) ++ (⟨#[46]⟩ : ByteArray)).size + t3.size ≤ 9223372036854775807 then (if ((rd_T39 x15 x17).f2) > 0 then (if 0 ≤ w64 (((rd_T39 x15 x17).f2) - 1) then (if w64 (((rd_T39 x15 x17).f2) - 1) < (x2_3.length : Int) then (if (⟨#[32]⟩ : ByteArray).size + ((rd_T82 x2_3 (w64 (((rd_T39 x15 x17).f2) - 1))).f0).size ≤ 9223372036854775807 then (if ((⟨#[32]⟩ : ByteArray) ++ ((rd_T82 x2_3 (w64 (((rd_T39 x15 x17).f2) - 1))).f0)).size + (⟨#[46]⟩ : ByteArray).size ≤ 9223372036854775807 then ((strconv_Itoa.f ((rd_T39 x15 x17).f3)).bind fun t4 => (if (((⟨#[32]⟩ : ByteArray) ++ ((rd_T82 x2_3 (w64 (((rd_T39 x15 x17).f2) - 1))).f0)) ++ (⟨#[46]⟩ : ByteArray)).size + t4.size ≤ 9223372036854775807 then (if ((((rd_T82 x2_3 ((rd_T39 x15 x17).f0)).f0) ++ (⟨#[46]⟩ : ByteArray)) ++ t3).size + ((((⟨#[32]⟩ : ByteArray) ++ ((rd_T82 x2_3 (w64 (((rd_T39 x15 x17).f2) - 1))).f0)) ++ (⟨#[46]⟩ : ByteArray)) ++ t4).size ≤ 9223372036854775807 then (if x6.length < 8796093022208 then (moves_Print.l0 k (x6 ++ [(((((rd_T82 x2_3 ((rd_T39 x15 x17).f0)).f0) ++ (⟨#[46]⟩ : ByteArray)) ++ t3) ++ ((((⟨#[32]⟩ : ByteArray) ++ ((rd_T82 x2_3 (w64 (((rd_T39 x15 x17).f2) - 1))).f0)) ++ (⟨#[46]⟩ : ByteArray)) ++ t4))]) x15 x16 (w64 (x17 + 1)) x2_0 x2_1 x2_2 x2_3) else (none)) else (none)) else (none))) else (none)) else (none)) else (none)) else (none)) else (if x6.length < 8796093022208 then (moves_Print.l0 k (x6 ++ [((((rd_T82 x2_3 ((rd_T39 x15 x17).f0)).f0) ++ (⟨#[46]⟩ : ByteArray)) ++ t3)]) x15 x16 (w64 (x17 + 1)) x2_0 x2_1 x2_2 x2_3) else (none))) else (none))) else (none)) else (none)) else (none)))) else (none)) else (none)) else ((strings_Join.f x6 (⟨#[44, 32]⟩ : ByteArray)).bind fun t5 => (some (t5, 0)))
def moves_Print.f (k : Nat) (l0_0 : List ByteArray) (l0_1 : List S140) (l0_2 : List ByteArray) (l0_3 : List S82) (a1 : List S39) : Option (ByteArray × Int) := (net_Right.f k l0_0 l0_1 l0_2 l0_3).bind fun t1 => (if (!t1) = true then (some ((⟨#[]⟩ : ByteArray), 7)) else (moves_Print.l0 k ([] : List ByteArray) a1 (a1.length : Int) 0 l0_0 l0_1 l0_2 l0_3))
def moves_Print.ce (k : Nat) : CallE := ⟨[⟨true, T48⟩, ⟨false, (.list T39)⟩], [⟨false, [.v .str]⟩, ⟨false, [.v (.int .i64)]⟩], fun (x : S48 × (List S39)) => moves_Print.f k x.1.f0 x.1.f1 x.1.f2 x.1.f3 x.2⟩
def moves_Print.F : Fam (RT.dens (moves_Print.ce 0).rts) := ⟨fun k => ⟨TT0, GL0, callT [(27, [], net_Right.ce k), (36, [], moves_sides.ce k), (37, [], strconv_Itoa.ce), (38, [], strings_Join.ce)], cmpT CM0, [], BLD0⟩, [(6, ⟨⟨[(2, .k (.ptr 128 0)), (6, .o 9 .str), (15, .v false (.list T39)), (16, .v false (.int .i64)), (17, .v false (.int .i64))], [(128, [.v (.list .str), .v (.list T140), .v (.list .str), .v (.list T82)])]⟩, fun k s => moves_Print.l0 k s.1.1 s.1.2.1 s.1.2.2.1 s.1.2.2.2.1 s.2.1.1 s.2.1.2.1 s.2.1.2.2.1 s.2.1.2.2.2.1⟩)]⟩
theorem moves_Print.is (k : Nat) (x : AT.dens (moves_Print.ce 0).ats) : (moves_Print.ce k).fn x = den moves_Print.F k (bodyOf Tryz.f23) (startAS (moves_Print.ce 0).ats x) (retK (moves_Print.F.c k) Tryz.f23.results.toList (moves_Print.ce 0).rts) := by kernel_rfl
theorem moves_Print.ob : Obl moves_Print.F (bodyOf Tryz.f23) (fun k => retK (moves_Print.F.c k) Tryz.f23.results.toList (moves_Print.ce 0).rts) := obl_of (by kernel_rfl)
/-! ### run_Moves: function 28 -/
def run_Moves.l0 : Nat → (List S39) → (List S41) → Int → Int → Option (List S39)
 | 0, _, _, _, _ => none
 | k + 1, x3, x7, x8, x9 => if x9 < x8 then (if 0 ≤ x9 then (if x9 < (x7.length : Int) then (if x3.length < 4398046511104 then (run_Moves.l0 k (x3 ++ [((rd_T41 x7 x9).f1)]) x7 x8 (w64 (x9 + 1))) else (none)) else (none)) else (none)) else (some x3)
def run_Moves.f (k : Nat) (l0_0 : List S41) (l0_1 : S24) : Option (List S39) := run_Moves.l0 k ([] : List S39) l0_0 (l0_0.length : Int) 0
def run_Moves.ce (k : Nat) : CallE := ⟨[⟨true, T26⟩], [⟨false, [.o 39 T39]⟩], fun (x : S26) => run_Moves.f k x.f0 x.f1⟩
def run_Moves.F : Fam (RT.dens (run_Moves.ce 0).rts) := ⟨fun k => ⟨TT0, GL0, callT [], cmpT CM0, [], BLD0⟩, [(4, ⟨⟨[(3, .o 39 T39), (7, .v false (.list T41)), (8, .v false (.int .i64)), (9, .v false (.int .i64))], []⟩, fun k s => run_Moves.l0 k s.1.1 s.1.2.1 s.1.2.2.1 s.1.2.2.2.1⟩)]⟩
theorem run_Moves.is (k : Nat) (x : AT.dens (run_Moves.ce 0).ats) : (run_Moves.ce k).fn x = den run_Moves.F k (bodyOf Tryz.f28) (startAS (run_Moves.ce 0).ats x) (retK (run_Moves.F.c k) Tryz.f28.results.toList (run_Moves.ce 0).rts) := by kernel_rfl
theorem run_Moves.ob : Obl run_Moves.F (bodyOf Tryz.f28) (fun k => retK (run_Moves.F.c k) Tryz.f28.results.toList (run_Moves.ce 0).rts) := obl_of (by kernel_rfl)
/-! ### run_Right_1: function 29 -/
def run_Right_1.f (k : Nat) (l0_0 : Int) (l0_1 : Int) : Option Bool := (run_isDelay.f k l0_0 l0_1).bind fun t1 => (some (!t1))
def run_Right_1.ce (k : Nat) : CallE := ⟨[⟨true, T24⟩], [⟨false, [.v .bool]⟩], fun (x : S24) => run_Right_1.f k x.f0 x.f1⟩
def run_Right_1.F : Fam (RT.dens (run_Right_1.ce 0).rts) := ⟨fun k => ⟨TT0, GL0, callT [(21, [], run_isDelay.ce k)], cmpT CM0, [], BLD0⟩, []⟩
theorem run_Right_1.is (k : Nat) (x : AT.dens (run_Right_1.ce 0).ats) : (run_Right_1.ce k).fn x = den run_Right_1.F k (bodyOf Tryz.f29) (startAS (run_Right_1.ce 0).ats x) (retK (run_Right_1.F.c k) Tryz.f29.results.toList (run_Right_1.ce 0).rts) := by kernel_rfl
theorem run_Right_1.ob : Obl run_Right_1.F (bodyOf Tryz.f29) (fun k => retK (run_Right_1.F.c k) Tryz.f29.results.toList (run_Right_1.ce 0).rts) := obl_of (by kernel_rfl)
/-! ### slices_IndexFunc_api_Rat_api_Rat_at29: function 30 -/
def slices_IndexFunc_api_Rat_api_Rat_at29.l0 : Nat → (List S24) → Bool → Int → Int → Option Int
 | 0, _, _, _, _ => none
 | k + 1, x0, x1, x7, x8 => if x8 < x7 then (if 0 ≤ x8 then (if x8 < (x0.length : Int) then ((run_Right_1.f k ((rd_T24 x0 x8).f0) ((rd_T24 x0 x8).f1)).bind fun t1 => (if t1 = true then (some x8) else (slices_IndexFunc_api_Rat_api_Rat_at29.l0 k x0 x1 x7 (w64 (x8 + 1))))) else (none)) else (none)) else (some (-1))
def slices_IndexFunc_api_Rat_api_Rat_at29.f (k : Nat) (a0 : List S24) (a1 : Bool) : Option Int := slices_IndexFunc_api_Rat_api_Rat_at29.l0 k a0 a1 (a0.length : Int) 0
def slices_IndexFunc_api_Rat_api_Rat_at29.ce (k : Nat) : CallE := ⟨[⟨false, (.list T24)⟩, ⟨false, (.fn 29 [] .bool)⟩], [⟨false, [.v (.int .i64)]⟩], fun (x : (List S24) × Bool) => slices_IndexFunc_api_Rat_api_Rat_at29.f k x.1 x.2⟩
def slices_IndexFunc_api_Rat_api_Rat_at29.F : Fam (RT.dens (slices_IndexFunc_api_Rat_api_Rat_at29.ce 0).rts) := ⟨fun k => ⟨TT0, GL0, callT [(29, [], run_Right_1.ce k)], cmpT CM0, [], BLD0⟩, [(3, ⟨⟨[(0, .v false (.list T24)), (1, .v false (.fn 29 [] .bool)), (7, .v false (.int .i64)), (8, .v false (.int .i64))], []⟩, fun k s => slices_IndexFunc_api_Rat_api_Rat_at29.l0 k s.1.1 s.1.2.1 s.1.2.2.1 s.1.2.2.2.1⟩)]⟩
theorem slices_IndexFunc_api_Rat_api_Rat_at29.is (k : Nat) (x : AT.dens (slices_IndexFunc_api_Rat_api_Rat_at29.ce 0).ats) : (slices_IndexFunc_api_Rat_api_Rat_at29.ce k).fn x = den slices_IndexFunc_api_Rat_api_Rat_at29.F k (bodyOf Tryz.f30) (startAS (slices_IndexFunc_api_Rat_api_Rat_at29.ce 0).ats x) (retK (slices_IndexFunc_api_Rat_api_Rat_at29.F.c k) Tryz.f30.results.toList (slices_IndexFunc_api_Rat_api_Rat_at29.ce 0).rts) := by kernel_rfl
theorem slices_IndexFunc_api_Rat_api_Rat_at29.ob : Obl slices_IndexFunc_api_Rat_api_Rat_at29.F (bodyOf Tryz.f30) (fun k => retK (slices_IndexFunc_api_Rat_api_Rat_at29.F.c k) Tryz.f30.results.toList (slices_IndexFunc_api_Rat_api_Rat_at29.ce 0).rts) := obl_of (by kernel_rfl)
/-! ### slices_ContainsFunc_api_Rat_api_Rat_at29: function 19 -/
def slices_ContainsFunc_api_Rat_api_Rat_at29.f (k : Nat) (a0 : List S24) (a1 : Bool) : Option Bool := (slices_IndexFunc_api_Rat_api_Rat_at29.f k a0 a1).bind fun t1 => (some (decide (t1 ≥ 0)))
def slices_ContainsFunc_api_Rat_api_Rat_at29.ce (k : Nat) : CallE := ⟨[⟨false, (.list T24)⟩, ⟨false, (.fn 29 [] .bool)⟩], [⟨false, [.v .bool]⟩], fun (x : (List S24) × Bool) => slices_ContainsFunc_api_Rat_api_Rat_at29.f k x.1 x.2⟩
def slices_ContainsFunc_api_Rat_api_Rat_at29.F : Fam (RT.dens (slices_ContainsFunc_api_Rat_api_Rat_at29.ce 0).rts) := ⟨fun k => ⟨TT0, GL0, callT [(30, [29], slices_IndexFunc_api_Rat_api_Rat_at29.ce k)], cmpT CM0, [], BLD0⟩, []⟩
theorem slices_ContainsFunc_api_Rat_api_Rat_at29.is (k : Nat) (x : AT.dens (slices_ContainsFunc_api_Rat_api_Rat_at29.ce 0).ats) : (slices_ContainsFunc_api_Rat_api_Rat_at29.ce k).fn x = den slices_ContainsFunc_api_Rat_api_Rat_at29.F k (bodyOf Tryz.f19) (startAS (slices_ContainsFunc_api_Rat_api_Rat_at29.ce 0).ats x) (retK (slices_ContainsFunc_api_Rat_api_Rat_at29.F.c k) Tryz.f19.results.toList (slices_ContainsFunc_api_Rat_api_Rat_at29.ce 0).rts) := by kernel_rfl
theorem slices_ContainsFunc_api_Rat_api_Rat_at29.ob : Obl slices_ContainsFunc_api_Rat_api_Rat_at29.F (bodyOf Tryz.f19) (fun k => retK (slices_ContainsFunc_api_Rat_api_Rat_at29.F.c k) Tryz.f19.results.toList (slices_ContainsFunc_api_Rat_api_Rat_at29.ce 0).rts) := obl_of (by kernel_rfl)
/-! ### run_Right: function 14 -/
def run_Right.f (k : Nat) (l0_0 : List ByteArray) (l0_1 : List S140) (l0_2 : List ByteArray) (l0_3 : List S82) (l1_0 : List S41) (l1_1 : S24) : Option Int := (net_Right.f k l0_0 l0_1 l0_2 l0_3).bind fun t1 => (if (!t1) = true then (some 7) else (if (l1_0.length : Int) > 4096 then (some 6) else ((run_Moves.f k l1_0 l1_1).bind fun t2 => ((moves_Print.f k l0_0 l0_1 l0_2 l0_3 t2).bind fun t3 => (if t3.2 = 0 then ((run_delays.f k l1_0 l1_1).bind fun t4 => ((slices_ContainsFunc_api_Rat_api_Rat_at29.f k t4 false).bind fun t5 => (if t5 = true then (some 210) else (some 0)))) else (some t3.2))))))
def run_Right.ce (k : Nat) : CallE := ⟨[⟨true, T48⟩, ⟨true, T26⟩], [⟨false, [.v (.int .i64)]⟩], fun (x : S48 × S26) => run_Right.f k x.1.f0 x.1.f1 x.1.f2 x.1.f3 x.2.f0 x.2.f1⟩
def run_Right.F : Fam (RT.dens (run_Right.ce 0).rts) := ⟨fun k => ⟨TT0, GL0, callT [(18, [], run_delays.ce k), (19, [29], slices_ContainsFunc_api_Rat_api_Rat_at29.ce k), (23, [], moves_Print.ce k), (27, [], net_Right.ce k), (28, [], run_Moves.ce k)], cmpT CM0, [], BLD0⟩, []⟩
theorem run_Right.is (k : Nat) (x : AT.dens (run_Right.ce 0).ats) : (run_Right.ce k).fn x = den run_Right.F k (bodyOf Tryz.f14) (startAS (run_Right.ce 0).ats x) (retK (run_Right.F.c k) Tryz.f14.results.toList (run_Right.ce 0).rts) := by kernel_rfl
theorem run_Right.ob : Obl run_Right.F (bodyOf Tryz.f14) (fun k => retK (run_Right.F.c k) Tryz.f14.results.toList (run_Right.ce 0).rts) := obl_of (by kernel_rfl)
/-! ### strconv_FormatInt: function 40 -/
def strconv_FormatInt.f (a0 : Int) (a1 : Int) : Option ByteArray := (internal_strconv_FormatInt.f a0 a1).bind fun t1 => (some t1)
def strconv_FormatInt.ce : CallE := ⟨[⟨false, (.int .i64)⟩, ⟨false, (.int .i64)⟩], [⟨false, [.v .str]⟩], fun (x : Int × Int) => strconv_FormatInt.f x.1 x.2⟩
def strconv_FormatInt.F : Fam (RT.dens (strconv_FormatInt.ce).rts) := ⟨fun k => ⟨TT0, GL0, callT [(56, [], internal_strconv_FormatInt.ce)], cmpT CM0, [], BLD0⟩, []⟩
theorem strconv_FormatInt.is (k : Nat) (x : AT.dens (strconv_FormatInt.ce).ats) : (strconv_FormatInt.ce).fn x = den strconv_FormatInt.F k (bodyOf Tryz.f40) (startAS (strconv_FormatInt.ce).ats x) (retK (strconv_FormatInt.F.c k) Tryz.f40.results.toList (strconv_FormatInt.ce).rts) := by kernel_rfl
theorem strconv_FormatInt.ob : Obl strconv_FormatInt.F (bodyOf Tryz.f40) (fun k => retK (strconv_FormatInt.F.c k) Tryz.f40.results.toList (strconv_FormatInt.ce).rts) := obl_of (by kernel_rfl)
/-! ### rat_Print: function 25 -/
def rat_Print.f (k : Nat) (l0_0 : Int) (l0_1 : Int) : Option ByteArray := (rat_Right.f k l0_0 l0_1).bind fun t1 => (if (!t1) = true then (some (⟨#[]⟩ : ByteArray)) else (if l0_1 = 1 then ((strconv_FormatInt.f l0_0 10).bind fun t2 => (some t2)) else ((strconv_FormatInt.f l0_0 10).bind fun t3 => (if t3.size + (⟨#[47]⟩ : ByteArray).size ≤ 9223372036854775807 then ((strconv_FormatInt.f l0_1 10).bind fun t4 => (if (t3 ++ (⟨#[47]⟩ : ByteArray)).size + t4.size ≤ 9223372036854775807 then (some ((t3 ++ (⟨#[47]⟩ : ByteArray)) ++ t4)) else (none))) else (none)))))
def rat_Print.ce (k : Nat) : CallE := ⟨[⟨true, T24⟩], [⟨false, [.v .str]⟩], fun (x : S24) => rat_Print.f k x.f0 x.f1⟩
def rat_Print.F : Fam (RT.dens (rat_Print.ce 0).rts) := ⟨fun k => ⟨TT0, GL0, callT [(31, [], rat_Right.ce k), (40, [], strconv_FormatInt.ce)], cmpT CM0, [], BLD0⟩, []⟩
theorem rat_Print.is (k : Nat) (x : AT.dens (rat_Print.ce 0).ats) : (rat_Print.ce k).fn x = den rat_Print.F k (bodyOf Tryz.f25) (startAS (rat_Print.ce 0).ats x) (retK (rat_Print.F.c k) Tryz.f25.results.toList (rat_Print.ce 0).rts) := by kernel_rfl
theorem rat_Print.ob : Obl rat_Print.F (bodyOf Tryz.f25) (fun k => retK (rat_Print.F.c k) Tryz.f25.results.toList (rat_Print.ce 0).rts) := obl_of (by kernel_rfl)
/-! ### run_Print: function 12 -/
def run_Print.l0 : Nat → (List S41) → Int → Int → (List ByteArray) → (List S140) → (List ByteArray) → (List S82) → (List S41) → Int → Int → (List Int) → Option (ByteArray × Int)
 | 0, _, _, _, _, _, _, _, _, _, _, _ => none
 | k + 1, x19, x20, x21, x2_0, x2_1, x2_2, x2_3, x3_0, x3_1, x3_2, x7_1 => if x21 < x20 then (if 0 ≤ x21 then (if x21 < (x19.length : Int) then ((moves_Print.f k x2_0 x2_1 x2_2 x2_3 ([((rd_T41 x19 x21).f1)] : List S39)).bind fun t2 => ((rat_Print.f k (((rd_T41 x19 x21).f0).f0) (((rd_T41 x19 x21).f0).f1)).bind fun t3 => (if t3.size + (⟨#[32]⟩ : ByteArray).size ≤ 9223372036854775807 then (if (t3 ++ (⟨#[32]⟩ : ByteArray)).size + t2.1.size ≤ 9223372036854775807 then (if ((t3 ++ (⟨#[32]⟩ : ByteArray)) ++ t2.1).size + (⟨#[10]⟩ : ByteArray).size ≤ 9223372036854775807 then ((if x7_1.length + (((t3 ++ (⟨#[32]⟩ : ByteArray)) ++ t2.1) ++ (⟨#[10]⟩ : ByteArray)).size ≤ 140737488355328 then some () else none).bind fun _ => (run_Print.l0 k x19 x20 (w64 (x21 + 1)) x2_0 x2_1 x2_2 x2_3 x3_0 x3_1 x3_2 (x7_1 ++ bytesOf (((t3 ++ (⟨#[32]⟩ : ByteArray)) ++ t2.1) ++ (⟨#[10]⟩ : ByteArray))))) else (none)) else (none)) else (none)))) else (none)) else (none)) else ((rat_Print.f k x3_1 x3_2).bind fun t4 => (if t4.size + (⟨#[32, 101, 110, 100, 10]⟩ : ByteArray).size ≤ 9223372036854775807 then ((if x7_1.length + (t4 ++ (⟨#[32, 101, 110, 100, 10]⟩ : ByteArray)).size ≤ 140737488355328 then some () else none).bind fun _ => ((if isBytes (x7_1 ++ bytesOf (t4 ++ (⟨#[32, 101, 110, 100, 10]⟩ : ByteArray))) = true then some () else none).bind fun _ => (some ((strOf (x7_1 ++ bytesOf (t4 ++ (⟨#[32, 101, 110, 100, 10]⟩ : ByteArray)))), 0)))) else (none)))
def run_Print.f (k : Nat) (l0_0 : List ByteArray) (l0_1 : List S140) (l0_2 : List ByteArray) (l0_3 : List S82) (l1_0 : List S41) (l1_1 : S24) : Option (ByteArray × Int) := (run_Right.f k l0_0 l0_1 l0_2 l0_3 l1_0 l1_1).bind fun t1 => (if t1 = 0 then (run_Print.l0 k l1_0 (l1_0.length : Int) 0 l0_0 l0_1 l0_2 l0_3 l1_0 l1_1.f0 l1_1.f1 ([] : List Int)) else (some ((⟨#[]⟩ : ByteArray), t1)))
def run_Print.ce (k : Nat) : CallE := ⟨[⟨true, T48⟩, ⟨true, T26⟩], [⟨false, [.v .str]⟩, ⟨false, [.v (.int .i64)]⟩], fun (x : S48 × S26) => run_Print.f k x.1.f0 x.1.f1 x.1.f2 x.1.f3 x.2.f0 x.2.f1⟩
def run_Print.F : Fam (RT.dens (run_Print.ce 0).rts) := ⟨fun k => ⟨TT0, GL0, callT [(14, [], run_Right.ce k), (23, [], moves_Print.ce k), (25, [], rat_Print.ce k)], cmpT CM0, [], BLD0⟩, [(7, ⟨⟨[(2, .k (.ptr 128 0)), (3, .k (.ptr 192 0)), (7, .k (.ptr 448 0)), (19, .v false (.list T41)), (20, .v false (.int .i64)), (21, .v false (.int .i64))], [(128, [.v (.list .str), .v (.list T140), .v (.list .str), .v (.list T82)]), (192, [.v (.list T41), .v (.int .i64), .v (.int .i64)]), (448, [.k (.sq 63 448), .o 5 (.int .u8)])]⟩, fun k s => run_Print.l0 k s.1.1 s.1.2.1 s.1.2.2.1 s.2.1.1 s.2.1.2.1 s.2.1.2.2.1 s.2.1.2.2.2.1 s.2.2.1.1 s.2.2.1.2.1 s.2.2.1.2.2.1 s.2.2.2.1.1⟩)]⟩
theorem run_Print.is (k : Nat) (x : AT.dens (run_Print.ce 0).ats) : (run_Print.ce k).fn x = den run_Print.F k (bodyOf Tryz.f12) (startAS (run_Print.ce 0).ats x) (retK (run_Print.F.c k) Tryz.f12.results.toList (run_Print.ce 0).rts) := by kernel_rfl
theorem run_Print.ob : Obl run_Print.F (bodyOf Tryz.f12) (fun k => retK (run_Print.F.c k) Tryz.f12.results.toList (run_Print.ce 0).rts) := obl_of (by kernel_rfl)
/-! ### gnomonlaw20_small: function 13 -/
def gnomonlaw20_small.f : Option ((List ByteArray) × (List S140) × (List ByteArray) × (List S82)) := (some (([] : List ByteArray), ([] : List S140), ([] : List ByteArray), ([(⟨(⟨#[65]⟩ : ByteArray), ([(⟨(⟨#[97]⟩ : ByteArray), 0, ([] : List S165)⟩ : S74)] : List S74), ([(⟨0, 0, ([] : List S165), ([] : List S169), 0, false, ([] : List S135)⟩ : S79)] : List S79)⟩ : S82)] : List S82)))
def gnomonlaw20_small.ce : CallE := ⟨[], [⟨true, [.o 9 .str, .o 140 T140, .o 9 .str, .o 82 T82]⟩], fun (x : Unit) => gnomonlaw20_small.f⟩
def gnomonlaw20_small.F : Fam (RT.dens (gnomonlaw20_small.ce).rts) := ⟨fun k => ⟨TT0, GL0, callT [], cmpT CM0, [], BLD0⟩, []⟩
theorem gnomonlaw20_small.is (k : Nat) (x : AT.dens (gnomonlaw20_small.ce).ats) : (gnomonlaw20_small.ce).fn x = den gnomonlaw20_small.F k (bodyOf Tryz.f13) (startAS (gnomonlaw20_small.ce).ats x) (retK (gnomonlaw20_small.F.c k) Tryz.f13.results.toList (gnomonlaw20_small.ce).rts) := by kernel_rfl
theorem gnomonlaw20_small.ob : Obl gnomonlaw20_small.F (bodyOf Tryz.f13) (fun k => retK (gnomonlaw20_small.F.c k) Tryz.f13.results.toList (gnomonlaw20_small.ce).rts) := obl_of (by kernel_rfl)
/-! ### gnomonlaw20_live: function 5 -/
def gnomonlaw20_live.f (k : Nat) : Option Bool := (gnomonlaw20_small.f).bind fun t1 => ((run_Print.f k t1.1 t1.2.1 t1.2.2.1 t1.2.2.2 ([(⟨(⟨3, 1⟩ : S24), (⟨0, 0, 0, 0⟩ : S39)⟩ : S41)] : List S41) (⟨0, 1⟩ : S24)).bind fun t2 => ((run_Times.f k ([(⟨(⟨3, 1⟩ : S24), (⟨0, 0, 0, 0⟩ : S39)⟩ : S41)] : List S41) (⟨0, 1⟩ : S24)).bind fun t3 => (if t2.2 = 0 then (if t2.1 = (⟨#[51, 32, 65, 46, 48, 10, 48, 32, 101, 110, 100, 10]⟩ : ByteArray) then (if t3.2 = 0 then (if (t3.1.length : Int) = 2 then (if 0 ≤ 0 then (if 0 < (t3.1.length : Int) then (if (rd_T24 t3.1 0) = (⟨3, 1⟩ : S24) then (if 0 ≤ 1 then (if 1 < (t3.1.length : Int) then (if 0 ≤ 0 then (if 0 < (t3.1.length : Int) then (if (rd_T24 t3.1 1) = (rd_T24 t3.1 0) then ((gnomonlaw20_small.f).bind fun t4 => ((run_Right.f k t4.1 t4.2.1 t4.2.2.1 t4.2.2.2 ([] : List S41) (⟨0, 0⟩ : S24)).bind fun t5 => (some (decide (t5 = 210))))) else (some false)) else (none)) else (none)) else (none)) else (none)) else (some false)) else (none)) else (none)) else (some false)) else (some false)) else (some false)) else (some false))))
def gnomonlaw20_live.ce (k : Nat) : CallE := ⟨[], [⟨false, [.v .bool]⟩], fun (x : Unit) => gnomonlaw20_live.f k⟩
def gnomonlaw20_live.F : Fam (RT.dens (gnomonlaw20_live.ce 0).rts) := ⟨fun k => ⟨TT0, GL0, callT [(9, [], run_Times.ce k), (12, [], run_Print.ce k), (13, [], gnomonlaw20_small.ce), (14, [], run_Right.ce k)], cmpT CM0, [], BLD0⟩, []⟩
theorem gnomonlaw20_live.is (k : Nat) (x : AT.dens (gnomonlaw20_live.ce 0).ats) : (gnomonlaw20_live.ce k).fn x = den gnomonlaw20_live.F k (bodyOf Tryz.f5) (startAS (gnomonlaw20_live.ce 0).ats x) (retK (gnomonlaw20_live.F.c k) Tryz.f5.results.toList (gnomonlaw20_live.ce 0).rts) := by kernel_rfl
theorem gnomonlaw20_live.ob : Obl gnomonlaw20_live.F (bodyOf Tryz.f5) (fun k => retK (gnomonlaw20_live.F.c k) Tryz.f5.results.toList (gnomonlaw20_live.ce 0).rts) := obl_of (by kernel_rfl)
/-! ### slices_Equal_api_Step_api_Step: function 15 -/
def slices_Equal_api_Step_api_Step.l0 : Nat → (List S41) → (List S41) → Int → Int → Option Bool
 | 0, _, _, _, _ => none
 | k + 1, x0, x1, x12, x13 => if x13 < x12 then (if 0 ≤ x13 then (if x13 < (x0.length : Int) then (if 0 ≤ x13 then (if x13 < (x1.length : Int) then (if (⟨((rd_T41 x0 x13).f0), ((rd_T41 x0 x13).f1)⟩ : S41) = (⟨((rd_T41 x1 x13).f0), ((rd_T41 x1 x13).f1)⟩ : S41) then (slices_Equal_api_Step_api_Step.l0 k x0 x1 x12 (w64 (x13 + 1))) else (some false)) else (none)) else (none)) else (none)) else (none)) else (some true)
def slices_Equal_api_Step_api_Step.f (k : Nat) (a0 : List S41) (a1 : List S41) : Option Bool := if (a0.length : Int) = (a1.length : Int) then (slices_Equal_api_Step_api_Step.l0 k a0 a1 (a0.length : Int) 0) else (some false)
def slices_Equal_api_Step_api_Step.ce (k : Nat) : CallE := ⟨[⟨false, (.list T41)⟩, ⟨false, (.list T41)⟩], [⟨false, [.v .bool]⟩], fun (x : (List S41) × (List S41)) => slices_Equal_api_Step_api_Step.f k x.1 x.2⟩
def slices_Equal_api_Step_api_Step.F : Fam (RT.dens (slices_Equal_api_Step_api_Step.ce 0).rts) := ⟨fun k => ⟨TT0, GL0, callT [], cmpT CM0, [], BLD0⟩, [(5, ⟨⟨[(0, .v false (.list T41)), (1, .v false (.list T41)), (12, .v false (.int .i64)), (13, .v false (.int .i64))], []⟩, fun k s => slices_Equal_api_Step_api_Step.l0 k s.1.1 s.1.2.1 s.1.2.2.1 s.1.2.2.2.1⟩)]⟩
theorem slices_Equal_api_Step_api_Step.is (k : Nat) (x : AT.dens (slices_Equal_api_Step_api_Step.ce 0).ats) : (slices_Equal_api_Step_api_Step.ce k).fn x = den slices_Equal_api_Step_api_Step.F k (bodyOf Tryz.f15) (startAS (slices_Equal_api_Step_api_Step.ce 0).ats x) (retK (slices_Equal_api_Step_api_Step.F.c k) Tryz.f15.results.toList (slices_Equal_api_Step_api_Step.ce 0).rts) := by kernel_rfl
theorem slices_Equal_api_Step_api_Step.ob : Obl slices_Equal_api_Step_api_Step.F (bodyOf Tryz.f15) (fun k => retK (slices_Equal_api_Step_api_Step.F.c k) Tryz.f15.results.toList (slices_Equal_api_Step_api_Step.ce 0).rts) := obl_of (by kernel_rfl)
/-! ### run_Same: function 6 -/
def run_Same.f (k : Nat) (l0_0 : List S41) (l0_1 : S24) (l1_0 : List S41) (l1_1 : S24) : Option Bool := if l0_1 = l1_1 then ((slices_Equal_api_Step_api_Step.f k l0_0 l1_0).bind fun t1 => (some t1)) else (some false)
def run_Same.ce (k : Nat) : CallE := ⟨[⟨true, T26⟩, ⟨true, T26⟩], [⟨false, [.v .bool]⟩], fun (x : S26 × S26) => run_Same.f k x.1.f0 x.1.f1 x.2.f0 x.2.f1⟩
def run_Same.F : Fam (RT.dens (run_Same.ce 0).rts) := ⟨fun k => ⟨TT0, GL0, callT [(15, [], slices_Equal_api_Step_api_Step.ce k)], cmpT CM0, [], BLD0⟩, []⟩
theorem run_Same.is (k : Nat) (x : AT.dens (run_Same.ce 0).ats) : (run_Same.ce k).fn x = den run_Same.F k (bodyOf Tryz.f6) (startAS (run_Same.ce 0).ats x) (retK (run_Same.F.c k) Tryz.f6.results.toList (run_Same.ce 0).rts) := by kernel_rfl
theorem run_Same.ob : Obl run_Same.F (bodyOf Tryz.f6) (fun k => retK (run_Same.F.c k) Tryz.f6.results.toList (run_Same.ce 0).rts) := obl_of (by kernel_rfl)
/-! ### slices_Clone_api_Step_api_Step: function 16 -/
noncomputable def slices_Clone_api_Step_api_Step_raw.f (a0 : List S41) : Option (List S41) := if a0.length = 0 then (agree (some ([] : List S41)) (if ([] : List S41).length + a0.length ≤ 2932031007402 then (some (([] : List S41) ++ a0)) else (none))) else (if ([] : List S41).length + a0.length ≤ 2932031007402 then (some (([] : List S41) ++ a0)) else (none))
noncomputable def slices_Clone_api_Step_api_Step_raw.ce : CallE := ⟨[⟨false, (.list T41)⟩], [⟨false, [.o 41 T41]⟩], fun (x : (List S41)) => slices_Clone_api_Step_api_Step_raw.f x⟩
noncomputable def slices_Clone_api_Step_api_Step_raw.F : Fam (RT.dens (slices_Clone_api_Step_api_Step_raw.ce).rts) := ⟨fun k => ⟨TT0, GL0, callT [], cmpT CM0, [], BLD0⟩, []⟩
theorem slices_Clone_api_Step_api_Step_raw.is (k : Nat) (x : AT.dens (slices_Clone_api_Step_api_Step_raw.ce).ats) : (slices_Clone_api_Step_api_Step_raw.ce).fn x = den slices_Clone_api_Step_api_Step_raw.F k (bodyOf Tryz.f16) (startAS (slices_Clone_api_Step_api_Step_raw.ce).ats x) (retK (slices_Clone_api_Step_api_Step_raw.F.c k) Tryz.f16.results.toList (slices_Clone_api_Step_api_Step_raw.ce).rts) := by kernel_rfl
theorem slices_Clone_api_Step_api_Step_raw.ob : Obl slices_Clone_api_Step_api_Step_raw.F (bodyOf Tryz.f16) (fun k => retK (slices_Clone_api_Step_api_Step_raw.F.c k) Tryz.f16.results.toList (slices_Clone_api_Step_api_Step_raw.ce).rts) := obl_of (by kernel_rfl)
def slices_Clone_api_Step_api_Step.f (a0 : List S41) : Option (List S41) := if ([] : List S41).length + a0.length ≤ 2932031007402 then (some (([] : List S41) ++ a0)) else (none)
def slices_Clone_api_Step_api_Step.ce : CallE := ⟨[⟨false, (.list T41)⟩], [⟨false, [.o 41 T41]⟩], fun (x : (List S41)) => slices_Clone_api_Step_api_Step.f x⟩
theorem slices_Clone_api_Step_api_Step.le (a0 : List S41) (r : (List S41)) (h : slices_Clone_api_Step_api_Step.f a0 = some r) : slices_Clone_api_Step_api_Step_raw.f a0 = some r := by
  unfold slices_Clone_api_Step_api_Step_raw.f
  split
  · rename_i h0
    have := List.eq_nil_of_length_eq_zero h0
    subst this
    unfold slices_Clone_api_Step_api_Step.f at h
    simpa [agree] using h
  · exact h
/-! ### run_Cut: function 8 -/
def run_Cut.f (l0_0 : List S41) (l0_1 : S24) (a1 : Int) : Option ((List S41) × S24) := if a1 > (l0_0.length : Int) then ((slices_Clone_api_Step_api_Step.f l0_0).bind fun t1 => (some (t1, l0_1))) else (if 0 ≤ (if 0 > a1 then 0 else a1) then (if (if 0 > a1 then 0 else a1) ≤ (l0_0.length : Int) then ((slices_Clone_api_Step_api_Step.f (l0_0.take (Int.toNat ((if 0 > a1 then 0 else a1))))).bind fun t2 => ((rat_Of.f 0).bind fun t3 => (some (t2, (⟨t3.1, t3.2⟩ : S24))))) else (none)) else (none))
def run_Cut.ce : CallE := ⟨[⟨true, T26⟩, ⟨false, (.int .i64)⟩], [⟨true, [.v (.list T41), .v T24]⟩], fun (x : S26 × Int) => run_Cut.f x.1.f0 x.1.f1 x.2⟩
def run_Cut.F : Fam (RT.dens (run_Cut.ce).rts) := ⟨fun k => ⟨TT0, GL0, callT [(16, [], slices_Clone_api_Step_api_Step.ce), (17, [], rat_Of.ce)], cmpT CM0, [], BLD0⟩, []⟩
theorem run_Cut.is (k : Nat) (x : AT.dens (run_Cut.ce).ats) : (run_Cut.ce).fn x = den run_Cut.F k (bodyOf Tryz.f8) (startAS (run_Cut.ce).ats x) (retK (run_Cut.F.c k) Tryz.f8.results.toList (run_Cut.ce).rts) := by kernel_rfl
theorem run_Cut.ob : Obl run_Cut.F (bodyOf Tryz.f8) (fun k => retK (run_Cut.F.c k) Tryz.f8.results.toList (run_Cut.ce).rts) := obl_of (by kernel_rfl)
/-! ### gnomonmem_SameRats: function 10 -/
def gnomonmem_SameRats.l0 : Nat → (List S24) → (List S24) → Int → Option Bool
 | 0, _, _, _ => none
 | k + 1, x0, x1, x5 => if x5 < (x0.length : Int) then (if 0 ≤ x5 then (if x5 < (x0.length : Int) then (if 0 ≤ x5 then (if x5 < (x1.length : Int) then (if (rd_T24 x0 x5) = (rd_T24 x1 x5) then (gnomonmem_SameRats.l0 k x0 x1 (w64 (x5 + 1))) else (some false)) else (none)) else (none)) else (none)) else (none)) else (some true)
def gnomonmem_SameRats.f (k : Nat) (a0 : List S24) (a1 : List S24) : Option Bool := if (a0.length : Int) = (a1.length : Int) then (gnomonmem_SameRats.l0 k a0 a1 0) else (some false)
def gnomonmem_SameRats.ce (k : Nat) : CallE := ⟨[⟨false, (.list T24)⟩, ⟨false, (.list T24)⟩], [⟨false, [.v .bool]⟩], fun (x : (List S24) × (List S24)) => gnomonmem_SameRats.f k x.1 x.2⟩
def gnomonmem_SameRats.F : Fam (RT.dens (gnomonmem_SameRats.ce 0).rts) := ⟨fun k => ⟨TT0, GL0, callT [], cmpT CM0, [], BLD0⟩, [(5, ⟨⟨[(0, .v false (.list T24)), (1, .v false (.list T24)), (5, .v false (.int .i64))], []⟩, fun k s => gnomonmem_SameRats.l0 k s.1.1 s.1.2.1 s.1.2.2.1⟩)]⟩
theorem gnomonmem_SameRats.is (k : Nat) (x : AT.dens (gnomonmem_SameRats.ce 0).ats) : (gnomonmem_SameRats.ce k).fn x = den gnomonmem_SameRats.F k (bodyOf Tryz.f10) (startAS (gnomonmem_SameRats.ce 0).ats x) (retK (gnomonmem_SameRats.F.c k) Tryz.f10.results.toList (gnomonmem_SameRats.ce 0).rts) := by kernel_rfl
theorem gnomonmem_SameRats.ob : Obl gnomonmem_SameRats.F (bodyOf Tryz.f10) (fun k => retK (gnomonmem_SameRats.F.c k) Tryz.f10.results.toList (gnomonmem_SameRats.ce 0).rts) := obl_of (by kernel_rfl)
/-! ### run_Join: function 11 -/
mutual
def run_Join.l0 : Nat → (List S26) → Int → Int → (List S41) → Int → Int → (List S41) → Int → Int → Option ((List S41) × S24 × Int)
 | 0, _, _, _, _, _, _, _, _, _ => none
 | k + 1, x19, x20, x21, x4_0, x4_1, x4_2, x6_0, x6_1, x6_2 => if x21 < x20 then (if 0 ≤ x21 then (if x21 < (x19.length : Int) then ((slices_Clone_api_Step_api_Step.f ((rd_T26 x19 x21).f0)).bind fun t2 => (if (t2.length : Int) > 0 then (if 0 ≤ 0 then (if 0 < (t2.length : Int) then (run_Join.j1 k t2 x19 x20 x21 x4_0 x4_1 x4_2 x6_0 x6_1 x6_2 ((rd_T26 x19 x21).f0) (((rd_T26 x19 x21).f1).f0) (((rd_T26 x19 x21).f1).f1) (((rd_T41 t2 0).f0).f0) (((rd_T41 t2 0).f0).f1)) else (none)) else (none)) else (run_Join.j1 k t2 x19 x20 x21 x4_0 x4_1 x4_2 x6_0 x6_1 x6_2 ((rd_T26 x19 x21).f0) (((rd_T26 x19 x21).f1).f0) (((rd_T26 x19 x21).f1).f1) (((rd_T26 x19 x21).f1).f0) (((rd_T26 x19 x21).f1).f1)))) else (none)) else (none)) else (some (x6_0, (⟨x6_1, x6_2⟩ : S24), 0))
def run_Join.j1 : Nat → (List S41) → (List S26) → Int → Int → (List S41) → Int → Int → (List S41) → Int → Int → (List S41) → Int → Int → Int → Int → Option ((List S41) × S24 × Int)
 | 0, _, _, _, _, _, _, _, _, _, _, _, _, _, _, _ => none
 | k + 1, x9, x19, x20, x21, x4_0, x4_1, x4_2, x6_0, x6_1, x6_2, x8_0, x8_1, x8_2, x10_0, x10_1 => (rat_Add.f k x6_1 x6_2 x10_0 x10_1).bind fun t3 => (if t3.2.2 = 7 then (some (([] : List S41), (⟨0, 0⟩ : S24), 210)) else (if t3.2.2 = 0 then (if (x9.length : Int) > 0 then (if 0 ≤ 0 then (if 0 < (x9.length : Int) then (if x6_0.length + (x9.set (Int.toNat (0)) (⟨(⟨t3.1, t3.2.1⟩ : S24), ((rd_T41 x9 0).f1)⟩ : S41)).length ≤ 2932031007402 then (run_Join.l0 k x19 x20 (w64 (x21 + 1)) x4_0 x4_1 x4_2 (x6_0 ++ (x9.set (Int.toNat (0)) (⟨(⟨t3.1, t3.2.1⟩ : S24), ((rd_T41 x9 0).f1)⟩ : S41))) x8_1 x8_2) else (none)) else (none)) else (none)) else (if x6_0.length + x9.length ≤ 2932031007402 then (run_Join.l0 k x19 x20 (w64 (x21 + 1)) x4_0 x4_1 x4_2 (x6_0 ++ x9) t3.1 t3.2.1) else (none))) else (some (([] : List S41), (⟨0, 0⟩ : S24), t3.2.2))))
end
def run_Join.f (k : Nat) (l0_0 : List S41) (l0_1 : S24) (a1 : List S26) : Option ((List S41) × S24 × Int) := (slices_Clone_api_Step_api_Step.f l0_0).bind fun t1 => (run_Join.l0 k a1 (a1.length : Int) 0 ([] : List S41) 0 0 t1 l0_1.f0 l0_1.f1)
def run_Join.ce (k : Nat) : CallE := ⟨[⟨true, T26⟩, ⟨false, (.list T26)⟩], [⟨true, [.v (.list T41), .v T24]⟩, ⟨false, [.v (.int .i64)]⟩], fun (x : S26 × (List S26)) => run_Join.f k x.1.f0 x.1.f1 x.2⟩
def run_Join.F : Fam (RT.dens (run_Join.ce 0).rts) := ⟨fun k => ⟨TT0, GL0, callT [(16, [], slices_Clone_api_Step_api_Step.ce), (22, [], rat_Add.ce k)], cmpT CM0, [], BLD0⟩, [(4, ⟨⟨[(4, .k (.ptr 256 0)), (6, .k (.ptr 384 0)), (19, .v false (.list T26)), (20, .v false (.int .i64)), (21, .v false (.int .i64))], [(256, [.o 41 T41, .v (.int .i64), .v (.int .i64)]), (384, [.o 41 T41, .v (.int .i64), .v (.int .i64)])]⟩, fun k s => run_Join.l0 k s.1.1 s.1.2.1 s.1.2.2.1 s.2.1.1 s.2.1.2.1 s.2.1.2.2.1 s.2.2.1.1 s.2.2.1.2.1 s.2.2.1.2.2.1⟩), (1000010, ⟨⟨[(4, .k (.ptr 256 0)), (6, .k (.ptr 384 0)), (8, .k (.ptr 512 0)), (9, .o 41 T41), (10, .k (.ptr 640 0)), (19, .v false (.list T26)), (20, .v false (.int .i64)), (21, .v false (.int .i64))], [(256, [.o 41 T41, .v (.int .i64), .v (.int .i64)]), (384, [.o 41 T41, .v (.int .i64), .v (.int .i64)]), (512, [.v (.list T41), .v (.int .i64), .v (.int .i64)]), (640, [.v (.int .i64), .v (.int .i64)])]⟩, fun k s => run_Join.j1 k s.1.1 s.1.2.1 s.1.2.2.1 s.1.2.2.2.1 s.2.1.1 s.2.1.2.1 s.2.1.2.2.1 s.2.2.1.1 s.2.2.1.2.1 s.2.2.1.2.2.1 s.2.2.2.1.1 s.2.2.2.1.2.1 s.2.2.2.1.2.2.1 s.2.2.2.2.1.1 s.2.2.2.2.1.2.1⟩)]⟩
theorem run_Join.is (k : Nat) (x : AT.dens (run_Join.ce 0).ats) : (run_Join.ce k).fn x = den run_Join.F k (bodyOf Tryz.f11) (startAS (run_Join.ce 0).ats x) (retK (run_Join.F.c k) Tryz.f11.results.toList (run_Join.ce 0).rts) := by kernel_rfl
theorem run_Join.ob : Obl run_Join.F (bodyOf Tryz.f11) (fun k => retK (run_Join.F.c k) Tryz.f11.results.toList (run_Join.ce 0).rts) := obl_of (by kernel_rfl)
/-! ### gnomonlaw20_RunParts: function 4 -/
mutual
def gnomonlaw20_RunParts.j0 : Nat → Int → Int → Int → (List S41) → Int → Int → (List S41) → Int → Int → Option Bool
 | 0, _, _, _, _, _, _, _, _, _ => none
 | k + 1, x1, x2, x8, x3_0, x3_1, x3_2, x7_0, x7_1, x7_2 => (gnomonlaw20_live.f k).bind fun t3 => (if (!t3) = true then (some false) else (if x1 ≤ (x3_0.length : Int) then (if x2 ≤ x1 then ((run_Cut.f x3_0 (⟨x3_1, x3_2⟩ : S24) x8).bind fun t4 => ((run_Same.f k x7_0 (⟨x7_1, x7_2⟩ : S24) t4.1 t4.2).bind fun t5 => (if (!t5) = true then (some false) else (gnomonlaw20_RunParts.j1 k x1 x3_0 x3_1 x3_2)))) else (gnomonlaw20_RunParts.j1 k x1 x3_0 x3_1 x3_2)) else (gnomonlaw20_RunParts.j1 k x1 x3_0 x3_1 x3_2)))
def gnomonlaw20_RunParts.j1 : Nat → Int → (List S41) → Int → Int → Option Bool
 | 0, _, _, _, _ => none
 | k + 1, x1, x3_0, x3_1, x3_2 => (run_Times.f k x3_0 (⟨x3_1, x3_2⟩ : S24)).bind fun t6 => (if t6.2 = 0 then (if x1 < 0 then (some true) else (if x1 > (x3_0.length : Int) then (some true) else (gnomonlaw20_RunParts.j2 k x1 t6.1 x3_0 x3_1 x3_2))) else (some true))
def gnomonlaw20_RunParts.j2 : Nat → Int → (List S24) → (List S41) → Int → Int → Option Bool
 | 0, _, _, _, _, _ => none
 | k + 1, x1, x9, x3_0, x3_1, x3_2 => (run_Cut.f x3_0 (⟨x3_1, x3_2⟩ : S24) x1).bind fun t7 => ((run_Times.f k t7.1 t7.2).bind fun t8 => (if t8.2 = 0 then (if (x9.length : Int) = (w64 ((x3_0.length : Int) + 1)) then (if (t8.1.length : Int) = (w64 (x1 + 1)) then (if 0 ≤ x1 then (if x1 ≤ (t8.1.length : Int) then (if 0 ≤ x1 then (if x1 ≤ (x9.length : Int) then ((gnomonmem_SameRats.f k (t8.1.take (Int.toNat (x1))) (x9.take (Int.toNat (x1)))).bind fun t9 => (if (!t9) = true then (some false) else (gnomonlaw20_RunParts.j3 k x1 x9 x3_0 x3_1 x3_2))) else (none)) else (none)) else (none)) else (none)) else (some false)) else (some false)) else (some false)))
def gnomonlaw20_RunParts.j3 : Nat → Int → (List S24) → (List S41) → Int → Int → Option Bool
 | 0, _, _, _, _, _ => none
 | k + 1, x1, x9, x3_0, x3_1, x3_2 => if 0 ≤ x1 then (if x1 ≤ (x3_0.length : Int) then ((run_Cut.f x3_0 (⟨x3_1, x3_2⟩ : S24) x1).bind fun t10 => ((run_Join.f k t10.1 t10.2 ([(⟨(x3_0.drop (Int.toNat (x1))), (⟨x3_1, x3_2⟩ : S24)⟩ : S26)] : List S26)).bind fun t11 => ((run_Times.f k t11.1 t11.2.1).bind fun t12 => (if t11.2.2 = 0 then (if t12.2 = 0 then ((gnomonmem_SameRats.f k t12.1 x9).bind fun t13 => (if t13 = true then ((run_Same.f k t11.1 t11.2.1 x3_0 (⟨x3_1, x3_2⟩ : S24)).bind fun t14 => (some t14)) else (some false))) else (some false)) else (some false))))) else (none)) else (none)
end
def gnomonlaw20_RunParts.f (k : Nat) (l0_0 : List S41) (l0_1 : S24) (a1 : Int) (a2 : Int) : Option Bool := (run_Cut.f l0_0 l0_1 a1).bind fun t1 => ((run_Cut.f t1.1 t1.2 a2).bind fun t2 => (if a2 < a1 then (gnomonlaw20_RunParts.j0 k a1 a2 a2 l0_0 l0_1.f0 l0_1.f1 t2.1 t2.2.f0 t2.2.f1) else (gnomonlaw20_RunParts.j0 k a1 a2 a1 l0_0 l0_1.f0 l0_1.f1 t2.1 t2.2.f0 t2.2.f1)))
def gnomonlaw20_RunParts.ce (k : Nat) : CallE := ⟨[⟨true, T26⟩, ⟨false, (.int .i64)⟩, ⟨false, (.int .i64)⟩], [⟨false, [.v .bool]⟩], fun (x : S26 × Int × Int) => gnomonlaw20_RunParts.f k x.1.f0 x.1.f1 x.2.1 x.2.2⟩
def gnomonlaw20_RunParts.F : Fam (RT.dens (gnomonlaw20_RunParts.ce 0).rts) := ⟨fun k => ⟨TT0, GL0, callT [(5, [], gnomonlaw20_live.ce k), (6, [], run_Same.ce k), (8, [], run_Cut.ce), (9, [], run_Times.ce k), (10, [], gnomonmem_SameRats.ce k), (11, [], run_Join.ce k)], cmpT CM0, [2000115], BLD0⟩, [(1000006, ⟨⟨[(1, .v false (.int .i64)), (2, .v false (.int .i64)), (3, .k (.ptr 192 0)), (7, .k (.ptr 448 0)), (8, .v false (.int .i64))], [(192, [.v (.list T41), .v (.int .i64), .v (.int .i64)]), (448, [.v (.list T41), .v (.int .i64), .v (.int .i64)])]⟩, fun k s => gnomonlaw20_RunParts.j0 k s.1.1 s.1.2.1 s.1.2.2.1 s.2.1.1 s.2.1.2.1 s.2.1.2.2.1 s.2.2.1.1 s.2.2.1.2.1 s.2.2.1.2.2.1⟩), (1000008, ⟨⟨[(1, .v false (.int .i64)), (3, .k (.ptr 192 0))], [(192, [.v (.list T41), .v (.int .i64), .v (.int .i64)])]⟩, fun k s => gnomonlaw20_RunParts.j1 k s.1.1 s.2.1.1 s.2.1.2.1 s.2.1.2.2.1⟩), (1000011, ⟨⟨[(1, .v false (.int .i64)), (3, .k (.ptr 192 0)), (9, .v false (.list T24))], [(192, [.v (.list T41), .v (.int .i64), .v (.int .i64)])]⟩, fun k s => gnomonlaw20_RunParts.j2 k s.1.1 s.1.2.1 s.2.1.1 s.2.1.2.1 s.2.1.2.2.1⟩), (1000014, ⟨⟨[(1, .v false (.int .i64)), (3, .k (.ptr 192 0)), (9, .v false (.list T24))], [(192, [.v (.list T41), .v (.int .i64), .v (.int .i64)])]⟩, fun k s => gnomonlaw20_RunParts.j3 k s.1.1 s.1.2.1 s.2.1.1 s.2.1.2.1 s.2.1.2.2.1⟩)]⟩
theorem gnomonlaw20_RunParts.is (k : Nat) (x : AT.dens (gnomonlaw20_RunParts.ce 0).ats) : (gnomonlaw20_RunParts.ce k).fn x = den gnomonlaw20_RunParts.F k (bodyOf Tryz.f4) (startAS (gnomonlaw20_RunParts.ce 0).ats x) (retK (gnomonlaw20_RunParts.F.c k) Tryz.f4.results.toList (gnomonlaw20_RunParts.ce 0).rts) := by kernel_rfl
theorem gnomonlaw20_RunParts.ob : Obl gnomonlaw20_RunParts.F (bodyOf Tryz.f4) (fun k => retK (gnomonlaw20_RunParts.F.c k) Tryz.f4.results.toList (gnomonlaw20_RunParts.ce 0).rts) := obl_of (by kernel_rfl)
end
theorem TT0.ok : ∀ t i, TT.find TT0 t = some i → TIOK Tryz.prog t i :=
  tt_cons (TIOK.of rfl (by kernel_rfl) (by kernel_rfl) (by kernel_rfl) (kd_eq rfl (by kernel_rfl))) <|
  tt_cons (TIOK.of rfl (by kernel_rfl) (by kernel_rfl) (by kernel_rfl) (kd_eq rfl (by kernel_rfl))) <|
  tt_cons (TIOK.of rfl (by kernel_rfl) (by kernel_rfl) (by kernel_rfl) (kd_eq rfl (by kernel_rfl))) <|
  tt_cons (TIOK.of rfl (by kernel_rfl) (by kernel_rfl) (by kernel_rfl) (kd_eq rfl (by kernel_rfl))) <|
  tt_cons (TIOK.of rfl (by kernel_rfl) (by kernel_rfl) (by kernel_rfl) (kd_eq rfl (by kernel_rfl))) <|
  tt_cons (TIOK.of rfl (by kernel_rfl) (by kernel_rfl) (by kernel_rfl) (kd_eq rfl (by kernel_rfl))) <|
  tt_cons (TIOK.of rfl (by kernel_rfl) (by kernel_rfl) (by kernel_rfl) (kd_struct (by kernel_rfl))) <|
  tt_cons (TIOK.of rfl (by kernel_rfl) (by kernel_rfl) (by kernel_rfl) (kd_struct (by kernel_rfl))) <|
  tt_cons (TIOK.of rfl (by kernel_rfl) (by kernel_rfl) (by kernel_rfl) (kd_eq rfl (by kernel_rfl))) <|
  tt_cons (TIOK.of rfl (by kernel_rfl) (by kernel_rfl) (by kernel_rfl) (kd_eq rfl (by kernel_rfl))) <|
  tt_cons (TIOK.of rfl (by kernel_rfl) (by kernel_rfl) (by kernel_rfl) (kd_struct (by kernel_rfl))) <|
  tt_cons (TIOK.of rfl (by kernel_rfl) (by kernel_rfl) (by kernel_rfl) (kd_struct (by kernel_rfl))) <|
  tt_cons (TIOK.of rfl (by kernel_rfl) (by kernel_rfl) (by kernel_rfl) (kd_eq rfl (by kernel_rfl))) <|
  tt_cons (TIOK.of rfl (by kernel_rfl) (by kernel_rfl) (by kernel_rfl) (kd_eq rfl (by kernel_rfl))) <|
  tt_cons (TIOK.of rfl (by kernel_rfl) (by kernel_rfl) (by kernel_rfl) (kd_eq rfl (by kernel_rfl))) <|
  tt_cons (TIOK.of rfl (by kernel_rfl) (by kernel_rfl) (by kernel_rfl) (kd_struct (by kernel_rfl))) <|
  tt_cons (TIOK.of rfl (by kernel_rfl) (by kernel_rfl) (by kernel_rfl) (kd_eq rfl (by kernel_rfl))) <|
  tt_cons (TIOK.of0 [.pointer none, .slice none 0 0] rfl (by kernel_rfl) (by kernel_rfl) (kd_struct (by kernel_rfl))) <|
  tt_cons (TIOK.of rfl (by kernel_rfl) (by kernel_rfl) (by kernel_rfl) (kd_eq rfl (by kernel_rfl))) <|
  tt_cons (TIOK.of rfl (by kernel_rfl) (by kernel_rfl) (by kernel_rfl) (kd_eq rfl (by kernel_rfl))) <|
  tt_cons (TIOK.of rfl (by kernel_rfl) (by kernel_rfl) (by kernel_rfl) (kd_struct (by kernel_rfl))) <|
  tt_cons (TIOK.of rfl (by kernel_rfl) (by kernel_rfl) (by kernel_rfl) (kd_eq rfl (by kernel_rfl))) <|
  tt_cons (TIOK.of rfl (by kernel_rfl) (by kernel_rfl) (by kernel_rfl) (kd_eq rfl (by kernel_rfl))) <|
  tt_cons (TIOK.of rfl (by kernel_rfl) (by kernel_rfl) (by kernel_rfl) (kd_eq rfl (by kernel_rfl))) <|
  tt_cons (TIOK.of rfl (by kernel_rfl) (by kernel_rfl) (by kernel_rfl) (kd_struct (by kernel_rfl))) <|
  tt_cons (TIOK.of rfl (by kernel_rfl) (by kernel_rfl) (by kernel_rfl) (kd_eq rfl (by kernel_rfl))) <|
  tt_cons (TIOK.of rfl (by kernel_rfl) (by kernel_rfl) (by kernel_rfl) (kd_struct (by kernel_rfl))) <|
  tt_cons (TIOK.of rfl (by kernel_rfl) (by kernel_rfl) (by kernel_rfl) (kd_eq rfl (by kernel_rfl))) <|
  tt_cons (TIOK.of rfl (by kernel_rfl) (by kernel_rfl) (by kernel_rfl) (kd_eq rfl (by kernel_rfl))) <|
  tt_cons (TIOK.of rfl (by kernel_rfl) (by kernel_rfl) (by kernel_rfl) (kd_struct (by kernel_rfl))) <|
  tt_cons (TIOK.of rfl (by kernel_rfl) (by kernel_rfl) (by kernel_rfl) (kd_struct (by kernel_rfl))) <|
  tt_cons (TIOK.of rfl (by kernel_rfl) (by kernel_rfl) (by kernel_rfl) (kd_eq rfl (by kernel_rfl))) <|
  tt_cons (TIOK.of0 [.nilFunc] rfl (by kernel_rfl) (by kernel_rfl) (kd_func (by kernel_rfl))) <|
  tt_cons (TIOK.of rfl (by kernel_rfl) (by kernel_rfl) (by kernel_rfl) (kd_struct (by kernel_rfl))) <|
  tt_cons (TIOK.of0 [.slice none 0 0] rfl (by kernel_rfl) (by kernel_rfl) (kd_eq rfl (by kernel_rfl))) <|
  tt_cons (TIOK.of rfl (by kernel_rfl) (by kernel_rfl) (by kernel_rfl) (kd_struct (by kernel_rfl))) <|
  tt_cons (TIOK.of rfl (by kernel_rfl) (by kernel_rfl) (by kernel_rfl) (kd_struct (by kernel_rfl))) <|
  tt_cons (TIOK.of rfl (by kernel_rfl) (by kernel_rfl) (by kernel_rfl) (kd_eq rfl (by kernel_rfl))) <|
  tt_cons (TIOK.of0 [.map none] rfl (by kernel_rfl) (by kernel_rfl) (kd_smap (by kernel_rfl))) <|
  tt_cons (TIOK.of rfl (by kernel_rfl) (by kernel_rfl) (by kernel_rfl) (kd_eq rfl (by kernel_rfl))) <|
  tt_cons (TIOK.of rfl (by kernel_rfl) (by kernel_rfl) (by kernel_rfl) (kd_struct (by kernel_rfl))) <|
  tt_cons (TIOK.of rfl (by kernel_rfl) (by kernel_rfl) (by kernel_rfl) (kd_eq rfl (by kernel_rfl))) <|
  tt_cons (TIOK.of rfl (by kernel_rfl) (by kernel_rfl) (by kernel_rfl) (kd_struct (by kernel_rfl))) <|
  tt_cons (TIOK.of rfl (by kernel_rfl) (by kernel_rfl) (by kernel_rfl) (kd_struct (by kernel_rfl))) <|
  tt_cons (TIOK.of rfl (by kernel_rfl) (by kernel_rfl) (by kernel_rfl) (kd_eq rfl (by kernel_rfl))) <|
  tt_cons (TIOK.of rfl (by kernel_rfl) (by kernel_rfl) (by kernel_rfl) (kd_eq rfl (by kernel_rfl))) <|
  tt_cons (TIOK.of rfl (by kernel_rfl) (by kernel_rfl) (by kernel_rfl) (kd_eq rfl (by kernel_rfl))) <|
  tt_cons (TIOK.of rfl (by kernel_rfl) (by kernel_rfl) (by kernel_rfl) (kd_eq rfl (by kernel_rfl))) <|
  tt_nil
theorem CM0.ok : ∀ t T, cmpT CM0 t = some T → cmpChk Tryz.prog t T = true := cm_cons (by kernel_rfl) <| cm_cons (by kernel_rfl) <| cm_nil
theorem BLD0.ok : ∀ q, BLD0 = some q → BldOK Tryz.prog q := fun q h => by cases h; exact bld_ok
theorem rat_Of.ok (k : Nat) : CallOK Tryz.prog GL0 17 (rat_Of.ce) := call_ok (F := rat_Of.F) (c := bodyOf Tryz.f17) (g := fun k => (rat_Of.ce).fn) (by kernel_rfl) (by kernel_rfl) (by kernel_rfl) (by kernel_rfl) (fun k => env_ok TT0.ok cl_nil CM0.ok BLD0.ok) (by kernel_rfl) (by kernel_rfl) (by kernel_rfl) rat_Of.ob rat_Of.is k
theorem run_delays.ok (k : Nat) : CallOK Tryz.prog GL0 18 (run_delays.ce k) := call_ok (F := run_delays.F) (c := bodyOf Tryz.f18) (g := fun k => (run_delays.ce k).fn) (by kernel_rfl) (by kernel_rfl) (by kernel_rfl) (by kernel_rfl) (fun k => env_ok TT0.ok cl_nil CM0.ok BLD0.ok) (by kernel_rfl) (by kernel_rfl) (by kernel_rfl) run_delays.ob run_delays.is k
theorem cmp_Or_int.ok (k : Nat) : CallOK Tryz.prog GL0 67 (cmp_Or_int.ce k) := call_ok (F := cmp_Or_int.F) (c := bodyOf Tryz.f67) (g := fun k => (cmp_Or_int.ce k).fn) (by kernel_rfl) (by kernel_rfl) (by kernel_rfl) (by kernel_rfl) (fun k => env_ok TT0.ok cl_nil CM0.ok BLD0.ok) (by kernel_rfl) (by kernel_rfl) (by kernel_rfl) cmp_Or_int.ob cmp_Or_int.is k
theorem cmp_isNaN_uint64.ok (k : Nat) : CallOK Tryz.prog GL0 89 (cmp_isNaN_uint64.ce) := call_ok (F := cmp_isNaN_uint64.F) (c := bodyOf Tryz.f89) (g := fun k => (cmp_isNaN_uint64.ce).fn) (by kernel_rfl) (by kernel_rfl) (by kernel_rfl) (by kernel_rfl) (fun k => env_ok TT0.ok cl_nil CM0.ok BLD0.ok) (by kernel_rfl) (by kernel_rfl) (by kernel_rfl) cmp_isNaN_uint64.ob cmp_isNaN_uint64.is k
theorem cmp_Compare_uint64.ok (k : Nat) : CallOK Tryz.prog GL0 68 (cmp_Compare_uint64.ce) := call_ok (F := cmp_Compare_uint64.F) (c := bodyOf Tryz.f68) (g := fun k => (cmp_Compare_uint64.ce).fn) (by kernel_rfl) (by kernel_rfl) (by kernel_rfl) (by kernel_rfl) (fun k => env_ok TT0.ok (cl_cons (cmp_isNaN_uint64.ok k) cl_nil) CM0.ok BLD0.ok) (by kernel_rfl) (by kernel_rfl) (by kernel_rfl) cmp_Compare_uint64.ob cmp_Compare_uint64.is k
theorem rat_size_compare.ok (k : Nat) : CallOK Tryz.prog GL0 50 (rat_size_compare.ce k) := call_ok (F := rat_size_compare.F) (c := bodyOf Tryz.f50) (g := fun k => (rat_size_compare.ce k).fn) (by kernel_rfl) (by kernel_rfl) (by kernel_rfl) (by kernel_rfl) (fun k => env_ok TT0.ok (cl_cons (cmp_Or_int.ok k) (cl_cons (cmp_Compare_uint64.ok k) cl_nil)) CM0.ok BLD0.ok) (by kernel_rfl) (by kernel_rfl) (by kernel_rfl) rat_size_compare.ob rat_size_compare.is k
theorem rat_size_less.ok (k : Nat) : CallOK Tryz.prog GL0 51 (rat_size_less.ce) := call_ok (F := rat_size_less.F) (c := bodyOf Tryz.f51) (g := fun k => (rat_size_less.ce).fn) (by kernel_rfl) (by kernel_rfl) (by kernel_rfl) (by kernel_rfl) (fun k => env_ok TT0.ok (cl_ext (math_bits_Sub64.ok k) cl_nil) CM0.ok BLD0.ok) (by kernel_rfl) (by kernel_rfl) (by kernel_rfl) rat_size_less.ob rat_size_less.is k
theorem rat_size_over.ok (k : Nat) : CallOK Tryz.prog GL0 44 (rat_size_over.ce k) := call_ok (F := rat_size_over.F) (c := bodyOf Tryz.f44) (g := fun k => (rat_size_over.ce k).fn) (by kernel_rfl) (by kernel_rfl) (by kernel_rfl) (by kernel_rfl) (fun k => env_ok TT0.ok (cl_cons (rat_size_compare.ok k) (cl_cons (rat_size_less.ok k) cl_nil)) CM0.ok BLD0.ok) (by kernel_rfl) (by kernel_rfl) (by kernel_rfl) rat_size_over.ob rat_size_over.is k
theorem rat_size_isZero.ok (k : Nat) : CallOK Tryz.prog GL0 45 (rat_size_isZero.ce) := call_ok (F := rat_size_isZero.F) (c := bodyOf Tryz.f45) (g := fun k => (rat_size_isZero.ce).fn) (by kernel_rfl) (by kernel_rfl) (by kernel_rfl) (by kernel_rfl) (fun k => env_ok TT0.ok cl_nil CM0.ok BLD0.ok) (by kernel_rfl) (by kernel_rfl) (by kernel_rfl) rat_size_isZero.ob rat_size_isZero.is k
theorem rat_common.ok (k : Nat) : CallOK Tryz.prog GL0 43 (rat_common.ce k) := call_ok (F := rat_common.F) (c := bodyOf Tryz.f43) (g := fun k => (rat_common.ce k).fn) (by kernel_rfl) (by kernel_rfl) (by kernel_rfl) (by kernel_rfl) (fun k => env_ok TT0.ok (cl_cons (rat_size_over.ok k) (cl_cons (rat_size_isZero.ok k) cl_nil)) CM0.ok BLD0.ok) (by kernel_rfl) (by kernel_rfl) (by kernel_rfl) rat_common.ob rat_common.is k
theorem rat_wide_number.ok (k : Nat) : CallOK Tryz.prog GL0 46 (rat_wide_number.ce k) := call_ok (F := rat_wide_number.F) (c := bodyOf Tryz.f46) (g := fun k => (rat_wide_number.ce k).fn) (by kernel_rfl) (by kernel_rfl) (by kernel_rfl) (by kernel_rfl) (fun k => env_ok TT0.ok cl_nil CM0.ok BLD0.ok) (by kernel_rfl) (by kernel_rfl) (by kernel_rfl) rat_wide_number.ob rat_wide_number.is k
theorem rat_made.ok (k : Nat) : CallOK Tryz.prog GL0 33 (rat_made.ce k) := call_ok (F := rat_made.F) (c := bodyOf Tryz.f33) (g := fun k => (rat_made.ce k).fn) (by kernel_rfl) (by kernel_rfl) (by kernel_rfl) (by kernel_rfl) (fun k => env_ok TT0.ok (cl_cons (rat_common.ok k) (cl_cons (rat_size_over.ok k) (cl_cons (rat_size_isZero.ok k) (cl_cons (rat_wide_number.ok k) cl_nil)))) CM0.ok BLD0.ok) (by kernel_rfl) (by kernel_rfl) (by kernel_rfl) rat_made.ob rat_made.is k
theorem rat_of.ok (k : Nat) : CallOK Tryz.prog GL0 47 (rat_of.ce) := call_ok (F := rat_of.F) (c := bodyOf Tryz.f47) (g := fun k => (rat_of.ce).fn) (by kernel_rfl) (by kernel_rfl) (by kernel_rfl) (by kernel_rfl) (fun k => env_ok TT0.ok cl_nil CM0.ok BLD0.ok) (by kernel_rfl) (by kernel_rfl) (by kernel_rfl) rat_of.ob rat_of.is k
theorem rat_New.ok (k : Nat) : CallOK Tryz.prog GL0 42 (rat_New.ce k) := call_ok (F := rat_New.F) (c := bodyOf Tryz.f42) (g := fun k => (rat_New.ce k).fn) (by kernel_rfl) (by kernel_rfl) (by kernel_rfl) (by kernel_rfl) (fun k => env_ok TT0.ok (cl_cons (rat_made.ok k) (cl_cons (rat_of.ok k) cl_nil)) CM0.ok BLD0.ok) (by kernel_rfl) (by kernel_rfl) (by kernel_rfl) rat_New.ob rat_New.is k
theorem rat_Right.ok (k : Nat) : CallOK Tryz.prog GL0 31 (rat_Right.ce k) := call_ok (F := rat_Right.F) (c := bodyOf Tryz.f31) (g := fun k => (rat_Right.ce k).fn) (by kernel_rfl) (by kernel_rfl) (by kernel_rfl) (by kernel_rfl) (fun k => env_ok TT0.ok (cl_cons (rat_New.ok k) cl_nil) CM0.ok BLD0.ok) (by kernel_rfl) (by kernel_rfl) (by kernel_rfl) rat_Right.ob rat_Right.is k
theorem rat_both.ok (k : Nat) : CallOK Tryz.prog GL0 32 (rat_both.ce k) := call_ok (F := rat_both.F) (c := bodyOf Tryz.f32) (g := fun k => (rat_both.ce k).fn) (by kernel_rfl) (by kernel_rfl) (by kernel_rfl) (by kernel_rfl) (fun k => env_ok TT0.ok (cl_cons (rat_Right.ok k) cl_nil) CM0.ok BLD0.ok) (by kernel_rfl) (by kernel_rfl) (by kernel_rfl) rat_both.ob rat_both.is k
theorem math_bits_Mul64.ok (k : Nat) : CallOK Tryz.prog GL0 48 (math_bits_Mul64.ce) := call_ok (F := math_bits_Mul64.F) (c := bodyOf Tryz.f48) (g := fun k => (math_bits_Mul64.ce).fn) (by kernel_rfl) (by kernel_rfl) (by kernel_rfl) (by kernel_rfl) (fun k => env_ok TT0.ok cl_nil CM0.ok BLD0.ok) (by kernel_rfl) (by kernel_rfl) (by kernel_rfl) math_bits_Mul64.ob math_bits_Mul64.is k
theorem rat_times.ok (k : Nat) : CallOK Tryz.prog GL0 34 (rat_times.ce) := call_ok (F := rat_times.F) (c := bodyOf Tryz.f34) (g := fun k => (rat_times.ce).fn) (by kernel_rfl) (by kernel_rfl) (by kernel_rfl) (by kernel_rfl) (fun k => env_ok TT0.ok (cl_cons (rat_size_isZero.ok k) (cl_cons (rat_of.ok k) (cl_cons (math_bits_Mul64.ok k) cl_nil))) CM0.ok BLD0.ok) (by kernel_rfl) (by kernel_rfl) (by kernel_rfl) rat_times.ob rat_times.is k
theorem rat_size_plus.ok (k : Nat) : CallOK Tryz.prog GL0 49 (rat_size_plus.ce) := call_ok (F := rat_size_plus.F) (c := bodyOf Tryz.f49) (g := fun k => (rat_size_plus.ce).fn) (by kernel_rfl) (by kernel_rfl) (by kernel_rfl) (by kernel_rfl) (fun k => env_ok TT0.ok (cl_ext (math_bits_Add64.ok k) cl_nil) CM0.ok BLD0.ok) (by kernel_rfl) (by kernel_rfl) (by kernel_rfl) rat_size_plus.ob rat_size_plus.is k
theorem rat_wide_sum.ok (k : Nat) : CallOK Tryz.prog GL0 35 (rat_wide_sum.ce k) := call_ok (F := rat_wide_sum.F) (c := bodyOf Tryz.f35) (g := fun k => (rat_wide_sum.ce k).fn) (by kernel_rfl) (by kernel_rfl) (by kernel_rfl) (by kernel_rfl) (fun k => env_ok TT0.ok (cl_cons (rat_size_plus.ok k) (cl_cons (rat_size_compare.ok k) (cl_cons (rat_size_less.ok k) cl_nil))) CM0.ok BLD0.ok) (by kernel_rfl) (by kernel_rfl) (by kernel_rfl) rat_wide_sum.ob rat_wide_sum.is k
theorem rat_Add.ok (k : Nat) : CallOK Tryz.prog GL0 22 (rat_Add.ce k) := call_ok (F := rat_Add.F) (c := bodyOf Tryz.f22) (g := fun k => (rat_Add.ce k).fn) (by kernel_rfl) (by kernel_rfl) (by kernel_rfl) (by kernel_rfl) (fun k => env_ok TT0.ok (cl_cons (rat_both.ok k) (cl_cons (rat_made.ok k) (cl_cons (rat_times.ok k) (cl_cons (rat_wide_sum.ok k) cl_nil)))) CM0.ok BLD0.ok) (by kernel_rfl) (by kernel_rfl) (by kernel_rfl) rat_Add.ob rat_Add.is k
theorem run_isDelay.ok (k : Nat) : CallOK Tryz.prog GL0 21 (run_isDelay.ce k) := call_ok (F := run_isDelay.F) (c := bodyOf Tryz.f21) (g := fun k => (run_isDelay.ce k).fn) (by kernel_rfl) (by kernel_rfl) (by kernel_rfl) (by kernel_rfl) (fun k => env_ok TT0.ok (cl_cons (rat_Right.ok k) cl_nil) CM0.ok BLD0.ok) (by kernel_rfl) (by kernel_rfl) (by kernel_rfl) run_isDelay.ob run_isDelay.is k
theorem run_Times_1.ok (k : Nat) : CallOK Tryz.prog GL0 20 (run_Times_1.ce k) := call_ok (F := run_Times_1.F) (c := bodyOf Tryz.f20) (g := fun k => (run_Times_1.ce k).fn) (by kernel_rfl) (by kernel_rfl) (by kernel_rfl) (by kernel_rfl) (fun k => env_ok TT0.ok (cl_cons (run_isDelay.ok k) cl_nil) CM0.ok BLD0.ok) (by kernel_rfl) (by kernel_rfl) (by kernel_rfl) run_Times_1.ob run_Times_1.is k
theorem slices_IndexFunc_api_Rat_api_Rat_at20.ok (k : Nat) : CallOK Tryz.prog GL0 30 (slices_IndexFunc_api_Rat_api_Rat_at20.ce k) := call_ok (F := slices_IndexFunc_api_Rat_api_Rat_at20.F) (c := bodyOf Tryz.f30) (g := fun k => (slices_IndexFunc_api_Rat_api_Rat_at20.ce k).fn) (by kernel_rfl) (by kernel_rfl) (by kernel_rfl) (by kernel_rfl) (fun k => env_ok TT0.ok (cl_cons (run_Times_1.ok k) cl_nil) CM0.ok BLD0.ok) (by kernel_rfl) (by kernel_rfl) (by kernel_rfl) slices_IndexFunc_api_Rat_api_Rat_at20.ob slices_IndexFunc_api_Rat_api_Rat_at20.is k
theorem slices_ContainsFunc_api_Rat_api_Rat_at20.ok (k : Nat) : CallOK Tryz.prog GL0 19 (slices_ContainsFunc_api_Rat_api_Rat_at20.ce k) := call_ok (F := slices_ContainsFunc_api_Rat_api_Rat_at20.F) (c := bodyOf Tryz.f19) (g := fun k => (slices_ContainsFunc_api_Rat_api_Rat_at20.ce k).fn) (by kernel_rfl) (by kernel_rfl) (by kernel_rfl) (by kernel_rfl) (fun k => env_ok TT0.ok (cl_cons (slices_IndexFunc_api_Rat_api_Rat_at20.ok k) cl_nil) CM0.ok BLD0.ok) (by kernel_rfl) (by kernel_rfl) (by kernel_rfl) slices_ContainsFunc_api_Rat_api_Rat_at20.ob slices_ContainsFunc_api_Rat_api_Rat_at20.is k
theorem run_Times.ok (k : Nat) : CallOK Tryz.prog GL0 9 (run_Times.ce k) := call_ok (F := run_Times.F) (c := bodyOf Tryz.f9) (g := fun k => (run_Times.ce k).fn) (by kernel_rfl) (by kernel_rfl) (by kernel_rfl) (by kernel_rfl) (fun k => env_ok TT0.ok (cl_cons (rat_Of.ok k) (cl_cons (run_delays.ok k) (cl_cons (slices_ContainsFunc_api_Rat_api_Rat_at20.ok k) (cl_cons (rat_Add.ok k) cl_nil)))) CM0.ok BLD0.ok) (by kernel_rfl) (by kernel_rfl) (by kernel_rfl) run_Times.ob run_Times.is k
theorem net_some_1.ok (k : Nat) : CallOK Tryz.prog GL0 76 (net_some_1.ce) := call_ok (F := net_some_1.F) (c := bodyOf Tryz.f76) (g := fun k => (net_some_1.ce).fn) (by kernel_rfl) (by kernel_rfl) (by kernel_rfl) (by kernel_rfl) (fun k => env_ok TT0.ok cl_nil CM0.ok BLD0.ok) (by kernel_rfl) (by kernel_rfl) (by kernel_rfl) net_some_1.ob net_some_1.is k
theorem slices_IndexFunc_api_Auto_api_Auto_at76.ok (k : Nat) : CallOK Tryz.prog GL0 96 (slices_IndexFunc_api_Auto_api_Auto_at76.ce k) := call_ok (F := slices_IndexFunc_api_Auto_api_Auto_at76.F) (c := bodyOf Tryz.f96) (g := fun k => (slices_IndexFunc_api_Auto_api_Auto_at76.ce k).fn) (by kernel_rfl) (by kernel_rfl) (by kernel_rfl) (by kernel_rfl) (fun k => env_ok TT0.ok (cl_cons (net_some_1.ok k) cl_nil) CM0.ok BLD0.ok) (by kernel_rfl) (by kernel_rfl) (by kernel_rfl) slices_IndexFunc_api_Auto_api_Auto_at76.ob slices_IndexFunc_api_Auto_api_Auto_at76.is k
theorem slices_ContainsFunc_api_Auto_api_Auto_at76.ok (k : Nat) : CallOK Tryz.prog GL0 75 (slices_ContainsFunc_api_Auto_api_Auto_at76.ce k) := call_ok (F := slices_ContainsFunc_api_Auto_api_Auto_at76.F) (c := bodyOf Tryz.f75) (g := fun k => (slices_ContainsFunc_api_Auto_api_Auto_at76.ce k).fn) (by kernel_rfl) (by kernel_rfl) (by kernel_rfl) (by kernel_rfl) (fun k => env_ok TT0.ok (cl_cons (slices_IndexFunc_api_Auto_api_Auto_at76.ok k) cl_nil) CM0.ok BLD0.ok) (by kernel_rfl) (by kernel_rfl) (by kernel_rfl) slices_ContainsFunc_api_Auto_api_Auto_at76.ob slices_ContainsFunc_api_Auto_api_Auto_at76.is k
theorem net_some.ok (k : Nat) : CallOK Tryz.prog GL0 57 (net_some.ce k) := call_ok (F := net_some.F) (c := bodyOf Tryz.f57) (g := fun k => (net_some.ce k).fn) (by kernel_rfl) (by kernel_rfl) (by kernel_rfl) (by kernel_rfl) (fun k => env_ok TT0.ok (cl_cons (slices_ContainsFunc_api_Auto_api_Auto_at76.ok k) cl_nil) CM0.ok BLD0.ok) (by kernel_rfl) (by kernel_rfl) (by kernel_rfl) net_some.ob net_some.is k
theorem net_sizes.ok (k : Nat) : CallOK Tryz.prog GL0 58 (net_sizes.ce k) := call_ok (F := net_sizes.F) (c := bodyOf Tryz.f58) (g := fun k => (net_sizes.ce k).fn) (by kernel_rfl) (by kernel_rfl) (by kernel_rfl) (by kernel_rfl) (fun k => env_ok TT0.ok cl_nil CM0.ok BLD0.ok) (by kernel_rfl) (by kernel_rfl) (by kernel_rfl) net_sizes.ob net_sizes.is k
theorem lex_of.ok (k : Nat) : CallOK Tryz.prog GL0 104 (lex_of.ce k) := call_ok (F := lex_of.F) (c := bodyOf Tryz.f104) (g := fun k => (lex_of.ce k).fn) (by kernel_rfl) (by kernel_rfl) (by kernel_rfl) (by kernel_rfl) (fun k => env_ok TT0.ok cl_nil CM0.ok BLD0.ok) (by kernel_rfl) (by kernel_rfl) (by kernel_rfl) lex_of.ob lex_of.is k
theorem lex_word.ok (k : Nat) : CallOK Tryz.prog GL0 105 (lex_word.ce k) := call_ok (F := lex_word.F) (c := bodyOf Tryz.f105) (g := fun k => (lex_word.ce k).fn) (by kernel_rfl) (by kernel_rfl) (by kernel_rfl) (by kernel_rfl) (fun k => env_ok TT0.ok (cl_cons (lex_of.ok k) cl_nil) CM0.ok BLD0.ok) (by kernel_rfl) (by kernel_rfl) (by kernel_rfl) lex_word.ob lex_word.is k
theorem slices_Index_string_string.ok (k : Nat) : CallOK Tryz.prog GL0 108 (slices_Index_string_string.ce k) := call_ok (F := slices_Index_string_string.F) (c := bodyOf Tryz.f108) (g := fun k => (slices_Index_string_string.ce k).fn) (by kernel_rfl) (by kernel_rfl) (by kernel_rfl) (by kernel_rfl) (fun k => env_ok TT0.ok cl_nil CM0.ok BLD0.ok) (by kernel_rfl) (by kernel_rfl) (by kernel_rfl) slices_Index_string_string.ob slices_Index_string_string.is k
theorem slices_Contains_string_string.ok (k : Nat) : CallOK Tryz.prog GL0 106 (slices_Contains_string_string.ce k) := call_ok (F := slices_Contains_string_string.F) (c := bodyOf Tryz.f106) (g := fun k => (slices_Contains_string_string.ce k).fn) (by kernel_rfl) (by kernel_rfl) (by kernel_rfl) (by kernel_rfl) (fun k => env_ok TT0.ok (cl_cons (slices_Index_string_string.ok k) cl_nil) CM0.ok BLD0.ok) (by kernel_rfl) (by kernel_rfl) (by kernel_rfl) slices_Contains_string_string.ob slices_Contains_string_string.is k
theorem lex_IsName.ok (k : Nat) : CallOK Tryz.prog GL0 97 (lex_IsName.ce k) := call_ok (F := lex_IsName.F) (c := bodyOf Tryz.f97) (g := fun k => (lex_IsName.ce k).fn) (by kernel_rfl) (by kernel_rfl) (by kernel_rfl) (by kernel_rfl) (fun k => env_ok TT0.ok (cl_cons (lex_of.ok k) (cl_cons (lex_word.ok k) (cl_cons (slices_Contains_string_string.ok k) cl_nil))) CM0.ok BLD0.ok) (by kernel_rfl) (by kernel_rfl) (by kernel_rfl) lex_IsName.ob lex_IsName.is k
theorem net_given.ok (k : Nat) : CallOK Tryz.prog GL0 77 (net_given.ce k) := call_ok (F := net_given.F) (c := bodyOf Tryz.f77) (g := fun k => (net_given.ce k).fn) (by kernel_rfl) (by kernel_rfl) (by kernel_rfl) (by kernel_rfl) (fun k => env_ok TT0.ok (cl_cons (lex_IsName.ok k) cl_nil) CM0.ok BLD0.ok) (by kernel_rfl) (by kernel_rfl) (by kernel_rfl) net_given.ob net_given.is k
theorem slices_Grow_string_string.ok (k : Nat) : CallOK Tryz.prog GL0 107 (slices_Grow_string_string.ce) := call_ok (F := slices_Grow_string_string.F) (c := bodyOf Tryz.f107) (g := fun k => (slices_Grow_string_string.ce).fn) (by kernel_rfl) (by kernel_rfl) (by kernel_rfl) (by kernel_rfl) (fun k => env_ok TT0.ok cl_nil CM0.ok BLD0.ok) (by kernel_rfl) (by kernel_rfl) (by kernel_rfl) slices_Grow_string_string.ob slices_Grow_string_string.is k
theorem slices_Concat_string_string.ok (k : Nat) : CallOK Tryz.prog GL0 98 (slices_Concat_string_string.ce k) := call_ok (F := slices_Concat_string_string.F) (c := bodyOf Tryz.f98) (g := fun k => (slices_Concat_string_string.ce k).fn) (by kernel_rfl) (by kernel_rfl) (by kernel_rfl) (by kernel_rfl) (fun k => env_ok TT0.ok (cl_cons (slices_Grow_string_string.ok k) cl_nil) CM0.ok BLD0.ok) (by kernel_rfl) (by kernel_rfl) (by kernel_rfl) slices_Concat_string_string.ob slices_Concat_string_string.is k
theorem net_Names.ok (k : Nat) : CallOK Tryz.prog GL0 99 (net_Names.ce k) := call_ok (F := net_Names.F) (c := bodyOf Tryz.f99) (g := fun k => (net_Names.ce k).fn) (by kernel_rfl) (by kernel_rfl) (by kernel_rfl) (by kernel_rfl) (fun k => env_ok TT0.ok cl_nil CM0.ok BLD0.ok) (by kernel_rfl) (by kernel_rfl) (by kernel_rfl) net_Names.ob net_Names.is k
theorem net_all.ok (k : Nat) : CallOK Tryz.prog GL0 78 (net_all.ce k) := call_ok (F := net_all.F) (c := bodyOf Tryz.f78) (g := fun k => (net_all.ce k).fn) (by kernel_rfl) (by kernel_rfl) (by kernel_rfl) (by kernel_rfl) (fun k => env_ok TT0.ok (cl_cons (slices_Concat_string_string.ok k) (cl_cons (net_Names.ok k) cl_nil)) CM0.ok BLD0.ok) (by kernel_rfl) (by kernel_rfl) (by kernel_rfl) net_all.ob net_all.is k
theorem net_locNames.ok (k : Nat) : CallOK Tryz.prog GL0 79 (net_locNames.ce k) := call_ok (F := net_locNames.F) (c := bodyOf Tryz.f79) (g := fun k => (net_locNames.ce k).fn) (by kernel_rfl) (by kernel_rfl) (by kernel_rfl) (by kernel_rfl) (fun k => env_ok TT0.ok cl_nil CM0.ok BLD0.ok) (by kernel_rfl) (by kernel_rfl) (by kernel_rfl) net_locNames.ob net_locNames.is k
theorem net_names.ok (k : Nat) : CallOK Tryz.prog GL0 59 (net_names.ce k) := call_ok (F := net_names.F) (c := bodyOf Tryz.f59) (g := fun k => (net_names.ce k).fn) (by kernel_rfl) (by kernel_rfl) (by kernel_rfl) (by kernel_rfl) (fun k => env_ok TT0.ok (cl_cons (net_given.ok k) (cl_cons (net_all.ok k) (cl_cons (net_locNames.ok k) cl_nil))) CM0.ok BLD0.ok) (by kernel_rfl) (by kernel_rfl) (by kernel_rfl) net_names.ob net_names.is k
theorem net_vars.ok (k : Nat) : CallOK Tryz.prog GL0 60 (net_vars.ce k) := call_ok (F := net_vars.F) (c := bodyOf Tryz.f60) (g := fun k => (net_vars.ce k).fn) (by kernel_rfl) (by kernel_rfl) (by kernel_rfl) (by kernel_rfl) (fun k => env_ok TT0.ok cl_nil CM0.ok BLD0.ok) (by kernel_rfl) (by kernel_rfl) (by kernel_rfl) net_vars.ob net_vars.is k
theorem net_locs.ok (k : Nat) : CallOK Tryz.prog GL0 61 (net_locs.ce k) := call_ok (F := net_locs.F) (c := bodyOf Tryz.f61) (g := fun k => (net_locs.ce k).fn) (by kernel_rfl) (by kernel_rfl) (by kernel_rfl) (by kernel_rfl) (fun k => env_ok TT0.ok cl_nil CM0.ok BLD0.ok) (by kernel_rfl) (by kernel_rfl) (by kernel_rfl) net_locs.ob net_locs.is k
theorem net_edges_1.ok (k : Nat) : CallOK Tryz.prog GL0 80 (net_edges_1.ce) := call_ok (F := net_edges_1.F) (c := bodyOf Tryz.f80) (g := fun k => (net_edges_1.ce).fn) (by kernel_rfl) (by kernel_rfl) (by kernel_rfl) (by kernel_rfl) (fun k => env_ok TT0.ok cl_nil CM0.ok BLD0.ok) (by kernel_rfl) (by kernel_rfl) (by kernel_rfl) net_edges_1.ob net_edges_1.is k
theorem net_edges.ok (k : Nat) : CallOK Tryz.prog GL0 62 (net_edges.ce k) := call_ok (F := net_edges.F) (c := bodyOf Tryz.f62) (g := fun k => (net_edges.ce k).fn) (by kernel_rfl) (by kernel_rfl) (by kernel_rfl) (by kernel_rfl) (fun k => env_ok TT0.ok (cl_cons (net_edges_1.ok k) cl_nil) CM0.ok BLD0.ok) (by kernel_rfl) (by kernel_rfl) (by kernel_rfl) net_edges.ob net_edges.is k
theorem net_isClock.ok (k : Nat) : CallOK Tryz.prog GL0 84 (net_isClock.ce) := call_ok (F := net_isClock.F) (c := bodyOf Tryz.f84) (g := fun k => (net_isClock.ce).fn) (by kernel_rfl) (by kernel_rfl) (by kernel_rfl) (by kernel_rfl) (fun k => env_ok TT0.ok cl_nil CM0.ok BLD0.ok) (by kernel_rfl) (by kernel_rfl) (by kernel_rfl) net_isClock.ob net_isClock.is k
theorem net_clocksOf.ok (k : Nat) : CallOK Tryz.prog GL0 81 (net_clocksOf.ce k) := call_ok (F := net_clocksOf.F) (c := bodyOf Tryz.f81) (g := fun k => (net_clocksOf.ce k).fn) (by kernel_rfl) (by kernel_rfl) (by kernel_rfl) (by kernel_rfl) (fun k => env_ok TT0.ok (cl_cons (net_isClock.ok k) cl_nil) CM0.ok BLD0.ok) (by kernel_rfl) (by kernel_rfl) (by kernel_rfl) net_clocksOf.ob net_clocksOf.is k
theorem net_guards.ok (k : Nat) : CallOK Tryz.prog GL0 82 (net_guards.ce k) := call_ok (F := net_guards.F) (c := bodyOf Tryz.f82) (g := fun k => (net_guards.ce k).fn) (by kernel_rfl) (by kernel_rfl) (by kernel_rfl) (by kernel_rfl) (fun k => env_ok TT0.ok cl_nil CM0.ok BLD0.ok) (by kernel_rfl) (by kernel_rfl) (by kernel_rfl) net_guards.ob net_guards.is k
theorem net_sets.ok (k : Nat) : CallOK Tryz.prog GL0 83 (net_sets.ce k) := call_ok (F := net_sets.F) (c := bodyOf Tryz.f83) (g := fun k => (net_sets.ce k).fn) (by kernel_rfl) (by kernel_rfl) (by kernel_rfl) (by kernel_rfl) (fun k => env_ok TT0.ok cl_nil CM0.ok BLD0.ok) (by kernel_rfl) (by kernel_rfl) (by kernel_rfl) net_sets.ob net_sets.is k
theorem net_clocks.ok (k : Nat) : CallOK Tryz.prog GL0 63 (net_clocks.ce k) := call_ok (F := net_clocks.F) (c := bodyOf Tryz.f63) (g := fun k => (net_clocks.ce k).fn) (by kernel_rfl) (by kernel_rfl) (by kernel_rfl) (by kernel_rfl) (fun k => env_ok TT0.ok (cl_cons (net_clocksOf.ok k) (cl_cons (net_guards.ok k) (cl_cons (net_sets.ok k) (cl_cons (net_isClock.ok k) cl_nil)))) CM0.ok BLD0.ok) (by kernel_rfl) (by kernel_rfl) (by kernel_rfl) net_clocks.ob net_clocks.is k
theorem net_cmps.ok (k : Nat) : CallOK Tryz.prog GL0 85 (net_cmps.ce k) := call_ok (F := net_cmps.F) (c := bodyOf Tryz.f85) (g := fun k => (net_cmps.ce k).fn) (by kernel_rfl) (by kernel_rfl) (by kernel_rfl) (by kernel_rfl) (fun k => env_ok TT0.ok cl_nil CM0.ok BLD0.ok) (by kernel_rfl) (by kernel_rfl) (by kernel_rfl) net_cmps.ob net_cmps.is k
theorem net_forms.ok (k : Nat) : CallOK Tryz.prog GL0 64 (net_forms.ce k) := call_ok (F := net_forms.F) (c := bodyOf Tryz.f64) (g := fun k => (net_forms.ce k).fn) (by kernel_rfl) (by kernel_rfl) (by kernel_rfl) (by kernel_rfl) (fun k => env_ok TT0.ok (cl_cons (net_guards.ok k) (cl_cons (net_sets.ok k) (cl_cons (net_cmps.ok k) cl_nil))) CM0.ok BLD0.ok) (by kernel_rfl) (by kernel_rfl) (by kernel_rfl) net_forms.ob net_forms.is k
theorem expr_of.ok (k : Nat) : CallOK Tryz.prog GL0 101 (expr_of.ce) := call_ok (F := expr_of.F) (c := bodyOf Tryz.f101) (g := fun k => (expr_of.ce).fn) (by kernel_rfl) (by kernel_rfl) (by kernel_rfl) (by kernel_rfl) (fun k => env_ok TT0.ok cl_nil CM0.ok BLD0.ok) (by kernel_rfl) (by kernel_rfl) (by kernel_rfl) expr_of.ob expr_of.is k
theorem expr_End.ok (k : Nat) : CallOK Tryz.prog GL0 100 (expr_End.ce k) := call_ok (F := expr_End.F) (c := bodyOf Tryz.f100) (g := fun k => (expr_End.ce k).fn) (by kernel_rfl) (by kernel_rfl) (by kernel_rfl) (by kernel_rfl) (fun k => env_ok TT0.ok (cl_cons (expr_of.ok k) cl_nil) CM0.ok BLD0.ok) (by kernel_rfl) (by kernel_rfl) (by kernel_rfl) expr_End.ob expr_End.is k
theorem expr_Right.ok (k : Nat) : CallOK Tryz.prog GL0 87 (expr_Right.ce k) := call_ok (F := expr_Right.F) (c := bodyOf Tryz.f87) (g := fun k => (expr_Right.ce k).fn) (by kernel_rfl) (by kernel_rfl) (by kernel_rfl) (by kernel_rfl) (fun k => env_ok TT0.ok (cl_cons (expr_End.ok k) (cl_cons (expr_of.ok k) cl_nil)) CM0.ok BLD0.ok) (by kernel_rfl) (by kernel_rfl) (by kernel_rfl) expr_Right.ob expr_Right.is k
theorem expr_IsTruth.ok (k : Nat) : CallOK Tryz.prog GL0 88 (expr_IsTruth.ce) := call_ok (F := expr_IsTruth.F) (c := bodyOf Tryz.f88) (g := fun k => (expr_IsTruth.ce).fn) (by kernel_rfl) (by kernel_rfl) (by kernel_rfl) (by kernel_rfl) (fun k => env_ok TT0.ok (cl_cons (expr_of.ok k) cl_nil) CM0.ok BLD0.ok) (by kernel_rfl) (by kernel_rfl) (by kernel_rfl) expr_IsTruth.ob expr_IsTruth.is k
theorem net_truth.ok (k : Nat) : CallOK Tryz.prog GL0 86 (net_truth.ce k) := call_ok (F := net_truth.F) (c := bodyOf Tryz.f86) (g := fun k => (net_truth.ce k).fn) (by kernel_rfl) (by kernel_rfl) (by kernel_rfl) (by kernel_rfl) (fun k => env_ok TT0.ok (cl_cons (expr_Right.ok k) (cl_cons (expr_IsTruth.ok k) cl_nil)) CM0.ok BLD0.ok) (by kernel_rfl) (by kernel_rfl) (by kernel_rfl) net_truth.ob net_truth.is k
theorem net_tests.ok (k : Nat) : CallOK Tryz.prog GL0 65 (net_tests.ce k) := call_ok (F := net_tests.F) (c := bodyOf Tryz.f65) (g := fun k => (net_tests.ce k).fn) (by kernel_rfl) (by kernel_rfl) (by kernel_rfl) (by kernel_rfl) (fun k => env_ok TT0.ok (cl_cons (net_sets.ok k) (cl_cons (net_truth.ok k) (cl_cons (expr_Right.ok k) (cl_cons (expr_IsTruth.ok k) cl_nil)))) CM0.ok BLD0.ok) (by kernel_rfl) (by kernel_rfl) (by kernel_rfl) net_tests.ob net_tests.is k
theorem net_Whole.ok (k : Nat) : CallOK Tryz.prog GL0 41 (net_Whole.ce k) := call_ok (F := net_Whole.F) (c := bodyOf Tryz.f41) (g := fun k => (net_Whole.ce k).fn) (by kernel_rfl) (by kernel_rfl) (by kernel_rfl) (by kernel_rfl) (fun k => env_ok TT0.ok (cl_cons (net_some.ok k) (cl_cons (net_sizes.ok k) (cl_cons (net_names.ok k) (cl_cons (net_vars.ok k) (cl_cons (net_locs.ok k) (cl_cons (net_edges.ok k) (cl_cons (net_clocks.ok k) (cl_cons (net_forms.ok k) (cl_cons (net_tests.ok k) cl_nil))))))))) CM0.ok BLD0.ok) (by kernel_rfl) (by kernel_rfl) (by kernel_rfl) net_Whole.ob net_Whole.is k
theorem net_Right.ok (k : Nat) : CallOK Tryz.prog GL0 27 (net_Right.ce k) := call_ok (F := net_Right.F) (c := bodyOf Tryz.f27) (g := fun k => (net_Right.ce k).fn) (by kernel_rfl) (by kernel_rfl) (by kernel_rfl) (by kernel_rfl) (fun k => env_ok TT0.ok (cl_cons (net_Whole.ok k) cl_nil) CM0.ok BLD0.ok) (by kernel_rfl) (by kernel_rfl) (by kernel_rfl) net_Right.ob net_Right.is k
theorem moves_edge.ok (k : Nat) : CallOK Tryz.prog GL0 52 (moves_edge.ce) := call_ok (F := moves_edge.F) (c := bodyOf Tryz.f52) (g := fun k => (moves_edge.ce).fn) (by kernel_rfl) (by kernel_rfl) (by kernel_rfl) (by kernel_rfl) (fun k => env_ok TT0.ok cl_nil CM0.ok BLD0.ok) (by kernel_rfl) (by kernel_rfl) (by kernel_rfl) moves_edge.ob moves_edge.is k
theorem moves_sides.ok (k : Nat) : CallOK Tryz.prog GL0 36 (moves_sides.ce k) := call_ok (F := moves_sides.F) (c := bodyOf Tryz.f36) (g := fun k => (moves_sides.ce k).fn) (by kernel_rfl) (by kernel_rfl) (by kernel_rfl) (by kernel_rfl) (fun k => env_ok TT0.ok (cl_cons (moves_edge.ok k) cl_nil) CM0.ok BLD0.ok) (by kernel_rfl) (by kernel_rfl) (by kernel_rfl) moves_sides.ob moves_sides.is k
theorem moves_Print.ok (k : Nat) : CallOK Tryz.prog GL0 23 (moves_Print.ce k) := call_ok (F := moves_Print.F) (c := bodyOf Tryz.f23) (g := fun k => (moves_Print.ce k).fn) (by kernel_rfl) (by kernel_rfl) (by kernel_rfl) (by kernel_rfl) (fun k => env_ok TT0.ok (cl_cons (net_Right.ok k) (cl_cons (moves_sides.ok k) (cl_cons (strconv_Itoa.ok k) (cl_cons (strings_Join.ok k) cl_nil)))) CM0.ok BLD0.ok) (by kernel_rfl) (by kernel_rfl) (by kernel_rfl) moves_Print.ob moves_Print.is k
theorem run_Moves.ok (k : Nat) : CallOK Tryz.prog GL0 28 (run_Moves.ce k) := call_ok (F := run_Moves.F) (c := bodyOf Tryz.f28) (g := fun k => (run_Moves.ce k).fn) (by kernel_rfl) (by kernel_rfl) (by kernel_rfl) (by kernel_rfl) (fun k => env_ok TT0.ok cl_nil CM0.ok BLD0.ok) (by kernel_rfl) (by kernel_rfl) (by kernel_rfl) run_Moves.ob run_Moves.is k
theorem run_Right_1.ok (k : Nat) : CallOK Tryz.prog GL0 29 (run_Right_1.ce k) := call_ok (F := run_Right_1.F) (c := bodyOf Tryz.f29) (g := fun k => (run_Right_1.ce k).fn) (by kernel_rfl) (by kernel_rfl) (by kernel_rfl) (by kernel_rfl) (fun k => env_ok TT0.ok (cl_cons (run_isDelay.ok k) cl_nil) CM0.ok BLD0.ok) (by kernel_rfl) (by kernel_rfl) (by kernel_rfl) run_Right_1.ob run_Right_1.is k
theorem slices_IndexFunc_api_Rat_api_Rat_at29.ok (k : Nat) : CallOK Tryz.prog GL0 30 (slices_IndexFunc_api_Rat_api_Rat_at29.ce k) := call_ok (F := slices_IndexFunc_api_Rat_api_Rat_at29.F) (c := bodyOf Tryz.f30) (g := fun k => (slices_IndexFunc_api_Rat_api_Rat_at29.ce k).fn) (by kernel_rfl) (by kernel_rfl) (by kernel_rfl) (by kernel_rfl) (fun k => env_ok TT0.ok (cl_cons (run_Right_1.ok k) cl_nil) CM0.ok BLD0.ok) (by kernel_rfl) (by kernel_rfl) (by kernel_rfl) slices_IndexFunc_api_Rat_api_Rat_at29.ob slices_IndexFunc_api_Rat_api_Rat_at29.is k
theorem slices_ContainsFunc_api_Rat_api_Rat_at29.ok (k : Nat) : CallOK Tryz.prog GL0 19 (slices_ContainsFunc_api_Rat_api_Rat_at29.ce k) := call_ok (F := slices_ContainsFunc_api_Rat_api_Rat_at29.F) (c := bodyOf Tryz.f19) (g := fun k => (slices_ContainsFunc_api_Rat_api_Rat_at29.ce k).fn) (by kernel_rfl) (by kernel_rfl) (by kernel_rfl) (by kernel_rfl) (fun k => env_ok TT0.ok (cl_cons (slices_IndexFunc_api_Rat_api_Rat_at29.ok k) cl_nil) CM0.ok BLD0.ok) (by kernel_rfl) (by kernel_rfl) (by kernel_rfl) slices_ContainsFunc_api_Rat_api_Rat_at29.ob slices_ContainsFunc_api_Rat_api_Rat_at29.is k
theorem run_Right.ok (k : Nat) : CallOK Tryz.prog GL0 14 (run_Right.ce k) := call_ok (F := run_Right.F) (c := bodyOf Tryz.f14) (g := fun k => (run_Right.ce k).fn) (by kernel_rfl) (by kernel_rfl) (by kernel_rfl) (by kernel_rfl) (fun k => env_ok TT0.ok (cl_cons (run_delays.ok k) (cl_cons (slices_ContainsFunc_api_Rat_api_Rat_at29.ok k) (cl_cons (moves_Print.ok k) (cl_cons (net_Right.ok k) (cl_cons (run_Moves.ok k) cl_nil))))) CM0.ok BLD0.ok) (by kernel_rfl) (by kernel_rfl) (by kernel_rfl) run_Right.ob run_Right.is k
theorem strconv_FormatInt.ok (k : Nat) : CallOK Tryz.prog GL0 40 (strconv_FormatInt.ce) := call_ok (F := strconv_FormatInt.F) (c := bodyOf Tryz.f40) (g := fun k => (strconv_FormatInt.ce).fn) (by kernel_rfl) (by kernel_rfl) (by kernel_rfl) (by kernel_rfl) (fun k => env_ok TT0.ok (cl_cons (internal_strconv_FormatInt.ok k) cl_nil) CM0.ok BLD0.ok) (by kernel_rfl) (by kernel_rfl) (by kernel_rfl) strconv_FormatInt.ob strconv_FormatInt.is k
theorem rat_Print.ok (k : Nat) : CallOK Tryz.prog GL0 25 (rat_Print.ce k) := call_ok (F := rat_Print.F) (c := bodyOf Tryz.f25) (g := fun k => (rat_Print.ce k).fn) (by kernel_rfl) (by kernel_rfl) (by kernel_rfl) (by kernel_rfl) (fun k => env_ok TT0.ok (cl_cons (rat_Right.ok k) (cl_cons (strconv_FormatInt.ok k) cl_nil)) CM0.ok BLD0.ok) (by kernel_rfl) (by kernel_rfl) (by kernel_rfl) rat_Print.ob rat_Print.is k
theorem run_Print.ok (k : Nat) : CallOK Tryz.prog GL0 12 (run_Print.ce k) := call_ok (F := run_Print.F) (c := bodyOf Tryz.f12) (g := fun k => (run_Print.ce k).fn) (by kernel_rfl) (by kernel_rfl) (by kernel_rfl) (by kernel_rfl) (fun k => env_ok TT0.ok (cl_cons (run_Right.ok k) (cl_cons (moves_Print.ok k) (cl_cons (rat_Print.ok k) cl_nil))) CM0.ok BLD0.ok) (by kernel_rfl) (by kernel_rfl) (by kernel_rfl) run_Print.ob run_Print.is k
theorem gnomonlaw20_small.ok (k : Nat) : CallOK Tryz.prog GL0 13 (gnomonlaw20_small.ce) := call_ok (F := gnomonlaw20_small.F) (c := bodyOf Tryz.f13) (g := fun k => (gnomonlaw20_small.ce).fn) (by kernel_rfl) (by kernel_rfl) (by kernel_rfl) (by kernel_rfl) (fun k => env_ok TT0.ok cl_nil CM0.ok BLD0.ok) (by kernel_rfl) (by kernel_rfl) (by kernel_rfl) gnomonlaw20_small.ob gnomonlaw20_small.is k
theorem gnomonlaw20_live.ok (k : Nat) : CallOK Tryz.prog GL0 5 (gnomonlaw20_live.ce k) := call_ok (F := gnomonlaw20_live.F) (c := bodyOf Tryz.f5) (g := fun k => (gnomonlaw20_live.ce k).fn) (by kernel_rfl) (by kernel_rfl) (by kernel_rfl) (by kernel_rfl) (fun k => env_ok TT0.ok (cl_cons (run_Times.ok k) (cl_cons (run_Print.ok k) (cl_cons (gnomonlaw20_small.ok k) (cl_cons (run_Right.ok k) cl_nil)))) CM0.ok BLD0.ok) (by kernel_rfl) (by kernel_rfl) (by kernel_rfl) gnomonlaw20_live.ob gnomonlaw20_live.is k
theorem slices_Equal_api_Step_api_Step.ok (k : Nat) : CallOK Tryz.prog GL0 15 (slices_Equal_api_Step_api_Step.ce k) := call_ok (F := slices_Equal_api_Step_api_Step.F) (c := bodyOf Tryz.f15) (g := fun k => (slices_Equal_api_Step_api_Step.ce k).fn) (by kernel_rfl) (by kernel_rfl) (by kernel_rfl) (by kernel_rfl) (fun k => env_ok TT0.ok cl_nil CM0.ok BLD0.ok) (by kernel_rfl) (by kernel_rfl) (by kernel_rfl) slices_Equal_api_Step_api_Step.ob slices_Equal_api_Step_api_Step.is k
theorem run_Same.ok (k : Nat) : CallOK Tryz.prog GL0 6 (run_Same.ce k) := call_ok (F := run_Same.F) (c := bodyOf Tryz.f6) (g := fun k => (run_Same.ce k).fn) (by kernel_rfl) (by kernel_rfl) (by kernel_rfl) (by kernel_rfl) (fun k => env_ok TT0.ok (cl_cons (slices_Equal_api_Step_api_Step.ok k) cl_nil) CM0.ok BLD0.ok) (by kernel_rfl) (by kernel_rfl) (by kernel_rfl) run_Same.ob run_Same.is k
theorem slices_Clone_api_Step_api_Step_raw.ok (k : Nat) : CallOK Tryz.prog GL0 16 (slices_Clone_api_Step_api_Step_raw.ce) := call_ok (F := slices_Clone_api_Step_api_Step_raw.F) (c := bodyOf Tryz.f16) (g := fun k => (slices_Clone_api_Step_api_Step_raw.ce).fn) (by kernel_rfl) (by kernel_rfl) (by kernel_rfl) (by kernel_rfl) (fun k => env_ok TT0.ok cl_nil CM0.ok BLD0.ok) (by kernel_rfl) (by kernel_rfl) (by kernel_rfl) slices_Clone_api_Step_api_Step_raw.ob slices_Clone_api_Step_api_Step_raw.is k
theorem slices_Clone_api_Step_api_Step.ok (k : Nat) : CallOK Tryz.prog GL0 16 slices_Clone_api_Step_api_Step.ce := ⟨(slices_Clone_api_Step_api_Step_raw.ok k).there, fun x r hx => (slices_Clone_api_Step_api_Step_raw.ok k).calls x r (slices_Clone_api_Step_api_Step.le _ r hx)⟩
theorem run_Cut.ok (k : Nat) : CallOK Tryz.prog GL0 8 (run_Cut.ce) := call_ok (F := run_Cut.F) (c := bodyOf Tryz.f8) (g := fun k => (run_Cut.ce).fn) (by kernel_rfl) (by kernel_rfl) (by kernel_rfl) (by kernel_rfl) (fun k => env_ok TT0.ok (cl_cons (slices_Clone_api_Step_api_Step.ok k) (cl_cons (rat_Of.ok k) cl_nil)) CM0.ok BLD0.ok) (by kernel_rfl) (by kernel_rfl) (by kernel_rfl) run_Cut.ob run_Cut.is k
theorem gnomonmem_SameRats.ok (k : Nat) : CallOK Tryz.prog GL0 10 (gnomonmem_SameRats.ce k) := call_ok (F := gnomonmem_SameRats.F) (c := bodyOf Tryz.f10) (g := fun k => (gnomonmem_SameRats.ce k).fn) (by kernel_rfl) (by kernel_rfl) (by kernel_rfl) (by kernel_rfl) (fun k => env_ok TT0.ok cl_nil CM0.ok BLD0.ok) (by kernel_rfl) (by kernel_rfl) (by kernel_rfl) gnomonmem_SameRats.ob gnomonmem_SameRats.is k
theorem run_Join.ok (k : Nat) : CallOK Tryz.prog GL0 11 (run_Join.ce k) := call_ok (F := run_Join.F) (c := bodyOf Tryz.f11) (g := fun k => (run_Join.ce k).fn) (by kernel_rfl) (by kernel_rfl) (by kernel_rfl) (by kernel_rfl) (fun k => env_ok TT0.ok (cl_cons (slices_Clone_api_Step_api_Step.ok k) (cl_cons (rat_Add.ok k) cl_nil)) CM0.ok BLD0.ok) (by kernel_rfl) (by kernel_rfl) (by kernel_rfl) run_Join.ob run_Join.is k
theorem gnomonlaw20_RunParts.ok (k : Nat) : CallOK Tryz.prog GL0 4 (gnomonlaw20_RunParts.ce k) := call_ok (F := gnomonlaw20_RunParts.F) (c := bodyOf Tryz.f4) (g := fun k => (gnomonlaw20_RunParts.ce k).fn) (by kernel_rfl) (by kernel_rfl) (by kernel_rfl) (by kernel_rfl) (fun k => env_ok TT0.ok (cl_cons (gnomonlaw20_live.ok k) (cl_cons (run_Same.ok k) (cl_cons (run_Cut.ok k) (cl_cons (run_Times.ok k) (cl_cons (gnomonmem_SameRats.ok k) (cl_cons (run_Join.ok k) cl_nil)))))) CM0.ok BLD0.ok) (by kernel_rfl) (by kernel_rfl) (by kernel_rfl) gnomonlaw20_RunParts.ob gnomonlaw20_RunParts.is k
end Go.Proofs.YtkmleeeekbdomaaGreatDoor.Q
