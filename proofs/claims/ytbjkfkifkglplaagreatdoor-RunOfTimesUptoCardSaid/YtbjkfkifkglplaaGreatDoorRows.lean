/-
  NARROWER THAN 'FOR EVERY INPUT', by the rows' own cells (each row's printed sentence says how): NetWholes: laid · NetGoals: laid · NetSames: laid · NetTexts: laid · NetCopies: laid · MovesAll: laid · RunOfTimes: laid · MovesTexts: laid · MovesBack: laid.
  DERIVED. THE GIVEN ROWS OF THIS SEAT. 9 by the template 'for every input the law returns true; each argument reads behind the call as it read before'; 0 by the template 'total and deterministic' (their statements: YtbjkfkifkglplaaGreatDoorTotals.lean).
  GIVEN WITH THE SEED: the statements are not yours to turn. If you find one false, say at which input.
  Laid BY PROGRAM, IN A SANDBOX (cutbox-rows.mjs): the forced cells as the released guide's own fill.sh prints them over the translation 03dc199e0621abdf… (all of the seat's roots in one cut). By AI agents, Wed Nov 11 2026. No macro, syntax, notation, axiom, sorry.
-/
import Derived.Test.YtbjkfkifkglplaaGreatDoorChecked
import GoSem.PinnedTables
import GoSem.Claim
import GoSem.ClaimJoined
import GoSem.ClaimMapViews
import Derived.JoinedTies
import Derived.KernelRfl
namespace Go.Proofs.YtbjkfkifkglplaaGreatDoor
/- THE CELL 'sum', in the pinned program and in every row, IS THE sha256 OF THE DUMP (.gsa) THAT YtbjkfkifkglplaaGreatDoorProg.lean LOADS. Nothing in Lean hashes anything: it is a label: what it is worth is what the hold of that sum in a sandbox is worth. -/
noncomputable def Tryz.pinned : Pinned := { name := "ytbjkfkifkglplaagreatdoor", sum := "03dc199e0621abdf7203c1efe1dc596c540c08bcc8c820936bfec54d4f6ab5f7", checked := Tryz.checked }
namespace Rows
def none {H : Type} : Left H := { results := [], args := [] }

/- WHAT THE LISTED PACKAGE-LEVEL VARIABLES READ AS WHEN THE CALL BEGINS. Each datum BY PROGRAM (the guide's laid-datum.mjs) off the statement by which the dump's own 'gosem.cut.vars' lays the variable. In a bare row this is a premise. The card (YtbjkfkifkglplaaGreatDoorCards.lean) ties it to the program's text. -/
def laid_math_bits_deBruijn32tab {H : Type} : DataW H := .agg [.lit (.int .u8 0), .lit (.int .u8 1), .lit (.int .u8 28), .lit (.int .u8 2), .lit (.int .u8 29), .lit (.int .u8 14), .lit (.int .u8 24), .lit (.int .u8 3), .lit (.int .u8 30), .lit (.int .u8 22), .lit (.int .u8 20), .lit (.int .u8 15), .lit (.int .u8 25), .lit (.int .u8 17), .lit (.int .u8 4), .lit (.int .u8 8), .lit (.int .u8 31), .lit (.int .u8 27), .lit (.int .u8 13), .lit (.int .u8 23), .lit (.int .u8 21), .lit (.int .u8 19), .lit (.int .u8 16), .lit (.int .u8 7), .lit (.int .u8 26), .lit (.int .u8 12), .lit (.int .u8 18), .lit (.int .u8 6), .lit (.int .u8 11), .lit (.int .u8 5), .lit (.int .u8 10), .lit (.int .u8 9)]
def laid_math_bits_deBruijn64tab {H : Type} : DataW H := .agg [.lit (.int .u8 0), .lit (.int .u8 1), .lit (.int .u8 56), .lit (.int .u8 2), .lit (.int .u8 57), .lit (.int .u8 49), .lit (.int .u8 28), .lit (.int .u8 3), .lit (.int .u8 61), .lit (.int .u8 58), .lit (.int .u8 42), .lit (.int .u8 50), .lit (.int .u8 38), .lit (.int .u8 29), .lit (.int .u8 17), .lit (.int .u8 4), .lit (.int .u8 62), .lit (.int .u8 47), .lit (.int .u8 59), .lit (.int .u8 36), .lit (.int .u8 45), .lit (.int .u8 43), .lit (.int .u8 51), .lit (.int .u8 22), .lit (.int .u8 53), .lit (.int .u8 39), .lit (.int .u8 33), .lit (.int .u8 30), .lit (.int .u8 24), .lit (.int .u8 18), .lit (.int .u8 12), .lit (.int .u8 5), .lit (.int .u8 63), .lit (.int .u8 55), .lit (.int .u8 48), .lit (.int .u8 27), .lit (.int .u8 60), .lit (.int .u8 41), .lit (.int .u8 37), .lit (.int .u8 16), .lit (.int .u8 46), .lit (.int .u8 35), .lit (.int .u8 44), .lit (.int .u8 21), .lit (.int .u8 52), .lit (.int .u8 32), .lit (.int .u8 23), .lit (.int .u8 11), .lit (.int .u8 54), .lit (.int .u8 26), .lit (.int .u8 40), .lit (.int .u8 15), .lit (.int .u8 34), .lit (.int .u8 20), .lit (.int .u8 31), .lit (.int .u8 10), .lit (.int .u8 25), .lit (.int .u8 14), .lit (.int .u8 19), .lit (.int .u8 9), .lit (.int .u8 13), .lit (.int .u8 8), .lit (.int .u8 7), .lit (.int .u8 6)]
def laid_internal_strconv_uint64pow10 {H : Type} : DataW H := .agg [.lit (.int .u64 1), .lit (.int .u64 10), .lit (.int .u64 100), .lit (.int .u64 1000), .lit (.int .u64 10000), .lit (.int .u64 100000), .lit (.int .u64 1000000), .lit (.int .u64 10000000), .lit (.int .u64 100000000), .lit (.int .u64 1000000000), .lit (.int .u64 10000000000), .lit (.int .u64 100000000000), .lit (.int .u64 1000000000000), .lit (.int .u64 10000000000000), .lit (.int .u64 100000000000000), .lit (.int .u64 1000000000000000), .lit (.int .u64 10000000000000000), .lit (.int .u64 100000000000000000), .lit (.int .u64 1000000000000000000), .lit (.int .u64 10000000000000000000)]
def laid_gnomon_expr_kinds {H : Type} : DataW H := .agg [.agg [.lit (.int .i64 0), .lit (.bool false), .lit (.bool false), .lit (.string []), .lit (.int .i64 0)], .agg [.lit (.int .i64 0), .lit (.bool false), .lit (.bool false), .lit (.string []), .lit (.int .i64 9)], .agg [.lit (.int .i64 0), .lit (.bool false), .lit (.bool false), .lit (.string []), .lit (.int .i64 9)], .agg [.lit (.int .i64 1), .lit (.bool false), .lit (.bool false), .lit (.string [45]), .lit (.int .i64 6)], .agg [.lit (.int .i64 2), .lit (.bool false), .lit (.bool false), .lit (.string [43]), .lit (.int .i64 4)], .agg [.lit (.int .i64 2), .lit (.bool false), .lit (.bool false), .lit (.string [45]), .lit (.int .i64 4)], .agg [.lit (.int .i64 2), .lit (.bool false), .lit (.bool false), .lit (.string [42]), .lit (.int .i64 5)], .agg [.lit (.int .i64 0), .lit (.bool true), .lit (.bool false), .lit (.string [116, 114, 117, 101]), .lit (.int .i64 9)], .agg [.lit (.int .i64 2), .lit (.bool true), .lit (.bool false), .lit (.string [60]), .lit (.int .i64 3)], .agg [.lit (.int .i64 2), .lit (.bool true), .lit (.bool false), .lit (.string [60, 61]), .lit (.int .i64 3)], .agg [.lit (.int .i64 2), .lit (.bool true), .lit (.bool false), .lit (.string [61, 61]), .lit (.int .i64 3)], .agg [.lit (.int .i64 2), .lit (.bool true), .lit (.bool false), .lit (.string [33, 61]), .lit (.int .i64 3)], .agg [.lit (.int .i64 1), .lit (.bool true), .lit (.bool true), .lit (.string [33]), .lit (.int .i64 9)], .agg [.lit (.int .i64 2), .lit (.bool true), .lit (.bool true), .lit (.string [38, 38]), .lit (.int .i64 2)], .agg [.lit (.int .i64 2), .lit (.bool true), .lit (.bool true), .lit (.string [124, 124]), .lit (.int .i64 1)]]
def laid_gnomon_lex_kept {H : Type} : DataW H := .agg [.lit (.string [99, 108, 111, 99, 107]), .lit (.string [105, 110, 116]), .lit (.string [99, 104, 97, 110]), .lit (.string [97, 117, 116, 111]), .lit (.string [108, 111, 99]), .lit (.string [101, 100, 103, 101]), .lit (.string [105, 110]), .lit (.string [105, 110, 118]), .lit (.string [119, 104, 101, 110]), .lit (.string [115, 121, 110, 99]), .lit (.string [100, 111]), .lit (.string [117, 114, 103, 101, 110, 116]), .lit (.string [99, 111, 109, 109, 105, 116, 116, 101, 100]), .lit (.string [116, 114, 117, 101]), .lit (.string [114, 101, 97, 99, 104]), .lit (.string [110, 101, 118, 101, 114])]
def laid_unicode_utf8_acceptRanges {H : Type} : DataW H := .agg [.agg [.lit (.int .u8 128), .lit (.int .u8 191)], .agg [.lit (.int .u8 160), .lit (.int .u8 191)], .agg [.lit (.int .u8 128), .lit (.int .u8 159)], .agg [.lit (.int .u8 144), .lit (.int .u8 191)], .agg [.lit (.int .u8 128), .lit (.int .u8 143)], .agg [.lit (.int .u8 0), .lit (.int .u8 0)], .agg [.lit (.int .u8 0), .lit (.int .u8 0)], .agg [.lit (.int .u8 0), .lit (.int .u8 0)], .agg [.lit (.int .u8 0), .lit (.int .u8 0)], .agg [.lit (.int .u8 0), .lit (.int .u8 0)], .agg [.lit (.int .u8 0), .lit (.int .u8 0)], .agg [.lit (.int .u8 0), .lit (.int .u8 0)], .agg [.lit (.int .u8 0), .lit (.int .u8 0)], .agg [.lit (.int .u8 0), .lit (.int .u8 0)], .agg [.lit (.int .u8 0), .lit (.int .u8 0)], .agg [.lit (.int .u8 0), .lit (.int .u8 0)]]
def laid_strconv_ErrRange {H : Type} : DataW H := .iface "*errors.errorString" (.ptr (.agg [.lit (.string [118, 97, 108, 117, 101, 32, 111, 117, 116, 32, 111, 102, 32, 114, 97, 110, 103, 101])]))
def laid_strconv_ErrSyntax {H : Type} : DataW H := .iface "*errors.errorString" (.ptr (.agg [.lit (.string [105, 110, 118, 97, 108, 105, 100, 32, 115, 121, 110, 116, 97, 120])]))
/-- One of Go's own tables, pinned by name: the form's constant. -/
def laid_unicode_utf8_first : DataW Unit := Go.Pinned.utf8First

/-- 'gnomonlaw10.NetWholes': WHATEVER THE INPUT: true; the input reads as it did. -/
def netWholesSpec : ChangeSpec := { name := "netWholes", fn := fun _ => fun
  | [d] => { results := [.lit (.bool true)], args := [d] }
  | _ => none }
def netWholesRow : OpenClaim := { program := "ytbjkfkifkglplaagreatdoor", sum := "03dc199e0621abdf7203c1efe1dc596c540c08bcc8c820936bfec54d4f6ab5f7", func := "gnomon/gnomonlaw10.NetWholes", spec := "netWholes", inPlace := ["internal/abi.NoEscape", "internal/bytealg.MakeNoZero"], unfollowed := true, recurses := true, named := ["gnomon/lex.kept", "gnomon/expr.kinds", "internal/strconv.uint64pow10", "math/bits.deBruijn32tab", "math/bits.deBruijn64tab"], apart := false, laid := [("math/bits.deBruijn32tab", laid_math_bits_deBruijn32tab), ("math/bits.deBruijn64tab", laid_math_bits_deBruijn64tab), ("internal/strconv.uint64pow10", laid_internal_strconv_uint64pow10), ("gnomon/expr.kinds", laid_gnomon_expr_kinds), ("gnomon/lex.kept", laid_gnomon_lex_kept)] }
def NetWholesSaid : Prop := netWholesRow.holds Tryz.pinned (OpenSpec.ofChange netWholesSpec)

/-- ITS FALSE NEIGHBOUR: 'it returns false'. Refute it at one input. -/
def netWholesWrong : ChangeSpec := { name := "netWholes", fn := fun _ => fun
  | [d] => { results := [.lit (.bool false)], args := [d] }
  | _ => none }
def NetWholesWrongFalsely : Prop := netWholesRow.holds Tryz.pinned (OpenSpec.ofChange netWholesWrong)

/-- 'gnomonlaw10.NetGoals': WHATEVER THE INPUT: true; the input reads as it did. -/
def netGoalsSpec : ChangeSpec := { name := "netGoals", fn := fun _ => fun
  | [d1, d2] => { results := [.lit (.bool true)], args := [d1, d2] }
  | _ => none }
def netGoalsRow : OpenClaim := { program := "ytbjkfkifkglplaagreatdoor", sum := "03dc199e0621abdf7203c1efe1dc596c540c08bcc8c820936bfec54d4f6ab5f7", func := "gnomon/gnomonlaw10.NetGoals", spec := "netGoals", inPlace := ["internal/abi.NoEscape", "internal/bytealg.MakeNoZero"], unfollowed := true, recurses := true, named := ["gnomon/lex.kept", "gnomon/expr.kinds", "internal/strconv.uint64pow10", "math/bits.deBruijn32tab", "math/bits.deBruijn64tab"], apart := false, laid := [("math/bits.deBruijn32tab", laid_math_bits_deBruijn32tab), ("math/bits.deBruijn64tab", laid_math_bits_deBruijn64tab), ("internal/strconv.uint64pow10", laid_internal_strconv_uint64pow10), ("gnomon/expr.kinds", laid_gnomon_expr_kinds), ("gnomon/lex.kept", laid_gnomon_lex_kept)] }
def NetGoalsSaid : Prop := netGoalsRow.holds Tryz.pinned (OpenSpec.ofChange netGoalsSpec)

/-- ITS FALSE NEIGHBOUR: 'it returns false'. Refute it at one input. -/
def netGoalsWrong : ChangeSpec := { name := "netGoals", fn := fun _ => fun
  | [d1, d2] => { results := [.lit (.bool false)], args := [d1, d2] }
  | _ => none }
def NetGoalsWrongFalsely : Prop := netGoalsRow.holds Tryz.pinned (OpenSpec.ofChange netGoalsWrong)

/-- 'gnomonlaw10.NetSames': WHATEVER THE INPUT: true; the input reads as it did. -/
def netSamesSpec : ChangeSpec := { name := "netSames", fn := fun _ => fun
  | [d1, d2, d3] => { results := [.lit (.bool true)], args := [d1, d2, d3] }
  | _ => none }
def netSamesRow : OpenClaim := { program := "ytbjkfkifkglplaagreatdoor", sum := "03dc199e0621abdf7203c1efe1dc596c540c08bcc8c820936bfec54d4f6ab5f7", func := "gnomon/gnomonlaw10.NetSames", spec := "netSames", inPlace := ["internal/abi.NoEscape", "internal/bytealg.MakeNoZero"], unfollowed := true, recurses := true, named := ["gnomon/lex.kept", "gnomon/expr.kinds", "internal/strconv.uint64pow10", "math/bits.deBruijn32tab", "math/bits.deBruijn64tab"], apart := false, laid := [("math/bits.deBruijn32tab", laid_math_bits_deBruijn32tab), ("math/bits.deBruijn64tab", laid_math_bits_deBruijn64tab), ("internal/strconv.uint64pow10", laid_internal_strconv_uint64pow10), ("gnomon/expr.kinds", laid_gnomon_expr_kinds), ("gnomon/lex.kept", laid_gnomon_lex_kept)] }
def NetSamesSaid : Prop := netSamesRow.holds Tryz.pinned (OpenSpec.ofChange netSamesSpec)

/-- ITS FALSE NEIGHBOUR: 'it returns false'. Refute it at one input. -/
def netSamesWrong : ChangeSpec := { name := "netSames", fn := fun _ => fun
  | [d1, d2, d3] => { results := [.lit (.bool false)], args := [d1, d2, d3] }
  | _ => none }
def NetSamesWrongFalsely : Prop := netSamesRow.holds Tryz.pinned (OpenSpec.ofChange netSamesWrong)

/-- 'gnomonlaw10.NetTexts': WHATEVER THE INPUT: true; the input reads as it did. -/
def netTextsSpec : ChangeSpec := { name := "netTexts", fn := fun _ => fun
  | [d1, d2, d3] => { results := [.lit (.bool true)], args := [d1, d2, d3] }
  | _ => none }
def netTextsRow : OpenClaim := { program := "ytbjkfkifkglplaagreatdoor", sum := "03dc199e0621abdf7203c1efe1dc596c540c08bcc8c820936bfec54d4f6ab5f7", func := "gnomon/gnomonlaw10.NetTexts", spec := "netTexts", inPlace := ["internal/abi.NoEscape", "internal/bytealg.MakeNoZero"], unfollowed := true, recurses := true, named := ["gnomon/lex.kept", "gnomon/expr.kinds", "internal/strconv.uint64pow10", "math/bits.deBruijn32tab", "math/bits.deBruijn64tab"], apart := false, laid := [("math/bits.deBruijn32tab", laid_math_bits_deBruijn32tab), ("math/bits.deBruijn64tab", laid_math_bits_deBruijn64tab), ("internal/strconv.uint64pow10", laid_internal_strconv_uint64pow10), ("gnomon/expr.kinds", laid_gnomon_expr_kinds), ("gnomon/lex.kept", laid_gnomon_lex_kept)] }
def NetTextsSaid : Prop := netTextsRow.holds Tryz.pinned (OpenSpec.ofChange netTextsSpec)

/-- ITS FALSE NEIGHBOUR: 'it returns false'. Refute it at one input. -/
def netTextsWrong : ChangeSpec := { name := "netTexts", fn := fun _ => fun
  | [d1, d2, d3] => { results := [.lit (.bool false)], args := [d1, d2, d3] }
  | _ => none }
def NetTextsWrongFalsely : Prop := netTextsRow.holds Tryz.pinned (OpenSpec.ofChange netTextsWrong)

/-- 'gnomonlaw10.NetCopies': WHATEVER THE INPUT: true; the input reads as it did. -/
def netCopiesSpec : ChangeSpec := { name := "netCopies", fn := fun _ => fun
  | [d1, d2] => { results := [.lit (.bool true)], args := [d1, d2] }
  | _ => none }
def netCopiesRow : OpenClaim := { program := "ytbjkfkifkglplaagreatdoor", sum := "03dc199e0621abdf7203c1efe1dc596c540c08bcc8c820936bfec54d4f6ab5f7", func := "gnomon/gnomonlaw10.NetCopies", spec := "netCopies", inPlace := ["internal/abi.NoEscape", "internal/bytealg.MakeNoZero"], unfollowed := true, recurses := true, named := ["gnomon/lex.kept", "gnomon/expr.kinds", "internal/strconv.uint64pow10", "math/bits.deBruijn32tab", "math/bits.deBruijn64tab"], apart := false, laid := [("math/bits.deBruijn32tab", laid_math_bits_deBruijn32tab), ("math/bits.deBruijn64tab", laid_math_bits_deBruijn64tab), ("internal/strconv.uint64pow10", laid_internal_strconv_uint64pow10), ("gnomon/expr.kinds", laid_gnomon_expr_kinds), ("gnomon/lex.kept", laid_gnomon_lex_kept)] }
def NetCopiesSaid : Prop := netCopiesRow.holds Tryz.pinned (OpenSpec.ofChange netCopiesSpec)

/-- ITS FALSE NEIGHBOUR: 'it returns false'. Refute it at one input. -/
def netCopiesWrong : ChangeSpec := { name := "netCopies", fn := fun _ => fun
  | [d1, d2] => { results := [.lit (.bool false)], args := [d1, d2] }
  | _ => none }
def NetCopiesWrongFalsely : Prop := netCopiesRow.holds Tryz.pinned (OpenSpec.ofChange netCopiesWrong)

/-- 'gnomonlaw14.MovesAll': WHATEVER THE INPUT: true; the input reads as it did. -/
def movesAllSpec : ChangeSpec := { name := "movesAll", fn := fun _ => fun
  | [d1, d2] => { results := [.lit (.bool true)], args := [d1, d2] }
  | _ => none }
def movesAllRow : OpenClaim := { program := "ytbjkfkifkglplaagreatdoor", sum := "03dc199e0621abdf7203c1efe1dc596c540c08bcc8c820936bfec54d4f6ab5f7", func := "gnomon/gnomonlaw14.MovesAll", spec := "movesAll", inPlace := ["internal/abi.NoEscape", "internal/bytealg.MakeNoZero"], unfollowed := true, recurses := true, named := ["gnomon/lex.kept", "gnomon/expr.kinds", "internal/strconv.uint64pow10", "math/bits.deBruijn32tab", "math/bits.deBruijn64tab"], apart := false, laid := [("math/bits.deBruijn32tab", laid_math_bits_deBruijn32tab), ("math/bits.deBruijn64tab", laid_math_bits_deBruijn64tab), ("internal/strconv.uint64pow10", laid_internal_strconv_uint64pow10), ("gnomon/expr.kinds", laid_gnomon_expr_kinds), ("gnomon/lex.kept", laid_gnomon_lex_kept)] }
def MovesAllSaid : Prop := movesAllRow.holds Tryz.pinned (OpenSpec.ofChange movesAllSpec)

/-- ITS FALSE NEIGHBOUR: 'it returns false'. Refute it at one input. -/
def movesAllWrong : ChangeSpec := { name := "movesAll", fn := fun _ => fun
  | [d1, d2] => { results := [.lit (.bool false)], args := [d1, d2] }
  | _ => none }
def MovesAllWrongFalsely : Prop := movesAllRow.holds Tryz.pinned (OpenSpec.ofChange movesAllWrong)

/-- 'gnomonlaw20.RunOfTimes': WHATEVER THE INPUT: true; the input reads as it did. -/
def runOfTimesSpec : ChangeSpec := { name := "runOfTimes", fn := fun _ => fun
  | [d1, d2] => { results := [.lit (.bool true)], args := [d1, d2] }
  | _ => none }
def runOfTimesRow : OpenClaim := { program := "ytbjkfkifkglplaagreatdoor", sum := "03dc199e0621abdf7203c1efe1dc596c540c08bcc8c820936bfec54d4f6ab5f7", func := "gnomon/gnomonlaw20.RunOfTimes", spec := "runOfTimes", inPlace := ["math/bits.Sub64", "math/bits.Add64", "internal/abi.NoEscape", "internal/bytealg.MakeNoZero"], unfollowed := true, recurses := true, named := ["gnomon/lex.kept", "gnomon/expr.kinds", "internal/strconv.uint64pow10", "math/bits.deBruijn32tab", "math/bits.deBruijn64tab"], apart := false, laid := [("math/bits.deBruijn32tab", laid_math_bits_deBruijn32tab), ("math/bits.deBruijn64tab", laid_math_bits_deBruijn64tab), ("internal/strconv.uint64pow10", laid_internal_strconv_uint64pow10), ("gnomon/expr.kinds", laid_gnomon_expr_kinds), ("gnomon/lex.kept", laid_gnomon_lex_kept)] }
def RunOfTimesSaid : Prop := runOfTimesRow.holds Tryz.pinned (OpenSpec.ofChange runOfTimesSpec)

/-- ITS FALSE NEIGHBOUR: 'it returns false'. Refute it at one input. -/
def runOfTimesWrong : ChangeSpec := { name := "runOfTimes", fn := fun _ => fun
  | [d1, d2] => { results := [.lit (.bool false)], args := [d1, d2] }
  | _ => none }
def RunOfTimesWrongFalsely : Prop := runOfTimesRow.holds Tryz.pinned (OpenSpec.ofChange runOfTimesWrong)

/-- 'gnomonlaw14.MovesTexts': WHATEVER THE INPUT: true; the input reads as it did. -/
def movesTextsSpec : ChangeSpec := { name := "movesTexts", fn := fun _ => fun
  | [d1, d2, d3] => { results := [.lit (.bool true)], args := [d1, d2, d3] }
  | _ => none }
def movesTextsRow : OpenClaim := { program := "ytbjkfkifkglplaagreatdoor", sum := "03dc199e0621abdf7203c1efe1dc596c540c08bcc8c820936bfec54d4f6ab5f7", func := "gnomon/gnomonlaw14.MovesTexts", spec := "movesTexts", inPlace := ["internal/abi.NoEscape", "internal/bytealg.MakeNoZero", "internal/bytealg.CountString", "internal/bytealg.IndexByteString", "internal/bytealg.IndexString"], unfollowed := true, recurses := true, named := ["gnomon/lex.kept", "gnomon/expr.kinds", "internal/strconv.uint64pow10", "math/bits.deBruijn32tab", "math/bits.deBruijn64tab", "unicode/utf8.first", "unicode/utf8.acceptRanges", "internal/bytealg.MaxLen", "strconv.ErrSyntax", "strconv.ErrRange"], apart := false, laid := [("math/bits.deBruijn32tab", laid_math_bits_deBruijn32tab), ("math/bits.deBruijn64tab", laid_math_bits_deBruijn64tab), ("internal/strconv.uint64pow10", laid_internal_strconv_uint64pow10), ("unicode/utf8.acceptRanges", laid_unicode_utf8_acceptRanges), ("strconv.ErrRange", laid_strconv_ErrRange), ("strconv.ErrSyntax", laid_strconv_ErrSyntax), ("gnomon/expr.kinds", laid_gnomon_expr_kinds), ("gnomon/lex.kept", laid_gnomon_lex_kept), ("unicode/utf8.first", laid_unicode_utf8_first)] }
def MovesTextsSaid : Prop := movesTextsRow.holds Tryz.pinned (OpenSpec.ofChange movesTextsSpec)

/-- ITS FALSE NEIGHBOUR: 'it returns false'. Refute it at one input. -/
def movesTextsWrong : ChangeSpec := { name := "movesTexts", fn := fun _ => fun
  | [d1, d2, d3] => { results := [.lit (.bool false)], args := [d1, d2, d3] }
  | _ => none }
def MovesTextsWrongFalsely : Prop := movesTextsRow.holds Tryz.pinned (OpenSpec.ofChange movesTextsWrong)

/-- 'gnomonlaw14.MovesBack': WHATEVER THE INPUT: true; the input reads as it did. -/
def movesBackSpec : ChangeSpec := { name := "movesBack", fn := fun _ => fun
  | [d1, d2, d3] => { results := [.lit (.bool true)], args := [d1, d2, d3] }
  | _ => none }
def movesBackRow : OpenClaim := { program := "ytbjkfkifkglplaagreatdoor", sum := "03dc199e0621abdf7203c1efe1dc596c540c08bcc8c820936bfec54d4f6ab5f7", func := "gnomon/gnomonlaw14.MovesBack", spec := "movesBack", inPlace := ["internal/abi.NoEscape", "internal/bytealg.MakeNoZero", "internal/bytealg.CountString", "internal/bytealg.IndexByteString", "internal/bytealg.IndexString"], unfollowed := true, recurses := true, named := ["gnomon/lex.kept", "gnomon/expr.kinds", "internal/strconv.uint64pow10", "math/bits.deBruijn32tab", "math/bits.deBruijn64tab", "unicode/utf8.first", "unicode/utf8.acceptRanges", "internal/bytealg.MaxLen", "strconv.ErrSyntax", "strconv.ErrRange"], apart := false, laid := [("math/bits.deBruijn32tab", laid_math_bits_deBruijn32tab), ("math/bits.deBruijn64tab", laid_math_bits_deBruijn64tab), ("internal/strconv.uint64pow10", laid_internal_strconv_uint64pow10), ("unicode/utf8.acceptRanges", laid_unicode_utf8_acceptRanges), ("strconv.ErrRange", laid_strconv_ErrRange), ("strconv.ErrSyntax", laid_strconv_ErrSyntax), ("gnomon/expr.kinds", laid_gnomon_expr_kinds), ("gnomon/lex.kept", laid_gnomon_lex_kept), ("unicode/utf8.first", laid_unicode_utf8_first)] }
def MovesBackSaid : Prop := movesBackRow.holds Tryz.pinned (OpenSpec.ofChange movesBackSpec)

/-- ITS FALSE NEIGHBOUR: 'it returns false'. Refute it at one input. -/
def movesBackWrong : ChangeSpec := { name := "movesBack", fn := fun _ => fun
  | [d1, d2, d3] => { results := [.lit (.bool false)], args := [d1, d2, d3] }
  | _ => none }
def MovesBackWrongFalsely : Prop := movesBackRow.holds Tryz.pinned (OpenSpec.ofChange movesBackWrong)

/- THE SECOND FORM. 'bulk': how many values and letters a reading holds, each counted each time it is reached (what is shared counts as often as it is met; a slice's spare places count too). A statement '..UptoSaid' is the law's where the arguments, and the package variables that the reading takes, are together of bulk at most 1048576: NARROWER than '..Said'. Prove '..Said' where nothing that the law and all that it calls make is longer than what came in: it says more and counts as full. Else prove '..UptoSaid'. A law counts once. -/
mutual
def uptoBulk {H : Type} : DataW H → Nat
  | .lit (.string bytes) => bytes.length + 1
  | .lit _ => 1
  | .nil => 1
  | .ptr d => uptoBulk d + 1
  | .slice elems spare => uptoBulkAll elems + uptoBulkAll spare + 1
  | .agg parts => uptoBulkAll parts + 1
  | .iface _ d => uptoBulk d + 1
  | .map entries => uptoBulkEntries entries + 1
  | .held _ => 1
def uptoBulkAll {H : Type} : List (DataW H) → Nat
  | [] => 0
  | d :: r => uptoBulk d + uptoBulkAll r
def uptoBulkEntries {H : Type} : List (Lit × DataW H) → Nat
  | [] => 0
  | x :: r => uptoBulkEntry x + uptoBulkEntries r
def uptoBulkEntry {H : Type} : Lit × DataW H → Nat
  | (.string bytes, d) => bytes.length + uptoBulk d + 1
  | (_, d) => uptoBulk d + 1
 end
def uptoSmall : (H : Type) → List (DataW H) → Bool := fun _ ds => decide (uptoBulkAll ds ≤ 1048576)
def OpenSpec.upto (s : _root_.Go.ChangeSpec) : _root_.Go.OpenSpec := { _root_.Go.OpenSpec.ofChange s with cond := some uptoSmall }

/-- 'gnomonlaw10.NetWholes', WHERE WHAT IT READS IS OF BULK AT MOST 1048576: true; the input reads as it did. -/
def netWholesUptoRow : OpenClaim := { program := "ytbjkfkifkglplaagreatdoor", sum := "03dc199e0621abdf7203c1efe1dc596c540c08bcc8c820936bfec54d4f6ab5f7", func := "gnomon/gnomonlaw10.NetWholes", spec := "netWholes", inPlace := ["internal/abi.NoEscape", "internal/bytealg.MakeNoZero"], unfollowed := true, recurses := true, named := ["gnomon/lex.kept", "gnomon/expr.kinds", "internal/strconv.uint64pow10", "math/bits.deBruijn32tab", "math/bits.deBruijn64tab"], apart := false, laid := [("math/bits.deBruijn32tab", laid_math_bits_deBruijn32tab), ("math/bits.deBruijn64tab", laid_math_bits_deBruijn64tab), ("internal/strconv.uint64pow10", laid_internal_strconv_uint64pow10), ("gnomon/expr.kinds", laid_gnomon_expr_kinds), ("gnomon/lex.kept", laid_gnomon_lex_kept)], narrowed := true }
def NetWholesUptoSaid : Prop := netWholesUptoRow.holds Tryz.pinned (OpenSpec.upto netWholesSpec)

/-- 'gnomonlaw10.NetGoals', WHERE WHAT IT READS IS OF BULK AT MOST 1048576: true; the input reads as it did. -/
def netGoalsUptoRow : OpenClaim := { program := "ytbjkfkifkglplaagreatdoor", sum := "03dc199e0621abdf7203c1efe1dc596c540c08bcc8c820936bfec54d4f6ab5f7", func := "gnomon/gnomonlaw10.NetGoals", spec := "netGoals", inPlace := ["internal/abi.NoEscape", "internal/bytealg.MakeNoZero"], unfollowed := true, recurses := true, named := ["gnomon/lex.kept", "gnomon/expr.kinds", "internal/strconv.uint64pow10", "math/bits.deBruijn32tab", "math/bits.deBruijn64tab"], apart := false, laid := [("math/bits.deBruijn32tab", laid_math_bits_deBruijn32tab), ("math/bits.deBruijn64tab", laid_math_bits_deBruijn64tab), ("internal/strconv.uint64pow10", laid_internal_strconv_uint64pow10), ("gnomon/expr.kinds", laid_gnomon_expr_kinds), ("gnomon/lex.kept", laid_gnomon_lex_kept)], narrowed := true }
def NetGoalsUptoSaid : Prop := netGoalsUptoRow.holds Tryz.pinned (OpenSpec.upto netGoalsSpec)

/-- 'gnomonlaw10.NetSames', WHERE WHAT IT READS IS OF BULK AT MOST 1048576: true; the input reads as it did. -/
def netSamesUptoRow : OpenClaim := { program := "ytbjkfkifkglplaagreatdoor", sum := "03dc199e0621abdf7203c1efe1dc596c540c08bcc8c820936bfec54d4f6ab5f7", func := "gnomon/gnomonlaw10.NetSames", spec := "netSames", inPlace := ["internal/abi.NoEscape", "internal/bytealg.MakeNoZero"], unfollowed := true, recurses := true, named := ["gnomon/lex.kept", "gnomon/expr.kinds", "internal/strconv.uint64pow10", "math/bits.deBruijn32tab", "math/bits.deBruijn64tab"], apart := false, laid := [("math/bits.deBruijn32tab", laid_math_bits_deBruijn32tab), ("math/bits.deBruijn64tab", laid_math_bits_deBruijn64tab), ("internal/strconv.uint64pow10", laid_internal_strconv_uint64pow10), ("gnomon/expr.kinds", laid_gnomon_expr_kinds), ("gnomon/lex.kept", laid_gnomon_lex_kept)], narrowed := true }
def NetSamesUptoSaid : Prop := netSamesUptoRow.holds Tryz.pinned (OpenSpec.upto netSamesSpec)

/-- 'gnomonlaw10.NetTexts', WHERE WHAT IT READS IS OF BULK AT MOST 1048576: true; the input reads as it did. -/
def netTextsUptoRow : OpenClaim := { program := "ytbjkfkifkglplaagreatdoor", sum := "03dc199e0621abdf7203c1efe1dc596c540c08bcc8c820936bfec54d4f6ab5f7", func := "gnomon/gnomonlaw10.NetTexts", spec := "netTexts", inPlace := ["internal/abi.NoEscape", "internal/bytealg.MakeNoZero"], unfollowed := true, recurses := true, named := ["gnomon/lex.kept", "gnomon/expr.kinds", "internal/strconv.uint64pow10", "math/bits.deBruijn32tab", "math/bits.deBruijn64tab"], apart := false, laid := [("math/bits.deBruijn32tab", laid_math_bits_deBruijn32tab), ("math/bits.deBruijn64tab", laid_math_bits_deBruijn64tab), ("internal/strconv.uint64pow10", laid_internal_strconv_uint64pow10), ("gnomon/expr.kinds", laid_gnomon_expr_kinds), ("gnomon/lex.kept", laid_gnomon_lex_kept)], narrowed := true }
def NetTextsUptoSaid : Prop := netTextsUptoRow.holds Tryz.pinned (OpenSpec.upto netTextsSpec)

/-- 'gnomonlaw10.NetCopies', WHERE WHAT IT READS IS OF BULK AT MOST 1048576: true; the input reads as it did. -/
def netCopiesUptoRow : OpenClaim := { program := "ytbjkfkifkglplaagreatdoor", sum := "03dc199e0621abdf7203c1efe1dc596c540c08bcc8c820936bfec54d4f6ab5f7", func := "gnomon/gnomonlaw10.NetCopies", spec := "netCopies", inPlace := ["internal/abi.NoEscape", "internal/bytealg.MakeNoZero"], unfollowed := true, recurses := true, named := ["gnomon/lex.kept", "gnomon/expr.kinds", "internal/strconv.uint64pow10", "math/bits.deBruijn32tab", "math/bits.deBruijn64tab"], apart := false, laid := [("math/bits.deBruijn32tab", laid_math_bits_deBruijn32tab), ("math/bits.deBruijn64tab", laid_math_bits_deBruijn64tab), ("internal/strconv.uint64pow10", laid_internal_strconv_uint64pow10), ("gnomon/expr.kinds", laid_gnomon_expr_kinds), ("gnomon/lex.kept", laid_gnomon_lex_kept)], narrowed := true }
def NetCopiesUptoSaid : Prop := netCopiesUptoRow.holds Tryz.pinned (OpenSpec.upto netCopiesSpec)

/-- 'gnomonlaw14.MovesAll', WHERE WHAT IT READS IS OF BULK AT MOST 1048576: true; the input reads as it did. -/
def movesAllUptoRow : OpenClaim := { program := "ytbjkfkifkglplaagreatdoor", sum := "03dc199e0621abdf7203c1efe1dc596c540c08bcc8c820936bfec54d4f6ab5f7", func := "gnomon/gnomonlaw14.MovesAll", spec := "movesAll", inPlace := ["internal/abi.NoEscape", "internal/bytealg.MakeNoZero"], unfollowed := true, recurses := true, named := ["gnomon/lex.kept", "gnomon/expr.kinds", "internal/strconv.uint64pow10", "math/bits.deBruijn32tab", "math/bits.deBruijn64tab"], apart := false, laid := [("math/bits.deBruijn32tab", laid_math_bits_deBruijn32tab), ("math/bits.deBruijn64tab", laid_math_bits_deBruijn64tab), ("internal/strconv.uint64pow10", laid_internal_strconv_uint64pow10), ("gnomon/expr.kinds", laid_gnomon_expr_kinds), ("gnomon/lex.kept", laid_gnomon_lex_kept)], narrowed := true }
def MovesAllUptoSaid : Prop := movesAllUptoRow.holds Tryz.pinned (OpenSpec.upto movesAllSpec)

/-- 'gnomonlaw20.RunOfTimes', WHERE WHAT IT READS IS OF BULK AT MOST 1048576: true; the input reads as it did. -/
def runOfTimesUptoRow : OpenClaim := { program := "ytbjkfkifkglplaagreatdoor", sum := "03dc199e0621abdf7203c1efe1dc596c540c08bcc8c820936bfec54d4f6ab5f7", func := "gnomon/gnomonlaw20.RunOfTimes", spec := "runOfTimes", inPlace := ["math/bits.Sub64", "math/bits.Add64", "internal/abi.NoEscape", "internal/bytealg.MakeNoZero"], unfollowed := true, recurses := true, named := ["gnomon/lex.kept", "gnomon/expr.kinds", "internal/strconv.uint64pow10", "math/bits.deBruijn32tab", "math/bits.deBruijn64tab"], apart := false, laid := [("math/bits.deBruijn32tab", laid_math_bits_deBruijn32tab), ("math/bits.deBruijn64tab", laid_math_bits_deBruijn64tab), ("internal/strconv.uint64pow10", laid_internal_strconv_uint64pow10), ("gnomon/expr.kinds", laid_gnomon_expr_kinds), ("gnomon/lex.kept", laid_gnomon_lex_kept)], narrowed := true }
def RunOfTimesUptoSaid : Prop := runOfTimesUptoRow.holds Tryz.pinned (OpenSpec.upto runOfTimesSpec)

/-- 'gnomonlaw14.MovesTexts', WHERE WHAT IT READS IS OF BULK AT MOST 1048576: true; the input reads as it did. -/
def movesTextsUptoRow : OpenClaim := { program := "ytbjkfkifkglplaagreatdoor", sum := "03dc199e0621abdf7203c1efe1dc596c540c08bcc8c820936bfec54d4f6ab5f7", func := "gnomon/gnomonlaw14.MovesTexts", spec := "movesTexts", inPlace := ["internal/abi.NoEscape", "internal/bytealg.MakeNoZero", "internal/bytealg.CountString", "internal/bytealg.IndexByteString", "internal/bytealg.IndexString"], unfollowed := true, recurses := true, named := ["gnomon/lex.kept", "gnomon/expr.kinds", "internal/strconv.uint64pow10", "math/bits.deBruijn32tab", "math/bits.deBruijn64tab", "unicode/utf8.first", "unicode/utf8.acceptRanges", "internal/bytealg.MaxLen", "strconv.ErrSyntax", "strconv.ErrRange"], apart := false, laid := [("math/bits.deBruijn32tab", laid_math_bits_deBruijn32tab), ("math/bits.deBruijn64tab", laid_math_bits_deBruijn64tab), ("internal/strconv.uint64pow10", laid_internal_strconv_uint64pow10), ("unicode/utf8.acceptRanges", laid_unicode_utf8_acceptRanges), ("strconv.ErrRange", laid_strconv_ErrRange), ("strconv.ErrSyntax", laid_strconv_ErrSyntax), ("gnomon/expr.kinds", laid_gnomon_expr_kinds), ("gnomon/lex.kept", laid_gnomon_lex_kept), ("unicode/utf8.first", laid_unicode_utf8_first)], narrowed := true }
def MovesTextsUptoSaid : Prop := movesTextsUptoRow.holds Tryz.pinned (OpenSpec.upto movesTextsSpec)

/-- 'gnomonlaw14.MovesBack', WHERE WHAT IT READS IS OF BULK AT MOST 1048576: true; the input reads as it did. -/
def movesBackUptoRow : OpenClaim := { program := "ytbjkfkifkglplaagreatdoor", sum := "03dc199e0621abdf7203c1efe1dc596c540c08bcc8c820936bfec54d4f6ab5f7", func := "gnomon/gnomonlaw14.MovesBack", spec := "movesBack", inPlace := ["internal/abi.NoEscape", "internal/bytealg.MakeNoZero", "internal/bytealg.CountString", "internal/bytealg.IndexByteString", "internal/bytealg.IndexString"], unfollowed := true, recurses := true, named := ["gnomon/lex.kept", "gnomon/expr.kinds", "internal/strconv.uint64pow10", "math/bits.deBruijn32tab", "math/bits.deBruijn64tab", "unicode/utf8.first", "unicode/utf8.acceptRanges", "internal/bytealg.MaxLen", "strconv.ErrSyntax", "strconv.ErrRange"], apart := false, laid := [("math/bits.deBruijn32tab", laid_math_bits_deBruijn32tab), ("math/bits.deBruijn64tab", laid_math_bits_deBruijn64tab), ("internal/strconv.uint64pow10", laid_internal_strconv_uint64pow10), ("unicode/utf8.acceptRanges", laid_unicode_utf8_acceptRanges), ("strconv.ErrRange", laid_strconv_ErrRange), ("strconv.ErrSyntax", laid_strconv_ErrSyntax), ("gnomon/expr.kinds", laid_gnomon_expr_kinds), ("gnomon/lex.kept", laid_gnomon_lex_kept), ("unicode/utf8.first", laid_unicode_utf8_first)], narrowed := true }
def MovesBackUptoSaid : Prop := movesBackUptoRow.holds Tryz.pinned (OpenSpec.upto movesBackSpec)

end Rows
end Go.Proofs.YtbjkfkifkglplaaGreatDoor
