/-
  NARROWER THAN 'FOR EVERY INPUT', by the rows' own cells (each row's printed sentence says how): LexNext: laid · LexAll: laid · LexPlaces: laid · LexBlanks: laid · LexJoins: laid · LexBack: laid · LexNames: laid · ExprTexts: laid · ExprValues: laid · ExprSames: laid · ExprUnlike: laid · ExprTurns: laid.
  DERIVED. THE GIVEN ROWS OF THIS SEAT. 12 by the template 'for every input the law returns true; each argument reads behind the call as it read before'; 0 by the template 'total and deterministic' (their statements: YtgkcjefbagnkpaaDoorTotals.lean).
  GIVEN WITH THE SEED: the statements are not yours to turn. If you find one false, say at which input.
  Laid BY PROGRAM, IN A SANDBOX (cutbox-rows.mjs): the forced cells as the released guide's own fill.sh prints them over the translation 7a4f97532eaef678… (all of the seat's roots in one cut). By AI agents, Wed Nov 11 2026. No macro, syntax, notation, axiom, sorry.
-/
import Derived.Test.YtgkcjefbagnkpaaDoorChecked
import GoSem.Claim
import GoSem.ClaimJoined
import GoSem.ClaimMapViews
import Derived.JoinedTies
import Derived.KernelRfl
namespace Go.Proofs.YtgkcjefbagnkpaaDoor
/- THE CELL 'sum', in the pinned program and in every row, IS THE sha256 OF THE DUMP (.gsa) THAT YtgkcjefbagnkpaaDoorProg.lean LOADS. Nothing in Lean hashes anything: it is a label: what it is worth is what the hold of that sum in a sandbox is worth. -/
noncomputable def Tryd.pinned : Pinned := { name := "ytgkcjefbagnkpaadoor", sum := "7a4f97532eaef678313124a6e9f480e5f306061a525bbe98aeb7d685dfb4e2c2", checked := Tryd.checked }
namespace Rows
def none {H : Type} : Left H := { results := [], args := [] }

/- WHAT THE LISTED PACKAGE-LEVEL VARIABLES READ AS WHEN THE CALL BEGINS. Each datum BY PROGRAM (the guide's laid-datum.mjs) off the statement by which the dump's own 'gosem.cut.vars' lays the variable. In a bare row this is a premise. The card (YtgkcjefbagnkpaaDoorCards.lean) ties it to the program's text. -/
def laid_gnomon_lex_kept {H : Type} : DataW H := .agg [.lit (.string [99, 108, 111, 99, 107]), .lit (.string [105, 110, 116]), .lit (.string [99, 104, 97, 110]), .lit (.string [97, 117, 116, 111]), .lit (.string [108, 111, 99]), .lit (.string [101, 100, 103, 101]), .lit (.string [105, 110]), .lit (.string [105, 110, 118]), .lit (.string [119, 104, 101, 110]), .lit (.string [115, 121, 110, 99]), .lit (.string [100, 111]), .lit (.string [117, 114, 103, 101, 110, 116]), .lit (.string [99, 111, 109, 109, 105, 116, 116, 101, 100]), .lit (.string [116, 114, 117, 101]), .lit (.string [114, 101, 97, 99, 104]), .lit (.string [110, 101, 118, 101, 114])]
def laid_math_bits_deBruijn32tab {H : Type} : DataW H := .agg [.lit (.int .u8 0), .lit (.int .u8 1), .lit (.int .u8 28), .lit (.int .u8 2), .lit (.int .u8 29), .lit (.int .u8 14), .lit (.int .u8 24), .lit (.int .u8 3), .lit (.int .u8 30), .lit (.int .u8 22), .lit (.int .u8 20), .lit (.int .u8 15), .lit (.int .u8 25), .lit (.int .u8 17), .lit (.int .u8 4), .lit (.int .u8 8), .lit (.int .u8 31), .lit (.int .u8 27), .lit (.int .u8 13), .lit (.int .u8 23), .lit (.int .u8 21), .lit (.int .u8 19), .lit (.int .u8 16), .lit (.int .u8 7), .lit (.int .u8 26), .lit (.int .u8 12), .lit (.int .u8 18), .lit (.int .u8 6), .lit (.int .u8 11), .lit (.int .u8 5), .lit (.int .u8 10), .lit (.int .u8 9)]
def laid_math_bits_deBruijn64tab {H : Type} : DataW H := .agg [.lit (.int .u8 0), .lit (.int .u8 1), .lit (.int .u8 56), .lit (.int .u8 2), .lit (.int .u8 57), .lit (.int .u8 49), .lit (.int .u8 28), .lit (.int .u8 3), .lit (.int .u8 61), .lit (.int .u8 58), .lit (.int .u8 42), .lit (.int .u8 50), .lit (.int .u8 38), .lit (.int .u8 29), .lit (.int .u8 17), .lit (.int .u8 4), .lit (.int .u8 62), .lit (.int .u8 47), .lit (.int .u8 59), .lit (.int .u8 36), .lit (.int .u8 45), .lit (.int .u8 43), .lit (.int .u8 51), .lit (.int .u8 22), .lit (.int .u8 53), .lit (.int .u8 39), .lit (.int .u8 33), .lit (.int .u8 30), .lit (.int .u8 24), .lit (.int .u8 18), .lit (.int .u8 12), .lit (.int .u8 5), .lit (.int .u8 63), .lit (.int .u8 55), .lit (.int .u8 48), .lit (.int .u8 27), .lit (.int .u8 60), .lit (.int .u8 41), .lit (.int .u8 37), .lit (.int .u8 16), .lit (.int .u8 46), .lit (.int .u8 35), .lit (.int .u8 44), .lit (.int .u8 21), .lit (.int .u8 52), .lit (.int .u8 32), .lit (.int .u8 23), .lit (.int .u8 11), .lit (.int .u8 54), .lit (.int .u8 26), .lit (.int .u8 40), .lit (.int .u8 15), .lit (.int .u8 34), .lit (.int .u8 20), .lit (.int .u8 31), .lit (.int .u8 10), .lit (.int .u8 25), .lit (.int .u8 14), .lit (.int .u8 19), .lit (.int .u8 9), .lit (.int .u8 13), .lit (.int .u8 8), .lit (.int .u8 7), .lit (.int .u8 6)]
def laid_internal_strconv_uint64pow10 {H : Type} : DataW H := .agg [.lit (.int .u64 1), .lit (.int .u64 10), .lit (.int .u64 100), .lit (.int .u64 1000), .lit (.int .u64 10000), .lit (.int .u64 100000), .lit (.int .u64 1000000), .lit (.int .u64 10000000), .lit (.int .u64 100000000), .lit (.int .u64 1000000000), .lit (.int .u64 10000000000), .lit (.int .u64 100000000000), .lit (.int .u64 1000000000000), .lit (.int .u64 10000000000000), .lit (.int .u64 100000000000000), .lit (.int .u64 1000000000000000), .lit (.int .u64 10000000000000000), .lit (.int .u64 100000000000000000), .lit (.int .u64 1000000000000000000), .lit (.int .u64 10000000000000000000)]
def laid_gnomon_expr_kinds {H : Type} : DataW H := .agg [.agg [.lit (.int .i64 0), .lit (.bool false), .lit (.bool false), .lit (.string []), .lit (.int .i64 0)], .agg [.lit (.int .i64 0), .lit (.bool false), .lit (.bool false), .lit (.string []), .lit (.int .i64 9)], .agg [.lit (.int .i64 0), .lit (.bool false), .lit (.bool false), .lit (.string []), .lit (.int .i64 9)], .agg [.lit (.int .i64 1), .lit (.bool false), .lit (.bool false), .lit (.string [45]), .lit (.int .i64 6)], .agg [.lit (.int .i64 2), .lit (.bool false), .lit (.bool false), .lit (.string [43]), .lit (.int .i64 4)], .agg [.lit (.int .i64 2), .lit (.bool false), .lit (.bool false), .lit (.string [45]), .lit (.int .i64 4)], .agg [.lit (.int .i64 2), .lit (.bool false), .lit (.bool false), .lit (.string [42]), .lit (.int .i64 5)], .agg [.lit (.int .i64 0), .lit (.bool true), .lit (.bool false), .lit (.string [116, 114, 117, 101]), .lit (.int .i64 9)], .agg [.lit (.int .i64 2), .lit (.bool true), .lit (.bool false), .lit (.string [60]), .lit (.int .i64 3)], .agg [.lit (.int .i64 2), .lit (.bool true), .lit (.bool false), .lit (.string [60, 61]), .lit (.int .i64 3)], .agg [.lit (.int .i64 2), .lit (.bool true), .lit (.bool false), .lit (.string [61, 61]), .lit (.int .i64 3)], .agg [.lit (.int .i64 2), .lit (.bool true), .lit (.bool false), .lit (.string [33, 61]), .lit (.int .i64 3)], .agg [.lit (.int .i64 1), .lit (.bool true), .lit (.bool true), .lit (.string [33]), .lit (.int .i64 9)], .agg [.lit (.int .i64 2), .lit (.bool true), .lit (.bool true), .lit (.string [38, 38]), .lit (.int .i64 2)], .agg [.lit (.int .i64 2), .lit (.bool true), .lit (.bool true), .lit (.string [124, 124]), .lit (.int .i64 1)]]

/-- 'gnomonlaw09.LexNext': WHATEVER THE INPUT: true; the input reads as it did. -/
def lexNextSpec : ChangeSpec := { name := "lexNext", fn := fun _ => fun
  | [d1, d2] => { results := [.lit (.bool true)], args := [d1, d2] }
  | _ => none }
def lexNextRow : OpenClaim := { program := "ytgkcjefbagnkpaadoor", sum := "7a4f97532eaef678313124a6e9f480e5f306061a525bbe98aeb7d685dfb4e2c2", func := "gnomon/gnomonlaw09.LexNext", spec := "lexNext", inPlace := ["internal/bytealg.IndexByteString"], unfollowed := true, recurses := true, named := ["gnomon/lex.kept"], apart := false, laid := [("gnomon/lex.kept", laid_gnomon_lex_kept)] }
def LexNextSaid : Prop := lexNextRow.holds Tryd.pinned (OpenSpec.ofChange lexNextSpec)

/-- ITS FALSE NEIGHBOUR: 'it returns false'. Refute it at one input. -/
def lexNextWrong : ChangeSpec := { name := "lexNext", fn := fun _ => fun
  | [d1, d2] => { results := [.lit (.bool false)], args := [d1, d2] }
  | _ => none }
def LexNextWrongFalsely : Prop := lexNextRow.holds Tryd.pinned (OpenSpec.ofChange lexNextWrong)

/-- 'gnomonlaw09.LexAll': WHATEVER THE INPUT: true; the input reads as it did. -/
def lexAllSpec : ChangeSpec := { name := "lexAll", fn := fun _ => fun
  | [d] => { results := [.lit (.bool true)], args := [d] }
  | _ => none }
def lexAllRow : OpenClaim := { program := "ytgkcjefbagnkpaadoor", sum := "7a4f97532eaef678313124a6e9f480e5f306061a525bbe98aeb7d685dfb4e2c2", func := "gnomon/gnomonlaw09.LexAll", spec := "lexAll", inPlace := ["internal/bytealg.IndexByteString"], unfollowed := true, recurses := true, named := ["gnomon/lex.kept"], apart := false, laid := [("gnomon/lex.kept", laid_gnomon_lex_kept)] }
def LexAllSaid : Prop := lexAllRow.holds Tryd.pinned (OpenSpec.ofChange lexAllSpec)

/-- ITS FALSE NEIGHBOUR: 'it returns false'. Refute it at one input. -/
def lexAllWrong : ChangeSpec := { name := "lexAll", fn := fun _ => fun
  | [d] => { results := [.lit (.bool false)], args := [d] }
  | _ => none }
def LexAllWrongFalsely : Prop := lexAllRow.holds Tryd.pinned (OpenSpec.ofChange lexAllWrong)

/-- 'gnomonlaw09.LexPlaces': WHATEVER THE INPUT: true; the input reads as it did. -/
def lexPlacesSpec : ChangeSpec := { name := "lexPlaces", fn := fun _ => fun
  | [d] => { results := [.lit (.bool true)], args := [d] }
  | _ => none }
def lexPlacesRow : OpenClaim := { program := "ytgkcjefbagnkpaadoor", sum := "7a4f97532eaef678313124a6e9f480e5f306061a525bbe98aeb7d685dfb4e2c2", func := "gnomon/gnomonlaw09.LexPlaces", spec := "lexPlaces", inPlace := ["internal/bytealg.IndexByteString"], unfollowed := true, recurses := true, named := ["gnomon/lex.kept"], apart := false, laid := [("gnomon/lex.kept", laid_gnomon_lex_kept)] }
def LexPlacesSaid : Prop := lexPlacesRow.holds Tryd.pinned (OpenSpec.ofChange lexPlacesSpec)

/-- ITS FALSE NEIGHBOUR: 'it returns false'. Refute it at one input. -/
def lexPlacesWrong : ChangeSpec := { name := "lexPlaces", fn := fun _ => fun
  | [d] => { results := [.lit (.bool false)], args := [d] }
  | _ => none }
def LexPlacesWrongFalsely : Prop := lexPlacesRow.holds Tryd.pinned (OpenSpec.ofChange lexPlacesWrong)

/-- 'gnomonlaw09.LexBlanks': WHATEVER THE INPUT: true; the input reads as it did. -/
def lexBlanksSpec : ChangeSpec := { name := "lexBlanks", fn := fun _ => fun
  | [d1, d2, d3] => { results := [.lit (.bool true)], args := [d1, d2, d3] }
  | _ => none }
def lexBlanksRow : OpenClaim := { program := "ytgkcjefbagnkpaadoor", sum := "7a4f97532eaef678313124a6e9f480e5f306061a525bbe98aeb7d685dfb4e2c2", func := "gnomon/gnomonlaw09.LexBlanks", spec := "lexBlanks", inPlace := ["internal/bytealg.IndexByteString"], unfollowed := true, recurses := true, named := ["gnomon/lex.kept"], apart := false, laid := [("gnomon/lex.kept", laid_gnomon_lex_kept)] }
def LexBlanksSaid : Prop := lexBlanksRow.holds Tryd.pinned (OpenSpec.ofChange lexBlanksSpec)

/-- ITS FALSE NEIGHBOUR: 'it returns false'. Refute it at one input. -/
def lexBlanksWrong : ChangeSpec := { name := "lexBlanks", fn := fun _ => fun
  | [d1, d2, d3] => { results := [.lit (.bool false)], args := [d1, d2, d3] }
  | _ => none }
def LexBlanksWrongFalsely : Prop := lexBlanksRow.holds Tryd.pinned (OpenSpec.ofChange lexBlanksWrong)

/-- 'gnomonlaw09.LexJoins': WHATEVER THE INPUT: true; the input reads as it did. -/
def lexJoinsSpec : ChangeSpec := { name := "lexJoins", fn := fun _ => fun
  | [d] => { results := [.lit (.bool true)], args := [d] }
  | _ => none }
def lexJoinsRow : OpenClaim := { program := "ytgkcjefbagnkpaadoor", sum := "7a4f97532eaef678313124a6e9f480e5f306061a525bbe98aeb7d685dfb4e2c2", func := "gnomon/gnomonlaw09.LexJoins", spec := "lexJoins", inPlace := ["internal/bytealg.IndexByteString", "internal/abi.NoEscape", "internal/bytealg.MakeNoZero"], unfollowed := true, recurses := true, named := ["gnomon/lex.kept"], apart := false, laid := [("gnomon/lex.kept", laid_gnomon_lex_kept)] }
def LexJoinsSaid : Prop := lexJoinsRow.holds Tryd.pinned (OpenSpec.ofChange lexJoinsSpec)

/-- ITS FALSE NEIGHBOUR: 'it returns false'. Refute it at one input. -/
def lexJoinsWrong : ChangeSpec := { name := "lexJoins", fn := fun _ => fun
  | [d] => { results := [.lit (.bool false)], args := [d] }
  | _ => none }
def LexJoinsWrongFalsely : Prop := lexJoinsRow.holds Tryd.pinned (OpenSpec.ofChange lexJoinsWrong)

/-- 'gnomonlaw09.LexBack': WHATEVER THE INPUT: true; the input reads as it did. -/
def lexBackSpec : ChangeSpec := { name := "lexBack", fn := fun _ => fun
  | [d] => { results := [.lit (.bool true)], args := [d] }
  | _ => none }
def lexBackRow : OpenClaim := { program := "ytgkcjefbagnkpaadoor", sum := "7a4f97532eaef678313124a6e9f480e5f306061a525bbe98aeb7d685dfb4e2c2", func := "gnomon/gnomonlaw09.LexBack", spec := "lexBack", inPlace := ["internal/bytealg.IndexByteString", "internal/abi.NoEscape", "internal/bytealg.MakeNoZero"], unfollowed := true, recurses := true, named := ["gnomon/lex.kept"], apart := false, laid := [("gnomon/lex.kept", laid_gnomon_lex_kept)] }
def LexBackSaid : Prop := lexBackRow.holds Tryd.pinned (OpenSpec.ofChange lexBackSpec)

/-- ITS FALSE NEIGHBOUR: 'it returns false'. Refute it at one input. -/
def lexBackWrong : ChangeSpec := { name := "lexBack", fn := fun _ => fun
  | [d] => { results := [.lit (.bool false)], args := [d] }
  | _ => none }
def LexBackWrongFalsely : Prop := lexBackRow.holds Tryd.pinned (OpenSpec.ofChange lexBackWrong)

/-- 'gnomonlaw09.LexNames': WHATEVER THE INPUT: true; the input reads as it did. -/
def lexNamesSpec : ChangeSpec := { name := "lexNames", fn := fun _ => fun
  | [d1, d2] => { results := [.lit (.bool true)], args := [d1, d2] }
  | _ => none }
def lexNamesRow : OpenClaim := { program := "ytgkcjefbagnkpaadoor", sum := "7a4f97532eaef678313124a6e9f480e5f306061a525bbe98aeb7d685dfb4e2c2", func := "gnomon/gnomonlaw09.LexNames", spec := "lexNames", inPlace := ["internal/bytealg.CountString", "internal/bytealg.IndexByteString", "internal/bytealg.IndexString"], unfollowed := true, recurses := true, named := ["internal/bytealg.MaxLen", "gnomon/lex.kept"], apart := false, laid := [("gnomon/lex.kept", laid_gnomon_lex_kept)] }
def LexNamesSaid : Prop := lexNamesRow.holds Tryd.pinned (OpenSpec.ofChange lexNamesSpec)

/-- ITS FALSE NEIGHBOUR: 'it returns false'. Refute it at one input. -/
def lexNamesWrong : ChangeSpec := { name := "lexNames", fn := fun _ => fun
  | [d1, d2] => { results := [.lit (.bool false)], args := [d1, d2] }
  | _ => none }
def LexNamesWrongFalsely : Prop := lexNamesRow.holds Tryd.pinned (OpenSpec.ofChange lexNamesWrong)

/-- 'gnomonlaw08.ExprTexts': WHATEVER THE INPUT: true; the input reads as it did. -/
def exprTextsSpec : ChangeSpec := { name := "exprTexts", fn := fun _ => fun
  | [d1, d2] => { results := [.lit (.bool true)], args := [d1, d2] }
  | _ => none }
def exprTextsRow : OpenClaim := { program := "ytgkcjefbagnkpaadoor", sum := "7a4f97532eaef678313124a6e9f480e5f306061a525bbe98aeb7d685dfb4e2c2", func := "gnomon/gnomonlaw08.ExprTexts", spec := "exprTexts", recurses := true, named := ["gnomon/expr.kinds", "internal/strconv.uint64pow10", "math/bits.deBruijn32tab", "math/bits.deBruijn64tab"], apart := false, laid := [("math/bits.deBruijn32tab", laid_math_bits_deBruijn32tab), ("math/bits.deBruijn64tab", laid_math_bits_deBruijn64tab), ("internal/strconv.uint64pow10", laid_internal_strconv_uint64pow10), ("gnomon/expr.kinds", laid_gnomon_expr_kinds)] }
def ExprTextsSaid : Prop := exprTextsRow.holds Tryd.pinned (OpenSpec.ofChange exprTextsSpec)

/-- ITS FALSE NEIGHBOUR: 'it returns false'. Refute it at one input. -/
def exprTextsWrong : ChangeSpec := { name := "exprTexts", fn := fun _ => fun
  | [d1, d2] => { results := [.lit (.bool false)], args := [d1, d2] }
  | _ => none }
def ExprTextsWrongFalsely : Prop := exprTextsRow.holds Tryd.pinned (OpenSpec.ofChange exprTextsWrong)

/-- 'gnomonlaw08.ExprValues': WHATEVER THE INPUT: true; the input reads as it did. -/
def exprValuesSpec : ChangeSpec := { name := "exprValues", fn := fun _ => fun
  | [d1, d2] => { results := [.lit (.bool true)], args := [d1, d2] }
  | _ => none }
def exprValuesRow : OpenClaim := { program := "ytgkcjefbagnkpaadoor", sum := "7a4f97532eaef678313124a6e9f480e5f306061a525bbe98aeb7d685dfb4e2c2", func := "gnomon/gnomonlaw08.ExprValues", spec := "exprValues", recurses := true, named := ["gnomon/expr.kinds", "internal/strconv.uint64pow10", "math/bits.deBruijn32tab", "math/bits.deBruijn64tab"], apart := false, laid := [("math/bits.deBruijn32tab", laid_math_bits_deBruijn32tab), ("math/bits.deBruijn64tab", laid_math_bits_deBruijn64tab), ("internal/strconv.uint64pow10", laid_internal_strconv_uint64pow10), ("gnomon/expr.kinds", laid_gnomon_expr_kinds)] }
def ExprValuesSaid : Prop := exprValuesRow.holds Tryd.pinned (OpenSpec.ofChange exprValuesSpec)

/-- ITS FALSE NEIGHBOUR: 'it returns false'. Refute it at one input. -/
def exprValuesWrong : ChangeSpec := { name := "exprValues", fn := fun _ => fun
  | [d1, d2] => { results := [.lit (.bool false)], args := [d1, d2] }
  | _ => none }
def ExprValuesWrongFalsely : Prop := exprValuesRow.holds Tryd.pinned (OpenSpec.ofChange exprValuesWrong)

/-- 'gnomonlaw08.ExprSames': WHATEVER THE INPUT: true; the input reads as it did. -/
def exprSamesSpec : ChangeSpec := { name := "exprSames", fn := fun _ => fun
  | [d1, d2, d3] => { results := [.lit (.bool true)], args := [d1, d2, d3] }
  | _ => none }
def exprSamesRow : OpenClaim := { program := "ytgkcjefbagnkpaadoor", sum := "7a4f97532eaef678313124a6e9f480e5f306061a525bbe98aeb7d685dfb4e2c2", func := "gnomon/gnomonlaw08.ExprSames", spec := "exprSames", recurses := true, named := ["gnomon/expr.kinds", "internal/strconv.uint64pow10", "math/bits.deBruijn32tab", "math/bits.deBruijn64tab"], apart := false, laid := [("math/bits.deBruijn32tab", laid_math_bits_deBruijn32tab), ("math/bits.deBruijn64tab", laid_math_bits_deBruijn64tab), ("internal/strconv.uint64pow10", laid_internal_strconv_uint64pow10), ("gnomon/expr.kinds", laid_gnomon_expr_kinds)] }
def ExprSamesSaid : Prop := exprSamesRow.holds Tryd.pinned (OpenSpec.ofChange exprSamesSpec)

/-- ITS FALSE NEIGHBOUR: 'it returns false'. Refute it at one input. -/
def exprSamesWrong : ChangeSpec := { name := "exprSames", fn := fun _ => fun
  | [d1, d2, d3] => { results := [.lit (.bool false)], args := [d1, d2, d3] }
  | _ => none }
def ExprSamesWrongFalsely : Prop := exprSamesRow.holds Tryd.pinned (OpenSpec.ofChange exprSamesWrong)

/-- 'gnomonlaw08.ExprUnlike': WHATEVER THE INPUT: true; the input reads as it did. -/
def exprUnlikeSpec : ChangeSpec := { name := "exprUnlike", fn := fun _ => fun
  | [d1, d2, d3] => { results := [.lit (.bool true)], args := [d1, d2, d3] }
  | _ => none }
def exprUnlikeRow : OpenClaim := { program := "ytgkcjefbagnkpaadoor", sum := "7a4f97532eaef678313124a6e9f480e5f306061a525bbe98aeb7d685dfb4e2c2", func := "gnomon/gnomonlaw08.ExprUnlike", spec := "exprUnlike", recurses := true, named := ["gnomon/expr.kinds", "internal/strconv.uint64pow10", "math/bits.deBruijn32tab", "math/bits.deBruijn64tab"], apart := false, laid := [("math/bits.deBruijn32tab", laid_math_bits_deBruijn32tab), ("math/bits.deBruijn64tab", laid_math_bits_deBruijn64tab), ("internal/strconv.uint64pow10", laid_internal_strconv_uint64pow10), ("gnomon/expr.kinds", laid_gnomon_expr_kinds)] }
def ExprUnlikeSaid : Prop := exprUnlikeRow.holds Tryd.pinned (OpenSpec.ofChange exprUnlikeSpec)

/-- ITS FALSE NEIGHBOUR: 'it returns false'. Refute it at one input. -/
def exprUnlikeWrong : ChangeSpec := { name := "exprUnlike", fn := fun _ => fun
  | [d1, d2, d3] => { results := [.lit (.bool false)], args := [d1, d2, d3] }
  | _ => none }
def ExprUnlikeWrongFalsely : Prop := exprUnlikeRow.holds Tryd.pinned (OpenSpec.ofChange exprUnlikeWrong)

/-- 'gnomonlaw08.ExprTurns': WHATEVER THE INPUT: true; the input reads as it did. -/
def exprTurnsSpec : ChangeSpec := { name := "exprTurns", fn := fun _ => fun
  | [d1, d2, d3] => { results := [.lit (.bool true)], args := [d1, d2, d3] }
  | _ => none }
def exprTurnsRow : OpenClaim := { program := "ytgkcjefbagnkpaadoor", sum := "7a4f97532eaef678313124a6e9f480e5f306061a525bbe98aeb7d685dfb4e2c2", func := "gnomon/gnomonlaw08.ExprTurns", spec := "exprTurns", recurses := true, named := ["gnomon/expr.kinds", "internal/strconv.uint64pow10", "math/bits.deBruijn32tab", "math/bits.deBruijn64tab"], apart := false, laid := [("math/bits.deBruijn32tab", laid_math_bits_deBruijn32tab), ("math/bits.deBruijn64tab", laid_math_bits_deBruijn64tab), ("internal/strconv.uint64pow10", laid_internal_strconv_uint64pow10), ("gnomon/expr.kinds", laid_gnomon_expr_kinds)] }
def ExprTurnsSaid : Prop := exprTurnsRow.holds Tryd.pinned (OpenSpec.ofChange exprTurnsSpec)

/-- ITS FALSE NEIGHBOUR: 'it returns false'. Refute it at one input. -/
def exprTurnsWrong : ChangeSpec := { name := "exprTurns", fn := fun _ => fun
  | [d1, d2, d3] => { results := [.lit (.bool false)], args := [d1, d2, d3] }
  | _ => none }
def ExprTurnsWrongFalsely : Prop := exprTurnsRow.holds Tryd.pinned (OpenSpec.ofChange exprTurnsWrong)

/- THE SECOND FORM. 'bulk': how many values and letters a reading holds, each counted each time it is reached (what is shared counts as often as it is met; a slice's spare places count too). A statement '..UptoSaid' is the law's where the arguments, and the package variables that the reading takes, are together of bulk at most 1048576: NARROWER than '..Said'. Prove '..Said' where nothing that the law and all that it calls make is longer than what came in: it says more and counts as full. Else prove '..UptoSaid'. A law counts once. -/
mutual
def uptoBulk {H : Type} : DataW H → Nat
  | .lit (.string bytes) => bytes.length + 1
  | .lit _ => 1
  | .nil => 1
  | .ptr d => uptoBulk d + 1
  | .slice elems spare => uptoBulkAll elems + uptoBulkAll spare + 1
  | .agg parts => uptoBulkAll parts + 1
  | .iface _ d => uptoBulk d + 1
  | .map entries => uptoBulkEntries entries + 1
  | .held _ => 1
def uptoBulkAll {H : Type} : List (DataW H) → Nat
  | [] => 0
  | d :: r => uptoBulk d + uptoBulkAll r
def uptoBulkEntries {H : Type} : List (Lit × DataW H) → Nat
  | [] => 0
  | x :: r => uptoBulkEntry x + uptoBulkEntries r
def uptoBulkEntry {H : Type} : Lit × DataW H → Nat
  | (.string bytes, d) => bytes.length + uptoBulk d + 1
  | (_, d) => uptoBulk d + 1
 end
def uptoSmall : (H : Type) → List (DataW H) → Bool := fun _ ds => decide (uptoBulkAll ds ≤ 1048576)
def OpenSpec.upto (s : _root_.Go.ChangeSpec) : _root_.Go.OpenSpec := { _root_.Go.OpenSpec.ofChange s with cond := some uptoSmall }

/-- 'gnomonlaw09.LexNext', WHERE WHAT IT READS IS OF BULK AT MOST 1048576: true; the input reads as it did. -/
def lexNextUptoRow : OpenClaim := { program := "ytgkcjefbagnkpaadoor", sum := "7a4f97532eaef678313124a6e9f480e5f306061a525bbe98aeb7d685dfb4e2c2", func := "gnomon/gnomonlaw09.LexNext", spec := "lexNext", inPlace := ["internal/bytealg.IndexByteString"], unfollowed := true, recurses := true, named := ["gnomon/lex.kept"], apart := false, laid := [("gnomon/lex.kept", laid_gnomon_lex_kept)], narrowed := true }
def LexNextUptoSaid : Prop := lexNextUptoRow.holds Tryd.pinned (OpenSpec.upto lexNextSpec)

/-- 'gnomonlaw09.LexAll', WHERE WHAT IT READS IS OF BULK AT MOST 1048576: true; the input reads as it did. -/
def lexAllUptoRow : OpenClaim := { program := "ytgkcjefbagnkpaadoor", sum := "7a4f97532eaef678313124a6e9f480e5f306061a525bbe98aeb7d685dfb4e2c2", func := "gnomon/gnomonlaw09.LexAll", spec := "lexAll", inPlace := ["internal/bytealg.IndexByteString"], unfollowed := true, recurses := true, named := ["gnomon/lex.kept"], apart := false, laid := [("gnomon/lex.kept", laid_gnomon_lex_kept)], narrowed := true }
def LexAllUptoSaid : Prop := lexAllUptoRow.holds Tryd.pinned (OpenSpec.upto lexAllSpec)

/-- 'gnomonlaw09.LexPlaces', WHERE WHAT IT READS IS OF BULK AT MOST 1048576: true; the input reads as it did. -/
def lexPlacesUptoRow : OpenClaim := { program := "ytgkcjefbagnkpaadoor", sum := "7a4f97532eaef678313124a6e9f480e5f306061a525bbe98aeb7d685dfb4e2c2", func := "gnomon/gnomonlaw09.LexPlaces", spec := "lexPlaces", inPlace := ["internal/bytealg.IndexByteString"], unfollowed := true, recurses := true, named := ["gnomon/lex.kept"], apart := false, laid := [("gnomon/lex.kept", laid_gnomon_lex_kept)], narrowed := true }
def LexPlacesUptoSaid : Prop := lexPlacesUptoRow.holds Tryd.pinned (OpenSpec.upto lexPlacesSpec)

/-- 'gnomonlaw09.LexBlanks', WHERE WHAT IT READS IS OF BULK AT MOST 1048576: true; the input reads as it did. -/
def lexBlanksUptoRow : OpenClaim := { program := "ytgkcjefbagnkpaadoor", sum := "7a4f97532eaef678313124a6e9f480e5f306061a525bbe98aeb7d685dfb4e2c2", func := "gnomon/gnomonlaw09.LexBlanks", spec := "lexBlanks", inPlace := ["internal/bytealg.IndexByteString"], unfollowed := true, recurses := true, named := ["gnomon/lex.kept"], apart := false, laid := [("gnomon/lex.kept", laid_gnomon_lex_kept)], narrowed := true }
def LexBlanksUptoSaid : Prop := lexBlanksUptoRow.holds Tryd.pinned (OpenSpec.upto lexBlanksSpec)

/-- 'gnomonlaw09.LexJoins', WHERE WHAT IT READS IS OF BULK AT MOST 1048576: true; the input reads as it did. -/
def lexJoinsUptoRow : OpenClaim := { program := "ytgkcjefbagnkpaadoor", sum := "7a4f97532eaef678313124a6e9f480e5f306061a525bbe98aeb7d685dfb4e2c2", func := "gnomon/gnomonlaw09.LexJoins", spec := "lexJoins", inPlace := ["internal/bytealg.IndexByteString", "internal/abi.NoEscape", "internal/bytealg.MakeNoZero"], unfollowed := true, recurses := true, named := ["gnomon/lex.kept"], apart := false, laid := [("gnomon/lex.kept", laid_gnomon_lex_kept)], narrowed := true }
def LexJoinsUptoSaid : Prop := lexJoinsUptoRow.holds Tryd.pinned (OpenSpec.upto lexJoinsSpec)

/-- 'gnomonlaw09.LexBack', WHERE WHAT IT READS IS OF BULK AT MOST 1048576: true; the input reads as it did. -/
def lexBackUptoRow : OpenClaim := { program := "ytgkcjefbagnkpaadoor", sum := "7a4f97532eaef678313124a6e9f480e5f306061a525bbe98aeb7d685dfb4e2c2", func := "gnomon/gnomonlaw09.LexBack", spec := "lexBack", inPlace := ["internal/bytealg.IndexByteString", "internal/abi.NoEscape", "internal/bytealg.MakeNoZero"], unfollowed := true, recurses := true, named := ["gnomon/lex.kept"], apart := false, laid := [("gnomon/lex.kept", laid_gnomon_lex_kept)], narrowed := true }
def LexBackUptoSaid : Prop := lexBackUptoRow.holds Tryd.pinned (OpenSpec.upto lexBackSpec)

/-- 'gnomonlaw09.LexNames', WHERE WHAT IT READS IS OF BULK AT MOST 1048576: true; the input reads as it did. -/
def lexNamesUptoRow : OpenClaim := { program := "ytgkcjefbagnkpaadoor", sum := "7a4f97532eaef678313124a6e9f480e5f306061a525bbe98aeb7d685dfb4e2c2", func := "gnomon/gnomonlaw09.LexNames", spec := "lexNames", inPlace := ["internal/bytealg.CountString", "internal/bytealg.IndexByteString", "internal/bytealg.IndexString"], unfollowed := true, recurses := true, named := ["internal/bytealg.MaxLen", "gnomon/lex.kept"], apart := false, laid := [("gnomon/lex.kept", laid_gnomon_lex_kept)], narrowed := true }
def LexNamesUptoSaid : Prop := lexNamesUptoRow.holds Tryd.pinned (OpenSpec.upto lexNamesSpec)

/-- 'gnomonlaw08.ExprTexts', WHERE WHAT IT READS IS OF BULK AT MOST 1048576: true; the input reads as it did. -/
def exprTextsUptoRow : OpenClaim := { program := "ytgkcjefbagnkpaadoor", sum := "7a4f97532eaef678313124a6e9f480e5f306061a525bbe98aeb7d685dfb4e2c2", func := "gnomon/gnomonlaw08.ExprTexts", spec := "exprTexts", recurses := true, named := ["gnomon/expr.kinds", "internal/strconv.uint64pow10", "math/bits.deBruijn32tab", "math/bits.deBruijn64tab"], apart := false, laid := [("math/bits.deBruijn32tab", laid_math_bits_deBruijn32tab), ("math/bits.deBruijn64tab", laid_math_bits_deBruijn64tab), ("internal/strconv.uint64pow10", laid_internal_strconv_uint64pow10), ("gnomon/expr.kinds", laid_gnomon_expr_kinds)], narrowed := true }
def ExprTextsUptoSaid : Prop := exprTextsUptoRow.holds Tryd.pinned (OpenSpec.upto exprTextsSpec)

/-- 'gnomonlaw08.ExprValues', WHERE WHAT IT READS IS OF BULK AT MOST 1048576: true; the input reads as it did. -/
def exprValuesUptoRow : OpenClaim := { program := "ytgkcjefbagnkpaadoor", sum := "7a4f97532eaef678313124a6e9f480e5f306061a525bbe98aeb7d685dfb4e2c2", func := "gnomon/gnomonlaw08.ExprValues", spec := "exprValues", recurses := true, named := ["gnomon/expr.kinds", "internal/strconv.uint64pow10", "math/bits.deBruijn32tab", "math/bits.deBruijn64tab"], apart := false, laid := [("math/bits.deBruijn32tab", laid_math_bits_deBruijn32tab), ("math/bits.deBruijn64tab", laid_math_bits_deBruijn64tab), ("internal/strconv.uint64pow10", laid_internal_strconv_uint64pow10), ("gnomon/expr.kinds", laid_gnomon_expr_kinds)], narrowed := true }
def ExprValuesUptoSaid : Prop := exprValuesUptoRow.holds Tryd.pinned (OpenSpec.upto exprValuesSpec)

/-- 'gnomonlaw08.ExprSames', WHERE WHAT IT READS IS OF BULK AT MOST 1048576: true; the input reads as it did. -/
def exprSamesUptoRow : OpenClaim := { program := "ytgkcjefbagnkpaadoor", sum := "7a4f97532eaef678313124a6e9f480e5f306061a525bbe98aeb7d685dfb4e2c2", func := "gnomon/gnomonlaw08.ExprSames", spec := "exprSames", recurses := true, named := ["gnomon/expr.kinds", "internal/strconv.uint64pow10", "math/bits.deBruijn32tab", "math/bits.deBruijn64tab"], apart := false, laid := [("math/bits.deBruijn32tab", laid_math_bits_deBruijn32tab), ("math/bits.deBruijn64tab", laid_math_bits_deBruijn64tab), ("internal/strconv.uint64pow10", laid_internal_strconv_uint64pow10), ("gnomon/expr.kinds", laid_gnomon_expr_kinds)], narrowed := true }
def ExprSamesUptoSaid : Prop := exprSamesUptoRow.holds Tryd.pinned (OpenSpec.upto exprSamesSpec)

/-- 'gnomonlaw08.ExprUnlike', WHERE WHAT IT READS IS OF BULK AT MOST 1048576: true; the input reads as it did. -/
def exprUnlikeUptoRow : OpenClaim := { program := "ytgkcjefbagnkpaadoor", sum := "7a4f97532eaef678313124a6e9f480e5f306061a525bbe98aeb7d685dfb4e2c2", func := "gnomon/gnomonlaw08.ExprUnlike", spec := "exprUnlike", recurses := true, named := ["gnomon/expr.kinds", "internal/strconv.uint64pow10", "math/bits.deBruijn32tab", "math/bits.deBruijn64tab"], apart := false, laid := [("math/bits.deBruijn32tab", laid_math_bits_deBruijn32tab), ("math/bits.deBruijn64tab", laid_math_bits_deBruijn64tab), ("internal/strconv.uint64pow10", laid_internal_strconv_uint64pow10), ("gnomon/expr.kinds", laid_gnomon_expr_kinds)], narrowed := true }
def ExprUnlikeUptoSaid : Prop := exprUnlikeUptoRow.holds Tryd.pinned (OpenSpec.upto exprUnlikeSpec)

/-- 'gnomonlaw08.ExprTurns', WHERE WHAT IT READS IS OF BULK AT MOST 1048576: true; the input reads as it did. -/
def exprTurnsUptoRow : OpenClaim := { program := "ytgkcjefbagnkpaadoor", sum := "7a4f97532eaef678313124a6e9f480e5f306061a525bbe98aeb7d685dfb4e2c2", func := "gnomon/gnomonlaw08.ExprTurns", spec := "exprTurns", recurses := true, named := ["gnomon/expr.kinds", "internal/strconv.uint64pow10", "math/bits.deBruijn32tab", "math/bits.deBruijn64tab"], apart := false, laid := [("math/bits.deBruijn32tab", laid_math_bits_deBruijn32tab), ("math/bits.deBruijn64tab", laid_math_bits_deBruijn64tab), ("internal/strconv.uint64pow10", laid_internal_strconv_uint64pow10), ("gnomon/expr.kinds", laid_gnomon_expr_kinds)], narrowed := true }
def ExprTurnsUptoSaid : Prop := exprTurnsUptoRow.holds Tryd.pinned (OpenSpec.upto exprTurnsSpec)

end Rows
end Go.Proofs.YtgkcjefbagnkpaaDoor
