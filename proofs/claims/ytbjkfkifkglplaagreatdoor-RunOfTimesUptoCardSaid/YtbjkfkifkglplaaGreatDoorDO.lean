/- What the listed variables hold. Written by wip/den/row.py. -/
import Derived.Test.YtbjkfkifkglplaaGreatDoorD5b
import Derived.Test.YtbjkfkifkglplaaGreatDoorT3
import Derived.Test.YtbjkfkifkglplaaGreatDoorRows
import Derived.Deep.DeepHandedRow
import Derived.Stop.Joined
import Derived.LaidMore
namespace Go.Proofs.YtbjkfkifkglplaaGreatDoor.Q
open Go Go.Den Go.RowKit Go.ChangeShapes Go.WideShapes Go.ChangeAt Go.Proofs Go.Proofs.YtbjkfkifkglplaaGreatDoor
set_option linter.unusedVariables false
set_option linter.unusedSimpArgs false
set_option maxRecDepth 100000
theorem gn_gnomon_expr_kinds : Tryz.prog.globalNamed "gnomon/expr.kinds" = some 1 := by kernel_rfl
theorem gt_gnomon_expr_kinds : (Tryz.prog.globals[1]?).map (·.type) = some 337 := by kernel_rfl
theorem gn_gnomon_lex_kept : Tryz.prog.globalNamed "gnomon/lex.kept" = some 0 := by kernel_rfl
theorem gt_gnomon_lex_kept : (Tryz.prog.globals[0]?).map (·.type) = some 335 := by kernel_rfl
theorem gn_internal_strconv_uint64pow10 : Tryz.prog.globalNamed "internal/strconv.uint64pow10" = some 3 := by kernel_rfl
theorem gt_internal_strconv_uint64pow10 : (Tryz.prog.globals[3]?).map (·.type) = some 368 := by kernel_rfl
theorem glob_of0 {w : World} (h : laidMetH Tryz.prog [("math/bits.deBruijn32tab", Rows.laid_math_bits_deBruijn32tab), ("math/bits.deBruijn64tab", Rows.laid_math_bits_deBruijn64tab), ("internal/strconv.uint64pow10", Rows.laid_internal_strconv_uint64pow10), ("gnomon/expr.kinds", Rows.laid_gnomon_expr_kinds), ("gnomon/lex.kept", Rows.laid_gnomon_lex_kept)] w) : GlobOK GL0 w (fun b => b < w.heap.size) := by
  rw [MakeChecks.laidMetH_plain _ _ _ (by kernel_rfl)] at h
  obtain ⟨ps, hv, _, _⟩ := h
  obtain ⟨g0, t0, cs0, f0, p0, q0, hg0, ht0, hc0, hd0, hv, _⟩ := hv
  obtain ⟨g1, t1, cs1, f1, p1, q1, hg1, ht1, hc1, hd1, hv, _⟩ := hv
  obtain ⟨g2, t2, cs2, f2, p2, q2, hg2, ht2, hc2, hd2, hv, _⟩ := hv
  obtain ⟨g3, t3, cs3, f3, p3, q3, hg3, ht3, hc3, hd3, hv, _⟩ := hv
  obtain ⟨g4, t4, cs4, f4, p4, q4, hg4, ht4, hc4, hd4, hv, _⟩ := hv
  have G0 : GVRep w (fun b => b < w.heap.size) 0 (.tab .str lex_kept) := laid_gv (n := 16) (el := 9) 8 gn_gnomon_lex_kept gt_gnomon_lex_kept Tryz.underlying335 (by kernel_rfl) (by kernel_rfl) (by kernel_rfl) rfl rfl hg4 ht4 hc4 hd4 (by kernel_rfl)
  have G1 : GVRep w (fun b => b < w.heap.size) 1 (.tab T296 expr_kinds) := laid_gv (n := 15) (el := 296) 8 gn_gnomon_expr_kinds gt_gnomon_expr_kinds Tryz.underlying337 (by kernel_rfl) (by kernel_rfl) (by kernel_rfl) rfl rfl hg3 ht3 hc3 hd3 (by kernel_rfl)
  have G3 : GVRep w (fun b => b < w.heap.size) 3 (.arr .u64 Lib.pow10Tab) := laid_tab (n := 20) (e := 267) gn_internal_strconv_uint64pow10 gt_internal_strconv_uint64pow10 Tryz.underlying368 Tryz.underlying267 (by kernel_rfl) (by kernel_rfl) hg2 ht2 hc2 hd2 (by rfl)
  intro g x hx
  unfold GL0 at hx
  cases hb : Nat.beq g 0 with
  | true => rw [hb] at hx; cases hx; rw [Nat.eq_of_beq_eq_true hb]; exact G0
  | false =>
  rw [hb] at hx; simp only [cond_false] at hx
  cases hb : Nat.beq g 1 with
  | true => rw [hb] at hx; cases hx; rw [Nat.eq_of_beq_eq_true hb]; exact G1
  | false =>
  rw [hb] at hx; simp only [cond_false] at hx
  cases hb : Nat.beq g 3 with
  | true => rw [hb] at hx; cases hx; rw [Nat.eq_of_beq_eq_true hb]; exact G3
  | false =>
  rw [hb] at hx; simp only [cond_false] at hx
  cases hx
/-- A world for the witness: the listed variables hold what their initialisers lay. -/
noncomputable def laidWorld0 (os : Os) : World := { World.holding Tryz.prog os ⟨#[], #[], []⟩ with heap := ((((((World.holding Tryz.prog os ⟨#[], #[], []⟩).heap.modify 8 fun | .cells _ t frozen => .cells #[.int .u8 0, .int .u8 1, .int .u8 28, .int .u8 2, .int .u8 29, .int .u8 14, .int .u8 24, .int .u8 3, .int .u8 30, .int .u8 22, .int .u8 20, .int .u8 15, .int .u8 25, .int .u8 17, .int .u8 4, .int .u8 8, .int .u8 31, .int .u8 27, .int .u8 13, .int .u8 23, .int .u8 21, .int .u8 19, .int .u8 16, .int .u8 7, .int .u8 26, .int .u8 12, .int .u8 18, .int .u8 6, .int .u8 11, .int .u8 5, .int .u8 10, .int .u8 9] t frozen | o => o).modify 9 fun | .cells _ t frozen => .cells #[.int .u8 0, .int .u8 1, .int .u8 56, .int .u8 2, .int .u8 57, .int .u8 49, .int .u8 28, .int .u8 3, .int .u8 61, .int .u8 58, .int .u8 42, .int .u8 50, .int .u8 38, .int .u8 29, .int .u8 17, .int .u8 4, .int .u8 62, .int .u8 47, .int .u8 59, .int .u8 36, .int .u8 45, .int .u8 43, .int .u8 51, .int .u8 22, .int .u8 53, .int .u8 39, .int .u8 33, .int .u8 30, .int .u8 24, .int .u8 18, .int .u8 12, .int .u8 5, .int .u8 63, .int .u8 55, .int .u8 48, .int .u8 27, .int .u8 60, .int .u8 41, .int .u8 37, .int .u8 16, .int .u8 46, .int .u8 35, .int .u8 44, .int .u8 21, .int .u8 52, .int .u8 32, .int .u8 23, .int .u8 11, .int .u8 54, .int .u8 26, .int .u8 40, .int .u8 15, .int .u8 34, .int .u8 20, .int .u8 31, .int .u8 10, .int .u8 25, .int .u8 14, .int .u8 19, .int .u8 9, .int .u8 13, .int .u8 8, .int .u8 7, .int .u8 6] t frozen | o => o).modify 3 fun | .cells _ t frozen => .cells #[.int .u64 1, .int .u64 10, .int .u64 100, .int .u64 1000, .int .u64 10000, .int .u64 100000, .int .u64 1000000, .int .u64 10000000, .int .u64 100000000, .int .u64 1000000000, .int .u64 10000000000, .int .u64 100000000000, .int .u64 1000000000000, .int .u64 10000000000000, .int .u64 100000000000000, .int .u64 1000000000000000, .int .u64 10000000000000000, .int .u64 100000000000000000, .int .u64 1000000000000000000, .int .u64 10000000000000000000] t frozen | o => o).modify 1 fun | .cells _ t frozen => .cells #[.int .i64 0, .bool false, .bool false, .string ⟨#[]⟩, .int .i64 0, .int .i64 0, .bool false, .bool false, .string ⟨#[]⟩, .int .i64 9, .int .i64 0, .bool false, .bool false, .string ⟨#[]⟩, .int .i64 9, .int .i64 1, .bool false, .bool false, .string ⟨#[45]⟩, .int .i64 6, .int .i64 2, .bool false, .bool false, .string ⟨#[43]⟩, .int .i64 4, .int .i64 2, .bool false, .bool false, .string ⟨#[45]⟩, .int .i64 4, .int .i64 2, .bool false, .bool false, .string ⟨#[42]⟩, .int .i64 5, .int .i64 0, .bool true, .bool false, .string ⟨#[116, 114, 117, 101]⟩, .int .i64 9, .int .i64 2, .bool true, .bool false, .string ⟨#[60]⟩, .int .i64 3, .int .i64 2, .bool true, .bool false, .string ⟨#[60, 61]⟩, .int .i64 3, .int .i64 2, .bool true, .bool false, .string ⟨#[61, 61]⟩, .int .i64 3, .int .i64 2, .bool true, .bool false, .string ⟨#[33, 61]⟩, .int .i64 3, .int .i64 1, .bool true, .bool true, .string ⟨#[33]⟩, .int .i64 9, .int .i64 2, .bool true, .bool true, .string ⟨#[38, 38]⟩, .int .i64 2, .int .i64 2, .bool true, .bool true, .string ⟨#[124, 124]⟩, .int .i64 1] t frozen | o => o).modify 0 fun | .cells _ t frozen => .cells #[.string ⟨#[99, 108, 111, 99, 107]⟩, .string ⟨#[105, 110, 116]⟩, .string ⟨#[99, 104, 97, 110]⟩, .string ⟨#[97, 117, 116, 111]⟩, .string ⟨#[108, 111, 99]⟩, .string ⟨#[101, 100, 103, 101]⟩, .string ⟨#[105, 110]⟩, .string ⟨#[105, 110, 118]⟩, .string ⟨#[119, 104, 101, 110]⟩, .string ⟨#[115, 121, 110, 99]⟩, .string ⟨#[100, 111]⟩, .string ⟨#[117, 114, 103, 101, 110, 116]⟩, .string ⟨#[99, 111, 109, 109, 105, 116, 116, 101, 100]⟩, .string ⟨#[116, 114, 117, 101]⟩, .string ⟨#[114, 101, 97, 99, 104]⟩, .string ⟨#[110, 101, 118, 101, 114]⟩] t frozen | o => o) }
end Go.Proofs.YtbjkfkifkglplaaGreatDoor.Q
