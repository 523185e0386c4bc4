/- How the arguments of the laws of Val are read, and what the listed variables hold. Written by wip/tools/xrow.py. -/
import Derived.Test.YtgkcjefbagnkpaaDoorXO
import Derived.Test.YtgkcjefbagnkpaaDoorPValx0
import Derived.Lib.LaidTab
import Derived.Deep.DeepHandedRow
import Derived.Stop.Joined
import Derived.LaidMore
namespace Go.Proofs.YtgkcjefbagnkpaaDoor.PVal
open Go Go.RowKit Go.ChangeShapes Go.WideShapes Go.ChangeAt Go.Proofs.YtgkcjefbagnkpaaDoor Go.Proofs.YtgkcjefbagnkpaaDoorXO Go.Proofs.YtgkcjefbagnkpaaDoorW.PrintWords
set_option linter.unusedVariables false
set_option linter.unusedSimpArgs false
set_option maxRecDepth 100000
theorem rd65 : Rd Tryd.prog 65 (Kd.int .u8) (fun x => (Lit.int .u8 x).wf = true) (fun x => 1) := Rd.int Tryd.underlying65
theorem rd3 : Rd Tryd.prog 3 (Kd.int .i64) (fun x => (Lit.int .i64 x).wf = true) (fun x => 1) := Rd.int Tryd.underlying3
def ok68 (x : S68) : Prop := (Lit.int .u8 x.f0).wf = true ∧ (Lit.int .i64 x.f1).wf = true
def wt68 (x : S68) : Nat := 1 + 1
theorem rd68 : Rd Tryd.prog 68 k68 (fun x => ok68 x) (fun x => wt68 x) := by
  intro H enc w base spare held fuel cs x hx hs
  obtain ⟨xs, n, rfl, rfl, hl, hlen, hf⟩ := DataW.trod_struct Tryd.underlying68 hx
  have hl' : cs.length = 2 := hl.trans (by kernel_rfl)
  obtain ⟨y0, y1, rfl⟩ : ∃ y0 y1, xs = [y0, y1] := by
    match xs, hlen with | [y0, y1], _ => exact ⟨y0, y1, rfl⟩
  have s0 : ∀ n ∈ y0.1.weights Tryd.prog 65, n ≤ 140737488351232 := fun n hn => hs n (mem_agg Tryd.underlying68 (j := 0) rfl rfl hn)
  have h0 : DataW.trod enc Tryd.prog w base spare held n 65 (List.take (Tryd.prog.cellsOf 65) (List.drop 0 cs)) = some y0 := hf 0 _ rfl
  rw [show Tryd.prog.cellsOf 65 = 1 from by kernel_rfl] at h0
  obtain ⟨a0, k0_, g0, b0⟩ := rd65 enc w base spare held n _ y0 h0 s0
  have s1 : ∀ n ∈ y1.1.weights Tryd.prog 3, n ≤ 140737488351232 := fun n hn => hs n (mem_agg Tryd.underlying68 (j := 1) rfl rfl hn)
  have h1 : DataW.trod enc Tryd.prog w base spare held n 3 (List.take (Tryd.prog.cellsOf 3) (List.drop 1 cs)) = some y1 := hf 1 _ rfl
  rw [show Tryd.prog.cellsOf 3 = 1 from by kernel_rfl] at h1
  obtain ⟨a1, k1_, g1, b1⟩ := rd3 enc w base spare held n _ y1 h1 s1
  refine ⟨⟨a0, a1⟩, ?_, ⟨g0, g1⟩, ?_⟩
  · rw [← split_end cs 1 1 (by omega)] at k1_
    exact ⟨_, _, split_at cs 0 1, k0_, k1_⟩
  · have b0_ : 1 ≤ Rows.uptoBulk y0.fst := b0; have b1_ : 1 ≤ Rows.uptoBulk y1.fst := b1; simp only [wt68, Rows.uptoBulk, Rows.uptoBulkAll, List.map_cons, List.map_nil]; omega
theorem rd49 : Rd Tryd.prog 49 (Kd.slice 68 k68) (fun x => ((∀ z1 ∈ x, ok68 z1) ∧ x.length * 16 ≤ 140737488351232)) (fun x => ((x.map fun z => wt68 z).sum + 1)) := Rd.slice Tryd.underlying49 (by kernel_rfl) (by kernel_rfl) rd68
theorem rd54 : Rd Tryd.prog 54 (Kd.slice 3 (Kd.int .i64)) (fun x => ((∀ z1 ∈ x, (Lit.int .i64 z1).wf = true) ∧ x.length * 8 ≤ 140737488351232)) (fun x => ((x.map fun z => 1).sum + 1)) := Rd.slice Tryd.underlying54 (by kernel_rfl) (by kernel_rfl) rd3
theorem fl3 : Flat Tryd.prog 3 := Flat.int Tryd.underlying3
theorem fl4 : Flat Tryd.prog 4 := Flat.bool Tryd.underlying4
theorem fl9 : Flat Tryd.prog 9 := Flat.str Tryd.underlying9
theorem fl111 : Flat Tryd.prog 111 := by
  intro H enc w base spare held fuel cs x hx
  obtain ⟨xs, n, rfl, rfl, hl, hlen, hf⟩ := DataW.trod_struct Tryd.underlying111 hx
  have hl' : cs.length = 5 := hl.trans (by kernel_rfl)
  obtain ⟨y0, y1, y2, y3, y4, rfl⟩ : ∃ y0 y1 y2 y3 y4, xs = [y0, y1, y2, y3, y4] := by
    match xs, hlen with | [y0, y1, y2, y3, y4], _ => exact ⟨y0, y1, y2, y3, y4, rfl⟩
  have h0 : DataW.trod enc Tryd.prog w base spare held n 3 (List.take (Tryd.prog.cellsOf 3) (List.drop 0 cs)) = some y0 := hf 0 _ rfl
  rw [show Tryd.prog.cellsOf 3 = 1 from by kernel_rfl] at h0
  have e0 := fl3 enc w base spare held n _ y0 h0
  have h1 : DataW.trod enc Tryd.prog w base spare held n 4 (List.take (Tryd.prog.cellsOf 4) (List.drop 1 cs)) = some y1 := hf 1 _ rfl
  rw [show Tryd.prog.cellsOf 4 = 1 from by kernel_rfl] at h1
  have e1 := fl4 enc w base spare held n _ y1 h1
  have h2 : DataW.trod enc Tryd.prog w base spare held n 4 (List.take (Tryd.prog.cellsOf 4) (List.drop 2 cs)) = some y2 := hf 2 _ rfl
  rw [show Tryd.prog.cellsOf 4 = 1 from by kernel_rfl] at h2
  have e2 := fl4 enc w base spare held n _ y2 h2
  have h3 : DataW.trod enc Tryd.prog w base spare held n 9 (List.take (Tryd.prog.cellsOf 9) (List.drop 3 cs)) = some y3 := hf 3 _ rfl
  rw [show Tryd.prog.cellsOf 9 = 1 from by kernel_rfl] at h3
  have e3 := fl9 enc w base spare held n _ y3 h3
  have h4 : DataW.trod enc Tryd.prog w base spare held n 3 (List.take (Tryd.prog.cellsOf 3) (List.drop 4 cs)) = some y4 := hf 4 _ rfl
  rw [show Tryd.prog.cellsOf 3 = 1 from by kernel_rfl] at h4
  have e4 := fl3 enc w base spare held n _ y4 h4
  simp only [List.map_cons, List.map_nil, flat, flatAll, List.append_nil]
  rw [← split_end cs 4 1 (by omega)] at e4
  rw [← e0, ← e1, ← e2, ← e3, ← e4]
  have h0 := split_at cs 0 1
  have s0 := split_at cs 0 1
  have s1 := split_at cs 1 1
  have s2 := split_at cs 2 1
  have s3 := split_at cs 3 1
  simp only [Nat.reduceAdd, Nat.zero_add, List.drop_zero] at s0 s1 s2 s3 ⊢
  rw [← s3, ← s2, ← s1]
  exact s0
theorem fl124 : Flat Tryd.prog 124 := Flat.array (n := 15) Tryd.underlying124 (s := 5) (by kernel_rfl) (by kernel_rfl) fl111
theorem gn_gnomon_expr_kinds : Tryd.prog.globalNamed "gnomon/expr.kinds" = some 2 := by kernel_rfl
theorem gt_gnomon_expr_kinds : (Tryd.prog.globals[2]?).map (·.type) = some 124 := by kernel_rfl
theorem gn_internal_strconv_uint64pow10 : Tryd.prog.globalNamed "internal/strconv.uint64pow10" = some 3 := by kernel_rfl
theorem gt_internal_strconv_uint64pow10 : (Tryd.prog.globals[3]?).map (·.type) = some 143 := by kernel_rfl
theorem glob_of0 {w : World} (h : laidMetH Tryd.prog [("math/bits.deBruijn32tab", Rows.laid_math_bits_deBruijn32tab), ("math/bits.deBruijn64tab", Rows.laid_math_bits_deBruijn64tab), ("internal/strconv.uint64pow10", Rows.laid_internal_strconv_uint64pow10), ("gnomon/expr.kinds", Rows.laid_gnomon_expr_kinds)] w) : Glob w := by
  rw [MakeChecks.laidMetH_plain _ _ _ (by kernel_rfl)] at h
  obtain ⟨ps, hv, _, _⟩ := h
  obtain ⟨g0, t0, cs0, f0, p0, q0, hg0, ht0, hc0, hd0, hv, _⟩ := hv
  obtain ⟨g1, t1, cs1, f1, p1, q1, hg1, ht1, hc1, hd1, hv, _⟩ := hv
  obtain ⟨g2, t2, cs2, f2, p2, q2, hg2, ht2, hc2, hd2, hv, _⟩ := hv
  obtain ⟨g3, t3, cs3, f3, p3, q3, hg3, ht3, hc3, hd3, hv, _⟩ := hv
  exact ⟨laid_cells (n := 75) gn_gnomon_expr_kinds gt_gnomon_expr_kinds fl124 hg3 ht3 hc3 hd3 _ (by rfl), laid_tab (n := 20) (e := 125) gn_internal_strconv_uint64pow10 gt_internal_strconv_uint64pow10 Tryd.underlying143 Tryd.underlying125 (by kernel_rfl) (by kernel_rfl) hg2 ht2 hc2 hd2 (by rfl)⟩
/-- A world for the witness: the listed variables hold what their initialisers lay. -/
noncomputable def laidWorld0 (os : Os) : World := { World.holding Tryd.prog os ⟨#[], #[], []⟩ with heap := (((((World.holding Tryd.prog os ⟨#[], #[], []⟩).heap.modify 4 fun | .cells _ t frozen => .cells #[.int .u8 0, .int .u8 1, .int .u8 28, .int .u8 2, .int .u8 29, .int .u8 14, .int .u8 24, .int .u8 3, .int .u8 30, .int .u8 22, .int .u8 20, .int .u8 15, .int .u8 25, .int .u8 17, .int .u8 4, .int .u8 8, .int .u8 31, .int .u8 27, .int .u8 13, .int .u8 23, .int .u8 21, .int .u8 19, .int .u8 16, .int .u8 7, .int .u8 26, .int .u8 12, .int .u8 18, .int .u8 6, .int .u8 11, .int .u8 5, .int .u8 10, .int .u8 9] t frozen | o => o).modify 5 fun | .cells _ t frozen => .cells #[.int .u8 0, .int .u8 1, .int .u8 56, .int .u8 2, .int .u8 57, .int .u8 49, .int .u8 28, .int .u8 3, .int .u8 61, .int .u8 58, .int .u8 42, .int .u8 50, .int .u8 38, .int .u8 29, .int .u8 17, .int .u8 4, .int .u8 62, .int .u8 47, .int .u8 59, .int .u8 36, .int .u8 45, .int .u8 43, .int .u8 51, .int .u8 22, .int .u8 53, .int .u8 39, .int .u8 33, .int .u8 30, .int .u8 24, .int .u8 18, .int .u8 12, .int .u8 5, .int .u8 63, .int .u8 55, .int .u8 48, .int .u8 27, .int .u8 60, .int .u8 41, .int .u8 37, .int .u8 16, .int .u8 46, .int .u8 35, .int .u8 44, .int .u8 21, .int .u8 52, .int .u8 32, .int .u8 23, .int .u8 11, .int .u8 54, .int .u8 26, .int .u8 40, .int .u8 15, .int .u8 34, .int .u8 20, .int .u8 31, .int .u8 10, .int .u8 25, .int .u8 14, .int .u8 19, .int .u8 9, .int .u8 13, .int .u8 8, .int .u8 7, .int .u8 6] t frozen | o => o).modify 3 fun | .cells _ t frozen => .cells #[.int .u64 1, .int .u64 10, .int .u64 100, .int .u64 1000, .int .u64 10000, .int .u64 100000, .int .u64 1000000, .int .u64 10000000, .int .u64 100000000, .int .u64 1000000000, .int .u64 10000000000, .int .u64 100000000000, .int .u64 1000000000000, .int .u64 10000000000000, .int .u64 100000000000000, .int .u64 1000000000000000, .int .u64 10000000000000000, .int .u64 100000000000000000, .int .u64 1000000000000000000, .int .u64 10000000000000000000] t frozen | o => o).modify 2 fun | .cells _ t frozen => .cells #[.int .i64 0, .bool false, .bool false, .string ⟨#[]⟩, .int .i64 0, .int .i64 0, .bool false, .bool false, .string ⟨#[]⟩, .int .i64 9, .int .i64 0, .bool false, .bool false, .string ⟨#[]⟩, .int .i64 9, .int .i64 1, .bool false, .bool false, .string ⟨#[45]⟩, .int .i64 6, .int .i64 2, .bool false, .bool false, .string ⟨#[43]⟩, .int .i64 4, .int .i64 2, .bool false, .bool false, .string ⟨#[45]⟩, .int .i64 4, .int .i64 2, .bool false, .bool false, .string ⟨#[42]⟩, .int .i64 5, .int .i64 0, .bool true, .bool false, .string ⟨#[116, 114, 117, 101]⟩, .int .i64 9, .int .i64 2, .bool true, .bool false, .string ⟨#[60]⟩, .int .i64 3, .int .i64 2, .bool true, .bool false, .string ⟨#[60, 61]⟩, .int .i64 3, .int .i64 2, .bool true, .bool false, .string ⟨#[61, 61]⟩, .int .i64 3, .int .i64 2, .bool true, .bool false, .string ⟨#[33, 61]⟩, .int .i64 3, .int .i64 1, .bool true, .bool true, .string ⟨#[33]⟩, .int .i64 9, .int .i64 2, .bool true, .bool true, .string ⟨#[38, 38]⟩, .int .i64 2, .int .i64 2, .bool true, .bool true, .string ⟨#[124, 124]⟩, .int .i64 1] t frozen | o => o) }
end Go.Proofs.YtgkcjefbagnkpaaDoor.PVal
