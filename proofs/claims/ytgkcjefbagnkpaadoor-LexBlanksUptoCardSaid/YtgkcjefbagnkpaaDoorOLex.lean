/- How the arguments of the laws of Lex are read, and what the listed variables hold. Written by wip/tools/xrow.py. -/
import Derived.Test.YtgkcjefbagnkpaaDoorXO
import Derived.Test.YtgkcjefbagnkpaaDoorPLexx0
import Derived.Lib.LaidTab
import Derived.Deep.DeepHandedRow
import Derived.Stop.Joined
import Derived.LaidMore
namespace Go.Proofs.YtgkcjefbagnkpaaDoor.PLex
open Go Go.RowKit Go.ChangeShapes Go.WideShapes Go.ChangeAt Go.Proofs.YtgkcjefbagnkpaaDoor Go.Proofs.YtgkcjefbagnkpaaDoorXO Go.Proofs.YtgkcjefbagnkpaaDoorW.PrintWords
set_option linter.unusedVariables false
set_option linter.unusedSimpArgs false
set_option maxRecDepth 100000
theorem rd9 : Rd Tryd.prog 9 Kd.string (fun x => True) (fun x => (x.size + 1)) := Rd.str Tryd.underlying9
theorem rd3 : Rd Tryd.prog 3 (Kd.int .i64) (fun x => (Lit.int .i64 x).wf = true) (fun x => 1) := Rd.int Tryd.underlying3
def ok29 (x : S29) : Prop := (Lit.int .i64 x.f0).wf = true ∧ True ∧ (Lit.int .i64 x.f2).wf = true ∧ (Lit.int .i64 x.f3).wf = true
def wt29 (x : S29) : Nat := 1 + (x.f1.size + 1) + 1 + 1
theorem rd29 : Rd Tryd.prog 29 k29 (fun x => ok29 x) (fun x => wt29 x) := by
  intro H enc w base spare held fuel cs x hx
  obtain ⟨xs, n, rfl, rfl, hl, hlen, hf⟩ := DataW.trod_struct Tryd.underlying29 hx
  have hl' : cs.length = 4 := hl.trans (by kernel_rfl)
  obtain ⟨y0, y1, y2, y3, rfl⟩ : ∃ y0 y1 y2 y3, xs = [y0, y1, y2, y3] := by
    match xs, hlen with | [y0, y1, y2, y3], _ => exact ⟨y0, y1, y2, y3, rfl⟩
  have h0 : DataW.trod enc Tryd.prog w base spare held n 3 (List.take (Tryd.prog.cellsOf 3) (List.drop 0 cs)) = some y0 := hf 0 _ rfl
  rw [show Tryd.prog.cellsOf 3 = 1 from by kernel_rfl] at h0
  obtain ⟨a0, k0_, g0, b0⟩ := rd3 enc w base spare held n _ y0 h0
  have h1 : DataW.trod enc Tryd.prog w base spare held n 9 (List.take (Tryd.prog.cellsOf 9) (List.drop 1 cs)) = some y1 := hf 1 _ rfl
  rw [show Tryd.prog.cellsOf 9 = 1 from by kernel_rfl] at h1
  obtain ⟨a1, k1_, g1, b1⟩ := rd9 enc w base spare held n _ y1 h1
  have h2 : DataW.trod enc Tryd.prog w base spare held n 3 (List.take (Tryd.prog.cellsOf 3) (List.drop 2 cs)) = some y2 := hf 2 _ rfl
  rw [show Tryd.prog.cellsOf 3 = 1 from by kernel_rfl] at h2
  obtain ⟨a2, k2_, g2, b2⟩ := rd3 enc w base spare held n _ y2 h2
  have h3 : DataW.trod enc Tryd.prog w base spare held n 3 (List.take (Tryd.prog.cellsOf 3) (List.drop 3 cs)) = some y3 := hf 3 _ rfl
  rw [show Tryd.prog.cellsOf 3 = 1 from by kernel_rfl] at h3
  obtain ⟨a3, k3_, g3, b3⟩ := rd3 enc w base spare held n _ y3 h3
  refine ⟨⟨a0, a1, a2, a3⟩, ?_, ⟨g0, g1, g2, g3⟩, ?_⟩
  · rw [← split_end cs 3 1 (by omega)] at k3_
    exact ⟨_, _, split_at cs 0 1, k0_, ⟨_, _, split_at cs 1 1, k1_, ⟨_, _, split_at cs 2 1, k2_, k3_⟩⟩⟩
  · have b0_ : 1 ≤ Rows.uptoBulk y0.fst := b0; have b1_ : (a1.size + 1) ≤ Rows.uptoBulk y1.fst := b1; have b2_ : 1 ≤ Rows.uptoBulk y2.fst := b2; have b3_ : 1 ≤ Rows.uptoBulk y3.fst := b3; simp only [wt29, Rows.uptoBulk, Rows.uptoBulkAll, List.map_cons, List.map_nil]; omega
theorem rd38 : Rd Tryd.prog 38 (Kd.slice 29 k29) (fun x => ((∀ z1 ∈ x, ok29 z1) ∧ x.length ≤ maxLen)) (fun x => ((x.map fun z => wt29 z).sum + 1)) := Rd.slice Tryd.underlying38 (by kernel_rfl) rd29
theorem fl9 : Flat Tryd.prog 9 := Flat.str Tryd.underlying9
theorem fl87 : Flat Tryd.prog 87 := Flat.array (n := 16) Tryd.underlying87 (s := 1) (by kernel_rfl) (by kernel_rfl) fl9
theorem gn_gnomon_lex_kept : Tryd.prog.globalNamed "gnomon/lex.kept" = some 0 := by kernel_rfl
theorem gt_gnomon_lex_kept : (Tryd.prog.globals[0]?).map (·.type) = some 87 := by kernel_rfl
theorem glob_of0 {w : World} (h : laidMetH Tryd.prog [("gnomon/lex.kept", Rows.laid_gnomon_lex_kept)] w) : Glob w := by
  rw [MakeChecks.laidMetH_plain _ _ _ (by kernel_rfl)] at h
  obtain ⟨ps, hv, _, _⟩ := h
  obtain ⟨g0, t0, cs0, f0, p0, q0, hg0, ht0, hc0, hd0, hv, _⟩ := hv
  exact ⟨laid_cells (n := 16) gn_gnomon_lex_kept gt_gnomon_lex_kept fl87 hg0 ht0 hc0 hd0 _ (by rfl)⟩
/-- A world for the witness: the listed variables hold what their initialisers lay. -/
noncomputable def laidWorld0 (os : Os) : World := { World.holding Tryd.prog os ⟨#[], #[], []⟩ with heap := ((World.holding Tryd.prog os ⟨#[], #[], []⟩).heap.modify 0 fun | .cells _ t frozen => .cells #[.string ⟨#[99, 108, 111, 99, 107]⟩, .string ⟨#[105, 110, 116]⟩, .string ⟨#[99, 104, 97, 110]⟩, .string ⟨#[97, 117, 116, 111]⟩, .string ⟨#[108, 111, 99]⟩, .string ⟨#[101, 100, 103, 101]⟩, .string ⟨#[105, 110]⟩, .string ⟨#[105, 110, 118]⟩, .string ⟨#[119, 104, 101, 110]⟩, .string ⟨#[115, 121, 110, 99]⟩, .string ⟨#[100, 111]⟩, .string ⟨#[117, 114, 103, 101, 110, 116]⟩, .string ⟨#[99, 111, 109, 109, 105, 116, 116, 101, 100]⟩, .string ⟨#[116, 114, 117, 101]⟩, .string ⟨#[114, 101, 97, 99, 104]⟩, .string ⟨#[110, 101, 118, 101, 114]⟩] t frozen | o => o) }
end Go.Proofs.YtgkcjefbagnkpaaDoor.PLex
