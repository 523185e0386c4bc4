/- How the arguments of the laws of Ord are read, and what the listed variables hold. Written by wip/tools/xrow.py. -/
import Derived.Test.YtpmhfahligjhaaaDoorXO
import Derived.Test.YtpmhfahligjhaaaDoorPOrdx0
import Derived.Lib.LaidTab
import Derived.Deep.DeepHandedRow
import Derived.Stop.Joined
import Derived.LaidMore
namespace Go.Proofs.YtpmhfahligjhaaaDoor.POrd
open Go Go.RowKit Go.ChangeShapes Go.WideShapes Go.ChangeAt Go.Proofs.YtpmhfahligjhaaaDoor Go.Proofs.YtpmhfahligjhaaaDoorXO Go.Proofs.YtpmhfahligjhaaaDoorW.PrintWords
set_option linter.unusedVariables false
set_option linter.unusedSimpArgs false
set_option maxRecDepth 100000
theorem rd9 : Rd Tryd.prog 9 Kd.string (fun x => x.size ≤ 140737488351232) (fun x => (x.size + 1)) := Rd.str Tryd.underlying9
theorem rd22 : Rd Tryd.prog 22 (Kd.slice 9 Kd.string) (fun x => ((∀ z1 ∈ x, z1.size ≤ 140737488351232) ∧ x.length * 16 ≤ 140737488351232)) (fun x => ((x.map fun z => (z.size + 1)).sum + 1)) := Rd.slice Tryd.underlying22 (by kernel_rfl) (by kernel_rfl) rd9
theorem rd3 : Rd Tryd.prog 3 (Kd.int .i64) (fun x => (Lit.int .i64 x).wf = true) (fun x => 1) := Rd.int Tryd.underlying3
def ok50 (x : S50) : Prop := x.f0.size ≤ 140737488351232 ∧ (Lit.int .i64 x.f1).wf = true ∧ (Lit.int .i64 x.f2).wf = true ∧ (Lit.int .i64 x.f3).wf = true
def wt50 (x : S50) : Nat := (x.f0.size + 1) + 1 + 1 + 1
theorem rd50 : Rd Tryd.prog 50 k50 (fun x => ok50 x) (fun x => wt50 x) := by
  intro H enc w base spare held fuel cs x hx hs
  obtain ⟨xs, n, rfl, rfl, hl, hlen, hf⟩ := DataW.trod_struct Tryd.underlying50 hx
  have hl' : cs.length = 4 := hl.trans (by kernel_rfl)
  obtain ⟨y0, y1, y2, y3, rfl⟩ : ∃ y0 y1 y2 y3, xs = [y0, y1, y2, y3] := by
    match xs, hlen with | [y0, y1, y2, y3], _ => exact ⟨y0, y1, y2, y3, rfl⟩
  have s0 : ∀ n ∈ y0.1.weights Tryd.prog 9, n ≤ 140737488351232 := fun n hn => hs n (mem_agg Tryd.underlying50 (j := 0) rfl rfl hn)
  have h0 : DataW.trod enc Tryd.prog w base spare held n 9 (List.take (Tryd.prog.cellsOf 9) (List.drop 0 cs)) = some y0 := hf 0 _ rfl
  rw [show Tryd.prog.cellsOf 9 = 1 from by kernel_rfl] at h0
  obtain ⟨a0, k0_, g0, b0⟩ := rd9 enc w base spare held n _ y0 h0 s0
  have s1 : ∀ n ∈ y1.1.weights Tryd.prog 3, n ≤ 140737488351232 := fun n hn => hs n (mem_agg Tryd.underlying50 (j := 1) rfl rfl hn)
  have h1 : DataW.trod enc Tryd.prog w base spare held n 3 (List.take (Tryd.prog.cellsOf 3) (List.drop 1 cs)) = some y1 := hf 1 _ rfl
  rw [show Tryd.prog.cellsOf 3 = 1 from by kernel_rfl] at h1
  obtain ⟨a1, k1_, g1, b1⟩ := rd3 enc w base spare held n _ y1 h1 s1
  have s2 : ∀ n ∈ y2.1.weights Tryd.prog 3, n ≤ 140737488351232 := fun n hn => hs n (mem_agg Tryd.underlying50 (j := 2) rfl rfl hn)
  have h2 : DataW.trod enc Tryd.prog w base spare held n 3 (List.take (Tryd.prog.cellsOf 3) (List.drop 2 cs)) = some y2 := hf 2 _ rfl
  rw [show Tryd.prog.cellsOf 3 = 1 from by kernel_rfl] at h2
  obtain ⟨a2, k2_, g2, b2⟩ := rd3 enc w base spare held n _ y2 h2 s2
  have s3 : ∀ n ∈ y3.1.weights Tryd.prog 3, n ≤ 140737488351232 := fun n hn => hs n (mem_agg Tryd.underlying50 (j := 3) rfl rfl hn)
  have h3 : DataW.trod enc Tryd.prog w base spare held n 3 (List.take (Tryd.prog.cellsOf 3) (List.drop 3 cs)) = some y3 := hf 3 _ rfl
  rw [show Tryd.prog.cellsOf 3 = 1 from by kernel_rfl] at h3
  obtain ⟨a3, k3_, g3, b3⟩ := rd3 enc w base spare held n _ y3 h3 s3
  refine ⟨⟨a0, a1, a2, a3⟩, ?_, ⟨g0, g1, g2, g3⟩, ?_⟩
  · rw [← split_end cs 3 1 (by omega)] at k3_
    exact ⟨_, _, split_at cs 0 1, k0_, ⟨_, _, split_at cs 1 1, k1_, ⟨_, _, split_at cs 2 1, k2_, k3_⟩⟩⟩
  · have b0_ : (a0.size + 1) ≤ Rows.uptoBulk y0.fst := b0; have b1_ : 1 ≤ Rows.uptoBulk y1.fst := b1; have b2_ : 1 ≤ Rows.uptoBulk y2.fst := b2; have b3_ : 1 ≤ Rows.uptoBulk y3.fst := b3; simp only [wt50, Rows.uptoBulk, Rows.uptoBulkAll, List.map_cons, List.map_nil]; omega
theorem rd23 : Rd Tryd.prog 23 (Kd.slice 50 k50) (fun x => ((∀ z1 ∈ x, ok50 z1) ∧ x.length * 40 ≤ 140737488351232)) (fun x => ((x.map fun z => wt50 z).sum + 1)) := Rd.slice Tryd.underlying23 (by kernel_rfl) (by kernel_rfl) rd50
theorem rd54 : Rd Tryd.prog 54 (Kd.int .u8) (fun x => (Lit.int .u8 x).wf = true) (fun x => 1) := Rd.int Tryd.underlying54
theorem rd116 : Rd Tryd.prog 116 (Kd.int .u8) (fun x => (Lit.int .u8 x).wf = true) (fun x => 1) := Rd.int Tryd.underlying116
def ok118 (x : S118) : Prop := (Lit.int .i64 x.f0).wf = true ∧ (Lit.int .i64 x.f1).wf = true ∧ (Lit.int .u8 x.f2).wf = true ∧ (Lit.int .i64 x.f3).wf = true
def wt118 (x : S118) : Nat := 1 + 1 + 1 + 1
theorem rd118 : Rd Tryd.prog 118 k118 (fun x => ok118 x) (fun x => wt118 x) := by
  intro H enc w base spare held fuel cs x hx hs
  obtain ⟨xs, n, rfl, rfl, hl, hlen, hf⟩ := DataW.trod_struct Tryd.underlying118 hx
  have hl' : cs.length = 4 := hl.trans (by kernel_rfl)
  obtain ⟨y0, y1, y2, y3, rfl⟩ : ∃ y0 y1 y2 y3, xs = [y0, y1, y2, y3] := by
    match xs, hlen with | [y0, y1, y2, y3], _ => exact ⟨y0, y1, y2, y3, rfl⟩
  have s0 : ∀ n ∈ y0.1.weights Tryd.prog 3, n ≤ 140737488351232 := fun n hn => hs n (mem_agg Tryd.underlying118 (j := 0) rfl rfl hn)
  have h0 : DataW.trod enc Tryd.prog w base spare held n 3 (List.take (Tryd.prog.cellsOf 3) (List.drop 0 cs)) = some y0 := hf 0 _ rfl
  rw [show Tryd.prog.cellsOf 3 = 1 from by kernel_rfl] at h0
  obtain ⟨a0, k0_, g0, b0⟩ := rd3 enc w base spare held n _ y0 h0 s0
  have s1 : ∀ n ∈ y1.1.weights Tryd.prog 3, n ≤ 140737488351232 := fun n hn => hs n (mem_agg Tryd.underlying118 (j := 1) rfl rfl hn)
  have h1 : DataW.trod enc Tryd.prog w base spare held n 3 (List.take (Tryd.prog.cellsOf 3) (List.drop 1 cs)) = some y1 := hf 1 _ rfl
  rw [show Tryd.prog.cellsOf 3 = 1 from by kernel_rfl] at h1
  obtain ⟨a1, k1_, g1, b1⟩ := rd3 enc w base spare held n _ y1 h1 s1
  have s2 : ∀ n ∈ y2.1.weights Tryd.prog 116, n ≤ 140737488351232 := fun n hn => hs n (mem_agg Tryd.underlying118 (j := 2) rfl rfl hn)
  have h2 : DataW.trod enc Tryd.prog w base spare held n 116 (List.take (Tryd.prog.cellsOf 116) (List.drop 2 cs)) = some y2 := hf 2 _ rfl
  rw [show Tryd.prog.cellsOf 116 = 1 from by kernel_rfl] at h2
  obtain ⟨a2, k2_, g2, b2⟩ := rd116 enc w base spare held n _ y2 h2 s2
  have s3 : ∀ n ∈ y3.1.weights Tryd.prog 3, n ≤ 140737488351232 := fun n hn => hs n (mem_agg Tryd.underlying118 (j := 3) rfl rfl hn)
  have h3 : DataW.trod enc Tryd.prog w base spare held n 3 (List.take (Tryd.prog.cellsOf 3) (List.drop 3 cs)) = some y3 := hf 3 _ rfl
  rw [show Tryd.prog.cellsOf 3 = 1 from by kernel_rfl] at h3
  obtain ⟨a3, k3_, g3, b3⟩ := rd3 enc w base spare held n _ y3 h3 s3
  refine ⟨⟨a0, a1, a2, a3⟩, ?_, ⟨g0, g1, g2, g3⟩, ?_⟩
  · rw [← split_end cs 3 1 (by omega)] at k3_
    exact ⟨_, _, split_at cs 0 1, k0_, ⟨_, _, split_at cs 1 1, k1_, ⟨_, _, split_at cs 2 1, k2_, k3_⟩⟩⟩
  · have b0_ : 1 ≤ Rows.uptoBulk y0.fst := b0; have b1_ : 1 ≤ Rows.uptoBulk y1.fst := b1; have b2_ : 1 ≤ Rows.uptoBulk y2.fst := b2; have b3_ : 1 ≤ Rows.uptoBulk y3.fst := b3; simp only [wt118, Rows.uptoBulk, Rows.uptoBulkAll, List.map_cons, List.map_nil]; omega
theorem rd55 : Rd Tryd.prog 55 (Kd.slice 118 k118) (fun x => ((∀ z1 ∈ x, ok118 z1) ∧ x.length * 32 ≤ 140737488351232)) (fun x => ((x.map fun z => wt118 z).sum + 1)) := Rd.slice Tryd.underlying55 (by kernel_rfl) (by kernel_rfl) rd118
def ok57 (x : S57) : Prop := x.f0.size ≤ 140737488351232 ∧ (Lit.int .u8 x.f1).wf = true ∧ ((∀ z4 ∈ x.f2, ok118 z4) ∧ x.f2.length * 32 ≤ 140737488351232)
def wt57 (x : S57) : Nat := (x.f0.size + 1) + 1 + ((x.f2.map fun z => wt118 z).sum + 1)
theorem rd57 : Rd Tryd.prog 57 k57 (fun x => ok57 x) (fun x => wt57 x) := by
  intro H enc w base spare held fuel cs x hx hs
  obtain ⟨xs, n, rfl, rfl, hl, hlen, hf⟩ := DataW.trod_struct Tryd.underlying57 hx
  have hl' : cs.length = 3 := hl.trans (by kernel_rfl)
  obtain ⟨y0, y1, y2, rfl⟩ : ∃ y0 y1 y2, xs = [y0, y1, y2] := by
    match xs, hlen with | [y0, y1, y2], _ => exact ⟨y0, y1, y2, rfl⟩
  have s0 : ∀ n ∈ y0.1.weights Tryd.prog 9, n ≤ 140737488351232 := fun n hn => hs n (mem_agg Tryd.underlying57 (j := 0) rfl rfl hn)
  have h0 : DataW.trod enc Tryd.prog w base spare held n 9 (List.take (Tryd.prog.cellsOf 9) (List.drop 0 cs)) = some y0 := hf 0 _ rfl
  rw [show Tryd.prog.cellsOf 9 = 1 from by kernel_rfl] at h0
  obtain ⟨a0, k0_, g0, b0⟩ := rd9 enc w base spare held n _ y0 h0 s0
  have s1 : ∀ n ∈ y1.1.weights Tryd.prog 54, n ≤ 140737488351232 := fun n hn => hs n (mem_agg Tryd.underlying57 (j := 1) rfl rfl hn)
  have h1 : DataW.trod enc Tryd.prog w base spare held n 54 (List.take (Tryd.prog.cellsOf 54) (List.drop 1 cs)) = some y1 := hf 1 _ rfl
  rw [show Tryd.prog.cellsOf 54 = 1 from by kernel_rfl] at h1
  obtain ⟨a1, k1_, g1, b1⟩ := rd54 enc w base spare held n _ y1 h1 s1
  have s2 : ∀ n ∈ y2.1.weights Tryd.prog 55, n ≤ 140737488351232 := fun n hn => hs n (mem_agg Tryd.underlying57 (j := 2) rfl rfl hn)
  have h2 : DataW.trod enc Tryd.prog w base spare held n 55 (List.take (Tryd.prog.cellsOf 55) (List.drop 2 cs)) = some y2 := hf 2 _ rfl
  rw [show Tryd.prog.cellsOf 55 = 1 from by kernel_rfl] at h2
  obtain ⟨a2, k2_, g2, b2⟩ := rd55 enc w base spare held n _ y2 h2 s2
  refine ⟨⟨a0, a1, a2⟩, ?_, ⟨g0, g1, g2⟩, ?_⟩
  · rw [← split_end cs 2 1 (by omega)] at k2_
    exact ⟨_, _, split_at cs 0 1, k0_, ⟨_, _, split_at cs 1 1, k1_, k2_⟩⟩
  · have b0_ : (a0.size + 1) ≤ Rows.uptoBulk y0.fst := b0; have b1_ : 1 ≤ Rows.uptoBulk y1.fst := b1; have b2_ : ((a2.map fun z => wt118 z).sum + 1) ≤ Rows.uptoBulk y2.fst := b2; simp only [wt57, Rows.uptoBulk, Rows.uptoBulkAll, List.map_cons, List.map_nil]; omega
theorem rd58 : Rd Tryd.prog 58 (Kd.slice 57 k57) (fun x => ((∀ z1 ∈ x, ok57 z1) ∧ x.length * 48 ≤ 140737488351232)) (fun x => ((x.map fun z => wt57 z).sum + 1)) := Rd.slice Tryd.underlying58 (by kernel_rfl) (by kernel_rfl) rd57
theorem rd120 : Rd Tryd.prog 120 (Kd.int .u8) (fun x => (Lit.int .u8 x).wf = true) (fun x => 1) := Rd.int Tryd.underlying120
def ok122 (x : S122) : Prop := (Lit.int .u8 x.f0).wf = true ∧ (Lit.int .i64 x.f1).wf = true
def wt122 (x : S122) : Nat := 1 + 1
theorem rd122 : Rd Tryd.prog 122 k122 (fun x => ok122 x) (fun x => wt122 x) := by
  intro H enc w base spare held fuel cs x hx hs
  obtain ⟨xs, n, rfl, rfl, hl, hlen, hf⟩ := DataW.trod_struct Tryd.underlying122 hx
  have hl' : cs.length = 2 := hl.trans (by kernel_rfl)
  obtain ⟨y0, y1, rfl⟩ : ∃ y0 y1, xs = [y0, y1] := by
    match xs, hlen with | [y0, y1], _ => exact ⟨y0, y1, rfl⟩
  have s0 : ∀ n ∈ y0.1.weights Tryd.prog 120, n ≤ 140737488351232 := fun n hn => hs n (mem_agg Tryd.underlying122 (j := 0) rfl rfl hn)
  have h0 : DataW.trod enc Tryd.prog w base spare held n 120 (List.take (Tryd.prog.cellsOf 120) (List.drop 0 cs)) = some y0 := hf 0 _ rfl
  rw [show Tryd.prog.cellsOf 120 = 1 from by kernel_rfl] at h0
  obtain ⟨a0, k0_, g0, b0⟩ := rd120 enc w base spare held n _ y0 h0 s0
  have s1 : ∀ n ∈ y1.1.weights Tryd.prog 3, n ≤ 140737488351232 := fun n hn => hs n (mem_agg Tryd.underlying122 (j := 1) rfl rfl hn)
  have h1 : DataW.trod enc Tryd.prog w base spare held n 3 (List.take (Tryd.prog.cellsOf 3) (List.drop 1 cs)) = some y1 := hf 1 _ rfl
  rw [show Tryd.prog.cellsOf 3 = 1 from by kernel_rfl] at h1
  obtain ⟨a1, k1_, g1, b1⟩ := rd3 enc w base spare held n _ y1 h1 s1
  refine ⟨⟨a0, a1⟩, ?_, ⟨g0, g1⟩, ?_⟩
  · rw [← split_end cs 1 1 (by omega)] at k1_
    exact ⟨_, _, split_at cs 0 1, k0_, k1_⟩
  · have b0_ : 1 ≤ Rows.uptoBulk y0.fst := b0; have b1_ : 1 ≤ Rows.uptoBulk y1.fst := b1; simp only [wt122, Rows.uptoBulk, Rows.uptoBulkAll, List.map_cons, List.map_nil]; omega
theorem rd87 : Rd Tryd.prog 87 (Kd.slice 122 k122) (fun x => ((∀ z1 ∈ x, ok122 z1) ∧ x.length * 16 ≤ 140737488351232)) (fun x => ((x.map fun z => wt122 z).sum + 1)) := Rd.slice Tryd.underlying87 (by kernel_rfl) (by kernel_rfl) rd122
theorem rd4 : Rd Tryd.prog 4 Kd.bool (fun x => True) (fun x => 1) := Rd.bool Tryd.underlying4
def ok92 (x : S92) : Prop := (Lit.int .i64 x.f0).wf = true ∧ (Lit.int .i64 x.f1).wf = true ∧ (Lit.int .i64 x.f2).wf = true ∧ ((∀ z4 ∈ x.f3, ok122 z4) ∧ x.f3.length * 16 ≤ 140737488351232)
def wt92 (x : S92) : Nat := 1 + 1 + 1 + ((x.f3.map fun z => wt122 z).sum + 1)
theorem rd92 : Rd Tryd.prog 92 k92 (fun x => ok92 x) (fun x => wt92 x) := by
  intro H enc w base spare held fuel cs x hx hs
  obtain ⟨xs, n, rfl, rfl, hl, hlen, hf⟩ := DataW.trod_struct Tryd.underlying92 hx
  have hl' : cs.length = 4 := hl.trans (by kernel_rfl)
  obtain ⟨y0, y1, y2, y3, rfl⟩ : ∃ y0 y1 y2 y3, xs = [y0, y1, y2, y3] := by
    match xs, hlen with | [y0, y1, y2, y3], _ => exact ⟨y0, y1, y2, y3, rfl⟩
  have s0 : ∀ n ∈ y0.1.weights Tryd.prog 3, n ≤ 140737488351232 := fun n hn => hs n (mem_agg Tryd.underlying92 (j := 0) rfl rfl hn)
  have h0 : DataW.trod enc Tryd.prog w base spare held n 3 (List.take (Tryd.prog.cellsOf 3) (List.drop 0 cs)) = some y0 := hf 0 _ rfl
  rw [show Tryd.prog.cellsOf 3 = 1 from by kernel_rfl] at h0
  obtain ⟨a0, k0_, g0, b0⟩ := rd3 enc w base spare held n _ y0 h0 s0
  have s1 : ∀ n ∈ y1.1.weights Tryd.prog 3, n ≤ 140737488351232 := fun n hn => hs n (mem_agg Tryd.underlying92 (j := 1) rfl rfl hn)
  have h1 : DataW.trod enc Tryd.prog w base spare held n 3 (List.take (Tryd.prog.cellsOf 3) (List.drop 1 cs)) = some y1 := hf 1 _ rfl
  rw [show Tryd.prog.cellsOf 3 = 1 from by kernel_rfl] at h1
  obtain ⟨a1, k1_, g1, b1⟩ := rd3 enc w base spare held n _ y1 h1 s1
  have s2 : ∀ n ∈ y2.1.weights Tryd.prog 3, n ≤ 140737488351232 := fun n hn => hs n (mem_agg Tryd.underlying92 (j := 2) rfl rfl hn)
  have h2 : DataW.trod enc Tryd.prog w base spare held n 3 (List.take (Tryd.prog.cellsOf 3) (List.drop 2 cs)) = some y2 := hf 2 _ rfl
  rw [show Tryd.prog.cellsOf 3 = 1 from by kernel_rfl] at h2
  obtain ⟨a2, k2_, g2, b2⟩ := rd3 enc w base spare held n _ y2 h2 s2
  have s3 : ∀ n ∈ y3.1.weights Tryd.prog 87, n ≤ 140737488351232 := fun n hn => hs n (mem_agg Tryd.underlying92 (j := 3) rfl rfl hn)
  have h3 : DataW.trod enc Tryd.prog w base spare held n 87 (List.take (Tryd.prog.cellsOf 87) (List.drop 3 cs)) = some y3 := hf 3 _ rfl
  rw [show Tryd.prog.cellsOf 87 = 1 from by kernel_rfl] at h3
  obtain ⟨a3, k3_, g3, b3⟩ := rd87 enc w base spare held n _ y3 h3 s3
  refine ⟨⟨a0, a1, a2, a3⟩, ?_, ⟨g0, g1, g2, g3⟩, ?_⟩
  · rw [← split_end cs 3 1 (by omega)] at k3_
    exact ⟨_, _, split_at cs 0 1, k0_, ⟨_, _, split_at cs 1 1, k1_, ⟨_, _, split_at cs 2 1, k2_, k3_⟩⟩⟩
  · have b0_ : 1 ≤ Rows.uptoBulk y0.fst := b0; have b1_ : 1 ≤ Rows.uptoBulk y1.fst := b1; have b2_ : 1 ≤ Rows.uptoBulk y2.fst := b2; have b3_ : ((a3.map fun z => wt122 z).sum + 1) ≤ Rows.uptoBulk y3.fst := b3; simp only [wt92, Rows.uptoBulk, Rows.uptoBulkAll, List.map_cons, List.map_nil]; omega
theorem rd88 : Rd Tryd.prog 88 (Kd.slice 92 k92) (fun x => ((∀ z1 ∈ x, ok92 z1) ∧ x.length * 48 ≤ 140737488351232)) (fun x => ((x.map fun z => wt92 z).sum + 1)) := Rd.slice Tryd.underlying88 (by kernel_rfl) (by kernel_rfl) rd92
def ok90 (x : S90) : Prop := (Lit.int .i64 x.f0).wf = true ∧ (Lit.int .i64 x.f1).wf = true ∧ ((∀ z4 ∈ x.f2, ok118 z4) ∧ x.f2.length * 32 ≤ 140737488351232) ∧ ((∀ z4 ∈ x.f3, ok122 z4) ∧ x.f3.length * 16 ≤ 140737488351232) ∧ (Lit.int .i64 x.f4).wf = true ∧ True ∧ ((∀ z4 ∈ x.f6, ok92 z4) ∧ x.f6.length * 48 ≤ 140737488351232)
def wt90 (x : S90) : Nat := 1 + 1 + ((x.f2.map fun z => wt118 z).sum + 1) + ((x.f3.map fun z => wt122 z).sum + 1) + 1 + 1 + ((x.f6.map fun z => wt92 z).sum + 1)
theorem rd90 : Rd Tryd.prog 90 k90 (fun x => ok90 x) (fun x => wt90 x) := by
  intro H enc w base spare held fuel cs x hx hs
  obtain ⟨xs, n, rfl, rfl, hl, hlen, hf⟩ := DataW.trod_struct Tryd.underlying90 hx
  have hl' : cs.length = 7 := hl.trans (by kernel_rfl)
  obtain ⟨y0, y1, y2, y3, y4, y5, y6, rfl⟩ : ∃ y0 y1 y2 y3 y4 y5 y6, xs = [y0, y1, y2, y3, y4, y5, y6] := by
    match xs, hlen with | [y0, y1, y2, y3, y4, y5, y6], _ => exact ⟨y0, y1, y2, y3, y4, y5, y6, rfl⟩
  have s0 : ∀ n ∈ y0.1.weights Tryd.prog 3, n ≤ 140737488351232 := fun n hn => hs n (mem_agg Tryd.underlying90 (j := 0) rfl rfl hn)
  have h0 : DataW.trod enc Tryd.prog w base spare held n 3 (List.take (Tryd.prog.cellsOf 3) (List.drop 0 cs)) = some y0 := hf 0 _ rfl
  rw [show Tryd.prog.cellsOf 3 = 1 from by kernel_rfl] at h0
  obtain ⟨a0, k0_, g0, b0⟩ := rd3 enc w base spare held n _ y0 h0 s0
  have s1 : ∀ n ∈ y1.1.weights Tryd.prog 3, n ≤ 140737488351232 := fun n hn => hs n (mem_agg Tryd.underlying90 (j := 1) rfl rfl hn)
  have h1 : DataW.trod enc Tryd.prog w base spare held n 3 (List.take (Tryd.prog.cellsOf 3) (List.drop 1 cs)) = some y1 := hf 1 _ rfl
  rw [show Tryd.prog.cellsOf 3 = 1 from by kernel_rfl] at h1
  obtain ⟨a1, k1_, g1, b1⟩ := rd3 enc w base spare held n _ y1 h1 s1
  have s2 : ∀ n ∈ y2.1.weights Tryd.prog 55, n ≤ 140737488351232 := fun n hn => hs n (mem_agg Tryd.underlying90 (j := 2) rfl rfl hn)
  have h2 : DataW.trod enc Tryd.prog w base spare held n 55 (List.take (Tryd.prog.cellsOf 55) (List.drop 2 cs)) = some y2 := hf 2 _ rfl
  rw [show Tryd.prog.cellsOf 55 = 1 from by kernel_rfl] at h2
  obtain ⟨a2, k2_, g2, b2⟩ := rd55 enc w base spare held n _ y2 h2 s2
  have s3 : ∀ n ∈ y3.1.weights Tryd.prog 87, n ≤ 140737488351232 := fun n hn => hs n (mem_agg Tryd.underlying90 (j := 3) rfl rfl hn)
  have h3 : DataW.trod enc Tryd.prog w base spare held n 87 (List.take (Tryd.prog.cellsOf 87) (List.drop 3 cs)) = some y3 := hf 3 _ rfl
  rw [show Tryd.prog.cellsOf 87 = 1 from by kernel_rfl] at h3
  obtain ⟨a3, k3_, g3, b3⟩ := rd87 enc w base spare held n _ y3 h3 s3
  have s4 : ∀ n ∈ y4.1.weights Tryd.prog 3, n ≤ 140737488351232 := fun n hn => hs n (mem_agg Tryd.underlying90 (j := 4) rfl rfl hn)
  have h4 : DataW.trod enc Tryd.prog w base spare held n 3 (List.take (Tryd.prog.cellsOf 3) (List.drop 4 cs)) = some y4 := hf 4 _ rfl
  rw [show Tryd.prog.cellsOf 3 = 1 from by kernel_rfl] at h4
  obtain ⟨a4, k4_, g4, b4⟩ := rd3 enc w base spare held n _ y4 h4 s4
  have s5 : ∀ n ∈ y5.1.weights Tryd.prog 4, n ≤ 140737488351232 := fun n hn => hs n (mem_agg Tryd.underlying90 (j := 5) rfl rfl hn)
  have h5 : DataW.trod enc Tryd.prog w base spare held n 4 (List.take (Tryd.prog.cellsOf 4) (List.drop 5 cs)) = some y5 := hf 5 _ rfl
  rw [show Tryd.prog.cellsOf 4 = 1 from by kernel_rfl] at h5
  obtain ⟨a5, k5_, g5, b5⟩ := rd4 enc w base spare held n _ y5 h5 s5
  have s6 : ∀ n ∈ y6.1.weights Tryd.prog 88, n ≤ 140737488351232 := fun n hn => hs n (mem_agg Tryd.underlying90 (j := 6) rfl rfl hn)
  have h6 : DataW.trod enc Tryd.prog w base spare held n 88 (List.take (Tryd.prog.cellsOf 88) (List.drop 6 cs)) = some y6 := hf 6 _ rfl
  rw [show Tryd.prog.cellsOf 88 = 1 from by kernel_rfl] at h6
  obtain ⟨a6, k6_, g6, b6⟩ := rd88 enc w base spare held n _ y6 h6 s6
  refine ⟨⟨a0, a1, a2, a3, a4, a5, a6⟩, ?_, ⟨g0, g1, g2, g3, g4, g5, g6⟩, ?_⟩
  · rw [← split_end cs 6 1 (by omega)] at k6_
    exact ⟨_, _, split_at cs 0 1, k0_, ⟨_, _, split_at cs 1 1, k1_, ⟨_, _, split_at cs 2 1, k2_, ⟨_, _, split_at cs 3 1, k3_, ⟨_, _, split_at cs 4 1, k4_, ⟨_, _, split_at cs 5 1, k5_, k6_⟩⟩⟩⟩⟩⟩
  · have b0_ : 1 ≤ Rows.uptoBulk y0.fst := b0; have b1_ : 1 ≤ Rows.uptoBulk y1.fst := b1; have b2_ : ((a2.map fun z => wt118 z).sum + 1) ≤ Rows.uptoBulk y2.fst := b2; have b3_ : ((a3.map fun z => wt122 z).sum + 1) ≤ Rows.uptoBulk y3.fst := b3; have b4_ : 1 ≤ Rows.uptoBulk y4.fst := b4; have b5_ : 1 ≤ Rows.uptoBulk y5.fst := b5; have b6_ : ((a6.map fun z => wt92 z).sum + 1) ≤ Rows.uptoBulk y6.fst := b6; simp only [wt90, Rows.uptoBulk, Rows.uptoBulkAll, List.map_cons, List.map_nil]; omega
theorem rd59 : Rd Tryd.prog 59 (Kd.slice 90 k90) (fun x => ((∀ z1 ∈ x, ok90 z1) ∧ x.length * 104 ≤ 140737488351232)) (fun x => ((x.map fun z => wt90 z).sum + 1)) := Rd.slice Tryd.underlying59 (by kernel_rfl) (by kernel_rfl) rd90
def ok61 (x : S61) : Prop := x.f0.size ≤ 140737488351232 ∧ ((∀ z4 ∈ x.f1, ok57 z4) ∧ x.f1.length * 48 ≤ 140737488351232) ∧ ((∀ z4 ∈ x.f2, ok90 z4) ∧ x.f2.length * 104 ≤ 140737488351232)
def wt61 (x : S61) : Nat := (x.f0.size + 1) + ((x.f1.map fun z => wt57 z).sum + 1) + ((x.f2.map fun z => wt90 z).sum + 1)
theorem rd61 : Rd Tryd.prog 61 k61 (fun x => ok61 x) (fun x => wt61 x) := by
  intro H enc w base spare held fuel cs x hx hs
  obtain ⟨xs, n, rfl, rfl, hl, hlen, hf⟩ := DataW.trod_struct Tryd.underlying61 hx
  have hl' : cs.length = 3 := hl.trans (by kernel_rfl)
  obtain ⟨y0, y1, y2, rfl⟩ : ∃ y0 y1 y2, xs = [y0, y1, y2] := by
    match xs, hlen with | [y0, y1, y2], _ => exact ⟨y0, y1, y2, rfl⟩
  have s0 : ∀ n ∈ y0.1.weights Tryd.prog 9, n ≤ 140737488351232 := fun n hn => hs n (mem_agg Tryd.underlying61 (j := 0) rfl rfl hn)
  have h0 : DataW.trod enc Tryd.prog w base spare held n 9 (List.take (Tryd.prog.cellsOf 9) (List.drop 0 cs)) = some y0 := hf 0 _ rfl
  rw [show Tryd.prog.cellsOf 9 = 1 from by kernel_rfl] at h0
  obtain ⟨a0, k0_, g0, b0⟩ := rd9 enc w base spare held n _ y0 h0 s0
  have s1 : ∀ n ∈ y1.1.weights Tryd.prog 58, n ≤ 140737488351232 := fun n hn => hs n (mem_agg Tryd.underlying61 (j := 1) rfl rfl hn)
  have h1 : DataW.trod enc Tryd.prog w base spare held n 58 (List.take (Tryd.prog.cellsOf 58) (List.drop 1 cs)) = some y1 := hf 1 _ rfl
  rw [show Tryd.prog.cellsOf 58 = 1 from by kernel_rfl] at h1
  obtain ⟨a1, k1_, g1, b1⟩ := rd58 enc w base spare held n _ y1 h1 s1
  have s2 : ∀ n ∈ y2.1.weights Tryd.prog 59, n ≤ 140737488351232 := fun n hn => hs n (mem_agg Tryd.underlying61 (j := 2) rfl rfl hn)
  have h2 : DataW.trod enc Tryd.prog w base spare held n 59 (List.take (Tryd.prog.cellsOf 59) (List.drop 2 cs)) = some y2 := hf 2 _ rfl
  rw [show Tryd.prog.cellsOf 59 = 1 from by kernel_rfl] at h2
  obtain ⟨a2, k2_, g2, b2⟩ := rd59 enc w base spare held n _ y2 h2 s2
  refine ⟨⟨a0, a1, a2⟩, ?_, ⟨g0, g1, g2⟩, ?_⟩
  · rw [← split_end cs 2 1 (by omega)] at k2_
    exact ⟨_, _, split_at cs 0 1, k0_, ⟨_, _, split_at cs 1 1, k1_, k2_⟩⟩
  · have b0_ : (a0.size + 1) ≤ Rows.uptoBulk y0.fst := b0; have b1_ : ((a1.map fun z => wt57 z).sum + 1) ≤ Rows.uptoBulk y1.fst := b1; have b2_ : ((a2.map fun z => wt90 z).sum + 1) ≤ Rows.uptoBulk y2.fst := b2; simp only [wt61, Rows.uptoBulk, Rows.uptoBulkAll, List.map_cons, List.map_nil]; omega
theorem rd24 : Rd Tryd.prog 24 (Kd.slice 61 k61) (fun x => ((∀ z1 ∈ x, ok61 z1) ∧ x.length * 64 ≤ 140737488351232)) (fun x => ((x.map fun z => wt61 z).sum + 1)) := Rd.slice Tryd.underlying24 (by kernel_rfl) (by kernel_rfl) rd61
def ok26 (x : S26) : Prop := ((∀ z4 ∈ x.f0, z4.size ≤ 140737488351232) ∧ x.f0.length * 16 ≤ 140737488351232) ∧ ((∀ z4 ∈ x.f1, ok50 z4) ∧ x.f1.length * 40 ≤ 140737488351232) ∧ ((∀ z4 ∈ x.f2, z4.size ≤ 140737488351232) ∧ x.f2.length * 16 ≤ 140737488351232) ∧ ((∀ z4 ∈ x.f3, ok61 z4) ∧ x.f3.length * 64 ≤ 140737488351232)
def wt26 (x : S26) : Nat := ((x.f0.map fun z => (z.size + 1)).sum + 1) + ((x.f1.map fun z => wt50 z).sum + 1) + ((x.f2.map fun z => (z.size + 1)).sum + 1) + ((x.f3.map fun z => wt61 z).sum + 1)
theorem rd26 : Rd Tryd.prog 26 k26 (fun x => ok26 x) (fun x => wt26 x) := by
  intro H enc w base spare held fuel cs x hx hs
  obtain ⟨xs, n, rfl, rfl, hl, hlen, hf⟩ := DataW.trod_struct Tryd.underlying26 hx
  have hl' : cs.length = 4 := hl.trans (by kernel_rfl)
  obtain ⟨y0, y1, y2, y3, rfl⟩ : ∃ y0 y1 y2 y3, xs = [y0, y1, y2, y3] := by
    match xs, hlen with | [y0, y1, y2, y3], _ => exact ⟨y0, y1, y2, y3, rfl⟩
  have s0 : ∀ n ∈ y0.1.weights Tryd.prog 22, n ≤ 140737488351232 := fun n hn => hs n (mem_agg Tryd.underlying26 (j := 0) rfl rfl hn)
  have h0 : DataW.trod enc Tryd.prog w base spare held n 22 (List.take (Tryd.prog.cellsOf 22) (List.drop 0 cs)) = some y0 := hf 0 _ rfl
  rw [show Tryd.prog.cellsOf 22 = 1 from by kernel_rfl] at h0
  obtain ⟨a0, k0_, g0, b0⟩ := rd22 enc w base spare held n _ y0 h0 s0
  have s1 : ∀ n ∈ y1.1.weights Tryd.prog 23, n ≤ 140737488351232 := fun n hn => hs n (mem_agg Tryd.underlying26 (j := 1) rfl rfl hn)
  have h1 : DataW.trod enc Tryd.prog w base spare held n 23 (List.take (Tryd.prog.cellsOf 23) (List.drop 1 cs)) = some y1 := hf 1 _ rfl
  rw [show Tryd.prog.cellsOf 23 = 1 from by kernel_rfl] at h1
  obtain ⟨a1, k1_, g1, b1⟩ := rd23 enc w base spare held n _ y1 h1 s1
  have s2 : ∀ n ∈ y2.1.weights Tryd.prog 22, n ≤ 140737488351232 := fun n hn => hs n (mem_agg Tryd.underlying26 (j := 2) rfl rfl hn)
  have h2 : DataW.trod enc Tryd.prog w base spare held n 22 (List.take (Tryd.prog.cellsOf 22) (List.drop 2 cs)) = some y2 := hf 2 _ rfl
  rw [show Tryd.prog.cellsOf 22 = 1 from by kernel_rfl] at h2
  obtain ⟨a2, k2_, g2, b2⟩ := rd22 enc w base spare held n _ y2 h2 s2
  have s3 : ∀ n ∈ y3.1.weights Tryd.prog 24, n ≤ 140737488351232 := fun n hn => hs n (mem_agg Tryd.underlying26 (j := 3) rfl rfl hn)
  have h3 : DataW.trod enc Tryd.prog w base spare held n 24 (List.take (Tryd.prog.cellsOf 24) (List.drop 3 cs)) = some y3 := hf 3 _ rfl
  rw [show Tryd.prog.cellsOf 24 = 1 from by kernel_rfl] at h3
  obtain ⟨a3, k3_, g3, b3⟩ := rd24 enc w base spare held n _ y3 h3 s3
  refine ⟨⟨a0, a1, a2, a3⟩, ?_, ⟨g0, g1, g2, g3⟩, ?_⟩
  · rw [← split_end cs 3 1 (by omega)] at k3_
    exact ⟨_, _, split_at cs 0 1, k0_, ⟨_, _, split_at cs 1 1, k1_, ⟨_, _, split_at cs 2 1, k2_, k3_⟩⟩⟩
  · have b0_ : ((a0.map fun z => (z.size + 1)).sum + 1) ≤ Rows.uptoBulk y0.fst := b0; have b1_ : ((a1.map fun z => wt50 z).sum + 1) ≤ Rows.uptoBulk y1.fst := b1; have b2_ : ((a2.map fun z => (z.size + 1)).sum + 1) ≤ Rows.uptoBulk y2.fst := b2; have b3_ : ((a3.map fun z => wt61 z).sum + 1) ≤ Rows.uptoBulk y3.fst := b3; simp only [wt26, Rows.uptoBulk, Rows.uptoBulkAll, List.map_cons, List.map_nil]; omega
theorem rd27 : Rd Tryd.prog 27 (Kd.slice 3 (Kd.int .i64)) (fun x => ((∀ z1 ∈ x, (Lit.int .i64 z1).wf = true) ∧ x.length * 8 ≤ 140737488351232)) (fun x => ((x.map fun z => 1).sum + 1)) := Rd.slice Tryd.underlying27 (by kernel_rfl) (by kernel_rfl) rd3
structure S29 where
  f0 : List (Int)
  f1 : List (Int)
def k29 : Kd S29 := Kd.iso (Kd.pair (Kd.slice 3 (Kd.int .i64)) (Kd.slice 3 (Kd.int .i64))) (fun x : S29 => (x.f0, x.f1))
def ok29 (x : S29) : Prop := ((∀ z4 ∈ x.f0, (Lit.int .i64 z4).wf = true) ∧ x.f0.length * 8 ≤ 140737488351232) ∧ ((∀ z4 ∈ x.f1, (Lit.int .i64 z4).wf = true) ∧ x.f1.length * 8 ≤ 140737488351232)
def wt29 (x : S29) : Nat := ((x.f0.map fun z => 1).sum + 1) + ((x.f1.map fun z => 1).sum + 1)
theorem rd29 : Rd Tryd.prog 29 k29 (fun x => ok29 x) (fun x => wt29 x) := by
  intro H enc w base spare held fuel cs x hx hs
  obtain ⟨xs, n, rfl, rfl, hl, hlen, hf⟩ := DataW.trod_struct Tryd.underlying29 hx
  have hl' : cs.length = 2 := hl.trans (by kernel_rfl)
  obtain ⟨y0, y1, rfl⟩ : ∃ y0 y1, xs = [y0, y1] := by
    match xs, hlen with | [y0, y1], _ => exact ⟨y0, y1, rfl⟩
  have s0 : ∀ n ∈ y0.1.weights Tryd.prog 27, n ≤ 140737488351232 := fun n hn => hs n (mem_agg Tryd.underlying29 (j := 0) rfl rfl hn)
  have h0 : DataW.trod enc Tryd.prog w base spare held n 27 (List.take (Tryd.prog.cellsOf 27) (List.drop 0 cs)) = some y0 := hf 0 _ rfl
  rw [show Tryd.prog.cellsOf 27 = 1 from by kernel_rfl] at h0
  obtain ⟨a0, k0_, g0, b0⟩ := rd27 enc w base spare held n _ y0 h0 s0
  have s1 : ∀ n ∈ y1.1.weights Tryd.prog 27, n ≤ 140737488351232 := fun n hn => hs n (mem_agg Tryd.underlying29 (j := 1) rfl rfl hn)
  have h1 : DataW.trod enc Tryd.prog w base spare held n 27 (List.take (Tryd.prog.cellsOf 27) (List.drop 1 cs)) = some y1 := hf 1 _ rfl
  rw [show Tryd.prog.cellsOf 27 = 1 from by kernel_rfl] at h1
  obtain ⟨a1, k1_, g1, b1⟩ := rd27 enc w base spare held n _ y1 h1 s1
  refine ⟨⟨a0, a1⟩, ?_, ⟨g0, g1⟩, ?_⟩
  · rw [← split_end cs 1 1 (by omega)] at k1_
    exact ⟨_, _, split_at cs 0 1, k0_, k1_⟩
  · have b0_ : ((a0.map fun z => 1).sum + 1) ≤ Rows.uptoBulk y0.fst := b0; have b1_ : ((a1.map fun z => 1).sum + 1) ≤ Rows.uptoBulk y1.fst := b1; simp only [wt29, Rows.uptoBulk, Rows.uptoBulkAll, List.map_cons, List.map_nil]; omega
theorem fl3 : Flat Tryd.prog 3 := Flat.int Tryd.underlying3
theorem fl4 : Flat Tryd.prog 4 := Flat.bool Tryd.underlying4
theorem fl9 : Flat Tryd.prog 9 := Flat.str Tryd.underlying9
theorem fl124 : Flat Tryd.prog 124 := by
  intro H enc w base spare held fuel cs x hx
  obtain ⟨xs, n, rfl, rfl, hl, hlen, hf⟩ := DataW.trod_struct Tryd.underlying124 hx
  have hl' : cs.length = 5 := hl.trans (by kernel_rfl)
  obtain ⟨y0, y1, y2, y3, y4, rfl⟩ : ∃ y0 y1 y2 y3 y4, xs = [y0, y1, y2, y3, y4] := by
    match xs, hlen with | [y0, y1, y2, y3, y4], _ => exact ⟨y0, y1, y2, y3, y4, rfl⟩
  have h0 : DataW.trod enc Tryd.prog w base spare held n 3 (List.take (Tryd.prog.cellsOf 3) (List.drop 0 cs)) = some y0 := hf 0 _ rfl
  rw [show Tryd.prog.cellsOf 3 = 1 from by kernel_rfl] at h0
  have e0 := fl3 enc w base spare held n _ y0 h0
  have h1 : DataW.trod enc Tryd.prog w base spare held n 4 (List.take (Tryd.prog.cellsOf 4) (List.drop 1 cs)) = some y1 := hf 1 _ rfl
  rw [show Tryd.prog.cellsOf 4 = 1 from by kernel_rfl] at h1
  have e1 := fl4 enc w base spare held n _ y1 h1
  have h2 : DataW.trod enc Tryd.prog w base spare held n 4 (List.take (Tryd.prog.cellsOf 4) (List.drop 2 cs)) = some y2 := hf 2 _ rfl
  rw [show Tryd.prog.cellsOf 4 = 1 from by kernel_rfl] at h2
  have e2 := fl4 enc w base spare held n _ y2 h2
  have h3 : DataW.trod enc Tryd.prog w base spare held n 9 (List.take (Tryd.prog.cellsOf 9) (List.drop 3 cs)) = some y3 := hf 3 _ rfl
  rw [show Tryd.prog.cellsOf 9 = 1 from by kernel_rfl] at h3
  have e3 := fl9 enc w base spare held n _ y3 h3
  have h4 : DataW.trod enc Tryd.prog w base spare held n 3 (List.take (Tryd.prog.cellsOf 3) (List.drop 4 cs)) = some y4 := hf 4 _ rfl
  rw [show Tryd.prog.cellsOf 3 = 1 from by kernel_rfl] at h4
  have e4 := fl3 enc w base spare held n _ y4 h4
  simp only [List.map_cons, List.map_nil, flat, flatAll, List.append_nil]
  rw [← split_end cs 4 1 (by omega)] at e4
  rw [← e0, ← e1, ← e2, ← e3, ← e4]
  have h0 := split_at cs 0 1
  have s0 := split_at cs 0 1
  have s1 := split_at cs 1 1
  have s2 := split_at cs 2 1
  have s3 := split_at cs 3 1
  simp only [Nat.reduceAdd, Nat.zero_add, List.drop_zero] at s0 s1 s2 s3 ⊢
  rw [← s3, ← s2, ← s1]
  exact s0
theorem fl139 : Flat Tryd.prog 139 := Flat.array (n := 15) Tryd.underlying139 (s := 5) (by kernel_rfl) (by kernel_rfl) fl124
theorem fl136 : Flat Tryd.prog 136 := Flat.array (n := 16) Tryd.underlying136 (s := 1) (by kernel_rfl) (by kernel_rfl) fl9
theorem gn_gnomon_expr_kinds : Tryd.prog.globalNamed "gnomon/expr.kinds" = some 3 := by kernel_rfl
theorem gt_gnomon_expr_kinds : (Tryd.prog.globals[3]?).map (·.type) = some 139 := by kernel_rfl
theorem gn_gnomon_lex_kept : Tryd.prog.globalNamed "gnomon/lex.kept" = some 2 := by kernel_rfl
theorem gt_gnomon_lex_kept : (Tryd.prog.globals[2]?).map (·.type) = some 136 := by kernel_rfl
theorem gn_internal_strconv_uint64pow10 : Tryd.prog.globalNamed "internal/strconv.uint64pow10" = some 0 := by kernel_rfl
theorem gt_internal_strconv_uint64pow10 : (Tryd.prog.globals[0]?).map (·.type) = some 129 := by kernel_rfl
theorem glob_of0 {w : World} (h : laidMetH Tryd.prog [("math/bits.deBruijn32tab", Rows.laid_math_bits_deBruijn32tab), ("math/bits.deBruijn64tab", Rows.laid_math_bits_deBruijn64tab), ("internal/strconv.uint64pow10", Rows.laid_internal_strconv_uint64pow10), ("gnomon/expr.kinds", Rows.laid_gnomon_expr_kinds), ("gnomon/lex.kept", Rows.laid_gnomon_lex_kept)] w) : Glob w := by
  rw [MakeChecks.laidMetH_plain _ _ _ (by kernel_rfl)] at h
  obtain ⟨ps, hv, _, _⟩ := h
  obtain ⟨g0, t0, cs0, f0, p0, q0, hg0, ht0, hc0, hd0, hv, _⟩ := hv
  obtain ⟨g1, t1, cs1, f1, p1, q1, hg1, ht1, hc1, hd1, hv, _⟩ := hv
  obtain ⟨g2, t2, cs2, f2, p2, q2, hg2, ht2, hc2, hd2, hv, _⟩ := hv
  obtain ⟨g3, t3, cs3, f3, p3, q3, hg3, ht3, hc3, hd3, hv, _⟩ := hv
  obtain ⟨g4, t4, cs4, f4, p4, q4, hg4, ht4, hc4, hd4, hv, _⟩ := hv
  exact ⟨laid_cells (n := 75) gn_gnomon_expr_kinds gt_gnomon_expr_kinds fl139 hg3 ht3 hc3 hd3 _ (by rfl), laid_cells (n := 16) gn_gnomon_lex_kept gt_gnomon_lex_kept fl136 hg4 ht4 hc4 hd4 _ (by rfl), laid_tab (n := 20) (e := 77) gn_internal_strconv_uint64pow10 gt_internal_strconv_uint64pow10 Tryd.underlying129 Tryd.underlying77 (by kernel_rfl) (by kernel_rfl) hg2 ht2 hc2 hd2 (by rfl)⟩
/-- A world for the witness: the listed variables hold what their initialisers lay. -/
noncomputable def laidWorld0 (os : Os) : World := { World.holding Tryd.prog os ⟨#[], #[], []⟩ with heap := ((((((World.holding Tryd.prog os ⟨#[], #[], []⟩).heap.modify 4 fun | .cells _ t frozen => .cells #[.int .u8 0, .int .u8 1, .int .u8 28, .int .u8 2, .int .u8 29, .int .u8 14, .int .u8 24, .int .u8 3, .int .u8 30, .int .u8 22, .int .u8 20, .int .u8 15, .int .u8 25, .int .u8 17, .int .u8 4, .int .u8 8, .int .u8 31, .int .u8 27, .int .u8 13, .int .u8 23, .int .u8 21, .int .u8 19, .int .u8 16, .int .u8 7, .int .u8 26, .int .u8 12, .int .u8 18, .int .u8 6, .int .u8 11, .int .u8 5, .int .u8 10, .int .u8 9] t frozen | o => o).modify 5 fun | .cells _ t frozen => .cells #[.int .u8 0, .int .u8 1, .int .u8 56, .int .u8 2, .int .u8 57, .int .u8 49, .int .u8 28, .int .u8 3, .int .u8 61, .int .u8 58, .int .u8 42, .int .u8 50, .int .u8 38, .int .u8 29, .int .u8 17, .int .u8 4, .int .u8 62, .int .u8 47, .int .u8 59, .int .u8 36, .int .u8 45, .int .u8 43, .int .u8 51, .int .u8 22, .int .u8 53, .int .u8 39, .int .u8 33, .int .u8 30, .int .u8 24, .int .u8 18, .int .u8 12, .int .u8 5, .int .u8 63, .int .u8 55, .int .u8 48, .int .u8 27, .int .u8 60, .int .u8 41, .int .u8 37, .int .u8 16, .int .u8 46, .int .u8 35, .int .u8 44, .int .u8 21, .int .u8 52, .int .u8 32, .int .u8 23, .int .u8 11, .int .u8 54, .int .u8 26, .int .u8 40, .int .u8 15, .int .u8 34, .int .u8 20, .int .u8 31, .int .u8 10, .int .u8 25, .int .u8 14, .int .u8 19, .int .u8 9, .int .u8 13, .int .u8 8, .int .u8 7, .int .u8 6] t frozen | o => o).modify 0 fun | .cells _ t frozen => .cells #[.int .u64 1, .int .u64 10, .int .u64 100, .int .u64 1000, .int .u64 10000, .int .u64 100000, .int .u64 1000000, .int .u64 10000000, .int .u64 100000000, .int .u64 1000000000, .int .u64 10000000000, .int .u64 100000000000, .int .u64 1000000000000, .int .u64 10000000000000, .int .u64 100000000000000, .int .u64 1000000000000000, .int .u64 10000000000000000, .int .u64 100000000000000000, .int .u64 1000000000000000000, .int .u64 10000000000000000000] t frozen | o => o).modify 3 fun | .cells _ t frozen => .cells #[.int .i64 0, .bool false, .bool false, .string ⟨#[]⟩, .int .i64 0, .int .i64 0, .bool false, .bool false, .string ⟨#[]⟩, .int .i64 9, .int .i64 0, .bool false, .bool false, .string ⟨#[]⟩, .int .i64 9, .int .i64 1, .bool false, .bool false, .string ⟨#[45]⟩, .int .i64 6, .int .i64 2, .bool false, .bool false, .string ⟨#[43]⟩, .int .i64 4, .int .i64 2, .bool false, .bool false, .string ⟨#[45]⟩, .int .i64 4, .int .i64 2, .bool false, .bool false, .string ⟨#[42]⟩, .int .i64 5, .int .i64 0, .bool true, .bool false, .string ⟨#[116, 114, 117, 101]⟩, .int .i64 9, .int .i64 2, .bool true, .bool false, .string ⟨#[60]⟩, .int .i64 3, .int .i64 2, .bool true, .bool false, .string ⟨#[60, 61]⟩, .int .i64 3, .int .i64 2, .bool true, .bool false, .string ⟨#[61, 61]⟩, .int .i64 3, .int .i64 2, .bool true, .bool false, .string ⟨#[33, 61]⟩, .int .i64 3, .int .i64 1, .bool true, .bool true, .string ⟨#[33]⟩, .int .i64 9, .int .i64 2, .bool true, .bool true, .string ⟨#[38, 38]⟩, .int .i64 2, .int .i64 2, .bool true, .bool true, .string ⟨#[124, 124]⟩, .int .i64 1] t frozen | o => o).modify 2 fun | .cells _ t frozen => .cells #[.string ⟨#[99, 108, 111, 99, 107]⟩, .string ⟨#[105, 110, 116]⟩, .string ⟨#[99, 104, 97, 110]⟩, .string ⟨#[97, 117, 116, 111]⟩, .string ⟨#[108, 111, 99]⟩, .string ⟨#[101, 100, 103, 101]⟩, .string ⟨#[105, 110]⟩, .string ⟨#[105, 110, 118]⟩, .string ⟨#[119, 104, 101, 110]⟩, .string ⟨#[115, 121, 110, 99]⟩, .string ⟨#[100, 111]⟩, .string ⟨#[117, 114, 103, 101, 110, 116]⟩, .string ⟨#[99, 111, 109, 109, 105, 116, 116, 101, 100]⟩, .string ⟨#[116, 114, 117, 101]⟩, .string ⟨#[114, 101, 97, 99, 104]⟩, .string ⟨#[110, 101, 118, 101, 114]⟩] t frozen | o => o) }
end Go.Proofs.YtpmhfahligjhaaaDoor.POrd
