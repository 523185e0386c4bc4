/-
  Words of my own beside the print's: small laws on cells, arrays, strings. (Template: YtpmhfahligjhaaaDoor is the seat's Name.)
-/
import Derived.Test.YtpmhfahligjhaaaDoorV0
import Derived.Maps.OwnIn
import Derived.Maps.OwnSet
import Derived.Maps.Views
import Derived.StringKeys
import Derived.Deep.Draws
namespace Go.Proofs.YtpmhfahligjhaaaDoorW.PrintWords
open Go Go.RowKit
theorem blk1 {w : World} {g : Nat} {t : TypeId} {a0 : Value} (h : w.heap[g]? = some (.cells #[a0] t (0, 0))) : w.cell? ⟨g, 0, none⟩ = some a0 ∧ w.frozen? ⟨g, 0, none⟩ = false := ⟨blk_cell h 0, blk_frozen h 0⟩
theorem blk2 {w : World} {g : Nat} {t : TypeId} {a0 a1 : Value} (h : w.heap[g]? = some (.cells #[a0, a1] t (0, 0))) : w.cell? ⟨g, 0, none⟩ = some a0 ∧ w.cell? ⟨g, 1, none⟩ = some a1 ∧ w.frozen? ⟨g, 0, none⟩ = false ∧ w.frozen? ⟨g, 1, none⟩ = false := ⟨blk_cell h 0, blk_cell h 1, blk_frozen h 0, blk_frozen h 1⟩
theorem blk3 {w : World} {g : Nat} {t : TypeId} {a0 a1 a2 : Value} (h : w.heap[g]? = some (.cells #[a0, a1, a2] t (0, 0))) : w.cell? ⟨g, 0, none⟩ = some a0 ∧ w.cell? ⟨g, 1, none⟩ = some a1 ∧ w.cell? ⟨g, 2, none⟩ = some a2 ∧ w.frozen? ⟨g, 0, none⟩ = false ∧ w.frozen? ⟨g, 1, none⟩ = false ∧ w.frozen? ⟨g, 2, none⟩ = false := ⟨blk_cell h 0, blk_cell h 1, blk_cell h 2, blk_frozen h 0, blk_frozen h 1, blk_frozen h 2⟩
theorem blk4 {w : World} {g : Nat} {t : TypeId} {a0 a1 a2 a3 : Value} (h : w.heap[g]? = some (.cells #[a0, a1, a2, a3] t (0, 0))) : w.cell? ⟨g, 0, none⟩ = some a0 ∧ w.cell? ⟨g, 1, none⟩ = some a1 ∧ w.cell? ⟨g, 2, none⟩ = some a2 ∧ w.cell? ⟨g, 3, none⟩ = some a3 ∧ w.frozen? ⟨g, 0, none⟩ = false ∧ w.frozen? ⟨g, 1, none⟩ = false ∧ w.frozen? ⟨g, 2, none⟩ = false ∧ w.frozen? ⟨g, 3, none⟩ = false := ⟨blk_cell h 0, blk_cell h 1, blk_cell h 2, blk_cell h 3, blk_frozen h 0, blk_frozen h 1, blk_frozen h 2, blk_frozen h 3⟩
theorem blk5 {w : World} {g : Nat} {t : TypeId} {a0 a1 a2 a3 a4 : Value} (h : w.heap[g]? = some (.cells #[a0, a1, a2, a3, a4] t (0, 0))) : w.cell? ⟨g, 0, none⟩ = some a0 ∧ w.cell? ⟨g, 1, none⟩ = some a1 ∧ w.cell? ⟨g, 2, none⟩ = some a2 ∧ w.cell? ⟨g, 3, none⟩ = some a3 ∧ w.cell? ⟨g, 4, none⟩ = some a4 ∧ w.frozen? ⟨g, 0, none⟩ = false ∧ w.frozen? ⟨g, 1, none⟩ = false ∧ w.frozen? ⟨g, 2, none⟩ = false ∧ w.frozen? ⟨g, 3, none⟩ = false ∧ w.frozen? ⟨g, 4, none⟩ = false := ⟨blk_cell h 0, blk_cell h 1, blk_cell h 2, blk_cell h 3, blk_cell h 4, blk_frozen h 0, blk_frozen h 1, blk_frozen h 2, blk_frozen h 3, blk_frozen h 4⟩
theorem blk6 {w : World} {g : Nat} {t : TypeId} {a0 a1 a2 a3 a4 a5 : Value} (h : w.heap[g]? = some (.cells #[a0, a1, a2, a3, a4, a5] t (0, 0))) : w.cell? ⟨g, 0, none⟩ = some a0 ∧ w.cell? ⟨g, 1, none⟩ = some a1 ∧ w.cell? ⟨g, 2, none⟩ = some a2 ∧ w.cell? ⟨g, 3, none⟩ = some a3 ∧ w.cell? ⟨g, 4, none⟩ = some a4 ∧ w.cell? ⟨g, 5, none⟩ = some a5 ∧ w.frozen? ⟨g, 0, none⟩ = false ∧ w.frozen? ⟨g, 1, none⟩ = false ∧ w.frozen? ⟨g, 2, none⟩ = false ∧ w.frozen? ⟨g, 3, none⟩ = false ∧ w.frozen? ⟨g, 4, none⟩ = false ∧ w.frozen? ⟨g, 5, none⟩ = false := ⟨blk_cell h 0, blk_cell h 1, blk_cell h 2, blk_cell h 3, blk_cell h 4, blk_cell h 5, blk_frozen h 0, blk_frozen h 1, blk_frozen h 2, blk_frozen h 3, blk_frozen h 4, blk_frozen h 5⟩
theorem blk7 {w : World} {g : Nat} {t : TypeId} {a0 a1 a2 a3 a4 a5 a6 : Value} (h : w.heap[g]? = some (.cells #[a0, a1, a2, a3, a4, a5, a6] t (0, 0))) : w.cell? ⟨g, 0, none⟩ = some a0 ∧ w.cell? ⟨g, 1, none⟩ = some a1 ∧ w.cell? ⟨g, 2, none⟩ = some a2 ∧ w.cell? ⟨g, 3, none⟩ = some a3 ∧ w.cell? ⟨g, 4, none⟩ = some a4 ∧ w.cell? ⟨g, 5, none⟩ = some a5 ∧ w.cell? ⟨g, 6, none⟩ = some a6 ∧ w.frozen? ⟨g, 0, none⟩ = false ∧ w.frozen? ⟨g, 1, none⟩ = false ∧ w.frozen? ⟨g, 2, none⟩ = false ∧ w.frozen? ⟨g, 3, none⟩ = false ∧ w.frozen? ⟨g, 4, none⟩ = false ∧ w.frozen? ⟨g, 5, none⟩ = false ∧ w.frozen? ⟨g, 6, none⟩ = false := ⟨blk_cell h 0, blk_cell h 1, blk_cell h 2, blk_cell h 3, blk_cell h 4, blk_cell h 5, blk_cell h 6, blk_frozen h 0, blk_frozen h 1, blk_frozen h 2, blk_frozen h 3, blk_frozen h 4, blk_frozen h 5, blk_frozen h 6⟩
theorem blk8 {w : World} {g : Nat} {t : TypeId} {a0 a1 a2 a3 a4 a5 a6 a7 : Value} (h : w.heap[g]? = some (.cells #[a0, a1, a2, a3, a4, a5, a6, a7] t (0, 0))) : w.cell? ⟨g, 0, none⟩ = some a0 ∧ w.cell? ⟨g, 1, none⟩ = some a1 ∧ w.cell? ⟨g, 2, none⟩ = some a2 ∧ w.cell? ⟨g, 3, none⟩ = some a3 ∧ w.cell? ⟨g, 4, none⟩ = some a4 ∧ w.cell? ⟨g, 5, none⟩ = some a5 ∧ w.cell? ⟨g, 6, none⟩ = some a6 ∧ w.cell? ⟨g, 7, none⟩ = some a7 ∧ w.frozen? ⟨g, 0, none⟩ = false ∧ w.frozen? ⟨g, 1, none⟩ = false ∧ w.frozen? ⟨g, 2, none⟩ = false ∧ w.frozen? ⟨g, 3, none⟩ = false ∧ w.frozen? ⟨g, 4, none⟩ = false ∧ w.frozen? ⟨g, 5, none⟩ = false ∧ w.frozen? ⟨g, 6, none⟩ = false ∧ w.frozen? ⟨g, 7, none⟩ = false := ⟨blk_cell h 0, blk_cell h 1, blk_cell h 2, blk_cell h 3, blk_cell h 4, blk_cell h 5, blk_cell h 6, blk_cell h 7, blk_frozen h 0, blk_frozen h 1, blk_frozen h 2, blk_frozen h 3, blk_frozen h 4, blk_frozen h 5, blk_frozen h 6, blk_frozen h 7⟩
theorem blk_fill2 {w : World} {g : Nat} {t : TypeId} {z0 z1 a0 a1 : Value} (h : w.heap[g]? = some (.cells #[z0, z1] t (0, 0))) : ((w.setCell ⟨g, 0, none⟩ a0).setCell ⟨g, 1, none⟩ a1).heap[g]? = some (.cells #[a0, a1] t (0, 0)) := by
  refine blk_put (cs := #[a0, z1]) ?_ 1 _ rfl
  refine blk_put (cs := #[z0, z1]) ?_ 0 _ rfl
  exact h
theorem blk_fill3 {w : World} {g : Nat} {t : TypeId} {z0 z1 z2 a0 a1 a2 : Value} (h : w.heap[g]? = some (.cells #[z0, z1, z2] t (0, 0))) : (((w.setCell ⟨g, 0, none⟩ a0).setCell ⟨g, 1, none⟩ a1).setCell ⟨g, 2, none⟩ a2).heap[g]? = some (.cells #[a0, a1, a2] t (0, 0)) := by
  refine blk_put (cs := #[a0, a1, z2]) ?_ 2 _ rfl
  refine blk_put (cs := #[a0, z1, z2]) ?_ 1 _ rfl
  refine blk_put (cs := #[z0, z1, z2]) ?_ 0 _ rfl
  exact h
theorem blk_fill4 {w : World} {g : Nat} {t : TypeId} {z0 z1 z2 z3 a0 a1 a2 a3 : Value} (h : w.heap[g]? = some (.cells #[z0, z1, z2, z3] t (0, 0))) : ((((w.setCell ⟨g, 0, none⟩ a0).setCell ⟨g, 1, none⟩ a1).setCell ⟨g, 2, none⟩ a2).setCell ⟨g, 3, none⟩ a3).heap[g]? = some (.cells #[a0, a1, a2, a3] t (0, 0)) := by
  refine blk_put (cs := #[a0, a1, a2, z3]) ?_ 3 _ rfl
  refine blk_put (cs := #[a0, a1, z2, z3]) ?_ 2 _ rfl
  refine blk_put (cs := #[a0, z1, z2, z3]) ?_ 1 _ rfl
  refine blk_put (cs := #[z0, z1, z2, z3]) ?_ 0 _ rfl
  exact h
theorem blk_fill5 {w : World} {g : Nat} {t : TypeId} {z0 z1 z2 z3 z4 a0 a1 a2 a3 a4 : Value} (h : w.heap[g]? = some (.cells #[z0, z1, z2, z3, z4] t (0, 0))) : (((((w.setCell ⟨g, 0, none⟩ a0).setCell ⟨g, 1, none⟩ a1).setCell ⟨g, 2, none⟩ a2).setCell ⟨g, 3, none⟩ a3).setCell ⟨g, 4, none⟩ a4).heap[g]? = some (.cells #[a0, a1, a2, a3, a4] t (0, 0)) := by
  refine blk_put (cs := #[a0, a1, a2, a3, z4]) ?_ 4 _ rfl
  refine blk_put (cs := #[a0, a1, a2, z3, z4]) ?_ 3 _ rfl
  refine blk_put (cs := #[a0, a1, z2, z3, z4]) ?_ 2 _ rfl
  refine blk_put (cs := #[a0, z1, z2, z3, z4]) ?_ 1 _ rfl
  refine blk_put (cs := #[z0, z1, z2, z3, z4]) ?_ 0 _ rfl
  exact h
theorem blk_fill6 {w : World} {g : Nat} {t : TypeId} {z0 z1 z2 z3 z4 z5 a0 a1 a2 a3 a4 a5 : Value} (h : w.heap[g]? = some (.cells #[z0, z1, z2, z3, z4, z5] t (0, 0))) : ((((((w.setCell ⟨g, 0, none⟩ a0).setCell ⟨g, 1, none⟩ a1).setCell ⟨g, 2, none⟩ a2).setCell ⟨g, 3, none⟩ a3).setCell ⟨g, 4, none⟩ a4).setCell ⟨g, 5, none⟩ a5).heap[g]? = some (.cells #[a0, a1, a2, a3, a4, a5] t (0, 0)) := by
  refine blk_put (cs := #[a0, a1, a2, a3, a4, z5]) ?_ 5 _ rfl
  refine blk_put (cs := #[a0, a1, a2, a3, z4, z5]) ?_ 4 _ rfl
  refine blk_put (cs := #[a0, a1, a2, z3, z4, z5]) ?_ 3 _ rfl
  refine blk_put (cs := #[a0, a1, z2, z3, z4, z5]) ?_ 2 _ rfl
  refine blk_put (cs := #[a0, z1, z2, z3, z4, z5]) ?_ 1 _ rfl
  refine blk_put (cs := #[z0, z1, z2, z3, z4, z5]) ?_ 0 _ rfl
  exact h
theorem blk_fill7 {w : World} {g : Nat} {t : TypeId} {z0 z1 z2 z3 z4 z5 z6 a0 a1 a2 a3 a4 a5 a6 : Value} (h : w.heap[g]? = some (.cells #[z0, z1, z2, z3, z4, z5, z6] t (0, 0))) : (((((((w.setCell ⟨g, 0, none⟩ a0).setCell ⟨g, 1, none⟩ a1).setCell ⟨g, 2, none⟩ a2).setCell ⟨g, 3, none⟩ a3).setCell ⟨g, 4, none⟩ a4).setCell ⟨g, 5, none⟩ a5).setCell ⟨g, 6, none⟩ a6).heap[g]? = some (.cells #[a0, a1, a2, a3, a4, a5, a6] t (0, 0)) := by
  refine blk_put (cs := #[a0, a1, a2, a3, a4, a5, z6]) ?_ 6 _ rfl
  refine blk_put (cs := #[a0, a1, a2, a3, a4, z5, z6]) ?_ 5 _ rfl
  refine blk_put (cs := #[a0, a1, a2, a3, z4, z5, z6]) ?_ 4 _ rfl
  refine blk_put (cs := #[a0, a1, a2, z3, z4, z5, z6]) ?_ 3 _ rfl
  refine blk_put (cs := #[a0, a1, z2, z3, z4, z5, z6]) ?_ 2 _ rfl
  refine blk_put (cs := #[a0, z1, z2, z3, z4, z5, z6]) ?_ 1 _ rfl
  refine blk_put (cs := #[z0, z1, z2, z3, z4, z5, z6]) ?_ 0 _ rfl
  exact h
theorem blk_fill8 {w : World} {g : Nat} {t : TypeId} {z0 z1 z2 z3 z4 z5 z6 z7 a0 a1 a2 a3 a4 a5 a6 a7 : Value} (h : w.heap[g]? = some (.cells #[z0, z1, z2, z3, z4, z5, z6, z7] t (0, 0))) : ((((((((w.setCell ⟨g, 0, none⟩ a0).setCell ⟨g, 1, none⟩ a1).setCell ⟨g, 2, none⟩ a2).setCell ⟨g, 3, none⟩ a3).setCell ⟨g, 4, none⟩ a4).setCell ⟨g, 5, none⟩ a5).setCell ⟨g, 6, none⟩ a6).setCell ⟨g, 7, none⟩ a7).heap[g]? = some (.cells #[a0, a1, a2, a3, a4, a5, a6, a7] t (0, 0)) := by
  refine blk_put (cs := #[a0, a1, a2, a3, a4, a5, a6, z7]) ?_ 7 _ rfl
  refine blk_put (cs := #[a0, a1, a2, a3, a4, a5, z6, z7]) ?_ 6 _ rfl
  refine blk_put (cs := #[a0, a1, a2, a3, a4, z5, z6, z7]) ?_ 5 _ rfl
  refine blk_put (cs := #[a0, a1, a2, a3, z4, z5, z6, z7]) ?_ 4 _ rfl
  refine blk_put (cs := #[a0, a1, a2, z3, z4, z5, z6, z7]) ?_ 3 _ rfl
  refine blk_put (cs := #[a0, a1, z2, z3, z4, z5, z6, z7]) ?_ 2 _ rfl
  refine blk_put (cs := #[a0, z1, z2, z3, z4, z5, z6, z7]) ?_ 1 _ rfl
  refine blk_put (cs := #[z0, z1, z2, z3, z4, z5, z6, z7]) ?_ 0 _ rfl
  exact h
theorem eqb {α : Type} [BEq α] [LawfulBEq α] {a b : α} (h : a = b) : (a == b) = true ∧ (a != b) = false := ⟨beq_iff_eq.mpr h, bne_eq_false_iff_eq.mpr h⟩
theorem neb {α : Type} [BEq α] [LawfulBEq α] {a b : α} (h : ¬ a = b) : (a == b) = false ∧ (a != b) = true := ⟨beq_eq_false_iff_ne.mpr h, bne_iff_ne.mpr h⟩
theorem dgt {a b : Int} (h : a > b) : decide (b < a) = true := decide_eq_true h
theorem dngt {a b : Int} (h : ¬ a > b) : decide (b < a) = false := decide_eq_false h
theorem dge {a b : Int} (h : a ≥ b) : decide (b ≤ a) = true := decide_eq_true h
theorem dnge {a b : Int} (h : ¬ a ≥ b) : decide (b ≤ a) = false := decide_eq_false h
theorem box_ev {P : Program} {ops : Array Oper} {Q : Exit → Act → World → Prop} {o : Oper} {rest : List Oper} {a : Act} {W : World} {N : Tmp} {cs : Array Value} {t : TypeId}
    (h : ∀ g, g = W.heap.size → ∀ w1, w1.heap[g]? = some (.cells cs t (0, 0)) → Below W.heap.size W w1 → wpList P ops Q rest (a.put o.dst (.pointer (some ⟨g, 0, none⟩))) w1) (hgd : o.guard = none := by rfl) (_hd : o.dst = some N := by rfl)
    (hrun : (execOp a.eval o).run P W = .ok (.value (.pointer (some ⟨W.heap.size, 0, none⟩))) (W.alloc (.cells cs t (0, 0))) := by first | (go_simp; done) | (go_simp; rfl)) : wpList P ops Q (o :: rest) a W := box_event hgd _hd hrun h
theorem box_ge {g m n : Nat} (hg : g = m) (h : n ≤ m) : n ≤ g := hg ▸ h
theorem box_ne {g g' : Nat} {W : World} {o : Obj} (hg : g' = W.heap.size) (h : W.heap[g]? = some o) : g ≠ g' := hg ▸ Nat.ne_of_lt (blk_lt h)
theorem box_ne' {g g' : Nat} {W : World} {o : Obj} (hg : g' = W.heap.size) (h : W.heap[g]? = some o) : g' ≠ g := hg ▸ Nat.ne_of_gt (blk_lt h)
theorem cell_up {w w' : World} {a : Addr} {v : Value} (hb : Below w.heap.size w w') (h : w.cell? a = some v) : w'.cell? a = some v := (hb.cell (World.block_lt_of_cell? w _ h)).trans h
end Go.Proofs.YtpmhfahligjhaaaDoorW.PrintWords
namespace Go.Proofs.YtpmhfahligjhaaaDoorXW
set_option linter.unusedVariables false
set_option linter.unusedSimpArgs false
open Go Go.RowKit Go.Proofs.YtpmhfahligjhaaaDoorW.PrintWords
/-- What a cell holds behind a store into it, with no premise (the walk's own law nests premises). -/
theorem cell_set_map (w : World) (b o : Nat) (v : Value) : (w.setCell ⟨b, o, none⟩ v).cell? ⟨b, o, none⟩ = (w.cell? ⟨b, o, none⟩).map fun _ => v := by
  unfold World.setCell World.cell?
  simp only [Array.getElem?_modify]
  cases h : w.heap[b]? with
  | none => simp [h]
  | some x =>
    simp only [h, if_true, Option.map_some]
    cases x <;> simp
    rename_i c _ _
    by_cases ho : o < c.size
    · simp [Array.getElem?_setIfInBounds, ho]
    · simp [Array.getElem?_setIfInBounds, ho]
/-- An array's cells, at an index. -/
theorem cells_arr {α : Type} (enc : α → Value) (d : α) (L : List α) {n : Nat} (hn : L.length = n) (i : Int) (h0 : 0 ≤ i) (h1 : i < n) : ((L.map enc).toArray)[i.toNat]? = some (enc (rdOf d L i)) := by
  have hi : i.toNat < L.length := by omega
  simp [rdOf, List.getD, List.getElem?_eq_getElem hi]
/-- An array value's element. -/
theorem index_arr {α : Type} {P : Program} {W : World} {T E n : Nat} (hT : P.underlying T = some (.array n E)) (ha : ∀ W, (isAgg E).run P W = Result.ok false W) (hs : ∀ W, (Go.sizeOf E).run P W = Result.ok 1 W)
    (enc : α → Value) (d : α) (L : List α) (hn : L.length = n) (i : Int) (h0 : 0 ≤ i) (h1 : i < n) :
    (Instr.index T (.agg (L.map enc).toArray) (.int .i64 i)).run P W = .ok (enc (rdOf d L i)) W := by
  have hi : i.toNat < L.length := by omega
  have e : L[i.toNat]? = some (rdOf d L i) := by simp [rdOf, List.getD, List.getElem?_eq_getElem hi]
  simp [Instr.index, asIntOf, run_underlying hT, hs, part, ha, h0, h1, e]
/-- A row of strings that is read: its cells. -/
theorem C_strs {w : World} {A : Option Addr} {n : Nat} {l : List ByteArray} (h : Kd.C Kd.string w A n l) (hn : 0 < n) :
    ∃ b o, A = some ⟨b, o, none⟩ ∧ b < w.heap.size ∧ ∀ (j : Nat) x, l[j]? = some x → w.cell? ⟨b, o + j, none⟩ = some (.string x) := by
  have hl := Kd.C_len h
  obtain ⟨ad, hA, hc⟩ := h.2.2 hn
  have at_ : ∀ (j : Nat) x, l[j]? = some x → w.cell? (ad.add j) = some (.string x) := by
    intro j x hx
    obtain ⟨c, hs, hr, hcell⟩ := hc j x hx
    have hr' : c = [Value.string x] := hr
    subst hr'
    have h1 := hcell 0 _ rfl
    simpa [Kd.string, Kd.scalar] using h1
  have h0 := at_ 0 l[0] (List.getElem?_eq_getElem (by omega))
  have hsp : ad.spot = none := by
    cases hs : ad.spot with
    | none => rfl
    | some s => simp [Addr.add, World.cell?, hs] at h0; split at h0 <;> simp at h0
  obtain ⟨b, o, s⟩ := ad
  obtain rfl : s = none := hsp
  refine ⟨b, o, hA, World.block_lt_of_cell? w _ h0, fun j x hx => ?_⟩
  have := at_ j x hx
  unfold Addr.add at this
  split at this
  · rename_i hj; subst hj; exact this
  · exact this
/-- A cut up to a place behind the length, within the capacity. -/
theorem cut_cap {P : Program} (t e : TypeId) (kh : IntKind) {i : TypeInfo} (ht : P.underlying t = some (.slice e)) (hi : P.info? e = some i) (A : Option Addr) (n c : Nat) (j : Int) (h0 : 0 ≤ j) (hm : j ≤ c) :
    ∀ W : World, (Instr.slice t (.slice A n c) none (some (.int kh j)) none).run P W = .ok (.slice A j.toNat c) W := by
  intro W
  have hel : P.elem t = e := by simp [Program.elem, ht]
  have hu : P.underlying t = some (.slice (P.elem t)) := by rw [hel]; exact ht
  have ha : (A.map fun x => x.add 0) = A := by cases A <;> simp [Addr.add]
  rw [run_slice_h W t A n c hu kh j h0 (by omega), hel]
  simp [sizeOf, typeInfo, hi, sliced, Result.andThen, ha]
theorem take_cap {α : Type} {P : Program} (enc : α → Value) (d : α) (t e : TypeId) (kl : IntKind) {i : TypeInfo} (ht : P.underlying t = some (.slice e)) (hi : P.info? e = some i) (hsz : i.size = 1) (A : Option Addr) (n c : Nat) (xs : List α) (j : Int) (h0 : 0 ≤ j) (hm : j ≤ xs.length) (hc : xs.length ≤ c) :
    (∀ W : World, (Instr.slice t (.slice A n c) none (some (.int kl j)) none).run P W = .ok (.slice A (xs.take j.toNat).length c) W) ∧
      (∀ w : World, ReadsOf enc d w A xs.length xs → ReadsOf enc d w A (xs.take j.toNat).length (xs.take j.toNat)) ∧ (xs.take j.toNat).length ≤ c := by
  have hl : (xs.take j.toNat).length = j.toNat := by rw [List.length_take]; omega
  have h := print_take_of (P := P) enc d t e kl ht hi hsz A c xs j h0 hm hc
  refine ⟨?_, h.2.1, h.2.2⟩
  rw [hl]
  exact cut_cap t e kl ht hi A n c j h0 (by omega)
open Go.Proofs.YtpmhfahligjhaaaDoorW.PrintLast in
/-- A call of a function value that stands in a tmp, in a region. -/
theorem goest_ {P : Program} {ops : Array Oper} {Q : Exit → Act → World → Prop} {oi : Oper} {N : Option Tmp} {a : Act} {w : World} {K : Act → World → Prop} {f : FuncId} {fn : Func} {as : Array Operand} {ts : Array TypeId} {t : Tmp} (hf : P.funcs[f]? = some fn) (hname : (fn.name == "runtime.NumGoroutine") = false) (hb : fn.body.isSome = true) (args : Array Value)
    (hw : Region.wanted oi (yielded ops a.tmps) = true) (hN : oi.dst = N) (hop : oi.op = .call { callee := .value (.tmp t), args := as, argTypes := ts }) (ht : a.eval (.tmp t) = .func (.func f) #[] #[]) (hargs : as.map a.eval = args)
    (h : Calls P f args w fun e w' => ∃ v, e = .returned v ∧ K (a.put N v) w') : if Region.wanted oi (yielded ops a.tmps) = true then Oper.wp P oi a w K Q else K (a.put N undef) w := by
  refine call_ f args hw hN ?_ h
  have he := enters_ hf hname hb args w
  unfold execOp
  simp [hop, resolve, Deferred.ofValue, invoke, ht, hargs, he]
end Go.Proofs.YtpmhfahligjhaaaDoorXW
namespace Go.Proofs.YtpmhfahligjhaaaDoorW.PrintWords.Kd
open Go Go.RowKit
section
variable {α : Type} {d : Kd α} {e base n c m g : Nat} {ok ok' : Nat → Prop} {w w1 W0 : World} {v : Value} {A : Option Addr} {xs ys : List α}
theorem F_came {w0 : World} (hd : Heap d) (h : d.C w0 A n xs) (hb0 : Below w0.heap.size w0 w) (hb : Below w.heap.size w W0) : F d W0 (fun k => k < w0.heap.size) A n xs :=
  F_step (F_step (C_F hd h) (fun k hk _ => hb0.block k hk)) (fun k hk _ => hb.block k (Nat.lt_of_lt_of_le hk hb0.size))
/-- A row of the call's own (made from base on) whose elements lead to blocks below b. -/
def W {α : Type} (b : Nat) (d : Kd α) (e : Nat) (w : World) (base : Nat) (ok : Nat → Prop) (v : Value) (xs : List α) : Prop :=
  (b ≤ base ∧ ∀ k, k < b → ok k) ∧ (∀ k, v.ownBlock = some k → ok k) ∧ ∃ rows : List (List Value), rows.length = xs.length ∧ (raw d.sz).R e w base (fun k => some k = v.ownBlock) v rows ∧ ∀ (j : Nat) (x : α) (c : List Value), xs[j]? = some x → rows[j]? = some c → FK d w (fun k => k < b) x c
variable {b : Nat}
theorem W_nil (d : Kd α) (e : Nat) (w : World) (base : Nat) (ok : Nat → Prop) (hb : b ≤ base) (h : ∀ k, ok k := by intro _; trivial) : W b d e w base ok (.slice none 0 0) [] := ⟨⟨hb, fun k _ => h k⟩, fun k _ => h k, [], rfl, R_nil _ _ _ _ _, fun j x c hx => by simp at hx⟩
theorem W_mono (h : W b d e w base ok v xs) (hok : ∀ k, ok k → ok' k) : W b d e w base ok' v xs := ⟨⟨h.1.1, fun k hk => hok k (h.1.2 k hk)⟩, fun k hk => hok k (h.2.1 k hk), h.2.2⟩
theorem W_step (h : W b d e w base ok v xs) (hm : ∀ k, ok k → k < w.heap.size → w1.heap[k]? = w.heap[k]?) : W b d e w1 base ok v xs := by
  obtain ⟨h0, h1, rows, hl, hR, hf⟩ := h
  exact ⟨h0, h1, rows, hl, R_step hR (fun k hk hlt => hm k (h1 k hk.symm) hlt), fun j x c hx hc => FK_step (hf j x c hx hc) (fun k hk hlt => hm k (h0.2 k hk) hlt)⟩
theorem W_below (h : W b d e w base ok v xs) (hb : Below w.heap.size w w1) : W b d e w1 base ok v xs := W_step h (fun k _ hk => hb.block k hk)
theorem W_alloc (h : W b d e w base ok v xs) (o : Obj) : W b d e (w.alloc o) base ok v xs := W_below h (below_alloc (Below.refl _ _) o)
theorem W_drew (h : W b d e w base ok v xs) : W b d e w.drew base ok v xs := W_below h (below_drew (Below.refl _ _))
theorem W_drewN (h : W b d e w base ok v xs) (m : Nat) : W b d e (w.drewN m) base ok v xs := W_below h (pw_below_drewN (Below.refl _ _) m)
theorem W_far (h : W b d e w base ok v xs) {p : Addr} (hok : ∀ k, ok k → k ≠ p.block) (u : Value) : W b d e (w.setCell p u) base ok v xs := W_step h (fun k ho _ => Below.heap_setCell w p u k (hok k ho))
theorem W_ne (h : W b d e w base ok v xs) {t : Nat} {cells : Array Value} (hb : w.heap[g]? = some (.cells cells t (0, 0))) (ht : e ≠ t) : some g ≠ v.ownBlock := by
  obtain ⟨_, _, rows, _, hR, _⟩ := h
  exact R_ne hR hb ht
theorem W_types (h : W b d e w base ok v xs) {t : Nat} {cells : Array Value} (hb : w.heap[g]? = some (.cells cells t (0, 0))) (hg : base ≤ g) (ht : ∀ q, q ∈ e :: d.E → q ≠ t) : W b d e w base (fun k => ok k ∧ k ≠ g) v xs := by
  have hne := W_ne h hb (ht e List.mem_cons_self)
  have := h.1.1
  exact ⟨⟨this, fun k hk => ⟨h.1.2 k hk, by omega⟩⟩, fun k hk => ⟨h.2.1 k hk, fun he => hne (by rw [hk, he])⟩, h.2.2⟩
theorem W_V {base' : Nat} (h : W b d e w base ok v xs) : V d e w base' (fun k => k < b ∨ base ≤ k) v xs := by
  obtain ⟨h0, h1, rows, hl, hR, hf⟩ := h
  refine N_V (base := base) ⟨fun k hk => .inr (R_base hR k hk), rows, hl, hR, fun j x c hx hc => FK_mono (hf j x c hx hc) (fun k hk => ⟨.inl hk, fun he => ?_⟩)⟩
  have := R_base hR k he.symm
  have := h0.1
  omega
theorem W_append_rows {P : Program} {ops : Array Oper} {rest : List Oper} {o : Oper} {a : Act} {Q : Exit → Act → World → Prop} (d : Kd α) {w0 W1 : World} (base : Nat) (hgd : o.guard = none) (s x : Operand) (t e : TypeId) (z : Value) (bytes : Nat)
    (ho : o.op = .call { callee := .builtin .append, args := #[s, x], argTypes := #[t, t] })
    (ht : P.underlying t = some (.slice e)) (hinfo : (P.info? e).map (fun i => (i.zero, i.size, i.bytes)) = some (some z, d.sz, bytes)) (hz : z.cells.size = d.sz) (hs0 : 0 < d.sz) (hb0 : 0 < bytes)
    (v : Value) (xs ys : List α) (A : Option Addr) (m c : Nat) (ok : Nat → Prop) (hs : a.eval s = v) (hx : a.eval x = .slice A m c)
    (HO : W b d e W1 base ok v xs) (HR : F d W1 (fun k => k < b) A m ys) (hfresh : ∀ k, W1.heap.size ≤ k → ok k)
    (HB : Below base w0 W1) (hbase : base ≤ W1.heap.size) (hl : (xs.length + m) * bytes ≤ 140737488355328)
    (h : ∀ v1 w1, W b d e w1 base ok v1 (xs ++ ys) → Below base w0 w1 → W1.grownBy w1 v.ownBlock → (v1.ownBlock = v.ownBlock ∨ ∃ b, v1.ownBlock = some b ∧ W1.heap.size ≤ b) → wpList P ops Q rest (a.put o.dst v1) w1) :
    wpList P ops Q (o :: rest) a W1 := by
  obtain ⟨h0, h1, rows, hlr, hR, hf⟩ := HO
  obtain ⟨news, hnl, hnr, hnf⟩ := reads_raw (F_rows HR) (fun y c hk => ⟨d.K_len (FK_now hk), d.K_one (FK_now hk)⟩)
  refine R_append_rows (raw d.sz) base hgd s x t e z bytes ho ht hinfo hz hs0 hb0 v rows news A m c (fun _ => True) (fun _ => False) hs hx (raw_any hR) hnr (fun _ _ hk => hk) (fun _ hk => hk.elim) (fun _ _ => trivial) HB hbase (by rw [hlr]; exact hl) ?_
  intro v1 w1 hr hb hg hat
  have hbb : ∀ k, k < b → some k ≠ v.ownBlock := fun k hk he => by have := R_base hR k he.symm; have := h0.1; omega
  have step : ∀ {x : α} {c : List Value}, FK d W1 (fun k => k < b) x c → FK d w1 (fun k => k < b) x c := fun hq => FK_step hq (fun k hk hlt => hg.block k hlt (hbb k hk))
  refine h v1 w1 ⟨h0, fun k hk => ?_, rows ++ news, by rw [List.length_append, List.length_append, hlr, hnl], raw_tight hr, fun j x c hx hc => ?_⟩ hb hg hat
  · rcases hat with hat | ⟨b, hb2, hle⟩
    · exact h1 k (hat ▸ hk)
    · rw [hb2] at hk
      injection hk with hk
      exact hfresh k (by omega)
  · rcases Nat.lt_or_ge j xs.length with hlt | hge
    · rw [List.getElem?_append_left hlt] at hx
      rw [List.getElem?_append_left (by omega)] at hc
      exact step (hf j x c hx hc)
    · rw [List.getElem?_append_right hge] at hx
      rw [List.getElem?_append_right (by omega), hlr] at hc
      exact step (hnf _ x c hx hc)
end
end Go.Proofs.YtpmhfahligjhaaaDoorW.PrintWords.Kd
namespace Go.Proofs.YtpmhfahligjhaaaDoorXW
open Go Go.RowKit Go.Maps Go.WideMaps
/-- A block is a set of strings, told as a list (a map from strings to bool, each entry true). -/
def Seen (P : Program) (k e : TypeId) (w : World) (b n : Nat) (L : List ByteArray) : Prop :=
  ∃ D : DataW Unit, w.ownsMap P k (plainElem P e) b n D ∧ ∀ s : ByteArray, s.size ≤ maxLen → D.atKey (.string s.data.toList) (.lit (.bool false)) = .lit (.bool (L.any (fun x => x.data.toList == s.data.toList)))
theorem Seen.made (P : Program) (k e : TypeId) (w : World) : Seen P k e (w.alloc (.map #[] 0)) w.heap.size 0 [] :=
  ⟨_, World.ownsMap_made _ _ _ _, fun s _ => by rfl⟩
theorem Seen.kept {P : Program} {k e : TypeId} {w w' : World} {b n : Nat} {L : List ByteArray} {row : Option Nat} (h : Seen P k e w b n L) (hg : w.grownBy w' row) (hne : some b ≠ row) : Seen P k e w' b n L := by
  obtain ⟨D, h1, h2⟩ := h
  exact ⟨D, h1.kept hg hne, h2⟩
theorem Seen.drewN {P : Program} {k e : TypeId} {w : World} {b n : Nat} {L : List ByteArray} (m : Nat) (h : Seen P k e w b n L) : Seen P k e (w.drewN m) b n L := by
  obtain ⟨D, h1, h2⟩ := h
  exact ⟨D, h1, h2⟩
theorem Seen.look {P : Program} {k e t : TypeId} {w : World} {b n : Nat} {L : List ByteArray} (h : Seen P k e w b n L) (hk : P.underlying k = some .string) (ht : P.underlying t = some (.map k e)) (he : P.underlying e = some .bool)
    (hz : (zeroValue e).run P w = .ok (.bool false) w) (s : ByteArray) (hs : s.size ≤ maxLen) : (Instr.lookup t (.map (some b)) (.string s) false).run P w = .ok (.bool (L.any (fun x => x.data.toList == s.data.toList))) w := by
  obtain ⟨D, h1, h2⟩ := h
  obtain ⟨v, ps, hrun, hv⟩ := h1.lookup (string_keyed hk) ht hz (zd := .lit (.bool false)) (zp := []) (by simp [plainElem, he]) (keyOf_string_mk hk hs)
  rw [h2 s hs] at hv
  have hv' : v = .bool (L.any (fun x => x.data.toList == s.data.toList)) := by
    unfold plainElem at hv
    rw [he] at hv
    cases v <;> simp at hv
    simp [hv]
  rw [hrun, hv']
theorem Seen.put {P : Program} {k e t : TypeId} {w : World} {b n : Nat} {L : List ByteArray} (h : Seen P k e w b n L) (hk : P.underlying k = some .string) (ht : P.underlying t = some (.map k e)) (he : P.underlying e = some .bool)
    (hn : n < maxLen) (s : ByteArray) (hs : s.size ≤ maxLen) : ∃ w', (Instr.mapUpdate t (.map (some b)) (.string s) (.bool true)).run P w = .ok () w' ∧ Seen P k e w' b (n + 1) (s :: L) ∧ w.grownBy w' (some b) := by
  obtain ⟨D, h1, h2⟩ := h
  obtain ⟨w', hrun, h3, hg⟩ := h1.update (string_keyed hk) ht hn (d := .lit (.bool true)) (ps := []) (keyOf_string_mk hk hs) (val := .bool true) (by simp [plainElem, he])
  refine ⟨w', hrun, ⟨_, h3, fun x hx => ?_⟩, hg⟩
  by_cases hxs : x.data.toList = s.data.toList
  · rw [hxs, atKey_put_same h1.isMap (by trivial)]
    simp
  · rw [atKey_put_other (fun hh => hxs (by injection hh)), h2 x hx]
    have h5 : (s.data.toList == x.data.toList) = false := beq_eq_false_iff_ne.mpr fun hh => hxs hh.symm
    rw [List.any_cons, h5, Bool.false_or]
theorem wp_look {P : Program} {w : World} {ops : Array Oper} {rest : List Oper} {o : Oper} {a : Act} {Q : Exit → Act → World → Prop} (hg : o.guard = none) (m x : Operand) (t : TypeId) (hop : o.op = Op.lookup t m x false) {v : Value}
    (hrun : (Instr.lookup t (a.eval m) (a.eval x) false).run P w = .ok v w) (hK : wpList P ops Q rest (a.put o.dst v) w) : wpList P ops Q (o :: rest) a w := by
  refine wpList_plain hg fun K' hK' => ?_
  unfold Oper.wp
  simp [execOp, hop, hrun, Result.andThen]
  exact hK' _ _ hK
theorem wp_update {P : Program} {w : World} {ops : Array Oper} {rest : List Oper} {o : Oper} {a : Act} {Q : Exit → Act → World → Prop} (hg : o.guard = none) (m x v : Operand) (t : TypeId) (hop : o.op = Op.mapUpdate t m x v) {w' : World}
    (hrun : (Instr.mapUpdate t (a.eval m) (a.eval x) (a.eval v)).run P w = .ok () w') (hK : wpList P ops Q rest (a.put o.dst undef) w') : wpList P ops Q (o :: rest) a w := by
  refine wpList_plain hg fun K' hK' => ?_
  unfold Oper.wp
  simp [execOp, hop, hrun, Result.andThen]
  exact hK' _ _ hK
/-! short names, for the printed texts' size (share.py) -/
theorem zM {p : Prop} (h : p) : Go.Proofs.YtpmhfahligjhaaaDoorW.PrintWords.Aside0 p := Go.Proofs.YtpmhfahligjhaaaDoorW.PrintWords.Aside0.mk h
theorem zO {p : Prop} [Decidable p] (h : decide p = true) : p := of_decide_eq_true h
theorem zD {p : Prop} [Decidable p] (h : p) : decide p = true := decide_eq_true h
end Go.Proofs.YtpmhfahligjhaaaDoorXW
