/-
  Words of my own beside the print's: small laws on cells, arrays, strings. (Template: YtgkcjefbagnkpaaDoor is the seat's Name.)
-/
import Derived.Test.YtgkcjefbagnkpaaDoorV0
namespace Go.Proofs.YtgkcjefbagnkpaaDoorXW
set_option linter.unusedVariables false
set_option linter.unusedSimpArgs false
open Go Go.RowKit Go.Proofs.YtgkcjefbagnkpaaDoorW.PrintWords
/-- What a cell holds behind a store into it, with no premise (the walk's own law nests premises). -/
theorem cell_set_map (w : World) (b o : Nat) (v : Value) : (w.setCell ⟨b, o, none⟩ v).cell? ⟨b, o, none⟩ = (w.cell? ⟨b, o, none⟩).map fun _ => v := by
  unfold World.setCell World.cell?
  simp only [Array.getElem?_modify]
  cases h : w.heap[b]? with
  | none => simp [h]
  | some x =>
    simp only [h, if_true, Option.map_some]
    cases x <;> simp
    rename_i c _ _
    by_cases ho : o < c.size
    · simp [Array.getElem?_setIfInBounds, ho]
    · simp [Array.getElem?_setIfInBounds, ho]
/-- An array's cells, at an index. -/
theorem cells_arr {α : Type} (enc : α → Value) (d : α) (L : List α) {n : Nat} (hn : L.length = n) (i : Int) (h0 : 0 ≤ i) (h1 : i < n) : ((L.map enc).toArray)[i.toNat]? = some (enc (rdOf d L i)) := by
  have hi : i.toNat < L.length := by omega
  simp [rdOf, List.getD, List.getElem?_eq_getElem hi]
/-- An array value's element. -/
theorem index_arr {α : Type} {P : Program} {W : World} {T E n : Nat} (hT : P.underlying T = some (.array n E)) (ha : ∀ W, (isAgg E).run P W = Result.ok false W) (hs : ∀ W, (Go.sizeOf E).run P W = Result.ok 1 W)
    (enc : α → Value) (d : α) (L : List α) (hn : L.length = n) (i : Int) (h0 : 0 ≤ i) (h1 : i < n) :
    (Instr.index T (.agg (L.map enc).toArray) (.int .i64 i)).run P W = .ok (enc (rdOf d L i)) W := by
  have hi : i.toNat < L.length := by omega
  have e : L[i.toNat]? = some (rdOf d L i) := by simp [rdOf, List.getD, List.getElem?_eq_getElem hi]
  simp [Instr.index, asIntOf, run_underlying hT, hs, part, ha, h0, h1, e]
/-- A row of strings that is read: its cells. -/
theorem C_strs {w : World} {A : Option Addr} {n : Nat} {l : List ByteArray} (h : Kd.C Kd.string w A n l) (hn : 0 < n) :
    ∃ b o, A = some ⟨b, o, none⟩ ∧ b < w.heap.size ∧ ∀ (j : Nat) x, l[j]? = some x → w.cell? ⟨b, o + j, none⟩ = some (.string x) := by
  have hl := Kd.C_len h
  obtain ⟨ad, hA, hc⟩ := h.2.2 hn
  have at_ : ∀ (j : Nat) x, l[j]? = some x → w.cell? (ad.add j) = some (.string x) := by
    intro j x hx
    obtain ⟨c, hs, hr, hcell⟩ := hc j x hx
    have hr' : c = [Value.string x] := hr
    subst hr'
    have h1 := hcell 0 _ rfl
    simpa [Kd.string, Kd.scalar] using h1
  have h0 := at_ 0 l[0] (List.getElem?_eq_getElem (by omega))
  have hsp : ad.spot = none := by
    cases hs : ad.spot with
    | none => rfl
    | some s => simp [Addr.add, World.cell?, hs] at h0; split at h0 <;> simp at h0
  obtain ⟨b, o, s⟩ := ad
  obtain rfl : s = none := hsp
  refine ⟨b, o, hA, World.block_lt_of_cell? w _ h0, fun j x hx => ?_⟩
  have := at_ j x hx
  unfold Addr.add at this
  split at this
  · rename_i hj; subst hj; exact this
  · exact this
/-- A cut up to a place behind the length, within the capacity. -/
theorem cut_cap {P : Program} (t e : TypeId) (kh : IntKind) {i : TypeInfo} (ht : P.underlying t = some (.slice e)) (hi : P.info? e = some i) (A : Option Addr) (n c : Nat) (j : Int) (h0 : 0 ≤ j) (hm : j ≤ c) :
    ∀ W : World, (Instr.slice t (.slice A n c) none (some (.int kh j)) none).run P W = .ok (.slice A j.toNat c) W := by
  intro W
  have hel : P.elem t = e := by simp [Program.elem, ht]
  have hu : P.underlying t = some (.slice (P.elem t)) := by rw [hel]; exact ht
  have ha : (A.map fun x => x.add 0) = A := by cases A <;> simp [Addr.add]
  rw [run_slice_h W t A n c hu kh j h0 (by omega), hel]
  simp [sizeOf, typeInfo, hi, sliced, Result.andThen, ha]
theorem take_cap {α : Type} {P : Program} (enc : α → Value) (d : α) (t e : TypeId) (kl : IntKind) {i : TypeInfo} (ht : P.underlying t = some (.slice e)) (hi : P.info? e = some i) (hsz : i.size = 1) (A : Option Addr) (n c : Nat) (xs : List α) (j : Int) (h0 : 0 ≤ j) (hm : j ≤ xs.length) (hc : xs.length ≤ c) :
    (∀ W : World, (Instr.slice t (.slice A n c) none (some (.int kl j)) none).run P W = .ok (.slice A (xs.take j.toNat).length c) W) ∧
      (∀ w : World, ReadsOf enc d w A xs.length xs → ReadsOf enc d w A (xs.take j.toNat).length (xs.take j.toNat)) ∧ (xs.take j.toNat).length ≤ c := by
  have hl : (xs.take j.toNat).length = j.toNat := by rw [List.length_take]; omega
  have h := print_take_of (P := P) enc d t e kl ht hi hsz A c xs j h0 hm hc
  refine ⟨?_, h.2.1, h.2.2⟩
  rw [hl]
  exact cut_cap t e kl ht hi A n c j h0 (by omega)
end Go.Proofs.YtgkcjefbagnkpaaDoorXW
