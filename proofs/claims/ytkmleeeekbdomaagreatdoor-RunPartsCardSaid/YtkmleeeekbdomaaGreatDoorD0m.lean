/-
  A map from strings to bool as a set.
-/
import Derived.Laws.OwnMore
import Derived.Maps.OwnIn
import Derived.Maps.OwnSet
import Derived.Maps.Views
import Derived.StringKeys
import Derived.Carry
set_option linter.unusedSectionVars false
set_option linter.unusedVariables false
set_option linter.unusedSimpArgs false
namespace Go.Den
open Go Go.RowKit Go.Maps Go.WideMaps
/-- A block is a set of strings, told as a list (a map from strings to bool, each entry true). -/
def Seen (P : Program) (k e : TypeId) (w : World) (b n : Nat) (L : List ByteArray) : Prop :=
  ∃ D : DataW Unit, w.ownsMap P k (plainElem P e) b n D ∧ ∀ s : ByteArray, s.size ≤ maxLen → D.atKey (.string s.data.toList) (.lit (.bool false)) = .lit (.bool (L.any (fun x => x.data.toList == s.data.toList)))
theorem Seen.made (P : Program) (k e : TypeId) (w : World) : Seen P k e (w.alloc (.map #[] 0)) w.heap.size 0 [] :=
  ⟨_, World.ownsMap_made _ _ _ _, fun s _ => by rfl⟩
theorem Seen.kept {P : Program} {k e : TypeId} {w w' : World} {b n : Nat} {L : List ByteArray} {row : Option Nat} (h : Seen P k e w b n L) (hg : w.grownBy w' row) (hne : some b ≠ row) : Seen P k e w' b n L := by
  obtain ⟨D, h1, h2⟩ := h
  exact ⟨D, h1.kept hg hne, h2⟩
theorem Seen.look {P : Program} {k e t : TypeId} {w : World} {b n : Nat} {L : List ByteArray} (h : Seen P k e w b n L) (hk : P.underlying k = some .string) (ht : P.underlying t = some (.map k e)) (he : P.underlying e = some .bool)
    (hz : (zeroValue e).run P w = .ok (.bool false) w) (s : ByteArray) (hs : s.size ≤ maxLen) : (Instr.lookup t (.map (some b)) (.string s) false).run P w = .ok (.bool (L.any (fun x => x.data.toList == s.data.toList))) w := by
  obtain ⟨D, h1, h2⟩ := h
  obtain ⟨v, ps, hrun, hv⟩ := h1.lookup (string_keyed hk) ht hz (zd := .lit (.bool false)) (zp := []) (by simp [plainElem, he]) (keyOf_string_mk hk hs)
  rw [h2 s hs] at hv
  have hv' : v = .bool (L.any (fun x => x.data.toList == s.data.toList)) := by
    unfold plainElem at hv
    rw [he] at hv
    cases v <;> simp at hv
    simp [hv]
  rw [hrun, hv']
theorem Seen.put {P : Program} {k e t : TypeId} {w : World} {b n : Nat} {L : List ByteArray} (h : Seen P k e w b n L) (hk : P.underlying k = some .string) (ht : P.underlying t = some (.map k e)) (he : P.underlying e = some .bool)
    (hn : n < maxLen) (s : ByteArray) (hs : s.size ≤ maxLen) : ∃ w', (Instr.mapUpdate t (.map (some b)) (.string s) (.bool true)).run P w = .ok () w' ∧ Seen P k e w' b (n + 1) (s :: L) ∧ w.grownBy w' (some b) := by
  obtain ⟨D, h1, h2⟩ := h
  obtain ⟨w', hrun, h3, hg⟩ := h1.update (string_keyed hk) ht hn (d := .lit (.bool true)) (ps := []) (keyOf_string_mk hk hs) (val := .bool true) (by simp [plainElem, he])
  refine ⟨w', hrun, ⟨_, h3, fun x hx => ?_⟩, hg⟩
  by_cases hxs : x.data.toList = s.data.toList
  · rw [hxs, atKey_put_same h1.isMap (by trivial)]
    simp
  · rw [atKey_put_other (fun hh => hxs (by injection hh)), h2 x hx]
    have h5 : (s.data.toList == x.data.toList) = false := beq_eq_false_iff_ne.mpr fun hh => hxs hh.symm
    rw [List.any_cons, h5, Bool.false_or]
theorem keyOf_string_eq {P P' : Program} {k k' : TypeId} (hk : P.underlying k = some .string) (hk' : P'.underlying k' = some .string) : keyOf P k = keyOf P' k' := by
  funext v
  simp only [keyOf, hk, hk', mapKey]
theorem plainElem_eq {P P' : Program} {e e' : TypeId} (he : P.underlying e = some .bool) (he' : P'.underlying e' = some .bool) : plainElem (H := Unit) P e = plainElem P' e' := by
  funext v
  simp only [plainElem, he, he']
theorem Seen.prog {P P' : Program} {k e k' e' : TypeId} {w : World} {b n : Nat} {L : List ByteArray} (h : Seen P k e w b n L) (hk : P.underlying k = some .string) (hk' : P'.underlying k' = some .string) (he : P.underlying e = some .bool) (he' : P'.underlying e' = some .bool) : Seen P' k' e' w b n L := by
  obtain ⟨D, ⟨es, clock, h1, h2, h3, h4⟩, h5⟩ := h
  have hrd : ∀ x, WideElems.rd (H := Unit) P k (plainElem P e) x = WideElems.rd P' k' (plainElem P' e') x := fun x => by
    unfold WideElems.rd
    rw [keyOf_string_eq hk hk', plainElem_eq he he']
  have hrg : WideElems.rg (H := Unit) P k (plainElem P e) = WideElems.rg P' k' (plainElem P' e') := by
    funext x
    unfold WideElems.rg
    rw [hrd]
  refine ⟨D, ⟨es, clock, h1, ?_, h3, by rw [← hrg]; exact h4⟩, h5⟩
  exact ⟨h2.size, h2.stamped, fun x hx => by rw [← hrd]; exact h2.reads x hx⟩
/-- A block that is such a set, whatever the program calls its kinds. -/
def SetAt (w : World) (b : Nat) (L : List ByteArray) : Prop := ∃ (P : Program) (k e : TypeId), P.underlying k = some .string ∧ P.underlying e = some .bool ∧ Seen P k e w b L.length L
theorem SetAt.same {w w' : World} {b : Nat} {L : List ByteArray} (h : SetAt w b L) (hb : w'.heap[b]? = w.heap[b]?) : SetAt w' b L := by
  obtain ⟨P, k, e, h1, h2, D, ⟨es, clock, h3, h4⟩, h5⟩ := h
  exact ⟨P, k, e, h1, h2, D, ⟨es, clock, hb.trans h3, h4⟩, h5⟩
end Go.Den
