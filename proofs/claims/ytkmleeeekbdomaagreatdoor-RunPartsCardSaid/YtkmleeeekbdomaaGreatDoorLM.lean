/- Part of the proof: LM. -/
import Derived.Test.YtkmleeeekbdomaaGreatDoorLV
import Derived.Test.YtkmleeeekbdomaaGreatDoorMO
import Derived.Test.YtkmleeeekbdomaaGreatDoorD6
set_option linter.unusedSectionVars false
set_option linter.unusedSimpArgs false
set_option linter.unusedVariables false
namespace Go.Proofs.YtkmleeeekbdomaaGreatDoor.Q
open Go Go.Den Go.Proofs
theorem live_le : Le (some true) (fun k => gnomonlaw20_live.f k) := fun r h => ⟨400, fun k hk => by
  cases h
  obtain ⟨j, rfl⟩ := Nat.exists_eq_add_of_le hk
  exact mo_all gnomonlaw20_live.mo live_is j⟩
open Classical in
/-- What F answers from some round on. -/
noncomputable def lim {R : Type} (F : Nat → Option R) : Option R := if h : ∃ r, Le (some r) F then some h.choose else none
theorem lim_le {R : Type} {F : Nat → Option R} : Le (lim F) F := fun r h => by
  unfold lim at h
  split at h
  · rename_i hr
    cases h
    exact hr.choose_spec _ rfl
  · cases h
theorem lim_of {R : Type} {F : Nat → Option R} {r : R} (h : Le (some r) F) : lim F = some r := by
  unfold lim
  have hr : ∃ r, Le (some r) F := ⟨r, h⟩
  rw [dif_pos hr]
  obtain ⟨k1, h1⟩ := hr.choose_spec _ rfl
  obtain ⟨k2, h2⟩ := h _ rfl
  have e1 := h1 (max k1 k2) (by omega)
  rw [h2 (max k1 k2) (by omega)] at e1
  exact e1.symm
end Go.Proofs.YtkmleeeekbdomaaGreatDoor.Q
