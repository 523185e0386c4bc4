/- Part of the proof: PS2. -/
import Derived.Test.YtkmleeeekbdomaaGreatDoorPS1
import Derived.Test.YtkmleeeekbdomaaGreatDoorD5b
set_option linter.unusedSectionVars false
set_option linter.unusedVariables false
set_option linter.unusedSimpArgs false
namespace Go.Proofs.YtkmleeeekbdomaaGreatDoor.Q
open Go Go.Den Go.Proofs
theorem sames_le (a : List S41) (p : S24) (b : List S41) (q : S24) : Le ((some true).bind fun t1 => (if t1 = true then ((run_Same.g a p b q).bind fun t2 => ((gnomonref20_Same.g a p b q).bind fun t3 => (if t2 = t3 then ((run_Same.g a p b q).bind fun t4 => ((run_Same.g b q a p).bind fun t5 => (if t4 = t5 then ((run_Cut.f a p (w64 ((a.length : Int) + 1))).bind fun t6 => ((run_Same.g a p t6.1 t6.2).bind fun t7 => (some t7))) else (some false)))) else (some false)))) else (some false))) (fun k => gnomonlaw20_RunSames.f k a p b q) :=
  le_bind live_le fun t1 => le_ite (le_bind (run_Same.le a p b q) fun t2 => le_bind (gnomonref20_Same.le a p b q) fun t3 => le_ite (le_bind (run_Same.le a p b q) fun t4 => le_bind (run_Same.le b q a p) fun t5 => le_ite (le_bind le_rfl fun t6 => le_bind (run_Same.le a p t6.1 t6.2) fun t7 => le_rfl) le_rfl) le_rfl) le_rfl
theorem RunSames_pure : ∀ (X0 : S26) (X1 : S26), okT T26 X0 → okT T26 X1 → ∃ k, (gnomonlaw20_RunSames.ce k).fn (X0, X1) = some true := fun X0 X1 h0 h1 => by
  have l0 : X0.f0.length * 48 ≤ 140737488351232 := h0.1.2.2
  have l1 : X1.f0.length * 48 ≤ 140737488351232 := h1.1.2.2
  refine le_some (sames_le X0.f0 X0.f1 X1.f0 X1.f1) ?_
  rw [Option.bind_some, if_pos rfl, same_is (by omega), Option.bind_some, ref_is (by omega), Option.bind_some, if_pos rfl, Option.bind_some, same_is (by omega), Option.bind_some, if_pos (by simp only [decide_eq_decide]; exact eq_comm), cut_is (by omega), Option.bind_some, same_is (by omega), Option.bind_some]
  simp
end Go.Proofs.YtkmleeeekbdomaaGreatDoor.Q
