import Derived.Test.YtgkcjefbagnkpaaDoorOLex
import Derived.Test.YtgkcjefbagnkpaaDoorPLexx8
import Derived.Test.YtgkcjefbagnkpaaDoorPureD
namespace Go.Proofs.YtgkcjefbagnkpaaDoor.PLex
set_option linter.unusedVariables false
set_option linter.unusedSimpArgs false
open Go Go.RowKit Go.Proofs.YtgkcjefbagnkpaaDoorW.PrintWords

theorem LexNext_pure : ∀ (a0 : ByteArray) (a1 : Int), a0.size ≤ 140737488351232 → (Lit.int .i64 a1).wf = true → ∃ k, gnomonlaw09_LexNext.f k a0 a1 = some true := by
  intro a0 a1 h0 h1
  obtain ⟨r, a, b, c⟩ := next_both h0 a1
  refine Ev.rounds (g := fun k => gnomonlaw09_LexNext.f k a0 a1) ?_
  refine Ev.bind a (Ev.bind b (Ev.bind live_ev ?_))
  refine Ev.congr (fun k => ?_) (Ev.now _)
  rw [if_pos rfl, same_self _ _ _ _ c, Option.bind_some, if_pos rfl, if_pos rfl]
  simp

end Go.Proofs.YtgkcjefbagnkpaaDoor.PLex
