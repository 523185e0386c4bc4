/-
  NetSames.
-/
import Derived.Test.YtbjkfkifkglplaaGreatDoorPQ1
import Derived.Test.YtbjkfkifkglplaaGreatDoorD5b
set_option linter.unusedSectionVars false
set_option linter.unusedVariables false
set_option linter.unusedSimpArgs false
namespace Go.Proofs.YtbjkfkifkglplaaGreatDoor.Q
open Go Go.Den Go.Proofs
theorem sames_le (a b : S26) (g h : List S72) : Le ((net_Same.g a.f0 a.f1 a.f2 a.f3 b.f0 b.f1 b.f2 b.f3).bind fun t1 => ((net_SameGoal.g g h).bind fun t2 => ((some true).bind fun t3 => (if t3 = true then ((gnomonmem_SameNet.g a.f0 a.f1 a.f2 a.f3 b.f0 b.f1 b.f2 b.f3).bind fun t4 => (if t1 = t4 then ((net_Same.g b.f0 b.f1 b.f2 b.f3 a.f0 a.f1 a.f2 a.f3).bind fun t5 => (if t1 = t5 then ((gnomonmem_SameGoal.g g h).bind fun t6 => (if t2 = t6 then ((net_SameGoal.g h g).bind fun t7 => (if t2 = t7 then (if (!t1) = true then (some true) else ((net_Whole.g a.f0 a.f1 a.f2 a.f3).bind fun t8 => ((net_Whole.g b.f0 b.f1 b.f2 b.f3).bind fun t9 => (some (decide (t8 = t9)))))) else (some false))) else (some false))) else (some false))) else (some false))) else (some false)))))
    (fun k => gnomonlaw10_NetSames.f k a.f0 a.f1 a.f2 a.f3 b.f0 b.f1 b.f2 b.f3 g h) :=
  le_bind (net_Same.le _ _ _ _ _ _ _ _) fun t1 => le_bind (net_SameGoal.le _ _) fun t2 => le_bind live_le fun t3 => le_ite (le_bind (gnomonmem_SameNet.le _ _ _ _ _ _ _ _) fun t4 => le_ite (le_bind (net_Same.le _ _ _ _ _ _ _ _) fun t5 => le_ite (le_bind (gnomonmem_SameGoal.le _ _) fun t6 => le_ite (le_bind (net_SameGoal.le _ _) fun t7 => le_ite (le_ite le_rfl (le_bind (net_Whole.le _ _ _ _) fun t8 => le_bind (net_Whole.le _ _ _ _) fun t9 => le_rfl)) le_rfl) le_rfl) le_rfl) le_rfl) le_rfl
theorem NetSames_pure : ∀ (X0 : S26) (X1 : S26) (X2 : (List S72) × (List S72)), okT T26 X0 → okT T26 X1 → okT (.prod (.list T72) (.list T72)) X2 → ∃ k, (gnomonlaw10_NetSames.ce k).fn (X0, X1, X2) = some true := fun X0 X1 X2 h0 h1 h2 => by
  have a := okN_of h0
  have b := okN_of h1
  have g := okG_of h2.1
  have h := okG_of h2.2
  refine le_some (sames_le X0 X1 X2.1 X2.2) ?_
  rw [net_is a, net_is b, rnet_is a, goal_is g, goal_is h, rgoal_is g]
  simp only [Option.bind_some, if_true]
  rw [if_pos (by simp only [decide_eq_decide]; exact eq_comm), if_pos (by simp only [decide_eq_decide]; exact eq_comm)]
  by_cases e : X0 = X1
  · subst e
    rw [whole_eq a]
    simp
  · simp [e]
end Go.Proofs.YtbjkfkifkglplaaGreatDoor.Q
