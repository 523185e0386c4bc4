import Derived.Test.YtgkcjefbagnkpaaDoorOExpr
import Derived.Test.YtgkcjefbagnkpaaDoorPureXG
namespace Go.Proofs.YtgkcjefbagnkpaaDoor.PExpr
set_option linter.unusedVariables false
set_option linter.unusedSimpArgs false
open Go Go.RowKit Go.Proofs.YtgkcjefbagnkpaaDoorW.PrintWords Go.Proofs.YtgkcjefbagnkpaaDoorW.PrintMore

theorem ops_of_ok {l : List S68} (h : ∀ z ∈ l, ok68 z) : opsOk l := fun z hz => by
  have := (h z hz).1
  simp [Lit.wf, IntKind.min, IntKind.max, IntKind.signed, IntKind.bits] at this
  exact this
theorem ExprTexts_pure : ∀ (l0 : List (S68)) (l1 : List (ByteArray)), ((∀ z2 ∈ l0, ok68 z2) ∧ l0.length * 16 ≤ 140737488351232) → ((∀ z2 ∈ l1, z2.size ≤ 140737488351232) ∧ l1.length * 16 ≤ 140737488351232) → ∃ k, gnomonlaw08_ExprTexts.f k l0 l1 = some true := by
  intro l names hl hn
  obtain ⟨r, h1, h2, _⟩ := print_both (l := l) (names := names) (ops_of_ok hl.1) (fun z hz => by have := hn.1 z hz; omega) (by omega)
  have h : Ev (fun k => gnomonlaw08_ExprTexts.f k l names) true := by
    refine Ev.congr (fun k => by (rw [gnomonlaw08_ExprTexts.f]; try rfl)) (Ev.bind h1 (Ev.bind h2 (Ev.bind live_ev ?_)))
    exact Ev.congr (fun k => by rw [if_pos rfl, if_pos rfl, beq_self_eq_true]) (Ev.now _)
  obtain ⟨K, hK⟩ := h
  exact ⟨K, hK K (Nat.le_refl _)⟩
end Go.Proofs.YtgkcjefbagnkpaaDoor.PExpr
