import Derived.Test.YtgkcjefbagnkpaaDoorOVal
import Derived.Test.YtgkcjefbagnkpaaDoorPureXH
namespace Go.Proofs.YtgkcjefbagnkpaaDoor.PVal
set_option linter.unusedVariables false
set_option linter.unusedSimpArgs false
open Go Go.RowKit Go.Proofs.YtgkcjefbagnkpaaDoorW.PrintWords Go.Proofs.YtgkcjefbagnkpaaDoorW.PrintMore

theorem ops_of_ok2 {l : List S68} (h : ∀ z ∈ l, ok68 z) : opsOk l := fun z hz => by
  have := (h z hz).1
  simp [Lit.wf, IntKind.min, IntKind.max, IntKind.signed, IntKind.bits] at this
  exact this
theorem ints_of_wf2 {l : List Int} (h : ∀ z ∈ l, (Lit.int .i64 z).wf = true) : ∀ z ∈ l, i64 z := fun z hz => by
  have := h z hz
  simp [Lit.wf, IntKind.min, IntKind.max, IntKind.signed, IntKind.bits] at this
  exact this
theorem ExprValues_pure : ∀ (l0 : List (S68)) (l1 : List (Int)), ((∀ z2 ∈ l0, ok68 z2) ∧ l0.length * 16 ≤ 140737488351232) → ((∀ z2 ∈ l1, (Lit.int .i64 z2).wf = true) ∧ l1.length * 8 ≤ 140737488351232) → ∃ k, gnomonlaw08_ExprValues.f k l0 l1 = some true := by
  intro l vars hl hvs
  have hv := ints_of_wf2 hvs.1
  obtain ⟨⟨r, r1, r2⟩, ⟨s, s1, s2⟩⟩ := value_both (l := l) (vars := vars) (ops_of_ok2 hl.1) (by omega) hv
  obtain ⟨n1, n2⟩ := kept_nodes (l := l) (by omega)
  obtain ⟨i1, i2⟩ := kept_ints (l := vars) (by omega)
  have h : Ev (fun k => gnomonlaw08_ExprValues.f k l vars) true := by
    refine Ev.congr (fun k => by (rw [gnomonlaw08_ExprValues.f]; try rfl)) (Ev.bind n1 (Ev.bind i1 (Ev.bind r1 (Ev.bind r2 (Ev.bind s1 (Ev.bind s2 (Ev.bind live_ev ?_)))))))
    refine Ev.congr (fun k => by (rw [if_pos rfl, if_pos rfl, if_pos rfl, if_pos (by simp), if_pos rfl]; try rfl)) (Ev.bind n2 ?_)
    exact Ev.congr (fun k => by (rw [if_pos rfl]; try rfl)) (Ev.bind i2 (Ev.now _))
  obtain ⟨K, hK⟩ := h
  exact ⟨K, hK K (Nat.le_refl _)⟩
end Go.Proofs.YtgkcjefbagnkpaaDoor.PVal
