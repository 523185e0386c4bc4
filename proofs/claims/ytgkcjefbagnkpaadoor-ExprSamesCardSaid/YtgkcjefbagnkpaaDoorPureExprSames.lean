import Derived.Test.YtgkcjefbagnkpaaDoorPureExprTexts
namespace Go.Proofs.YtgkcjefbagnkpaaDoor.PExpr
set_option linter.unusedVariables false
set_option linter.unusedSimpArgs false
open Go Go.RowKit Go.Proofs.YtgkcjefbagnkpaaDoorW.PrintWords Go.Proofs.YtgkcjefbagnkpaaDoorW.PrintMore

theorem ExprSames_pure : ∀ (l0 : List (S68)) (l1 : List (S68)) (l2 : List (ByteArray)), ((∀ z2 ∈ l0, ok68 z2) ∧ l0.length * 16 ≤ 140737488351232) → ((∀ z2 ∈ l1, ok68 z2) ∧ l1.length * 16 ≤ 140737488351232) → ((∀ z2 ∈ l2, z2.size ≤ 140737488351232) ∧ l2.length * 16 ≤ 140737488351232) → ∃ k, gnomonlaw08_ExprSames.f k l0 l1 l2 = some true := by
  intro l m names hl hm hn
  obtain ⟨r, h1, h2, _⟩ := print_both (l := l) (names := names) (ops_of_ok hl.1) (fun z hz => by have := hn.1 z hz; omega) (by omega)
  obtain ⟨s, g1, g2, _⟩ := print_both (l := m) (names := names) (ops_of_ok hm.1) (fun z hz => by have := hn.1 z hz; omega) (by omega)
  obtain ⟨s1, s2⟩ := same_both (l := l) (m := m) (by omega)
  have h : Ev (fun k => gnomonlaw08_ExprSames.f k l m names) true := by
    refine Ev.congr (fun k => by (rw [gnomonlaw08_ExprSames.f]; try rfl)) (Ev.bind h1 (Ev.bind g1 (Ev.bind s1 (Ev.bind live_ev ?_))))
    refine Ev.congr (fun k => by (rw [if_pos rfl]; try rfl)) (Ev.bind s2 ?_)
    by_cases e : l = m
    · subst e
      obtain rfl := Ev.uniq h1 g1
      exact Ev.congr (fun k => by rw [if_pos (by simp), if_pos (by simp), if_pos rfl, beq_self_eq_true]) (Ev.now _)
    · exact Ev.congr (fun k => by rw [if_pos (by simp), if_neg (by simp [e])]) (Ev.now _)
  obtain ⟨K, hK⟩ := h
  exact ⟨K, hK K (Nat.le_refl _)⟩
end Go.Proofs.YtgkcjefbagnkpaaDoor.PExpr
