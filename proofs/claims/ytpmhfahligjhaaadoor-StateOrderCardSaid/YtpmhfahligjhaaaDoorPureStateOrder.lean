import Derived.Test.YtpmhfahligjhaaaDoorPOrdx20
import Derived.Test.YtpmhfahligjhaaaDoorOOrd
import Derived.Test.YtpmhfahligjhaaaDoorPureNT
namespace Go.Proofs.YtpmhfahligjhaaaDoor.POrd
set_option linter.unusedVariables false
set_option linter.unusedSimpArgs false
open Go Go.RowKit Go.Proofs.YtpmhfahligjhaaaDoorW.PrintWords Go.Proofs.YtpmhfahligjhaaaDoorW.PrintMore

theorem live13_ev : Ev (fun k => gnomonlaw13_live.f k) true := Ev.of gnomonlaw13_live.mono (k := 60) (by decide +kernel)
theorem u8_of {n : Int} (h : (Lit.int .u8 n).wf = true) : 0 ≤ n ∧ n ≤ 255 := by
  simp [Lit.wf, IntKind.min, IntKind.max, IntKind.signed, IntKind.bits] at h
  exact h
theorem ops_of {l : List S122} (h : ∀ z ∈ l, ok122 z) : opsOk l := fun z hz => u8_of (h z hz).1
theorem okN_of {x : S26} (h : ok26 x) : OkN x.f0 x.f1 x.f2 x.f3 := by
  have hc : cap = 140737488351232 := rfl
  obtain ⟨h0, h1, h2, h3⟩ := h
  have he : ∀ e : S90, ok90 e → okE e := fun e h => by
    obtain ⟨_, _, g2, g3, _, _, g6⟩ := h
    exact ⟨by omega, by omega, by omega, ops_of g3.1, fun s hs => by obtain ⟨_, _, _, q⟩ := g6.1 s hs; exact ⟨by omega, ops_of q.1⟩⟩
  have ha : ∀ y : S61, ok61 y → okA y := fun y h => by
    obtain ⟨_, g1, g2⟩ := h
    exact ⟨by omega, by omega, fun l hl => by obtain ⟨_, _, q⟩ := g1.1 l hl; omega, fun e hx => he e (g2.1 e hx)⟩
  exact ⟨by omega, by omega, by omega, by omega, fun y hy => ha y (h3.1 y hy)⟩
theorem StateOrder_pure : ∀ (X0 : S26) (X1 : S29) (X2 : S29), ok26 X0 → ok29 X1 → ok29 X2 → ∃ k, gnomonlaw13_StateOrder.f k (X0.f0) (X0.f1) (X0.f2) (X0.f3) (X1.f0) (X1.f1) (X2.f0) (X2.f1) = some true := by
  intro n s t hn hs ht
  have hN := okN_of hn
  have hc : cap = 140737488351232 := rfl
  have l1 : s.f0.length ≤ cap := by have := hs.1.2; omega
  have l2 : s.f1.length ≤ cap := by have := hs.2.2; omega
  have l3 : t.f0.length ≤ cap := by have := ht.1.2; omega
  have l4 : t.f1.length ≤ cap := by have := ht.2.2; omega
  have c1 := sCompare_ev (b := t.f0) (q := t.f1) l1 l2
  have c2 := rCompare_ev (b := t.f0) (q := t.f1) l1 l2
  have c3 := sCompare_ev (b := s.f0) (q := s.f1) l3 l4
  have k1 := key_ev hN s.f0 s.f1
  have k2 := key_ev hN t.f0 t.f1
  have hr := cmpS_range s.f0 s.f1 t.f0 t.f1
  have hneg := cmpS_neg s.f0 s.f1 t.f0 t.f1
  have hS : Ev (fun k => state_Same.f k s.f0 s.f1 t.f0 t.f1) (cmpS s.f0 s.f1 t.f0 t.f1 == 0) := Ev.congr (fun k => by rw [state_Same.f]) (Ev.bind c1 (Ev.now _))
  have hJ : Ev (fun k => gnomonlaw13_StateOrder.j0 k (cmpS s.f0 s.f1 t.f0 t.f1) false n.f0 n.f1 n.f2 n.f3 s.f0 s.f1 t.f0 t.f1) true := by
    refine Ev.step (fun k => by (rw [gnomonlaw13_StateOrder.j0, if_neg (by decide)]; try rfl)) (Ev.bind k1 (Ev.bind k2 ?_))
    by_cases h1 : sWrong n.f0 n.f1 n.f2 n.f3 s.f0 s.f1 = 0
    · have e1 : (sKey n.f0 n.f1 n.f2 n.f3 s.f0 s.f1).2 = 0 := by unfold sKey; rw [if_pos h1]
      by_cases h2 : sWrong n.f0 n.f1 n.f2 n.f3 t.f0 t.f1 = 0
      · have e2 : (sKey n.f0 n.f1 n.f2 n.f3 t.f0 t.f1).2 = 0 := by unfold sKey; rw [if_pos h2]
        obtain ⟨o1, o2⟩ := key_order h1 h2
        refine Ev.congr (fun k => by rw [if_pos e1, if_pos e2, if_pos (by rw [o1]; simp), o2, beq_self_eq_true]) (Ev.now _)
      · have e2 : ¬ (sKey n.f0 n.f1 n.f2 n.f3 t.f0 t.f1).2 = 0 := by unfold sKey; rw [if_neg h2]; exact h2
        exact Ev.congr (fun k => by rw [if_pos e1, if_neg e2]) (Ev.now _)
    · have e1 : ¬ (sKey n.f0 n.f1 n.f2 n.f3 s.f0 s.f1).2 = 0 := by unfold sKey; rw [if_neg h1]; exact h1
      exact Ev.congr (fun k => by rw [if_neg e1]) (Ev.now _)
  have h : Ev (fun k => gnomonlaw13_StateOrder.f k n.f0 n.f1 n.f2 n.f3 s.f0 s.f1 t.f0 t.f1) true := by
    refine Ev.congr (fun k => by rw [gnomonlaw13_StateOrder.f]) (Ev.bind c1 (Ev.bind live13_ev ?_))
    refine Ev.congr (fun k => by (rw [if_pos rfl]; try rfl)) (Ev.bind c2 ?_)
    refine Ev.congr (fun k => by (rw [if_pos rfl]; try rfl)) (Ev.bind hS ?_)
    refine Ev.congr (fun k => by (rw [if_neg (by simp)]; try rfl)) (Ev.bind c3 ?_)
    rw [hneg, show wrap64 (-cmpS s.f0 s.f1 t.f0 t.f1) = -cmpS s.f0 s.f1 t.f0 t.f1 by unfold wrap64; omega, bne_self_eq_false]
    exact hJ
  obtain ⟨K, hK⟩ := h
  exact ⟨K, hK K (Nat.le_refl _)⟩
end Go.Proofs.YtpmhfahligjhaaaDoor.POrd
