import Derived.Test.YtgkcjefbagnkpaaDoorPureExprTexts
import Derived.Test.YtgkcjefbagnkpaaDoorPureXV
import Derived.Test.YtgkcjefbagnkpaaDoorPExprx14
namespace Go.Proofs.YtgkcjefbagnkpaaDoor.PExpr
set_option linter.unusedVariables false
set_option linter.unusedSimpArgs false
open Go Go.RowKit Go.Proofs.YtgkcjefbagnkpaaDoorW.PrintWords Go.Proofs.YtgkcjefbagnkpaaDoorW.PrintMore

theorem ints_of_wf {l : List Int} (h : ∀ z ∈ l, (Lit.int .i64 z).wf = true) : ∀ z ∈ l, i64 z := fun z hz => by
  have := h z hz
  simp [Lit.wf, IntKind.min, IntKind.max, IntKind.signed, IntKind.bits] at this
  exact this
section
variable {x y : X} {vars : List Int}
theorem turn_two (hv : ∀ z ∈ vars, i64 z) (hx : x.ok (vars.length : Int)) (hy : y.ok (vars.length : Int)) (ox : (vl vars x).2.2 = false) (oy : (vl vars y).2.2 = false) {o : Int} (ho : o = 4 ∨ o = 6) :
    vl vars (.two o x y) = vl vars (.two o y x) := by
  simp only [vl]
  rw [if_neg (by rw [ox]; decide), if_neg (by omega), if_neg (by rw [oy]; decide), if_neg (by rw [oy]; decide), if_neg (by omega), if_neg (by rw [ox]; decide)]
  unfold bn
  rcases ho with rfl | rfl
  · rw [if_pos rfl, if_pos rfl, pl_comm]
  · rw [if_neg (by decide), if_neg (by decide), if_pos rfl, if_neg (by decide), if_neg (by decide), if_pos rfl, tm_comm (vl_i64 hv hx) (vl_i64 hv hy)]
theorem vl_neg (h : (vl vars x).2.2 = false) : vl vars (.one 3 x) = (wrap64 (-(vl vars x).1), false, ((vl vars x).1 == (-9223372036854775808))) := by
  rw [vl, if_neg (by rw [h]; decide), if_pos rfl]
theorem vl_over (h : (vl vars x).2.2 = true) : vl vars (.one 3 x) = vl vars x := by rw [vl, if_pos h]
theorem turn_round (hvl : vars.length ≤ 140737488355328) (hv : ∀ z ∈ vars, i64 z) (hx : x.ok (vars.length : Int)) (hy : y.ok (vars.length : Int)) (tx : Tr x.op = false) (ty : Tr y.op = false) (ox : (vl vars x).2.2 = false) (oy : (vl vars y).2.2 = false) (hl : (enc x).length + (enc y).length + 1 ≤ 64)
    {o : Int} (ho : o = 4 ∨ o = 6) : ∃ r, Ev (fun k => expr_Value.f k (([⟨o, 0⟩] ++ enc x) ++ enc y) vars) r ∧ Ev (fun k => expr_Value.f k (([⟨o, 0⟩] ++ enc y) ++ enc x) vars) r := by
  have e1 : (([⟨o, 0⟩] ++ enc x) ++ enc y) = enc (.two o x y) := by simp [enc]
  have e2 : (([⟨o, 0⟩] ++ enc y) ++ enc x) = enc (.two o y x) := by simp [enc]
  have ht : Takes o = false := by rcases ho with rfl | rfl <;> decide +kernel
  have hT : Tr o = false := by rcases ho with rfl | rfl <;> decide +kernel
  have h2 : isTwo o := by unfold isTwo; omega
  have k1 : (X.two o x y).ok (vars.length : Int) := by simp only [X.ok]; exact ⟨h2, tx.trans ht.symm, ty.trans ht.symm, hx, hy⟩
  have k2 : (X.two o y x).ok (vars.length : Int) := by simp only [X.ok]; exact ⟨h2, ty.trans ht.symm, tx.trans ht.symm, hy, hx⟩
  rw [e1, e2]
  refine ⟨told (vl vars (.two o x y)), (value_tree hvl hv k1 (by simp only [enc, List.length_cons, List.length_append]; omega)).1 hT, ?_⟩
  rw [turn_two hv hx hy ox oy ho]
  exact (value_tree hvl hv k2 (by simp only [enc, List.length_cons, List.length_append]; omega)).1 hT
end
theorem told_ok {v : Int × Bool × Bool} (h : (told v).2 = 0) : v.2.2 = false ∧ told v = (v.1, 0) := by
  unfold told at h ⊢
  by_cases hv : v.2.2 = true
  · rw [if_pos hv] at h; cases h
  · rw [if_neg hv]; exact ⟨by simpa using hv, rfl⟩
theorem ExprTurns_pure : ∀ (l0 : List (S68)) (l1 : List (S68)) (l2 : List (Int)), ((∀ z2 ∈ l0, ok68 z2) ∧ l0.length * 16 ≤ 140737488351232) → ((∀ z2 ∈ l1, ok68 z2) ∧ l1.length * 16 ≤ 140737488351232) → ((∀ z2 ∈ l2, (Lit.int .i64 z2).wf = true) ∧ l2.length * 8 ≤ 140737488351232) → ∃ k, gnomonlaw08_ExprTurns.f k l0 l1 l2 = some true := by
  intro a b vars ha hb hvs
  have hv := ints_of_wf hvs.1
  have hvl : vars.length ≤ 140737488355328 := by omega
  obtain ⟨r, h1, h2⟩ := value_any (l := a) (vars := vars) (ops_of_ok ha.1) hvl hv
  obtain ⟨s, g1, g2⟩ := value_any (l := b) (vars := vars) (ops_of_ok hb.1) hvl hv
  have out : Ev (fun k => gnomonlaw08_ExprTurns.j0 k a b vars r.1 s.1 true) true := Ev.step (fun k => by (rw [gnomonlaw08_ExprTurns.j0, if_pos rfl]; try rfl)) (Ev.bind live_ev (Ev.now _))
  suffices h : Ev (fun k => gnomonlaw08_ExprTurns.f k a b vars) true by
    obtain ⟨K, hK⟩ := h
    exact ⟨K, hK K (Nat.le_refl _)⟩
  refine Ev.congr (fun k => by (rw [gnomonlaw08_ExprTurns.f]; try rfl)) (Ev.bind h1 (Ev.bind g1 ?_))
  by_cases hr : r.2 = 0
  · by_cases hs : s.2 = 0
    · have w1 : wrap64 ((wrap64 ((a.length : Int) + (b.length : Int))) + 1) = ((a.length + b.length + 1 : Nat) : Int) := by unfold wrap64; omega
      have w2 : wrap64 ((a.length : Int) + 2) = ((a.length + 2 : Nat) : Int) := by unfold wrap64; omega
      by_cases hl : a.length + b.length + 1 > 64
      · exact Ev.congr (fun k => by rw [if_pos hr, if_pos hs, if_pos (by rw [w1]; omega)]) out
      · by_cases hl2 : a.length + 2 > 64
        · exact Ev.congr (fun k => by rw [if_pos hr, if_pos hs, if_neg (by rw [w1]; omega), decide_eq_true (by rw [w2]; omega)]) out
        · obtain ⟨x, rfl, hx, hlx, tx, rfl⟩ : ∃ x : X, a = enc x ∧ x.ok (vars.length : Int) ∧ a.length ≤ 64 ∧ Tr x.op = false ∧ r = told (vl vars x) := by
            rcases h2 with h | h
            · exact h
            · rw [h] at hr; cases hr
          obtain ⟨y, rfl, hy, hly, ty, rfl⟩ : ∃ y : X, b = enc y ∧ y.ok (vars.length : Int) ∧ b.length ≤ 64 ∧ Tr y.op = false ∧ s = told (vl vars y) := by
            rcases g2 with h | h
            · exact h
            · rw [h] at hs; cases hs
          obtain ⟨ox, ex⟩ := told_ok hr
          obtain ⟨oy, ey⟩ := told_ok hs
          refine Ev.congr (fun k => by rw [if_pos hr, if_pos hs, if_neg (by rw [w1]; omega), decide_eq_false (by rw [w2]; omega)]) ?_
          rw [ex, ey]
          refine Ev.step (fun k => by (rw [gnomonlaw08_ExprTurns.j0, if_neg (by decide)]; try rfl)) ?_
          obtain ⟨p, p1, p2⟩ := turn_round hvl hv hx hy tx ty ox oy (by omega) (o := 4) (.inl rfl)
          obtain ⟨q, q1, q2⟩ := turn_round hvl hv hx hy tx ty ox oy (by omega) (o := 6) (.inr rfl)
          have bx : (enc x).length ≤ 64 := hlx
          have by' : (enc y).length ≤ 64 := hly
          -- one round
          have round : ∀ (i : Nat) (o : Int) (p : Int × Int), i < 2 → rd [4, 6] (i : Int) = o → Ev (fun k => expr_Value.f k (([⟨o, 0⟩] ++ enc x) ++ enc y) vars) p → Ev (fun k => expr_Value.f k (([⟨o, 0⟩] ++ enc y) ++ enc x) vars) p →
              Ev (fun k => gnomonlaw08_ExprTurns.l0 k (enc x) (enc y) vars (vl vars x).1 (vl vars y).1 [4, 6] ((i + 1 : Nat) : Int)) true → Ev (fun k => gnomonlaw08_ExprTurns.l0 k (enc x) (enc y) vars (vl vars x).1 (vl vars y).1 [4, 6] (i : Int)) true := by
            intro i o p hi ho a1 a2 hn
            refine Ev.step (fun k => by (rw [gnomonlaw08_ExprTurns.l0, if_pos (by simp; omega), if_pos (by omega), ho]; simp only [Option.bind_some]; rw [if_pos (by simp; omega), if_pos (by simp; omega), if_pos (by simp; omega), if_pos (by simp; omega)]; try rfl)) (Ev.bind a1 (Ev.bind a2 ?_))
            exact Ev.congr (fun k => by rw [if_pos rfl, if_pos rfl, show wrap64 ((i : Int) + 1) = ((i + 1 : Nat) : Int) by unfold wrap64; omega]) hn
          refine round 0 4 p (by decide) rfl p1 p2 (round 1 6 q (by decide) rfl q1 q2 ?_)
          have e1 : [(⟨3, 0⟩ : S68), ⟨3, 0⟩] ++ enc x = enc (.one 3 (.one 3 x)) := by simp [enc]
          have e2 : ([(⟨10, 0⟩ : S68)] ++ enc x) ++ enc y = enc (.two 10 x y) := by simp [enc]
          have T3 : Takes 3 = false := by decide +kernel
          have Tr3 : Tr 3 = false := by decide +kernel
          have T10 : Takes 10 = false := by decide +kernel
          have Tr10 : Tr 10 = true := by decide +kernel
          have k1 : (X.one 3 (.one 3 x)).ok (vars.length : Int) := by simp only [X.ok, X.op]; exact ⟨.inl trivial, Tr3.trans T3.symm, .inl trivial, tx.trans T3.symm, hx⟩
          have k2 : (X.two 10 x y).ok (vars.length : Int) := by simp only [X.ok]; exact ⟨by unfold isTwo; omega, tx.trans T10.symm, ty.trans T10.symm, hx, hy⟩
          have v1 := (value_tree hvl hv k1 (by simp only [enc, List.length_cons]; omega)).1 Tr3
          have v2 := (value_tree hvl hv k2 (by simp only [enc, List.length_cons, List.length_append]; omega)).2 Tr10
          rw [← e1] at v1
          rw [← e2] at v2
          refine Ev.step (fun k => by (rw [gnomonlaw08_ExprTurns.l0, if_neg (by simp)]; simp only [Option.bind_some]; rw [if_pos (by simp; omega)]; try rfl)) (Ev.bind v1 ?_)
          refine Ev.congr (fun k => by (rw [if_pos (by simp; omega), if_pos (by simp; omega)]; try rfl)) (Ev.bind v2 (Ev.bind live_ev ?_))
          have b2 : toldB (vl vars (.two 10 x y)) = ((vl vars x).1 == (vl vars y).1, 0) := by
            simp only [vl]
            rw [if_neg (by rw [ox]; decide), if_neg (by omega), if_neg (by rw [oy]; decide)]
            rfl
          have rx := vl_i64 hv hx
          unfold i64 at rx
          rw [b2]
          by_cases hm : (vl vars x).1 = -9223372036854775808
          · have b1 : told (vl vars (.one 3 (.one 3 x))) = (0, 20) := by
              have h3 := vl_neg ox
              rw [hm] at h3
              rw [vl_over (by rw [h3]; rfl), h3]
              rfl
            rw [b1]
            exact Ev.congr (fun k => by rw [if_pos rfl, if_neg (by decide), if_pos rfl, if_pos hm, if_pos rfl, beq_self_eq_true]) (Ev.now _)
          · have b1 : told (vl vars (.one 3 (.one 3 x))) = ((vl vars x).1, 0) := by
              have n1 : wrap64 (-(vl vars x).1) = -(vl vars x).1 := by unfold wrap64; omega
              have n2 : ((vl vars x).1 == (-9223372036854775808)) = false := by simpa using hm
              have n3 : (-(vl vars x).1 == (-9223372036854775808)) = false := by
                rw [beq_eq_false_iff_ne]; omega
              have n4 : wrap64 (-(-(vl vars x).1)) = (vl vars x).1 := by unfold wrap64; omega
              have h3 := vl_neg ox
              rw [n1, n2] at h3
              have h4 := vl_neg (x := .one 3 x) (by rw [h3])
              rw [h3] at h4
              simp only at h4
              rw [n3, n4] at h4
              rw [h4]
              rfl
            rw [b1]
            exact Ev.congr (fun k => by rw [if_pos rfl, if_pos rfl, if_pos rfl, if_pos rfl, beq_self_eq_true]) (Ev.now _)
    · exact Ev.congr (fun k => by rw [if_pos hr, if_neg hs]) out
  · exact Ev.congr (fun k => by rw [if_neg hr]) out
end Go.Proofs.YtgkcjefbagnkpaaDoor.PExpr
