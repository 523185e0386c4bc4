import Derived.Test.YtgkcjefbagnkpaaDoorPureXF
import Derived.Test.YtgkcjefbagnkpaaDoorPExprx11
namespace Go.Proofs.YtgkcjefbagnkpaaDoor.PExpr
set_option linter.unusedVariables false
set_option linter.unusedSimpArgs false
open Go Go.RowKit Go.Proofs.YtgkcjefbagnkpaaDoorW.PrintWords Go.Proofs.YtgkcjefbagnkpaaDoorW.PrintMore

theorem live_ev : Ev (fun k => gnomonlaw08_live.f k) true := Ev.of gnomonlaw08_live.mono (k := 60) (by decide +kernel)
/-- Print of both: an error, or the tree's text. -/
theorem print_both {l : List S68} {names : List ByteArray} (ho : opsOk l) (hn : ∀ z ∈ names, z.size ≤ 140737488355328) (hl : names.length ≤ 140737488355328) :
    ∃ r : ByteArray × Int, Ev (fun k => expr_Print.f k l names) r ∧ Ev (fun k => gnomonref08_Print.f k l names) r ∧ (r.2 = 0 → ∃ x : X, l = enc x ∧ x.ok (names.length : Int) ∧ r.1 = tx names x) := by
  obtain ⟨c, h1, h2, h3, h4⟩ := right_both ho (k := (names.length : Int)) ⟨by omega, by omega⟩
  by_cases hc : c = 0
  · subst hc
    have G := h4.1 rfl
    obtain ⟨x, hx, hok, hat⟩ := good_tree G
    have hlen : (enc x).length ≤ 64 := by rw [← hx]; exact G.len
    obtain ⟨t1, t2⟩ := text_both G hn hok hlen hat
    refine ⟨(tx names x, 0), ?_, ?_, fun _ => ⟨x, hx, hok, rfl⟩⟩
    · refine Ev.congr (fun m => by (rw [expr_Print.f]; try rfl)) (Ev.bind h1 (Ev.congr (fun m => by (rw [if_pos rfl]; try rfl)) (Ev.bind t1 (Ev.now _))))
    · refine Ev.congr (fun m => by (rw [gnomonref08_Print.f]; try rfl)) (Ev.bind h2 (Ev.congr (fun m => by (rw [if_pos rfl]; try rfl)) (Ev.bind t2 (Ev.now _))))
  · have hc' : c = 121 := h3.resolve_left hc
    subst hc'
    refine ⟨((⟨#[]⟩ : ByteArray), 121), ?_, ?_, fun h => by cases h⟩
    · refine Ev.congr (fun m => by (rw [expr_Print.f]; try rfl)) (Ev.bind h1 (Ev.congr (fun m => by rw [if_neg (by decide)]) (Ev.now _)))
    · refine Ev.congr (fun m => by (rw [gnomonref08_Print.f]; try rfl)) (Ev.bind h2 (Ev.congr (fun m => by rw [if_neg (by decide)]) (Ev.now _)))
instance instEqS68 : DecidableEq S68 := fun x y => decidable_of_iff (x.f0 = y.f0 ∧ x.f1 = y.f1) (by cases x; cases y; simp)
theorem same_step (x y : S68) : (!(x.f0 == y.f0) || !(x.f1 == y.f1)) = true ↔ x ≠ y := by
  obtain ⟨a, b⟩ := x
  obtain ⟨c, d⟩ := y
  simp [S68.mk.injEq]
  constructor
  · intro h h1 h2
    rcases h with h | h
    · exact h h1
    · exact h h2
  · intro h
    by_cases h1 : a = c
    · exact .inr (h h1)
    · exact .inl h1
theorem same_loop {l m : List S68} (hl : l.length = m.length) (hb : l.length ≤ 140737488351232) : ∀ n j : Nat, l.length - j ≤ n → j ≤ l.length → (∀ i, i < j → N l i = N m i) →
    Ev (fun k => api_Node.l0 k l m (l.length : Int) (j : Int)) (decide (l = m)) ∧ Ev (fun k => gnomonref08_Same.l0 k l m (j : Int)) (decide (l = m)) := by
  have fin : (∀ i, i < l.length → N l i = N m i) → l = m := fun h => List.ext_getElem hl (fun i h1 h2 => by
    have := h i h1
    unfold N rd_T68 at this
    simpa [List.getD, h1, h2] using this)
  have hend : ∀ j, j = l.length → (∀ i, i < j → N l i = N m i) → Ev (fun k => api_Node.l0 k l m (l.length : Int) (j : Int)) (decide (l = m)) ∧ Ev (fun k => gnomonref08_Same.l0 k l m (j : Int)) (decide (l = m)) := by
    intro j hj h
    subst hj
    rw [decide_eq_true (fin h)]
    exact ⟨Ev.step (fun k => by rw [api_Node.l0, if_neg (by omega)]) (Ev.now _), Ev.step (fun k => by rw [gnomonref08_Same.l0, if_neg (by omega)]) (Ev.now _)⟩
  intro n
  induction n with
  | zero => intro j h1 h2 h3; exact hend j (by omega) h3
  | succ n ih =>
    intro j h1 h2 h3
    by_cases hj : j = l.length
    · exact hend j hj h3
    · have hjl : j < l.length := by omega
      have hw : wrap64 ((j : Int) + 1) = ((j + 1 : Nat) : Int) := by unfold wrap64; omega
      by_cases he : N l j = N m j
      · obtain ⟨i1, i2⟩ := ih (j + 1) (by omega) (by omega) (fun i hi => by
          rcases Nat.lt_or_ge i j with h | h
          · exact h3 i h
          · rw [show i = j by omega]; exact he)
        refine ⟨Ev.step (fun k => ?_) i1, Ev.step (fun k => ?_) i2⟩
        · rw [api_Node.l0, if_pos (by omega), if_pos (by omega), if_pos (by omega), if_pos (by omega), N_rd, N_rd, if_neg (fun h => (same_step _ _).1 h he), hw]
        · rw [gnomonref08_Same.l0, if_pos (by omega), if_pos (by omega), if_pos (by omega), N_rd, N_rd, if_neg (fun h => (same_step _ _).1 h he), hw]
      · have hne : l ≠ m := fun h => he (by rw [h])
        rw [decide_eq_false hne]
        refine ⟨Ev.step (fun k => ?_) (Ev.now _), Ev.step (fun k => ?_) (Ev.now _)⟩
        · rw [api_Node.l0, if_pos (by omega), if_pos (by omega), if_pos (by omega), if_pos (by omega), N_rd, N_rd, if_pos ((same_step _ _).2 he)]
        · rw [gnomonref08_Same.l0, if_pos (by omega), if_pos (by omega), if_pos (by omega), N_rd, N_rd, if_pos ((same_step _ _).2 he)]
theorem same_both {l m : List S68} (hb : l.length ≤ 140737488351232) : Ev (fun k => expr_Same.f k l m) (decide (l = m)) ∧ Ev (fun k => gnomonref08_Same.f k l m) (decide (l = m)) := by
  by_cases hl : l.length = m.length
  · obtain ⟨h1, h2⟩ := same_loop hl hb l.length 0 (by omega) (Nat.zero_le _) (fun i hi => by omega)
    refine ⟨Ev.congr (fun k => by (rw [expr_Same.f]; try rfl)) (Ev.bind (a := decide (l = m)) (Ev.congr (fun k => by (rw [api_Node.f, if_pos (by omega)]; try rfl)) h1) (Ev.now _)), Ev.congr (fun k => by (rw [gnomonref08_Same.f, if_pos (by omega)]; try rfl)) h2⟩
  · have hne : l ≠ m := fun h => hl (by rw [h])
    rw [decide_eq_false hne]
    refine ⟨Ev.congr (fun k => by (rw [expr_Same.f]; try rfl)) (Ev.bind (Ev.congr (fun k => by rw [api_Node.f, if_neg (by omega)]) (Ev.now _)) (Ev.now _)), Ev.congr (fun k => by rw [gnomonref08_Same.f, if_neg (by omega)]) (Ev.now _)⟩
end Go.Proofs.YtgkcjefbagnkpaaDoor.PExpr
