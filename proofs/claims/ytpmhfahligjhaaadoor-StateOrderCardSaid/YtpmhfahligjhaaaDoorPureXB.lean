import Derived.Test.YtpmhfahligjhaaaDoorPureXA
namespace Go.Proofs.YtpmhfahligjhaaaDoor.POrd
set_option linter.unusedVariables false
set_option linter.unusedSimpArgs false
open Go Go.RowKit Go.Proofs.YtpmhfahligjhaaaDoorW.PrintWords Go.Proofs.YtpmhfahligjhaaaDoorW.PrintMore

/-! ### Right -/
/-- A node that is none by itself. -/
def bad (k c n : Int) : Prop := c < 1 ∨ c > 14 ∨ (c = 1 ∧ (n < 0 ∨ n > 1048576)) ∨ (c = 2 ∧ (n < 0 ∨ n ≥ k)) ∨ (c ≠ 1 ∧ c ≠ 2 ∧ n ≠ 0)
theorem j3_bad (l : List S122) (k i c : Int) : Ev (fun m => gnomonref08_Right.j3 m l k i c true) 121 := Ev.step (fun m => by rw [gnomonref08_Right.j3, if_pos rfl]) (Ev.now _)
theorem ref_node_bad {l : List S122} {k : Int} {i : Nat} (hi : i < l.length) (hb : bad k (N l i).f0 (N l i).f1) : Ev (fun m => gnomonref08_Right.l0 m l k (i : Int)) 121 := by
  have h2 : Ev (fun m => gnomonref08_Right.j2 m l k (i : Int) (N l i).f0 (N l i).f1 true) 121 := Ev.step (fun m => by rw [gnomonref08_Right.j2, if_pos rfl]) (Ev.now _)
  by_cases h1 : (N l i).f0 < 1
  · refine Ev.step (fun m => ?_) h2
    rw [gnomonref08_Right.l0, if_pos (by omega), if_pos (by omega), show rd_T122 l (i : Int) = N l i from rfl, if_pos h1]
  · have st : ∀ m, gnomonref08_Right.l0 (m + 1) l k (i : Int) = gnomonref08_Right.j2 m l k (i : Int) (N l i).f0 (N l i).f1 (decide ((N l i).f0 > 14)) := fun m => by
      rw [gnomonref08_Right.l0, if_pos (by omega), if_pos (by omega), show rd_T122 l (i : Int) = N l i from rfl, if_neg h1]
    by_cases h3 : (N l i).f0 > 14
    · exact Ev.step (fun m => by rw [st, decide_eq_true h3]) h2
    · refine Ev.step (fun m => by rw [st, decide_eq_false h3]) ?_
      unfold bad at hb
      refine Ev.step (fun m => ?_) (j3_bad l k (i : Int) (N l i).f0)
      rw [gnomonref08_Right.j2, if_neg (by decide)]
      by_cases c1 : (N l i).f0 = 1
      · rw [if_pos c1]
        by_cases c2 : (N l i).f1 < 0
        · rw [if_pos c2]
        · rw [if_neg c2, if_pos (by omega)]
      · rw [if_neg c1]
        by_cases c3 : (N l i).f0 = 2
        · rw [if_pos c3]
          by_cases c2 : (N l i).f1 < 0
          · rw [if_pos c2]
          · rw [if_neg c2, if_pos (by omega)]
        · rw [if_neg c3]
          have : (N l i).f1 ≠ 0 := by omega
          rw [show ((N l i).f1 != 0) = true from bne_iff_ne.2 this]
theorem ref_node_ok {l : List S122} {k : Int} {i : Nat} (hl : l.length ≤ 4096) (hi : i < l.length) (hb : ¬ bad k (N l i).f0 (N l i).f1) {c : Int} (h : Ev (fun m => gnomonref08_Right.l1 m l k (i : Int) (N l i).f0 ((i + 1 : Nat) : Int) 0) c) :
    Ev (fun m => gnomonref08_Right.l0 m l k (i : Int)) c := by
  unfold bad at hb
  have h3 : Ev (fun m => gnomonref08_Right.j3 m l k (i : Int) (N l i).f0 false) c := Ev.step (fun m => by rw [gnomonref08_Right.j3, if_neg (by decide), w68 (by omega)]) h
  refine Ev.step (fun m => by rw [gnomonref08_Right.l0, if_pos (by omega), if_pos (by omega), show rd_T122 l (i : Int) = N l i from rfl, if_neg (by omega), decide_eq_false (by omega)]) (Ev.step (fun m => ?_) h3)
  rw [gnomonref08_Right.j2, if_neg (by decide)]
  by_cases c1 : (N l i).f0 = 1
  · rw [if_pos c1, if_neg (by omega), if_neg (by omega), if_neg (by omega)]
  · rw [if_neg c1]
    by_cases c3 : (N l i).f0 = 2
    · rw [if_pos c3, if_neg (by omega), if_neg (by omega)]
    · rw [if_neg c3]
      have : (N l i).f1 = 0 := by omega
      rw [show ((N l i).f1 != 0) = false from by rw [this]; rfl]
/-- expr's test of a node. -/
theorem lex_node {l : List S122} {k : Int} (hk : 0 ≤ k ∧ k ≤ 140737488355328) {i : Nat} (hl : l.length ≤ 4096) (hi : i < l.length) :
    ∃ r, expr_of.f (N l i).f0 = some r ∧ r.1 = Pc (N l i).f0 ∧ (¬ bad k (N l i).f0 (N l i).f1 → r.2.2.1 = (kindAt (N l i).f0).2.2.1) ∧
    (bad k (N l i).f0 (N l i).f1 → Ev (fun m => expr_Right.l0 m l k l (l.length : Int) (i : Int)) 121) ∧
    (¬ bad k (N l i).f0 (N l i).f1 → ∀ c, Ev (fun m => expr_Right.l1 m l k ((i + 1 : Nat) : Int) l (l.length : Int) (i : Int) r.1 0 r.1 r.2.1 r.2.2.1 r.2.2.2.1 r.2.2.2.2.1) c → Ev (fun m => expr_Right.l0 m l k l (l.length : Int) (i : Int)) c) := by
  have hmx : mx k 0 = k := by unfold mx; split <;> omega
  have hw : wrap64 ((mx k 0) - 1) = k - 1 := by rw [hmx, ws (by omega) (by omega)]
  by_cases hkn : 1 ≤ (N l i).f0 ∧ (N l i).f0 ≤ 14
  · refine ⟨_, of_known hkn.1 hkn.2, by unfold Pc; rw [if_pos hkn], fun _ => rfl, ?_⟩
    -- what the number may be at most
    obtain ⟨most, hm, hst⟩ : ∃ most : Int, ((N l i).f1 < 0 ∨ (N l i).f1 > most ↔ bad k (N l i).f0 (N l i).f1) ∧ ∀ m, expr_Right.l0 (m + 1) l k l (l.length : Int) (i : Int) = expr_Right.j2 m l k (i : Int) true most l (l.length : Int) (i : Int) (N l i).f0 (N l i).f1 (kindAt (N l i).f0).1 (kindAt (N l i).f0).2.1 (kindAt (N l i).f0).2.2.1 (kindAt (N l i).f0).2.2.2.1 (kindAt (N l i).f0).2.2.2.2 := by
      have e : ∀ m, expr_Right.l0 (m + 1) l k l (l.length : Int) (i : Int) = (if (N l i).f0 = 1 then _ else if (N l i).f0 = 2 then _ else _) := fun m => by
        rw [expr_Right.l0, if_pos (by omega), if_pos (by omega), if_pos (by omega), show rd_T122 l (i : Int) = N l i from rfl, of_known hkn.1 hkn.2, Option.bind_some]
      by_cases c1 : (N l i).f0 = 1
      · refine ⟨1048576, ?_, fun m => by rw [e, if_pos c1]⟩
        unfold bad; omega
      · by_cases c2 : (N l i).f0 = 2
        · refine ⟨k - 1, ?_, fun m => by rw [e, if_neg c1, if_pos c2, hw]⟩
          unfold bad; omega
        · refine ⟨0, ?_, fun m => by rw [e, if_neg c1, if_neg c2]⟩
          unfold bad; omega
    refine ⟨fun hb => ?_, fun hb c hc => ?_⟩
    · have hj : Ev (fun m => expr_Right.j3 m l k (i : Int) l (l.length : Int) (i : Int) true (kindAt (N l i).f0).1 (kindAt (N l i).f0).2.1 (kindAt (N l i).f0).2.2.1 (kindAt (N l i).f0).2.2.2.1 (kindAt (N l i).f0).2.2.2.2) 121 := Ev.step (fun m => by rw [expr_Right.j3, if_pos rfl]) (Ev.now _)
      refine Ev.step hst (Ev.step (fun m => ?_) hj)
      rw [expr_Right.j2, if_pos rfl]
      rcases hm.2 hb with h1 | h1
      · rw [if_pos h1]
      · by_cases h2 : (N l i).f1 < 0
        · rw [if_pos h2]
        · rw [if_neg h2, decide_eq_true h1]
    · have hn := fun h => hb (hm.1 h)
      refine Ev.step hst (Ev.step (fun m => ?_) (Ev.step (g := fun m => expr_Right.j3 m l k (i : Int) l (l.length : Int) (i : Int) false (kindAt (N l i).f0).1 (kindAt (N l i).f0).2.1 (kindAt (N l i).f0).2.2.1 (kindAt (N l i).f0).2.2.2.1 (kindAt (N l i).f0).2.2.2.2) (fun m => by rw [expr_Right.j3, if_neg (by decide), w68 (by omega)]) hc))
      rw [expr_Right.j2, if_pos rfl, if_neg (fun h => hn (.inl h)), decide_eq_false (fun h => hn (.inr h))]
  · have hb : bad k (N l i).f0 (N l i).f1 := by unfold bad; omega
    refine ⟨_, of_not (by omega), by unfold Pc; rw [if_neg hkn], fun h => absurd hb h, fun _ => ?_, fun h => absurd hb h⟩
    have c1 : (N l i).f0 ≠ 1 := by omega
    have c2 : (N l i).f0 ≠ 2 := by omega
    refine Ev.step (fun m => by rw [expr_Right.l0, if_pos (by omega), if_pos (by omega), if_pos (by omega), show rd_T122 l (i : Int) = N l i from rfl, of_not (by omega), Option.bind_some, if_neg c1, if_neg c2]) (Ev.step (fun m => by rw [expr_Right.j2, if_neg (by decide)]) (Ev.step (fun m => by rw [expr_Right.j3, if_pos rfl]) (Ev.now _)))
end Go.Proofs.YtpmhfahligjhaaaDoor.POrd
