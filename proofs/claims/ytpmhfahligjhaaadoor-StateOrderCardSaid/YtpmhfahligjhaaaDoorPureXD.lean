import Derived.Test.YtpmhfahligjhaaaDoorPureXC
namespace Go.Proofs.YtpmhfahligjhaaaDoor.POrd
set_option linter.unusedVariables false
set_option linter.unusedSimpArgs false
open Go Go.RowKit Go.Proofs.YtpmhfahligjhaaaDoorW.PrintWords Go.Proofs.YtpmhfahligjhaaaDoorW.PrintMore

def NodeOk (l : List S122) (k : Int) (j : Nat) : Prop := ¬ bad k (N l j).f0 (N l j).f1 ∧ Kids l (Takes (N l j).f0) (Pc (N l j).f0).toNat (j + 1)
theorem right_loop {l : List S122} (T : Tree l) {k : Int} (hk : 0 ≤ k ∧ k ≤ 140737488355328) : ∀ n i : Nat, l.length - i ≤ n → i ≤ l.length →
    ∃ c : Int, Ev (fun m => expr_Right.l0 m l k l (l.length : Int) (i : Int)) c ∧ Ev (fun m => gnomonref08_Right.l0 m l k (i : Int)) c ∧ (c = 0 ∨ c = 121) ∧ (c = 0 ↔ ∀ j, i ≤ j → j < l.length → NodeOk l k j) := by
  have hlen := T.len
  have fin : Ev (fun m => expr_Right.l0 m l k l (l.length : Int) ((l.length : Nat) : Int)) 0 ∧ Ev (fun m => gnomonref08_Right.l0 m l k ((l.length : Nat) : Int)) 0 :=
    ⟨Ev.step (fun m => by rw [expr_Right.l0, if_neg (by omega)]) (Ev.now _), Ev.step (fun m => by rw [gnomonref08_Right.l0, if_neg (by omega)]) (Ev.now _)⟩
  intro n
  induction n with
  | zero =>
    intro i h1 h2
    obtain rfl : i = l.length := by omega
    exact ⟨0, fin.1, fin.2, .inl rfl, ⟨fun _ j h3 h4 => by omega, fun _ => rfl⟩⟩
  | succ n ih =>
    intro i h1 h2
    by_cases hi : i < l.length
    · obtain ⟨r, r1, r2, r3, r4, r5⟩ := lex_node hk hlen hi
      by_cases hb : bad k (N l i).f0 (N l i).f1
      · exact ⟨121, r4 hb, ref_node_bad hi hb, .inr rfl, ⟨fun h => (by cases h), fun h => absurd hb (h i (Nat.le_refl _) hi).1⟩⟩
      · obtain ⟨c', a1, a2, a3, a4⟩ := ih (i + 1) (by omega) (by omega)
        have hrange : 1 ≤ (N l i).f0 ∧ (N l i).f0 ≤ 14 := by unfold bad at hb; omega
        have hop := T.ops _ (N_mem hi)
        have hP := Pc_range hop
        have hp := T.pos hi
        obtain ⟨c, b1, b2, b3, b4⟩ := kids_both T hi hrange.1 hrange.2 (k := k) r.2.1 r.2.2.1 r.2.2.2.1 r.2.2.2.2.1 (r3 hb) a1 a2 (Pc (N l i).f0).toNat 0 (i + 1) (by omega) (by omega) (by rw [nd_succ]; omega)
        refine ⟨c, r5 hb c ?_, ref_node_ok hlen hi hb b2, ?_, ⟨fun hc j h3 h4 => ?_, fun hc => b4.2 ⟨a4.2 fun j h3 h4 => hc j (by omega) h4, (hc i (Nat.le_refl _) hi).2⟩⟩⟩
        · rw [r2]; exact b1
        · rcases b3 with h | h | h
          · exact .inl h
          · exact .inr h
          · rw [h]; exact a3
        · rcases Nat.lt_or_ge i j with h5 | h5
          · exact a4.1 (b4.1 hc).1 j h5 h4
          · obtain rfl : j = i := by omega
            exact ⟨hb, (b4.1 hc).2⟩
    · obtain rfl : i = l.length := by omega
      exact ⟨0, fin.1, fin.2, .inl rfl, ⟨fun _ j h3 h4 => by omega, fun _ => rfl⟩⟩
/-- The list is an expression of so many variables. -/
structure Good (l : List S122) (k : Int) : Prop where
  tree : Tree l
  len : l.length ≤ 64
  pos : 0 < l.length
  node : ∀ j, j < l.length → NodeOk l k j
theorem right_both {l : List S122} (ho : opsOk l) {k : Int} (hk : 0 ≤ k ∧ k ≤ 140737488355328) :
    ∃ c : Int, Ev (fun m => expr_Right.f m l k) c ∧ Ev (fun m => gnomonref08_Right.f m l k) c ∧ (c = 0 ∨ c = 121) ∧ (c = 0 ↔ Good l k) := by
  have bL : Ev (fun m => expr_Right.j0 m l k true) 121 := Ev.step (fun m => by rw [expr_Right.j0, if_pos rfl]) (Ev.now _)
  have bR : Ev (fun m => gnomonref08_Right.j0 m l k true) 121 := Ev.step (fun m => by rw [gnomonref08_Right.j0, if_pos rfl]) (Ev.now _)
  by_cases h0 : l.length = 0
  · exact ⟨121, Ev.congr (fun m => by rw [expr_Right.f, if_pos (by omega)]) bL, Ev.congr (fun m => by rw [gnomonref08_Right.f, if_pos (by omega)]) bR, .inr rfl, ⟨fun h => (by cases h), fun h => absurd h.pos (by omega)⟩⟩
  by_cases h64 : l.length > 64
  · exact ⟨121, Ev.congr (fun m => by rw [expr_Right.f, if_neg (by omega), if_pos (by omega)]) bL, Ev.congr (fun m => by rw [gnomonref08_Right.f, if_neg (by omega), if_pos (by omega)]) bR, .inr rfl, ⟨fun h => (by cases h), fun h => absurd h.len (by omega)⟩⟩
  have go : ∀ (t : Int) (c : Int), Ev (fun m => expr_End.f m l 0) t → Ev (fun m => gnomonref08_End.f m l 0) t → Ev (fun m => expr_Right.j0 m l k (t != (l.length : Int))) c → Ev (fun m => gnomonref08_Right.j0 m l k (t != (l.length : Int))) c →
      Ev (fun m => expr_Right.f m l k) c ∧ Ev (fun m => gnomonref08_Right.f m l k) c := fun t c a b d e =>
    ⟨Ev.congr (fun m => by (rw [expr_Right.f, if_neg (by omega), if_neg (by omega)]; try rfl)) (Ev.bind a d), Ev.congr (fun m => by (rw [gnomonref08_Right.f, if_neg (by omega), if_neg (by omega)]; try rfl)) (Ev.bind b e)⟩
  rcases end_both (by omega) ho (a := 0) (Nat.zero_le _) with ⟨e, he, f1, f2⟩ | ⟨hnd, f1, f2⟩
  · by_cases hel : e = l.length
    · subst hel
      have T : Tree l := ⟨by omega, ho, he⟩
      obtain ⟨c, a1, a2, a3, a4⟩ := right_loop T hk l.length 0 (by omega) (Nat.zero_le _)
      have hbne : ((l.length : Int) != (l.length : Int)) = false := by simp
      obtain ⟨g1, g2⟩ := go _ c f1 f2 (by rw [hbne]; exact Ev.step (fun m => by (rw [expr_Right.j0, if_neg (by decide)]; try rfl)) a1) (by rw [hbne]; exact Ev.step (fun m => by (rw [gnomonref08_Right.j0, if_neg (by decide)]; try rfl)) a2)
      exact ⟨c, g1, g2, a3, ⟨fun hc => ⟨T, by omega, by omega, fun j hj => a4.1 hc j (Nat.zero_le _) hj⟩, fun h => a4.2 fun j _ hj => h.node j hj⟩⟩
    · have hbne : ((e : Int) != (l.length : Int)) = true := bne_iff_ne.2 (by omega)
      obtain ⟨g1, g2⟩ := go _ 121 f1 f2 (by rw [hbne]; exact bL) (by rw [hbne]; exact bR)
      exact ⟨121, g1, g2, .inr rfl, ⟨fun h => (by cases h), fun h => absurd (h.tree.whole.uniq he).symm hel⟩⟩
  · have hbne : ((0 : Int) != (l.length : Int)) = true := bne_iff_ne.2 (by omega)
    obtain ⟨g1, g2⟩ := go _ 121 f1 f2 (by rw [hbne]; exact bL) (by rw [hbne]; exact bR)
    exact ⟨121, g1, g2, .inr rfl, ⟨fun h => (by cases h), fun h => by have := h.tree.zero; have := hnd l.length (Nat.zero_le _) (Nat.le_refl _); have h1 : nd l 0 = 1 := rfl; omega⟩⟩
end Go.Proofs.YtpmhfahligjhaaaDoor.POrd
