import Derived.Test.YtpmhfahligjhaaaDoorPureXB
namespace Go.Proofs.YtpmhfahligjhaaaDoor.POrd
set_option linter.unusedVariables false
set_option linter.unusedSimpArgs false
open Go Go.RowKit Go.Proofs.YtpmhfahligjhaaaDoorW.PrintWords Go.Proofs.YtpmhfahligjhaaaDoorW.PrintMore

def Tr (c : Int) : Bool := decide (7 ≤ c ∧ c ≤ 14)
def Takes (c : Int) : Bool := (kindAt c).2.2.1
theorem of_truth {c : Int} (hc : byteOp c) : ∃ r, expr_of.f c = some r ∧ r.2.1 = Tr c := by
  have h := op256 (p := fun c => (expr_of.f c).map (fun r => r.2.1) = some (Tr c)) (by decide +kernel) hc
  obtain ⟨r, h1, h2⟩ := Option.map_eq_some_iff.1 h
  exact ⟨r, h1, h2⟩
theorem truth_eq {c : Int} (hc : byteOp c) : gnomonref08_truth.f c = some (Tr c) := op256 (p := fun c => gnomonref08_truth.f c = some (Tr c)) (by decide +kernel) hc
theorem numbers_eq {c : Int} (hc : byteOp c) (h1 : 1 ≤ c) (h2 : c ≤ 14) (hp : 0 < Pc c) : gnomonref08_numbers.f c = some (!Takes c) :=
  op256 (p := fun c => 1 ≤ c → c ≤ 14 → 0 < Pc c → gnomonref08_numbers.f c = some (!Takes c)) (by decide +kernel) hc h1 h2 hp
/-- So many parts from a place on are what they must be. -/
def Kids (l : List S122) (tk : Bool) : Nat → Nat → Prop
  | 0, _ => True
  | m + 1, a => Tr (N l a).f0 = tk ∧ ∀ e, Ends l a e → Kids l tk m e
theorem Ends.uniq {l : List S122} {a e e' : Nat} (h : Ends l a e) (h' : Ends l a e') : e = e' := by
  obtain ⟨h1, h2, h3, h4⟩ := h
  obtain ⟨g1, g2, g3, g4⟩ := h'
  rcases Nat.lt_trichotomy e e' with h | h | h
  · have := g4 e (by omega) h; omega
  · exact h
  · have := h4 e' (by omega) h; omega
/-- The list is one tree. -/
structure Tree (l : List S122) : Prop where
  len : l.length ≤ 4096
  ops : opsOk l
  whole : Ends l 0 l.length
theorem Tree.pos {l : List S122} (h : Tree l) {j : Nat} (hj : j < l.length) : 1 ≤ nd l j := h.whole.2.2.2 j (Nat.zero_le _) hj
theorem Tree.zero {l : List S122} (h : Tree l) : nd l l.length = 0 := h.whole.2.2.1
theorem Tree.end_at {l : List S122} (h : Tree l) {a : Nat} (ha : a < l.length) : ∃ e, Ends l a e ∧ Ev (fun k => expr_End.f k l (a : Int)) (e : Int) ∧ Ev (fun k => gnomonref08_End.f k l (a : Int)) (e : Int) := by
  rcases end_both h.len h.ops (Nat.le_of_lt ha) with h1 | ⟨h1, _⟩
  · exact h1
  · have := h1 l.length (Nat.le_of_lt ha) (Nat.le_refl _)
    have := h.pos ha
    have := h.zero
    omega
theorem kids_both {l : List S122} (T : Tree l) {k : Int} {i : Nat} (hi : i < l.length) (h1 : 1 ≤ (N l i).f0) (h2 : (N l i).f0 ≤ 14) {c' : Int} (b1 b2 : Bool) (b3 : ByteArray) (b4 : Int) (hb2 : b2 = Takes (N l i).f0)
    (hL : Ev (fun m => expr_Right.l0 m l k l (l.length : Int) ((i + 1 : Nat) : Int)) c') (hR : Ev (fun m => gnomonref08_Right.l0 m l k ((i + 1 : Nat) : Int)) c') :
    ∀ (n p a : Nat), (p : Int) + n = Pc (N l i).f0 → a ≤ l.length → (n : Int) ≤ nd l a →
    ∃ c, Ev (fun m => expr_Right.l1 m l k (a : Int) l (l.length : Int) (i : Int) (Pc (N l i).f0) (p : Int) (Pc (N l i).f0) b1 b2 b3 b4) c ∧ Ev (fun m => gnomonref08_Right.l1 m l k (i : Int) (N l i).f0 (a : Int) (p : Int)) c ∧ (c = 0 ∨ c = 121 ∨ c = c') ∧ (c = 0 ↔ c' = 0 ∧ Kids l (Takes (N l i).f0) n a) := by
  have hop := T.ops _ (N_mem hi)
  have hPr := Pc_range hop
  have hlen := T.len
  intro n
  induction n with
  | zero =>
    intro p a hp ha hn
    refine ⟨c', ?_, ?_, .inr (.inr rfl), ⟨fun h => ⟨h, trivial⟩, fun h => h.1⟩⟩
    · exact Ev.step (fun m => by rw [expr_Right.l1, if_neg (by omega), w68 (by omega)]) hL
    · refine Ev.step (fun m => by (rw [gnomonref08_Right.l1]; try rfl)) (Ev.bind (parts_ev hop) ?_)
      exact Ev.congr (fun m => by rw [if_neg (by omega), w68 (by omega)]) hR
  | succ n ih =>
    intro p a hp ha hn
    have hz := T.zero
    have hal : a < l.length := by
      rcases Nat.lt_or_ge a l.length with h | h
      · exact h
      · rw [show a = l.length by omega] at hn; omega
    have hopa := T.ops _ (N_mem hal)
    obtain ⟨r, r1, r2⟩ := of_truth hopa
    have e1 : ∀ m, expr_Right.l1 (m + 1) l k (a : Int) l (l.length : Int) (i : Int) (Pc (N l i).f0) (p : Int) (Pc (N l i).f0) b1 b2 b3 b4 = (if (Tr (N l a).f0 != b2) = true then some 121 else (expr_End.f m l (a : Int)).bind fun t => expr_Right.l1 m l k t l (l.length : Int) (i : Int) (Pc (N l i).f0) (wrap64 ((p : Int) + 1)) (Pc (N l i).f0) b1 b2 b3 b4) := by
      intro m
      rw [expr_Right.l1, if_pos (by omega), if_pos (by omega), if_pos (by omega), show rd_T122 l (a : Int) = N l a from rfl, r1, Option.bind_some, r2]
    have e2 : ∀ c, Ev (fun m => if (Tr (N l a).f0 == !Takes (N l i).f0) = true then some 121 else (gnomonref08_End.f m l (a : Int)).bind fun t => gnomonref08_Right.l1 m l k (i : Int) (N l i).f0 t (wrap64 ((p : Int) + 1))) c → Ev (fun m => gnomonref08_Right.l1 m l k (i : Int) (N l i).f0 (a : Int) (p : Int)) c := by
      intro c hc
      refine Ev.step (fun m => by (rw [gnomonref08_Right.l1]; try rfl)) (Ev.bind (parts_ev hop) ?_)
      refine Ev.congr (fun m => ?_) hc
      rw [if_pos (by omega), if_pos (by omega), if_pos (by omega), show rd_T122 l (a : Int) = N l a from rfl, truth_eq hopa, Option.bind_some, numbers_eq hop h1 h2 (by omega), Option.bind_some]
    by_cases ht : Tr (N l a).f0 = Takes (N l i).f0
    · obtain ⟨e, he, f1, f2⟩ := T.end_at hal
      obtain ⟨c, g1, g2, g3, g4⟩ := ih (p + 1) e (by omega) he.2.1 (by have := he.2.2.1; omega)
      refine ⟨c, ?_, ?_, g3, ⟨fun hc => ⟨(g4.1 hc).1, ht, fun e' he' => by rw [← he.uniq he']; exact (g4.1 hc).2⟩, fun hc => g4.2 ⟨hc.1, hc.2.2 e he⟩⟩⟩
      · refine Ev.step (fun m => by (rw [e1, if_neg (by rw [hb2, ht]; simp)]; try rfl)) (Ev.bind f1 ?_)
        exact Ev.congr (fun m => by rw [w68 (by omega)]) g1
      · refine e2 _ (Ev.congr (fun m => by (rw [if_neg (by rw [ht]; cases Takes (N l i).f0 <;> decide)]; try rfl)) (Ev.bind f2 ?_))
        exact Ev.congr (fun m => by rw [w68 (by omega)]) g2
    · refine ⟨121, ?_, ?_, .inr (.inl rfl), ⟨fun h => (by cases h), fun h => absurd h.2.1 ht⟩⟩
      · refine Ev.step (fun m => ?_) (Ev.now _)
        rw [e1, if_pos]
        rw [hb2]
        revert ht
        cases Tr (N l a).f0 <;> cases Takes (N l i).f0 <;> decide
      · refine e2 _ (Ev.congr (fun m => ?_) (Ev.now _))
        rw [if_pos]
        revert ht
        cases Tr (N l a).f0 <;> cases Takes (N l i).f0 <;> decide
end Go.Proofs.YtpmhfahligjhaaaDoor.POrd
