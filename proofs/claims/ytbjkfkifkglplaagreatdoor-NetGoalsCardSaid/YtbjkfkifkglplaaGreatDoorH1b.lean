/- Part of the proof: H1b. -/
import Derived.Test.YtbjkfkifkglplaaGreatDoorH1a
set_option linter.unusedSectionVars false
set_option linter.unusedVariables false
set_option linter.unusedSimpArgs false
set_option maxRecDepth 100000
namespace Go.Proofs.YtbjkfkifkglplaaGreatDoor.Q
open Go Go.Den Go.RowKit Go.Proofs

/-! ### Right -/
/-- A node that is none by itself. -/
def bad (k c n : Int) : Prop := c < 1 ∨ c > 14 ∨ (c = 1 ∧ (n < 0 ∨ n > 1048576)) ∨ (c = 2 ∧ (n < 0 ∨ n ≥ k)) ∨ (c ≠ 1 ∧ c ≠ 2 ∧ n ≠ 0)
theorem j2_bad {l : List S151} {k c n : Int} {i : Int} (h1 : ¬ c < 1) (h2 : ¬ c > 14) (hb : bad k c n) (m : Nat) : r08_Right.j2 (m + 1) l k i c n = some 121 := by
  unfold bad at hb
  rw [r08_Right.j2]
  repeat' split
  all_goals first | rfl | (exfalso; omega)
theorem j2_ok {l : List S151} {k c n : Int} {i : Int} (hb : ¬ bad k c n) (m : Nat) : r08_Right.j2 (m + 1) l k i c n = r08_Right.j3 m l k i c := by
  unfold bad at hb
  rw [r08_Right.j2]
  repeat' split
  all_goals first | rfl | (exfalso; omega)
theorem ref_node_bad {l : List S151} {k : Int} {i : Nat} (hi : i < l.length) (hb : bad k (N l i).f0 (N l i).f1) : Ev (fun m => r08_Right.l1 m l k (i : Int)) 121 := by
  have st : ∀ m, r08_Right.l1 (m + 1) l k (i : Int) = if (N l i).f0 < 1 then some 121 else if (N l i).f0 > 14 then some 121 else r08_Right.j2 m l k (i : Int) (N l i).f0 (N l i).f1 := fun m => by
    rw [r08_Right.l1, if_pos (by omega), if_pos (by omega), if_pos (by omega), if_pos (by omega), if_pos (by omega)]; rfl
  by_cases h1 : (N l i).f0 < 1
  · exact Ev.step (fun m => by rw [st, if_pos h1]) (Ev.now _)
  · by_cases h3 : (N l i).f0 > 14
    · exact Ev.step (fun m => by rw [st, if_neg h1, if_pos h3]) (Ev.now _)
    · exact Ev.step (fun m => by rw [st, if_neg h1, if_neg h3]) (Ev.step (f := fun m => r08_Right.j2 m l k (i : Int) (N l i).f0 (N l i).f1) (fun m => j2_bad h1 h3 hb m) (Ev.now _))
theorem ref_node_ok {l : List S151} {k : Int} {i : Nat} (hl : l.length ≤ 4096) (hi : i < l.length) (hb : ¬ bad k (N l i).f0 (N l i).f1) {c : Int} (h : Ev (fun m => r08_Right.l4 m l k (i : Int) (N l i).f0 ((i + 1 : Nat) : Int) 0) c) :
    Ev (fun m => r08_Right.l1 m l k (i : Int)) c := by
  have hb' := hb
  unfold bad at hb'
  have st : ∀ m, r08_Right.l1 (m + 1) l k (i : Int) = if (N l i).f0 < 1 then some 121 else if (N l i).f0 > 14 then some 121 else r08_Right.j2 m l k (i : Int) (N l i).f0 (N l i).f1 := fun m => by
    rw [r08_Right.l1, if_pos (by omega), if_pos (by omega), if_pos (by omega), if_pos (by omega), if_pos (by omega)]; rfl
  exact Ev.step (fun m => by rw [st, if_neg (by omega), if_neg (by omega)]) (Ev.step (f := fun m => r08_Right.j2 m l k (i : Int) (N l i).f0 (N l i).f1) (fun m => j2_ok hb m) (Ev.step (f := fun m => r08_Right.j3 m l k (i : Int) (N l i).f0) (fun m => by rw [r08_Right.j3, w68 (by omega)]) h))
/-- expr's test of a node. -/
theorem lex_node {l : List S151} {k : Int} (hk : 0 ≤ k ∧ k ≤ 140737488355328) {i : Nat} (hl : l.length ≤ 4096) (hi : i < l.length) :
    ∃ r, expr_of.f (N l i).f0 = some r ∧ r.1 = Pc (N l i).f0 ∧ (¬ bad k (N l i).f0 (N l i).f1 → r.2.2.1 = (kindAt (N l i).f0).2.2.1) ∧
    (bad k (N l i).f0 (N l i).f1 → Ev (fun m => expr_Right.l1 m l k l (l.length : Int) (i : Int)) 121) ∧
    (¬ bad k (N l i).f0 (N l i).f1 → ∀ c, Ev (fun m => expr_Right.l4 m l k ((i + 1 : Nat) : Int) l (l.length : Int) (i : Int) r.1 0 r.1 r.2.1 r.2.2.1 r.2.2.2.1 r.2.2.2.2.1) c → Ev (fun m => expr_Right.l1 m l k l (l.length : Int) (i : Int)) c) := by
  have hw : w64 ((if 0 > k then 0 else k) - 1) = k - 1 := by rw [if_neg (by omega), ws (by omega) (by omega)]
  have st : ∀ r, expr_of.f (N l i).f0 = some r → ∀ m, expr_Right.l1 (m + 1) l k l (l.length : Int) (i : Int) = expr_Right.j2 m l k (i : Int) r.2.2.2.2.2 (if (N l i).f0 = 1 then 1048576 else if (N l i).f0 = 2 then k - 1 else 0) l (l.length : Int) (i : Int) (N l i).f0 (N l i).f1 r.1 r.2.1 r.2.2.1 r.2.2.2.1 r.2.2.2.2.1 := fun r hr m => by
    rw [expr_Right.l1, if_pos (by omega), if_pos (by omega), if_pos (by omega), show rd_T151 l (i : Int) = N l i from rfl, hr, Option.bind_some, hw]
    by_cases c1 : (N l i).f0 = 1
    · rw [if_pos c1, if_pos c1]
    · rw [if_neg c1, if_neg c1]
      by_cases c2 : (N l i).f0 = 2
      · rw [if_pos c2, if_pos c2]
      · rw [if_neg c2, if_neg c2]
  have j2 : ∀ (kn : Bool) (most : Int) a0 a1 a2 a3 a4 m, expr_Right.j2 (m + 1) l k (i : Int) kn most l (l.length : Int) (i : Int) (N l i).f0 (N l i).f1 a0 a1 a2 a3 a4 = if kn = false ∨ (N l i).f1 < 0 ∨ (N l i).f1 > most then some 121 else expr_Right.j3 m l k (i : Int) l (l.length : Int) (i : Int) a0 a1 a2 a3 a4 := fun kn most a0 a1 a2 a3 a4 m => by
    rw [expr_Right.j2]
    cases kn with
    | false => rw [if_pos (by rfl : (!false) = true), if_pos (.inl rfl)]
    | true =>
      rw [if_neg (by decide)]
      by_cases h1 : (N l i).f1 < 0
      · rw [if_pos h1, if_pos (.inr (.inl h1))]
      · rw [if_neg h1]
        by_cases h2 : (N l i).f1 > most
        · rw [if_pos h2, if_pos (.inr (.inr h2))]
        · rw [if_neg h2, if_neg (by simp; omega)]
  by_cases hkn : 1 ≤ (N l i).f0 ∧ (N l i).f0 ≤ 14
  · have hk1 := of_known hkn.1 hkn.2
    have hm : ((N l i).f1 < 0 ∨ (N l i).f1 > (if (N l i).f0 = 1 then 1048576 else if (N l i).f0 = 2 then k - 1 else 0)) ↔ bad k (N l i).f0 (N l i).f1 := by
      unfold bad
      by_cases c1 : (N l i).f0 = 1
      · rw [if_pos c1]; omega
      · rw [if_neg c1]
        by_cases c2 : (N l i).f0 = 2
        · rw [if_pos c2]; omega
        · rw [if_neg c2]; omega
    refine ⟨_, hk1, by unfold Pc; rw [if_pos hkn], fun _ => rfl, fun hb => ?_, fun hb c hc => ?_⟩
    · exact Ev.step (st _ hk1) (Ev.step (fun m => by rw [j2, if_pos (.inr (hm.2 hb))]) (Ev.now _))
    · refine Ev.step (st _ hk1) (Ev.step (fun m => by rw [j2, if_neg (by rintro (h | h); exact absurd (show true = false from h) (by decide); exact hb (hm.1 h))]) (Ev.step (f := fun m => expr_Right.j3 m l k (i : Int) l (l.length : Int) (i : Int) (kindAt (N l i).f0).1 (kindAt (N l i).f0).2.1 (kindAt (N l i).f0).2.2.1 (kindAt (N l i).f0).2.2.2.1 (kindAt (N l i).f0).2.2.2.2) (fun m => by rw [expr_Right.j3, w68 (by omega)]) hc))
  · have hb : bad k (N l i).f0 (N l i).f1 := by unfold bad; omega
    have hk1 := of_not (c := (N l i).f0) (by omega)
    refine ⟨_, hk1, by unfold Pc; rw [if_neg hkn], fun h => absurd hb h, fun _ => ?_, fun h => absurd hb h⟩
    exact Ev.step (st _ hk1) (Ev.step (fun m => by rw [j2, if_pos (.inl rfl)]) (Ev.now _))

def Tr (c : Int) : Bool := decide (7 ≤ c ∧ c ≤ 14)
def Takes (c : Int) : Bool := (kindAt c).2.2.1
theorem of_truth {c : Int} (hc : byteOp c) : ∃ r, expr_of.f c = some r ∧ r.2.1 = Tr c := by
  have h := op256 (p := fun c => (expr_of.f c).map (fun r => r.2.1) = some (Tr c)) (by decide +kernel) hc
  obtain ⟨r, h1, h2⟩ := Option.map_eq_some_iff.1 h
  exact ⟨r, h1, h2⟩
theorem truth_eq {c : Int} (hc : byteOp c) : r08_truth.f c = some (Tr c) := op256 (p := fun c => r08_truth.f c = some (Tr c)) (by decide +kernel) hc
theorem numbers_eq {c : Int} (hc : byteOp c) (h1 : 1 ≤ c) (h2 : c ≤ 14) (hp : 0 < Pc c) : r08_numbers.f c = some (!Takes c) :=
  op256 (p := fun c => 1 ≤ c → c ≤ 14 → 0 < Pc c → r08_numbers.f c = some (!Takes c)) (by decide +kernel) hc h1 h2 hp
/-- So many parts from a place on are what they must be. -/
def Kids (l : List S151) (tk : Bool) : Nat → Nat → Prop
  | 0, _ => True
  | m + 1, a => Tr (N l a).f0 = tk ∧ ∀ e, Ends l a e → Kids l tk m e
theorem Ends.uniq {l : List S151} {a e e' : Nat} (h : Ends l a e) (h' : Ends l a e') : e = e' := by
  obtain ⟨h1, h2, h3, h4⟩ := h
  obtain ⟨g1, g2, g3, g4⟩ := h'
  rcases Nat.lt_trichotomy e e' with h | h | h
  · have := g4 e (by omega) h; omega
  · exact h
  · have := h4 e' (by omega) h; omega
/-- The list is one tree. -/
structure Tree (l : List S151) : Prop where
  len : l.length ≤ 4096
  ops : opsOk l
  whole : Ends l 0 l.length
theorem Tree.pos {l : List S151} (h : Tree l) {j : Nat} (hj : j < l.length) : 1 ≤ nd l j := h.whole.2.2.2 j (Nat.zero_le _) hj
theorem Tree.zero {l : List S151} (h : Tree l) : nd l l.length = 0 := h.whole.2.2.1
theorem Tree.end_at {l : List S151} (h : Tree l) {a : Nat} (ha : a < l.length) : ∃ e, Ends l a e ∧ Ev (fun k => expr_End.f k l (a : Int)) (e : Int) ∧ Ev (fun k => r08_End.f k l (a : Int)) (e : Int) := by
  rcases end_both h.len h.ops (Nat.le_of_lt ha) with h1 | ⟨h1, _⟩
  · exact h1
  · have := h1 l.length (Nat.le_of_lt ha) (Nat.le_refl _)
    have := h.pos ha
    have := h.zero
    omega
theorem kids_both {l : List S151} (T : Tree l) {k : Int} {i : Nat} (hi : i < l.length) (h1 : 1 ≤ (N l i).f0) (h2 : (N l i).f0 ≤ 14) {c' : Int} (b1 b2 : Bool) (b3 : ByteArray) (b4 : Int) (hb2 : b2 = Takes (N l i).f0)
    (hL : Ev (fun m => expr_Right.l1 m l k l (l.length : Int) ((i + 1 : Nat) : Int)) c') (hR : Ev (fun m => r08_Right.l1 m l k ((i + 1 : Nat) : Int)) c') :
    ∀ (n p a : Nat), (p : Int) + n = Pc (N l i).f0 → a ≤ l.length → (n : Int) ≤ nd l a →
    ∃ c, Ev (fun m => expr_Right.l4 m l k (a : Int) l (l.length : Int) (i : Int) (Pc (N l i).f0) (p : Int) (Pc (N l i).f0) b1 b2 b3 b4) c ∧ Ev (fun m => r08_Right.l4 m l k (i : Int) (N l i).f0 (a : Int) (p : Int)) c ∧ (c = 0 ∨ c = 121 ∨ c = c') ∧ (c = 0 ↔ c' = 0 ∧ Kids l (Takes (N l i).f0) n a) := by
  have hop := T.ops _ (N_mem hi)
  have hPr := Pc_range hop
  have hlen := T.len
  intro n
  induction n with
  | zero =>
    intro p a hp ha hn
    refine ⟨c', ?_, ?_, .inr (.inr rfl), ⟨fun h => ⟨h, trivial⟩, fun h => h.1⟩⟩
    · exact Ev.step (fun m => by rw [expr_Right.l4, if_neg (by omega), w68 (by omega)]) hL
    · refine Ev.step (fun m => by (rw [r08_Right.l4]; try rfl)) (Ev.bind (parts_ev hop) ?_)
      exact Ev.congr (fun m => by rw [if_neg (by omega), w68 (by omega)]) hR
  | succ n ih =>
    intro p a hp ha hn
    have hz := T.zero
    have hal : a < l.length := by
      rcases Nat.lt_or_ge a l.length with h | h
      · exact h
      · rw [show a = l.length by omega] at hn; omega
    have hopa := T.ops _ (N_mem hal)
    obtain ⟨r, r1, r2⟩ := of_truth hopa
    have e1 : ∀ m, expr_Right.l4 (m + 1) l k (a : Int) l (l.length : Int) (i : Int) (Pc (N l i).f0) (p : Int) (Pc (N l i).f0) b1 b2 b3 b4 = (if Tr (N l a).f0 = b2 then (expr_End.f m l (a : Int)).bind fun t => expr_Right.l4 m l k t l (l.length : Int) (i : Int) (Pc (N l i).f0) (w64 ((p : Int) + 1)) (Pc (N l i).f0) b1 b2 b3 b4 else some 121) := by
      intro m
      rw [expr_Right.l4, if_pos (by omega), if_pos (by omega), if_pos (by omega), show rd_T151 l (a : Int) = N l a from rfl, r1, Option.bind_some, r2]
    have e2 : ∀ c, Ev (fun m => if Tr (N l a).f0 = !Takes (N l i).f0 then some 121 else (r08_End.f m l (a : Int)).bind fun t => r08_Right.l4 m l k (i : Int) (N l i).f0 t (w64 ((p : Int) + 1))) c → Ev (fun m => r08_Right.l4 m l k (i : Int) (N l i).f0 (a : Int) (p : Int)) c := by
      intro c hc
      refine Ev.step (fun m => by (rw [r08_Right.l4]; try rfl)) (Ev.bind (parts_ev hop) ?_)
      refine Ev.congr (fun m => ?_) hc
      rw [if_pos (by omega), if_pos (by omega), if_pos (by omega), show rd_T151 l (a : Int) = N l a from rfl, truth_eq hopa, Option.bind_some, numbers_eq hop h1 h2 (by omega), Option.bind_some]
    by_cases ht : Tr (N l a).f0 = Takes (N l i).f0
    · obtain ⟨e, he, f1, f2⟩ := T.end_at hal
      obtain ⟨c, g1, g2, g3, g4⟩ := ih (p + 1) e (by omega) he.2.1 (by have := he.2.2.1; omega)
      refine ⟨c, ?_, ?_, g3, ⟨fun hc => ⟨(g4.1 hc).1, ht, fun e' he' => by rw [← he.uniq he']; exact (g4.1 hc).2⟩, fun hc => g4.2 ⟨hc.1, hc.2.2 e he⟩⟩⟩
      · refine Ev.step (fun m => by (rw [e1, if_pos (by rw [hb2, ht])]; try rfl)) (Ev.bind f1 ?_)
        exact Ev.congr (fun m => by rw [w68 (by omega)]) g1
      · refine e2 _ (Ev.congr (fun m => by (rw [if_neg (by rw [ht]; cases Takes (N l i).f0 <;> decide)]; try rfl)) (Ev.bind f2 ?_))
        exact Ev.congr (fun m => by rw [w68 (by omega)]) g2
    · refine ⟨121, ?_, ?_, .inr (.inl rfl), ⟨fun h => (by cases h), fun h => absurd h.2.1 ht⟩⟩
      · refine Ev.step (fun m => ?_) (Ev.now _)
        rw [e1, if_neg]
        rw [hb2]
        exact ht
      · refine e2 _ (Ev.congr (fun m => ?_) (Ev.now _))
        rw [if_pos]
        revert ht
        cases Tr (N l a).f0 <;> cases Takes (N l i).f0 <;> decide

def NodeOk (l : List S151) (k : Int) (j : Nat) : Prop := ¬ bad k (N l j).f0 (N l j).f1 ∧ Kids l (Takes (N l j).f0) (Pc (N l j).f0).toNat (j + 1)
theorem right_loop {l : List S151} (T : Tree l) {k : Int} (hk : 0 ≤ k ∧ k ≤ 140737488355328) : ∀ n i : Nat, l.length - i ≤ n → i ≤ l.length →
    ∃ c : Int, Ev (fun m => expr_Right.l1 m l k l (l.length : Int) (i : Int)) c ∧ Ev (fun m => r08_Right.l1 m l k (i : Int)) c ∧ (c = 0 ∨ c = 121) ∧ (c = 0 ↔ ∀ j, i ≤ j → j < l.length → NodeOk l k j) := by
  have hlen := T.len
  have fin : Ev (fun m => expr_Right.l1 m l k l (l.length : Int) ((l.length : Nat) : Int)) 0 ∧ Ev (fun m => r08_Right.l1 m l k ((l.length : Nat) : Int)) 0 :=
    ⟨Ev.step (fun m => by rw [expr_Right.l1, if_neg (by omega)]) (Ev.now _), Ev.step (fun m => by rw [r08_Right.l1, if_neg (by omega)]) (Ev.now _)⟩
  intro n
  induction n with
  | zero =>
    intro i h1 h2
    obtain rfl : i = l.length := by omega
    exact ⟨0, fin.1, fin.2, .inl rfl, ⟨fun _ j h3 h4 => by omega, fun _ => rfl⟩⟩
  | succ n ih =>
    intro i h1 h2
    by_cases hi : i < l.length
    · obtain ⟨r, r1, r2, r3, r4, r5⟩ := lex_node hk hlen hi
      by_cases hb : bad k (N l i).f0 (N l i).f1
      · exact ⟨121, r4 hb, ref_node_bad hi hb, .inr rfl, ⟨fun h => (by cases h), fun h => absurd hb (h i (Nat.le_refl _) hi).1⟩⟩
      · obtain ⟨c', a1, a2, a3, a4⟩ := ih (i + 1) (by omega) (by omega)
        have hrange : 1 ≤ (N l i).f0 ∧ (N l i).f0 ≤ 14 := by unfold bad at hb; omega
        have hop := T.ops _ (N_mem hi)
        have hP := Pc_range hop
        have hp := T.pos hi
        obtain ⟨c, b1, b2, b3, b4⟩ := kids_both T hi hrange.1 hrange.2 (k := k) r.2.1 r.2.2.1 r.2.2.2.1 r.2.2.2.2.1 (r3 hb) a1 a2 (Pc (N l i).f0).toNat 0 (i + 1) (by omega) (by omega) (by rw [nd_succ]; omega)
        refine ⟨c, r5 hb c ?_, ref_node_ok hlen hi hb b2, ?_, ⟨fun hc j h3 h4 => ?_, fun hc => b4.2 ⟨a4.2 fun j h3 h4 => hc j (by omega) h4, (hc i (Nat.le_refl _) hi).2⟩⟩⟩
        · rw [r2]; exact b1
        · rcases b3 with h | h | h
          · exact .inl h
          · exact .inr h
          · rw [h]; exact a3
        · rcases Nat.lt_or_ge i j with h5 | h5
          · exact a4.1 (b4.1 hc).1 j h5 h4
          · obtain rfl : j = i := by omega
            exact ⟨hb, (b4.1 hc).2⟩
    · obtain rfl : i = l.length := by omega
      exact ⟨0, fin.1, fin.2, .inl rfl, ⟨fun _ j h3 h4 => by omega, fun _ => rfl⟩⟩
/-- The list is an expression of so many variables. -/
structure Good (l : List S151) (k : Int) : Prop where
  tree : Tree l
  len : l.length ≤ 64
  pos : 0 < l.length
  node : ∀ j, j < l.length → NodeOk l k j
theorem right_both {l : List S151} (ho : opsOk l) {k : Int} (hk : 0 ≤ k ∧ k ≤ 140737488355328) :
    ∃ c : Int, Ev (fun m => expr_Right.f m l k) c ∧ Ev (fun m => r08_Right.f m l k) c ∧ (c = 0 ∨ c = 121) ∧ (c = 0 ↔ Good l k) := by
  by_cases h0 : l.length = 0
  · exact ⟨121, Ev.congr (fun m => by rw [expr_Right.f, if_pos (by omega)]) (Ev.now _), Ev.congr (fun m => by rw [r08_Right.f, if_pos (by omega)]) (Ev.now _), .inr rfl, ⟨fun h => (by cases h), fun h => absurd h.pos (by omega)⟩⟩
  by_cases h64 : l.length > 64
  · exact ⟨121, Ev.congr (fun m => by rw [expr_Right.f, if_neg (by omega), if_pos (by omega)]) (Ev.now _), Ev.congr (fun m => by rw [r08_Right.f, if_neg (by omega), if_pos (by omega)]) (Ev.now _), .inr rfl, ⟨fun h => (by cases h), fun h => absurd h.len (by omega)⟩⟩
  have go : ∀ (t : Int) (c : Int), Ev (fun m => expr_End.f m l 0) t → Ev (fun m => r08_End.f m l 0) t → Ev (fun m => if t = (l.length : Int) then expr_Right.j0 m l k else some 121) c → Ev (fun m => if t = (l.length : Int) then r08_Right.j0 m l k else some 121) c →
      Ev (fun m => expr_Right.f m l k) c ∧ Ev (fun m => r08_Right.f m l k) c := fun t c a b d e =>
    ⟨Ev.congr (fun m => by (rw [expr_Right.f, if_neg (by omega), if_neg (by omega)]; try rfl)) (Ev.bind a d), Ev.congr (fun m => by (rw [r08_Right.f, if_neg (by omega), if_neg (by omega)]; try rfl)) (Ev.bind b e)⟩
  have no : ∀ {t : Int}, ¬ t = (l.length : Int) → ∀ F : Nat → Option Int, Ev (fun m => if t = (l.length : Int) then F m else some 121) 121 := fun h F => Ev.congr (fun m => by rw [if_neg h]) (Ev.now _)
  rcases end_both (by omega) ho (a := 0) (Nat.zero_le _) with ⟨e, he, f1, f2⟩ | ⟨hnd, f1, f2⟩
  · by_cases hel : e = l.length
    · subst hel
      have T : Tree l := ⟨by omega, ho, he⟩
      obtain ⟨c, a1, a2, a3, a4⟩ := right_loop T hk l.length 0 (by omega) (Nat.zero_le _)
      obtain ⟨g1, g2⟩ := go _ c f1 f2 (Ev.congr (fun m => by rw [if_pos rfl]) (Ev.step (f := fun m => expr_Right.j0 m l k) (fun m => by (rw [expr_Right.j0]; try rfl)) a1)) (Ev.congr (fun m => by rw [if_pos rfl]) (Ev.step (f := fun m => r08_Right.j0 m l k) (fun m => by (rw [r08_Right.j0]; try rfl)) a2))
      exact ⟨c, g1, g2, a3, ⟨fun hc => ⟨T, by omega, by omega, fun j hj => a4.1 hc j (Nat.zero_le _) hj⟩, fun h => a4.2 fun j _ hj => h.node j hj⟩⟩
    · obtain ⟨g1, g2⟩ := go _ 121 f1 f2 (no (by omega) _) (no (by omega) _)
      exact ⟨121, g1, g2, .inr rfl, ⟨fun h => (by cases h), fun h => absurd (h.tree.whole.uniq he).symm hel⟩⟩
  · obtain ⟨g1, g2⟩ := go _ 121 f1 f2 (no (by omega) _) (no (by omega) _)
    exact ⟨121, g1, g2, .inr rfl, ⟨fun h => (by cases h), fun h => by have := h.tree.zero; have := hnd l.length (Nat.zero_le _) (Nat.le_refl _); have h1 : nd l 0 = 1 := rfl; omega⟩⟩
/-- What both answer. -/
noncomputable def sRight (l : List S151) (k : Int) : Int := by classical exact if Good l k then 0 else 121
theorem sRight_or (l : List S151) (k : Int) : sRight l k = 0 ∨ sRight l k = 121 := by unfold sRight; split <;> simp
theorem right_evs {l : List S151} (ho : opsOk l) {k : Int} (hk : 0 ≤ k ∧ k ≤ 140737488355328) : Ev (fun m => expr_Right.f m l k) (sRight l k) ∧ Ev (fun m => r08_Right.f m l k) (sRight l k) := by
  obtain ⟨c, h1, h2, h3, h4⟩ := right_both ho hk
  have : sRight l k = c := by
    unfold sRight
    by_cases h : Good l k
    · rw [if_pos h, h4.2 h]
    · rw [if_neg h]
      rcases h3 with h3 | h3
      · exact absurd (h4.1 h3) h
      · exact h3.symm
  rw [this]; exact ⟨h1, h2⟩
end Go.Proofs.YtbjkfkifkglplaaGreatDoor.Q
