import Derived.Test.YtgkcjefbagnkpaaDoorPureXD
import Derived.Test.YtgkcjefbagnkpaaDoorPValx13
import Derived.Test.YtgkcjefbagnkpaaDoorPValx12
import Derived.Test.YtgkcjefbagnkpaaDoorPValx11
import Derived.Test.YtgkcjefbagnkpaaDoorPValx9
import Derived.Test.YtgkcjefbagnkpaaDoorPValx10
import Derived.Test.YtgkcjefbagnkpaaDoorPValx7
import Derived.Test.YtgkcjefbagnkpaaDoorPValx4
import Derived.Test.YtgkcjefbagnkpaaDoorPValx5
import Derived.Test.YtgkcjefbagnkpaaDoorPureR8t
namespace Go.Proofs.YtgkcjefbagnkpaaDoor.PVal
set_option linter.unusedVariables false
set_option linter.unusedSimpArgs false
open Go Go.RowKit Go.Proofs.YtgkcjefbagnkpaaDoorW.PrintWords Go.Proofs.YtgkcjefbagnkpaaDoorW.PrintMore

theorem Ends.leaf {l : List S68} {a : Nat} (ha : a < l.length) (hp : Pc (N l a).f0 = 0) : Ends l a (a + 1) :=
  ⟨by omega, by omega, by rw [nd_succ, hp]; omega, fun j h1 h2 => by rw [show j = a by omega]; exact Int.le_refl _⟩
theorem Ends.one {l : List S68} {a e : Nat} (hp : Pc (N l a).f0 = 1) (h : Ends l (a + 1) e) : Ends l a e := by
  obtain ⟨h1, h2, h3, h4⟩ := h
  have hn := nd_succ l a
  rw [hp] at hn
  refine ⟨by omega, h2, by omega, fun j h5 h6 => ?_⟩
  rcases Nat.lt_or_ge a j with h7 | h7
  · have := h4 j h7 h6; omega
  · rw [show j = a by omega]; exact Int.le_refl _
theorem Ends.two {l : List S68} {a e1 e : Nat} (hp : Pc (N l a).f0 = 2) (h : Ends l (a + 1) e1) (h' : Ends l e1 e) : Ends l a e := by
  obtain ⟨h1, h2, h3, h4⟩ := h
  obtain ⟨g1, g2, g3, g4⟩ := h'
  have hn := nd_succ l a
  rw [hp] at hn
  refine ⟨by omega, g2, by omega, fun j h5 h6 => ?_⟩
  rcases Nat.lt_or_ge a j with h7 | h7
  · rcases Nat.lt_or_ge j e1 with h8 | h8
    · have := h4 j h7 h8; omega
    · have := g4 j h8 h6; omega
  · rw [show j = a by omega]; exact Int.le_refl _
theorem Pc_kinds {c : Int} (hc : byteOp c) (h1 : 1 ≤ c) (h2 : c ≤ 14) : (c = 1 ∨ c = 2 ∨ c = 7) ∧ Pc c = 0 ∨ (c = 3 ∨ c = 12) ∧ Pc c = 1 ∨ (c ≠ 1 ∧ c ≠ 2 ∧ c ≠ 7 ∧ c ≠ 3 ∧ c ≠ 12) ∧ Pc c = 2 :=
  op256 (p := fun c => 1 ≤ c → c ≤ 14 → ((c = 1 ∨ c = 2 ∨ c = 7) ∧ Pc c = 0 ∨ (c = 3 ∨ c = 12) ∧ Pc c = 1 ∨ (c ≠ 1 ∧ c ≠ 2 ∧ c ≠ 7 ∧ c ≠ 3 ∧ c ≠ 12) ∧ Pc c = 2)) (by decide +kernel) hc h1 h2
/-! ### Trees -/
inductive X where
  | leaf (o n : Int)
  | one (o : Int) (x : X)
  | two (o : Int) (x y : X)
def X.op : X → Int
  | .leaf o _ => o
  | .one o _ => o
  | .two o _ _ => o
def enc : X → List S68
  | .leaf o n => [⟨o, n⟩]
  | .one o x => ⟨o, 0⟩ :: enc x
  | .two o x y => ⟨o, 0⟩ :: (enc x ++ enc y)
def isTwo (o : Int) : Prop := o = 4 ∨ o = 5 ∨ o = 6 ∨ o = 8 ∨ o = 9 ∨ o = 10 ∨ o = 11 ∨ o = 13 ∨ o = 14
/-- The tree's nodes may be so, and its parts are of the kinds that they must be. -/
def X.ok (k : Int) : X → Prop
  | .leaf o n => (o = 1 ∧ 0 ≤ n ∧ n ≤ 1048576) ∨ (o = 2 ∧ 0 ≤ n ∧ n < k) ∨ (o = 7 ∧ n = 0)
  | .one o x => (o = 3 ∨ o = 12) ∧ Tr x.op = Takes o ∧ x.ok k
  | .two o x y => isTwo o ∧ Tr x.op = Takes o ∧ Tr y.op = Takes o ∧ x.ok k ∧ y.ok k
/-- In the list, from a place on, up to another, lies the tree. -/
def At (l : List S68) : X → Nat → Nat → Prop
  | .leaf o n, a, e => a < l.length ∧ N l a = ⟨o, n⟩ ∧ e = a + 1
  | .one o x, a, e => a < l.length ∧ N l a = ⟨o, 0⟩ ∧ At l x (a + 1) e
  | .two o x y, a, e => a < l.length ∧ N l a = ⟨o, 0⟩ ∧ ∃ b, At l x (a + 1) b ∧ At l y b e
theorem At.lt {l : List S68} : ∀ {x : X} {a e : Nat}, At l x a e → a < l.length ∧ a < e ∧ e ≤ l.length ∧ (N l a).f0 = x.op
  | .leaf o n, a, e, h => ⟨h.1, by have := h.2.2; omega, by have := h.2.2; have := h.1; omega, by rw [h.2.1]; rfl⟩
  | .one o x, a, e, h => by
    have := At.lt h.2.2
    exact ⟨h.1, by omega, by omega, by rw [h.2.1]; rfl⟩
  | .two o x y, a, e, h => by
    obtain ⟨b, h1, h2⟩ := h.2.2
    have := At.lt h1
    have := At.lt h2
    exact ⟨h.1, by omega, by omega, by rw [h.2.1]; rfl⟩
theorem X.op_range {k : Int} : ∀ {x : X}, x.ok k → 1 ≤ x.op ∧ x.op ≤ 14
  | .leaf o n, h => by simp only [X.ok] at h; simp only [X.op]; omega
  | .one o x, h => by simp only [X.ok] at h; simp only [X.op]; omega
  | .two o x y, h => by simp only [X.ok, isTwo] at h; simp only [X.op]; omega
theorem Pc_two {o : Int} (h : isTwo o) : Pc o = 2 := by
  unfold isTwo at h
  rcases h with rfl | rfl | rfl | rfl | rfl | rfl | rfl | rfl | rfl <;> decide +kernel
theorem At.ends {l : List S68} {k : Int} : ∀ {x : X} {a e : Nat}, x.ok k → At l x a e → Ends l a e
  | .leaf o n, a, e, ho, h => by
    obtain ⟨h1, h2, rfl⟩ := h
    refine Ends.leaf h1 ?_
    rw [h2]
    simp only [X.ok] at ho
    show Pc o = 0
    rcases ho with h | h | h <;> (rw [h.1]; decide +kernel)
  | .one o x, a, e, ho, h => by
    obtain ⟨h1, h2, h3⟩ := h
    simp only [X.ok] at ho
    refine Ends.one ?_ (At.ends ho.2.2 h3)
    rw [h2]
    rcases ho.1 with h | h <;> (rw [h]; decide +kernel)
  | .two o x y, a, e, ho, h => by
    obtain ⟨h1, h2, b, h3, h4⟩ := h
    simp only [X.ok] at ho
    exact Ends.two (by rw [h2]; exact Pc_two ho.1) (At.ends ho.2.2.2.1 h3) (At.ends ho.2.2.2.2 h4)
theorem drop_N {l : List S68} {a : Nat} (ha : a < l.length) : l.drop a = N l a :: l.drop (a + 1) := by
  rw [List.drop_eq_getElem_cons ha]
  congr 1
  unfold N rd_T68
  simp [List.getD, ha]
theorem At.drop {l : List S68} : ∀ {x : X} {a e : Nat}, At l x a e → l.drop a = enc x ++ l.drop e
  | .leaf o n, a, e, h => by
    obtain ⟨h1, h2, rfl⟩ := h
    rw [drop_N h1, h2]; rfl
  | .one o x, a, e, h => by
    obtain ⟨h1, h2, h3⟩ := h
    rw [drop_N h1, h2, At.drop h3]; rfl
  | .two o x y, a, e, h => by
    obtain ⟨h1, h2, b, h3, h4⟩ := h
    rw [drop_N h1, h2, At.drop h3, At.drop h4]
    simp [enc]
theorem at_of_drop {l : List S68} : ∀ (x : X) (a : Nat) (r : List S68), l.drop a = enc x ++ r → At l x a (a + (enc x).length)
  | .leaf o n, a, r, h => by
    have ha : a < l.length := by
      rcases Nat.lt_or_ge a l.length with h1 | h1
      · exact h1
      · rw [List.drop_eq_nil_of_le h1] at h; simp [enc] at h
    rw [drop_N ha] at h
    exact ⟨ha, (List.cons.inj h).1, rfl⟩
  | .one o x, a, r, h => by
    have ha : a < l.length := by
      rcases Nat.lt_or_ge a l.length with h1 | h1
      · exact h1
      · rw [List.drop_eq_nil_of_le h1] at h; simp [enc] at h
    rw [drop_N ha] at h
    have h2 := List.cons.inj h
    refine ⟨ha, h2.1, ?_⟩
    have := at_of_drop x (a + 1) r h2.2
    rw [show a + (enc (X.one o x)).length = a + 1 + (enc x).length by simp [enc]; omega]
    exact this
  | .two o x y, a, r, h => by
    have ha : a < l.length := by
      rcases Nat.lt_or_ge a l.length with h1 | h1
      · exact h1
      · rw [List.drop_eq_nil_of_le h1] at h; simp [enc] at h
    rw [drop_N ha] at h
    have h2 := List.cons.inj h
    have e1 : l.drop (a + 1) = enc x ++ (enc y ++ r) := by rw [h2.2]; simp
    have h3 := at_of_drop x (a + 1) _ e1
    have e2 : l.drop (a + 1 + (enc x).length) = enc y ++ r := by rw [← List.drop_drop, e1]; simp
    have h4 := at_of_drop y _ r e2
    refine ⟨ha, h2.1, _, h3, ?_⟩
    rw [show a + (enc (X.two o x y)).length = a + 1 + (enc x).length + (enc y).length by simp [enc]; omega]
    exact h4
/-- A right list is a tree. -/
theorem tree_exists {l : List S68} {k : Int} (G : Good l k) : ∀ n a : Nat, l.length - a ≤ n → a < l.length → ∃ e x, At l x a e ∧ x.ok k := by
  intro n
  induction n with
  | zero => intro a h1 h2; omega
  | succ n ih =>
    intro a h1 ha
    have hop := G.tree.ops _ (N_mem ha)
    have hb := (G.node a ha).1
    have hk := (G.node a ha).2
    have hr : 1 ≤ (N l a).f0 ∧ (N l a).f0 ≤ 14 := by unfold bad at hb; omega
    have hpos := G.tree.pos ha
    have hz := G.tree.zero
    have hnd := nd_succ l a
    rcases Pc_kinds hop hr.1 hr.2 with ⟨hc, hp⟩ | ⟨hc, hp⟩ | ⟨hc, hp⟩
    · refine ⟨a + 1, .leaf (N l a).f0 (N l a).f1, ⟨ha, rfl, rfl⟩, ?_⟩
      simp only [X.ok]
      unfold bad at hb
      omega
    · have ha1 : a + 1 < l.length := by
        rcases Nat.lt_or_ge (a + 1) l.length with h | h
        · exact h
        · rw [show a + 1 = l.length by omega] at hnd; omega
      obtain ⟨e, x, h3, h4⟩ := ih (a + 1) (by omega) ha1
      rw [hp] at hk
      have hk1 := hk.1
      have h0 : (N l a).f1 = 0 := by unfold bad at hb; omega
      refine ⟨e, .one (N l a).f0 x, ⟨ha, by rw [← h0], h3⟩, ?_⟩
      simp only [X.ok]
      exact ⟨hc, by rw [← h3.lt.2.2.2]; exact hk1, h4⟩
    · have ha1 : a + 1 < l.length := by
        rcases Nat.lt_or_ge (a + 1) l.length with h | h
        · exact h
        · rw [show a + 1 = l.length by omega] at hnd; omega
      obtain ⟨e, x, h3, h4⟩ := ih (a + 1) (by omega) ha1
      have hE := h3.ends h4
      rw [hp] at hk
      obtain ⟨hk1, hk2⟩ := hk
      have hk2 := hk2 e hE
      have he : e < l.length := by
        rcases Nat.lt_or_ge e l.length with h | h
        · exact h
        · have h5 := hE.2.1
          have h6 := hE.2.2.1
          rw [show e = l.length by omega] at h6
          omega
      obtain ⟨e2, y, g3, g4⟩ := ih e (by have := hE.1; omega) he
      have h0 : (N l a).f1 = 0 := by unfold bad at hb; omega
      refine ⟨e2, .two (N l a).f0 x y, ⟨ha, by rw [← h0], e, h3, g3⟩, ?_⟩
      simp only [X.ok]
      refine ⟨?_, by rw [← h3.lt.2.2.2]; exact hk1, by rw [← g3.lt.2.2.2]; exact hk2.1, h4, g4⟩
      unfold isTwo
      omega
theorem good_tree {l : List S68} {k : Int} (G : Good l k) : ∃ x, l = enc x ∧ x.ok k ∧ At l x 0 l.length := by
  obtain ⟨e, x, h1, h2⟩ := tree_exists G l.length 0 (by omega) G.pos
  have he : e = l.length := (h1.ends h2).uniq G.tree.whole
  subst he
  have := h1.drop
  simp at this
  exact ⟨x, this, h2, h1⟩
theorem at_nodes {l : List S68} {k : Int} : ∀ {x : X} {a e : Nat}, x.ok k → At l x a e → ∀ j, a ≤ j → j < e → NodeOk l k j
  | .leaf o n, a, e, ho, h, j, h1, h2 => by
    obtain ⟨g1, g2, rfl⟩ := h
    obtain rfl : j = a := by omega
    simp only [X.ok] at ho
    unfold NodeOk
    rw [g2]
    refine ⟨by unfold bad; simp only; omega, ?_⟩
    rcases ho with h | h | h <;> (simp only [h.1]; exact trivial)
  | .one o x, a, e, ho, h, j, h1, h2 => by
    obtain ⟨g1, g2, g3⟩ := h
    simp only [X.ok] at ho
    rcases Nat.lt_or_ge a j with h3 | h3
    · exact at_nodes ho.2.2 g3 j h3 h2
    · obtain rfl : j = a := by omega
      unfold NodeOk
      rw [g2]
      refine ⟨by unfold bad; simp only; omega, ?_⟩
      have hp : Pc o = 1 := by rcases ho.1 with h | h <;> (rw [h]; decide +kernel)
      simp only [hp]
      exact ⟨by rw [g3.lt.2.2.2]; exact ho.2.1, fun _ _ => trivial⟩
  | .two o x y, a, e, ho, h, j, h1, h2 => by
    obtain ⟨g1, g2, b, g3, g4⟩ := h
    simp only [X.ok] at ho
    rcases Nat.lt_or_ge a j with h3 | h3
    · rcases Nat.lt_or_ge j b with h4 | h4
      · exact at_nodes ho.2.2.2.1 g3 j h3 h4
      · exact at_nodes ho.2.2.2.2 g4 j h4 h2
    · obtain rfl : j = a := by omega
      unfold NodeOk
      rw [g2]
      have hi := ho.1
      refine ⟨by unfold isTwo at hi; unfold bad; simp only; omega, ?_⟩
      simp only [Pc_two ho.1]
      exact ⟨by rw [g3.lt.2.2.2]; exact ho.2.1, fun e' he' => ⟨by rw [← (g3.ends ho.2.2.2.1).uniq he', g4.lt.2.2.2]; exact ho.2.2.1, fun _ _ => trivial⟩⟩
/-- A tree's list is right. -/
theorem tree_good {k : Int} {x : X} (ho : x.ok k) (hl : (enc x).length ≤ 64) : Good (enc x) k := by
  have h1 := at_of_drop (l := enc x) x 0 [] (by simp)
  rw [Nat.zero_add] at h1
  have hn := fun j hj => at_nodes ho h1 j (Nat.zero_le _) hj
  refine ⟨⟨by omega, fun z hz => ?_, h1.ends ho⟩, hl, h1.lt.1, hn⟩
  obtain ⟨j, hj, rfl⟩ := List.getElem_of_mem hz
  have h2 := (hn j hj).1
  have h3 : N (enc x) j = (enc x)[j] := by unfold N rd_T68; simp [List.getD, hj]
  rw [h3] at h2
  unfold bad at h2
  unfold byteOp
  omega
end Go.Proofs.YtgkcjefbagnkpaaDoor.PVal
