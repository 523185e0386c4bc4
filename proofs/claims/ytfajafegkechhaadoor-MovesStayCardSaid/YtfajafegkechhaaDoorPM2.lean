/-
  All moves of a network: each that has sides stands there once, no other.
-/
import Derived.Test.YtfajafegkechhaaDoorPM1
set_option linter.unusedVariables false
set_option linter.unusedSimpArgs false
set_option maxRecDepth 100000
namespace Go.Proofs.YtfajafegkechhaaDoor.Q
open Go Go.Den Go.RowKit Go.Proofs
noncomputable section
/-- The edge at a place. -/
def eg (d : List S49) (i k : Int) : Option S53 := if 0 ≤ i ∧ i < (d.length : Int) ∧ 0 ≤ k ∧ k < ((rd_T49 d i).f2.length : Int) then some (rd_T53 (rd_T49 d i).f2 k) else none
theorem eg_some {d : List S49} {i k : Int} {x : S53} : eg d i k = some x ↔ (0 ≤ i ∧ i < (d.length : Int) ∧ 0 ≤ k ∧ k < ((rd_T49 d i).f2.length : Int)) ∧ x = rd_T53 (rd_T49 d i).f2 k := by
  unfold eg
  split
  · next h => exact ⟨fun e => ⟨h, (Option.some.inj e).symm⟩, fun e => by rw [e.2]⟩
  · next h => exact ⟨fun e => (by cases e), fun e => absurd e.1 h⟩
theorem eg_no {d : List S49} {i k : Int} (h : ¬ (0 ≤ i ∧ i < (d.length : Int) ∧ 0 ≤ k ∧ k < ((rd_T49 d i).f2.length : Int))) : eg d i k = none := by unfold eg; rw [if_neg h]
theorem edge_eq (a b c) (d : List S49) (i k : Int) : (∃ x : S53, eg d i k = some x ∧ moves_edge.f a b c d i k = some (x.f0, x.f1, x.f2, x.f3, x.f4, x.f5, x.f6, true)) ∨ (eg d i k = none ∧ moves_edge.f a b c d i k = some (0, 0, [], [], 0, false, [], false)) := by
  unfold moves_edge.f
  by_cases h1 : i < 0
  · rw [if_pos h1]; exact .inr ⟨eg_no (by omega), rfl⟩
  by_cases h2 : i ≥ (d.length : Int)
  · rw [if_neg h1, if_pos h2]; exact .inr ⟨eg_no (by omega), rfl⟩
  by_cases h3 : k < 0
  · rw [if_neg h1, if_neg h2, if_pos h3]; exact .inr ⟨eg_no (by omega), rfl⟩
  rw [if_neg h1, if_neg h2, if_neg h3, if_pos (by omega), if_pos (by omega)]
  by_cases h4 : k ≥ ((rd_T49 d i).f2.length : Int)
  · rw [if_pos h4]; exact .inr ⟨eg_no (by omega), rfl⟩
  · rw [if_neg h4, if_pos (by omega), if_pos (by omega), if_pos (by omega), if_pos (by omega)]
    exact .inl ⟨_, eg_some.2 ⟨⟨by omega, by omega, by omega, by omega⟩, rfl⟩, rfl⟩
/-- It is a move. -/
def Sd (d : List S49) (z : S31) : Prop := ∃ x : S53, eg d z.f0 z.f1 = some x ∧ ((z.f2 = 0 ∧ x.f4 = 0 ∧ z.f3 = 0) ∨ (z.f2 ≠ 0 ∧ ∃ y : S53, eg d (z.f2 - 1) z.f3 = some y ∧ z.f2 - 1 ≠ z.f0 ∧ x.f4 ≠ 0 ∧ x.f4 = y.f4 ∧ x.f5 = true ∧ y.f5 = false))
/-- Those who move. -/
def Sl (d : List S49) (z : S31) (l : List S70) : Prop := ∃ x : S53, eg d z.f0 z.f1 = some x ∧ ((z.f2 = 0 ∧ l = [(z.f0, x)]) ∨ (z.f2 ≠ 0 ∧ z.f2 - 1 ≠ z.f0 ∧ ∃ y : S53, eg d (z.f2 - 1) z.f3 = some y ∧ l = [(z.f0, x), (z.f2 - 1, y)]))
def rng (n : Int) : Prop := -9223372036854775808 ≤ n ∧ n ≤ 9223372036854775807
theorem sides_eq (a b c) {d : List S49} (hd : d.length ≤ cap) (z : S31) (hz : rng z.f2) : (Sd d z ∧ ∃ l, moves_sides.g a b c d z.f0 z.f1 z.f2 z.f3 = some (l, true) ∧ Sl d z l) ∨ (¬ Sd d z ∧ ∃ l, moves_sides.g a b c d z.f0 z.f1 z.f2 z.f3 = some (l, false)) := by
  have hc := cap_is
  obtain ⟨z0, z1, z2, z3⟩ := z
  dsimp only [S31.f0, S31.f1, S31.f2, S31.f3] at hz ⊢
  obtain ⟨hz1, hz2⟩ := hz
  unfold moves_sides.g
  rcases edge_eq a b c d z0 z1 with ⟨x, hx, he⟩ | ⟨hx, he⟩
  · rw [he, Option.bind_some]
    have nS : ∀ q : Prop, (¬ ((z2 = 0 ∧ x.f4 = 0 ∧ z3 = 0) ∨ (z2 ≠ 0 ∧ ∃ y : S53, eg d (z2 - 1) z3 = some y ∧ z2 - 1 ≠ z0 ∧ x.f4 ≠ 0 ∧ x.f4 = y.f4 ∧ x.f5 = true ∧ y.f5 = false))) → ¬ Sd d (z0, z1, z2, z3) := fun _ h ⟨x', hx', h'⟩ => by
      have e : some x' = some x := by rw [← hx', ← hx]
      cases e
      exact h h'
    rw [if_neg (show ¬ ((!true) = true) by decide)]
    by_cases h2 : z2 = 0
    · rw [if_pos h2]
      by_cases h4 : x.f4 = 0
      · rw [if_pos h4]
        by_cases h3 : z3 = 0
        · rw [decide_eq_true h3]
          exact .inl ⟨⟨x, hx, .inl ⟨h2, h4, h3⟩⟩, _, rfl, x, hx, .inl ⟨h2, rfl⟩⟩
        · rw [decide_eq_false h3]
          exact .inr ⟨nS True (by rintro (h | h); exact h3 h.2.2; exact h.1 h2), _, rfl⟩
      · rw [if_neg h4]
        exact .inr ⟨nS True (by rintro (h | h); exact h4 h.2.1; exact h.1 h2), _, rfl⟩
    · rw [if_neg h2]
      have hE : eg d (w64 (z2 - 1)) z3 = eg d (z2 - 1) z3 := by
        by_cases h : z2 = -9223372036854775808
        · subst h
          have e : w64 (-9223372036854775808 - 1) = 9223372036854775807 := by show RowKit.wrap64 _ = _; unfold RowKit.wrap64; omega
          rw [e, eg_no (by omega), eg_no (by omega)]
        · rw [ws (n := z2 - 1) (by omega) (by omega)]
      have hW : ∀ y, eg d (z2 - 1) z3 = some y → w64 (z2 - 1) = z2 - 1 := fun y hy => by
        have := (eg_some.1 hy).1
        exact ws (by omega) (by omega)
      rcases edge_eq a b c d (w64 (z2 - 1)) z3 with ⟨y, hy, he2⟩ | ⟨hy, he2⟩
      · rw [hE] at hy
        have hw := hW y hy
        rw [he2, Option.bind_some, if_neg (show ¬ ((!true) = true) by decide), hw]
        have nY : (¬ (z2 - 1 ≠ z0 ∧ x.f4 ≠ 0 ∧ x.f4 = y.f4 ∧ x.f5 = true ∧ y.f5 = false)) → ¬ Sd d (z0, z1, z2, z3) := fun h => nS True (by
          rintro (h' | ⟨_, y', hy', h'⟩)
          · exact h2 h'.1
          · have e : some y' = some y := by rw [← hy', ← hy]
            cases e
            exact h h')
        by_cases g1 : z2 - 1 = z0
        · rw [if_pos g1]; exact .inr ⟨nY (fun h => h.1 g1), _, rfl⟩
        rw [if_neg g1]
        by_cases g2 : x.f4 = 0
        · rw [if_pos g2]; exact .inr ⟨nY (fun h => h.2.1 g2), _, rfl⟩
        rw [if_neg g2]
        by_cases g3 : x.f4 = y.f4
        · rw [if_pos g3]
          cases g4 : x.f5 with
          | false => rw [if_pos (by rfl)]; exact .inr ⟨nY (fun h => by rw [g4] at h; exact absurd h.2.2.2.1 (by decide)), _, rfl⟩
          | true =>
            rw [if_neg (show ¬ ((!true) = true) by decide)]
            cases g5 : y.f5 with
            | true => rw [if_pos rfl]; exact .inr ⟨nY (fun h => by rw [g5] at h; exact absurd h.2.2.2.2 (by decide)), _, rfl⟩
            | false =>
              rw [if_neg (show ¬ (false = true) by decide)]
              refine .inl ⟨⟨x, hx, .inr ⟨h2, y, hy, g1, g2, g3, g4, g5⟩⟩, _, rfl, x, hx, .inr ⟨h2, g1, y, hy, ?_⟩⟩
              rw [← g4, ← g5]
        · rw [if_neg g3]; exact .inr ⟨nY (fun h => g3 h.2.2.1), _, rfl⟩
      · rw [hE] at hy
        rw [he2, Option.bind_some, if_pos (by rfl)]
        exact .inr ⟨nS True (by
          rintro (h | ⟨_, y, h, _⟩)
          · exact h2 h.1
          · have h : eg d (z2 - 1) z3 = some y := h
            rw [hy] at h; cases h), _, rfl⟩
  · rw [he, Option.bind_some, if_pos (by rfl)]
    exact .inr ⟨fun ⟨x, h, _⟩ => (by
      have h : eg d z0 z1 = some x := h
      rw [hx] at h; cases h), _, rfl⟩
/-! How often -/
def cnt (z : S31) : List S31 → Int
  | [] => 0
  | y :: t => (if y = z then 1 else 0) + cnt z t
theorem cnt_app (z : S31) : ∀ x y : List S31, cnt z (x ++ y) = cnt z x + cnt z y
  | [], y => by rw [List.nil_append, cnt]; omega
  | a :: x, y => by rw [List.cons_append, cnt, cnt, cnt_app z x y]; omega
theorem cnt_range (z : S31) : ∀ l : List S31, 0 ≤ cnt z l ∧ cnt z l ≤ (l.length : Int)
  | [] => by rw [cnt]; simp
  | y :: t => by
    have := cnt_range z t
    rw [cnt, List.length_cons]
    split <;> omega
theorem cnt_pos {z : S31} : ∀ {l : List S31}, z ∈ l → 1 ≤ cnt z l
  | y :: t, h => by
    have h1 := (cnt_range z t).1
    rw [cnt]
    rcases List.mem_cons.1 h with rfl | h
    · rw [if_pos rfl]; omega
    · have := cnt_pos h
      split <;> omega
theorem cnt_no {z : S31} : ∀ {l : List S31}, z ∉ l → cnt z l = 0
  | [], _ => rfl
  | y :: t, h => by
    rw [List.mem_cons, not_or] at h
    rw [cnt, if_neg (fun e => h.1 e.symm), cnt_no h.2]; rfl
theorem has0 (z : S31) : ∀ (l : List S31) (x : Int), 0 ≤ x → x + (l.length : Int) ≤ 9223372036854775807 → gnomonlaw14_has.L0 z.f0 z.f1 z.f2 z.f3 l x = some (x + cnt z l)
  | [], x, _, _ => by rw [gnomonlaw14_has.L0, cnt, Int.add_zero]
  | y :: t, x, h1, h2 => by
    rw [List.length_cons] at h2
    rw [gnomonlaw14_has.L0, cnt]
    by_cases h : y = z
    · rw [if_pos (show y = (⟨z.f0, z.f1, z.f2, z.f3⟩ : S31) from h), if_pos h, ws (n := x + 1) (by omega) (by omega), has0 z t _ (by omega) (by omega)]
      congr 1; omega
    · rw [if_neg (show ¬ y = (⟨z.f0, z.f1, z.f2, z.f3⟩ : S31) from h), if_neg h, has0 z t _ h1 (by omega)]
      congr 1; omega
theorem has_eq (z : S31) {l : List S31} (h : l.length ≤ cap) : gnomonlaw14_has.g l z.f0 z.f1 z.f2 z.f3 = some (cnt z l) := by
  have := cap_is
  rw [gnomonlaw14_has.g, if_pos (show l.length ≤ 9223372036854775807 by omega), has0 z l 0 (by omega) (by omega), Int.zero_add]
/-! All -/
/-- The list holds just those, each once. -/
def Once (C : S31 → Prop) (X : List S31) : Prop := ∀ z, (C z → cnt z X = 1) ∧ (¬ C z → cnt z X = 0)
theorem Once.nil {C : S31 → Prop} (h : ∀ z, ¬ C z) : Once C [] := fun z => ⟨fun hc => absurd hc (h z), fun _ => rfl⟩
theorem Once.app {C D E : S31 → Prop} {X Y : List S31} (hX : Once C X) (hY : Once D Y) (h1 : ∀ z, E z ↔ C z ∨ D z) (h2 : ∀ z, C z → ¬ D z) : Once E (X ++ Y) := fun z => by
  rw [cnt_app]
  refine ⟨fun he => ?_, fun he => ?_⟩
  · rcases (h1 z).1 he with h | h
    · rw [(hX z).1 h, (hY z).2 (h2 z h)]; rfl
    · rw [(hX z).2 (fun hc => h2 z hc h), (hY z).1 h]; rfl
  · rw [(hX z).2 fun h => he ((h1 z).2 (.inl h)), (hY z).2 fun h => he ((h1 z).2 (.inr h))]; rfl
theorem Once.one (y : S31) : Once (fun z => z = y) [y] := fun z => by
  refine ⟨fun h => ?_, fun h => ?_⟩
  · rw [cnt, cnt, if_pos h.symm]; rfl
  · rw [cnt, cnt, if_neg fun e => h e.symm]; rfl
theorem Once.congr {C D : S31 → Prop} {X : List S31} (h : Once C X) (e : ∀ z, C z ↔ D z) : Once D X := fun z => ⟨fun hd => (h z).1 ((e z).2 hd), fun hd => (h z).2 fun hc => hd ((e z).1 hc)⟩
theorem S31.ext {z : S31} {a b c d : Int} (h0 : z.f0 = a) (h1 : z.f1 = b) (h2 : z.f2 = c) (h3 : z.f3 = d) : z = (a, b, c, d) := by
  obtain ⟨z0, z1, z2, z3⟩ := z
  dsimp only [S31.f0, S31.f1, S31.f2, S31.f3] at h0 h1 h2 h3
  rw [h0, h1, h2, h3]
theorem all3 {a b c} {d : List S49} (hd : d.length ≤ cap) {i k : Int} {j : Nat} (hj : j ≤ cap) (K : List S31 → Option (List S31)) : ∀ (m p : Nat) (x : List S31), x.length + m ≤ 4398046511104 → ∃ X : List S31, moves_All.L3 i k (j : Int) a b c d K m p x = K (x ++ X) ∧ X.length ≤ m ∧ Once (fun z => z.f0 = i ∧ z.f1 = k ∧ z.f2 = (j : Int) + 1 ∧ (p : Int) ≤ z.f3 ∧ z.f3 < (p : Int) + m ∧ Sd d z) X
  | 0, p, x, _ => ⟨[], by rw [moves_All.L3, List.append_nil], by simp, Once.nil fun z h => by omega⟩
  | m + 1, p, x, hx => by
    have hc := cap_is
    have hw : w64 ((j : Int) + 1) = (j : Int) + 1 := ws (by omega) (by omega)
    rw [moves_All.L3, hw]
    rcases sides_eq a b c hd (i, k, (j : Int) + 1, (p : Int)) ⟨by dsimp only [S31.f0, S31.f1, S31.f2, S31.f3]; omega, by dsimp only [S31.f0, S31.f1, S31.f2, S31.f3]; omega⟩ with ⟨hS, l, hl, _⟩ | ⟨hS, l, hl⟩
    · obtain ⟨X, h1, h2, h3⟩ := all3 (a := a) (b := b) (c := c) hd (i := i) (k := k) hj K m (p + 1) (x ++ [(i, k, (j : Int) + 1, (p : Int))]) (by simp; omega)
      refine ⟨[(i, k, (j : Int) + 1, (p : Int))] ++ X, ?_, by simp; omega, Once.app (Once.one _) h3 (fun z => ?_) fun z hz => ?_⟩
      · dsimp only [S31.f0, S31.f1, S31.f2, S31.f3] at hl
        rw [hl, Option.bind_some, if_pos rfl, if_pos (by omega), h1, List.append_assoc]
      · constructor
        · rintro ⟨g0, g1, g2, g3, g4, g5⟩
          by_cases e : z.f3 = (p : Int)
          · exact .inl (S31.ext g0 g1 g2 e)
          · exact .inr ⟨g0, g1, g2, by omega, by omega, g5⟩
        · rintro (rfl | ⟨g0, g1, g2, g3, g4, g5⟩)
          · exact ⟨rfl, rfl, rfl, by dsimp only [S31.f0, S31.f1, S31.f2, S31.f3]; omega, by dsimp only [S31.f0, S31.f1, S31.f2, S31.f3]; omega, hS⟩
          · exact ⟨g0, g1, g2, by omega, by omega, g5⟩
      · subst hz
        rintro ⟨_, _, _, g3, _⟩
        dsimp only [S31.f0, S31.f1, S31.f2, S31.f3] at g3
        omega
    · obtain ⟨X, h1, h2, h3⟩ := all3 (a := a) (b := b) (c := c) hd (i := i) (k := k) hj K m (p + 1) x (by omega)
      refine ⟨X, ?_, by omega, h3.congr fun z => ?_⟩
      · dsimp only [S31.f0, S31.f1, S31.f2, S31.f3] at hl
        rw [hl, Option.bind_some, if_neg (show ¬ (false = true) by decide), h1]
      · constructor
        · rintro ⟨g0, g1, g2, g3, g4, g5⟩
          exact ⟨g0, g1, g2, by omega, by omega, g5⟩
        · rintro ⟨g0, g1, g2, g3, g4, g5⟩
          by_cases e : z.f3 = (p : Int)
          · rw [S31.ext g0 g1 g2 e] at g5
            exact absurd g5 hS
          · exact ⟨g0, g1, g2, by omega, by omega, g5⟩
theorem all2 {a b c} {d : List S49} (hd : d.length ≤ 8) (hE : ∀ x ∈ d, x.f2.length ≤ 256) {i k : Int} (K : List S31 → Option (List S31)) : ∀ (l : List S49) (j : Nat) (x : List S31), d.drop j = l → x.length + 256 * l.length ≤ 4398046511104 → ∃ X : List S31, moves_All.L2 i k a b c d K l j x = K (x ++ X) ∧ X.length ≤ 256 * l.length ∧ Once (fun z => z.f0 = i ∧ z.f1 = k ∧ (j : Int) + 1 ≤ z.f2 ∧ Sd d z) X
  | [], j, x, hl, _ => ⟨[], by rw [moves_All.L2, List.append_nil], by simp, Once.nil fun z ⟨_, _, g2, x, _, g⟩ => by
      have hn := drop_nil hl
      rcases g with g | ⟨_, y, g, _⟩
      · omega
      · have := (eg_some.1 g).1; omega⟩
  | y :: t, j, x, hl, hx => by
    have hc := cap_is
    obtain ⟨q1, q2, q3⟩ := drop_cons hl
    have hy : y.f2.length ≤ 256 := hE y (List.mem_of_getElem? q2)
    have er : rd_T49 d (j : Int) = y := rdT_head (t := T49) hl
    rw [List.length_cons] at hx
    obtain ⟨X, h1, h2, h3⟩ := all3 (a := a) (b := b) (c := c) (d := d) (by omega) (i := i) (k := k) (j := j) (by omega) (fun x' => moves_All.L2 i k a b c d K t (j + 1) x') y.f2.length 0 x (by omega)
    obtain ⟨Y, g1, g2, g3⟩ := all2 (a := a) (b := b) (c := c) hd hE (i := i) (k := k) K t (j + 1) (x ++ X) q3 (by rw [List.length_append]; omega)
    refine ⟨X ++ Y, ?_, by rw [List.length_append, List.length_cons]; omega, Once.app h3 g3 (fun z => ?_) fun z hz => ?_⟩
    · rw [moves_All.L2, if_pos (show y.f2.length ≤ 9223372036854775807 by omega), h1, g1, List.append_assoc]
    · constructor
      · rintro ⟨g0, g1, g2, g5⟩
        by_cases e : z.f2 = (j : Int) + 1
        · left
          refine ⟨g0, g1, e, ?_, ?_, g5⟩ <;>
          · obtain ⟨x, _, g | ⟨_, y', g, _⟩⟩ := g5
            · omega
            · have := (eg_some.1 g).1
              rw [e, show (j : Int) + 1 - 1 = (j : Int) by omega, er] at this
              omega
        · exact .inr ⟨g0, g1, by omega, g5⟩
      · rintro (⟨g0, g1, g2, _, _, g5⟩ | ⟨g0, g1, g2, g5⟩)
        · exact ⟨g0, g1, by omega, g5⟩
        · exact ⟨g0, g1, by omega, g5⟩
    · intro h
      have := hz.2.2.1
      have := h.2.2.1
      omega
theorem all1 {a b c} {d : List S49} (hd : d.length ≤ 8) (hE : ∀ x ∈ d, x.f2.length ≤ 256) {i : Nat} {A : S49} (hA : rd_T49 d (i : Int) = A) (hi : i < d.length) (K : List S31 → Option (List S31)) : ∀ (l : List S53) (k : Nat) (x : List S31), A.f2.drop k = l → x.length + 2048 * l.length ≤ 4398046511104 → ∃ X : List S31, moves_All.L1 (i : Int) a b c d K l k x = K (x ++ X) ∧ X.length ≤ 2048 * l.length ∧ Once (fun z => z.f0 = (i : Int) ∧ (k : Int) ≤ z.f1 ∧ Sd d z) X
  | [], k, x, hl, _ => ⟨[], by rw [moves_All.L1, List.append_nil], by simp, Once.nil fun z ⟨g0, g1, x, g, _⟩ => by
      have hn := drop_nil hl
      have := (eg_some.1 g).1
      rw [g0, hA] at this
      omega⟩
  | e :: t, k, x, hl, hx => by
    have hc := cap_is
    obtain ⟨q1, q2, q3⟩ := drop_cons hl
    have er : rd_T53 A.f2 (k : Int) = e := rdT_head (t := T53) hl
    have hg : eg d (i : Int) (k : Int) = some e := eg_some.2 ⟨⟨by omega, by omega, by omega, by rw [hA]; omega⟩, by rw [hA, er]⟩
    have at_ : ∀ {z : S31} {y : S53}, z.f0 = (i : Int) → z.f1 = (k : Int) → eg d z.f0 z.f1 = some y → y = e := fun h0 h1 h => by
      rw [h0, h1, hg] at h
      exact (Option.some.inj h).symm
    rw [List.length_cons] at hx
    have next : ∀ (X : List S31), X.length ≤ 2048 → Once (fun z => z.f0 = (i : Int) ∧ z.f1 = (k : Int) ∧ Sd d z) X → moves_All.L1 (i : Int) a b c d K (e :: t) k x = moves_All.L1 (i : Int) a b c d K t (k + 1) (x ++ X) →
        ∃ X : List S31, moves_All.L1 (i : Int) a b c d K (e :: t) k x = K (x ++ X) ∧ X.length ≤ 2048 * (e :: t).length ∧ Once (fun z => z.f0 = (i : Int) ∧ (k : Int) ≤ z.f1 ∧ Sd d z) X := fun X hX hO hE' => by
      obtain ⟨Y, g1, g2, g3⟩ := all1 (a := a) (b := b) (c := c) hd hE hA hi K t (k + 1) (x ++ X) q3 (by rw [List.length_append]; omega)
      refine ⟨X ++ Y, ?_, by rw [List.length_append, List.length_cons]; omega, Once.app hO g3 (fun z => ?_) fun z hz => ?_⟩
      · rw [hE', g1, List.append_assoc]
      · constructor
        · rintro ⟨g0, g1, g5⟩
          by_cases e : z.f1 = (k : Int)
          · exact .inl ⟨g0, e, g5⟩
          · exact .inr ⟨g0, by omega, g5⟩
        · rintro (⟨g0, g1, g5⟩ | ⟨g0, g1, g5⟩)
          · exact ⟨g0, by omega, g5⟩
          · exact ⟨g0, by omega, g5⟩
      · intro h
        have := hz.2.1
        have := h.2.1
        omega
    by_cases h4 : e.f4 = 0
    · refine next [((i : Int), (k : Int), 0, 0)] (by simp) ((Once.one _).congr fun z => ?_) (by rw [moves_All.L1, if_pos h4, if_pos (by omega)])
      constructor
      · rintro rfl
        exact ⟨rfl, rfl, e, hg, .inl ⟨rfl, h4, rfl⟩⟩
      · rintro ⟨g0, g1, y, hy, g⟩
        obtain rfl := at_ g0 g1 hy
        rcases g with g | ⟨_, _, _, _, g, _⟩
        · exact S31.ext g0 g1 g.1 g.2.2
        · exact absurd h4 g
    · cases h5 : e.f5 with
      | true =>
        obtain ⟨X, g1, g2, g3⟩ := all2 (a := a) (b := b) (c := c) hd hE (i := (i : Int)) (k := (k : Int)) (fun x' => moves_All.L1 (i : Int) a b c d K t (k + 1) x') d 0 x rfl (by omega)
        refine next X (by omega) (g3.congr fun z => ?_) (by rw [moves_All.L1, if_neg h4, if_pos h5, if_pos (by omega), g1])
        constructor
        · rintro ⟨g0, g1, _, g5⟩; exact ⟨g0, g1, g5⟩
        · rintro ⟨g0, g1, g5⟩
          refine ⟨g0, g1, ?_, g5⟩
          obtain ⟨y, hy, g⟩ := g5
          obtain rfl := at_ g0 g1 hy
          rcases g with g | ⟨g, y', hy', _⟩
          · exact absurd g.2.1 h4
          · have := (eg_some.1 hy').1
            omega
      | false =>
        refine next [] (by simp) (Once.nil fun z ⟨g0, g1, y, hy, g⟩ => ?_) (by rw [moves_All.L1, if_neg h4, if_neg (by rw [h5]; decide), List.append_nil])
        obtain rfl := at_ g0 g1 hy
        rcases g with g | ⟨_, _, _, _, _, _, g, _⟩
        · exact h4 g.2.1
        · rw [h5] at g; cases g
theorem mAll0 {a b c} {d : List S49} (hd : d.length ≤ 8) (hE : ∀ x ∈ d, x.f2.length ≤ 256) : ∀ (l : List S49) (i : Nat) (x : List S31), d.drop i = l → x.length + 524288 * l.length ≤ 4398046511104 → ∃ X : List S31, moves_All.L0 a b c d l i x = some (x ++ X) ∧ X.length ≤ 524288 * l.length ∧ Once (fun z => (i : Int) ≤ z.f0 ∧ Sd d z) X
  | [], i, x, hl, _ => ⟨[], by rw [moves_All.L0, List.append_nil], by simp, Once.nil fun z ⟨g0, x, g, _⟩ => by
      have hn := drop_nil hl
      have := (eg_some.1 g).1
      omega⟩
  | A :: t, i, x, hl, hx => by
    have hc := cap_is
    obtain ⟨q1, q2, q3⟩ := drop_cons hl
    have hy : A.f2.length ≤ 256 := hE A (List.mem_of_getElem? q2)
    have er : rd_T49 d (i : Int) = A := rdT_head (t := T49) hl
    rw [List.length_cons] at hx
    obtain ⟨X, h1, h2, h3⟩ := all1 (a := a) (b := b) (c := c) hd hE er q1 (fun x' => moves_All.L0 a b c d t (i + 1) x') A.f2 0 x rfl (by omega)
    obtain ⟨Y, g1, g2, g3⟩ := mAll0 (a := a) (b := b) (c := c) hd hE t (i + 1) (x ++ X) q3 (by rw [List.length_append]; omega)
    refine ⟨X ++ Y, ?_, by rw [List.length_append, List.length_cons]; omega, Once.app h3 g3 (fun z => ?_) fun z hz => ?_⟩
    · rw [moves_All.L0, if_pos (show A.f2.length ≤ 9223372036854775807 by omega), h1, g1, List.append_assoc]
    · constructor
      · rintro ⟨g0, g5⟩
        by_cases e : z.f0 = (i : Int)
        · refine .inl ⟨e, ?_, g5⟩
          obtain ⟨y, hy, _⟩ := g5
          have := (eg_some.1 hy).1
          omega
        · exact .inr ⟨by omega, g5⟩
      · rintro (⟨g0, _, g5⟩ | ⟨g0, g5⟩)
        · exact ⟨by omega, g5⟩
        · exact ⟨by omega, g5⟩
    · intro h
      have := hz.1
      have := h.1
      omega
theorem all_ev {a b c d} (h : OkN a b c d) : ∃ X : List S31, moves_All.g a b c d = some X ∧ X.length ≤ 4194304 ∧ (sWhole a b c d = 0 → Once (Sd d) X) ∧ (¬ sWhole a b c d = 0 → X = []) := by
  rw [moves_All.g, right_g h, Option.bind_some]
  by_cases hw : sWhole a b c d = 0
  · have hf := (wh_of h hw).few
    have h4 := hf.dl
    obtain ⟨X, h1, h2, h3⟩ := mAll0 (a := a) (b := b) (c := c) hf.dl (fun x hx => (hf.ds x hx).2.1) d 0 [] rfl (by simp; omega)
    rw [decide_eq_true hw, if_neg (by decide), if_pos (by omega), h1]
    refine ⟨_, rfl, by rw [List.nil_append]; omega, fun _ => ?_, fun h => absurd hw h⟩
    rw [List.nil_append]
    refine h3.congr fun z => ⟨fun g => g.2, fun g => ⟨?_, g⟩⟩
    obtain ⟨y, hy, _⟩ := g
    have := (eg_some.1 hy).1
    omega
  · rw [decide_eq_false hw, if_pos (by rfl)]
    exact ⟨[], rfl, by simp, fun h => absurd h hw, fun _ => rfl⟩
end
end Go.Proofs.YtfajafegkechhaaDoor.Q
