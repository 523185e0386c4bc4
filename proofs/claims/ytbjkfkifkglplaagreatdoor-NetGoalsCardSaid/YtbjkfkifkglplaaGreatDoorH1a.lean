/-
  Right of expr and of the document: both answer 0 just if the list is an expression.
-/
import Derived.Test.YtbjkfkifkglplaaGreatDoorT3
import Derived.Test.YtbjkfkifkglplaaGreatDoorD6
set_option linter.unusedSectionVars false
set_option linter.unusedVariables false
set_option linter.unusedSimpArgs false
set_option maxRecDepth 100000
namespace Go.Proofs.YtbjkfkifkglplaaGreatDoor.Q
open Go Go.Den Go.RowKit Go.Proofs
/-- From some round on F answers v. -/
def Ev {R : Type} (F : Nat → Option R) (v : R) : Prop := ∃ K, ∀ k, K ≤ k → F k = some v
theorem Ev.now {R : Type} (v : R) : Ev (fun _ => some v) v := ⟨0, fun _ _ => rfl⟩
theorem Ev.congr {R : Type} {f g : Nat → Option R} {v : R} (h : ∀ k, f k = g k) (hg : Ev g v) : Ev f v := by
  obtain ⟨K, hK⟩ := hg
  exact ⟨K, fun k hk => by rw [h]; exact hK k hk⟩
theorem Ev.step {R : Type} {f g : Nat → Option R} {v : R} (h : ∀ k, f (k + 1) = g k) (hg : Ev g v) : Ev f v := by
  obtain ⟨K, hK⟩ := hg
  refine ⟨K + 1, fun k hk => ?_⟩
  obtain ⟨j, rfl⟩ : ∃ j, k = j + 1 := ⟨k - 1, by omega⟩
  rw [h]; exact hK j (by omega)
theorem Ev.bind {A R : Type} {f : Nat → Option A} {g : Nat → A → Option R} {a : A} {v : R} (h : Ev f a) (hg : Ev (fun k => g k a) v) : Ev (fun k => (f k).bind (g k)) v := by
  obtain ⟨K, hK⟩ := h
  obtain ⟨J, hJ⟩ := hg
  exact ⟨max K J, fun k hk => by show (f k).bind _ = _; rw [hK k (by omega), Option.bind_some]; exact hJ k (by omega)⟩
theorem Ev.of_le {R : Type} {x : Option R} {F : Nat → Option R} {v : R} (h : Le x F) (hx : x = some v) : Ev F v := h v hx
theorem Ev.le {R : Type} {F : Nat → Option R} {v : R} (h : Ev F v) : Le (some v) F := fun r hr => by cases hr; exact h
def kindAt (c : Int) : S296 := rd_T296 expr_kinds c

/-! A node's kind -/
def Pc (c : Int) : Int := if 1 ≤ c ∧ c ≤ 14 then (kindAt c).1 else 0
def byteOp (c : Int) : Prop := 0 ≤ c ∧ c ≤ 255
theorem op256 {p : Int → Prop} (h : ∀ n : Fin 256, p (n.val : Int)) {c : Int} (hc : byteOp c) : p c := by
  have := h ⟨c.toNat, by have := hc.1; have := hc.2; omega⟩
  rwa [show (((⟨c.toNat, by have := hc.1; have := hc.2; omega⟩ : Fin 256).val : Nat) : Int) = c from by have := hc.1; simp; omega] at this
theorem of_known {c : Int} (h1 : 1 ≤ c) (h2 : c ≤ 14) : expr_of.f c = some ((kindAt c).1, (kindAt c).2.1, (kindAt c).2.2.1, (kindAt c).2.2.2.1, (kindAt c).2.2.2.2, true) := by
  have hL : expr_kinds.length = 15 := rfl
  unfold expr_of.f
  rw [if_neg (by omega), if_neg (by omega), if_pos (by omega), if_pos (by omega)]
  rfl
theorem of_not {c : Int} (h : c < 1 ∨ c > 14) : expr_of.f c = some (0, false, false, ⟨#[]⟩, 0, false) := by
  unfold expr_of.f
  by_cases h1 : c < 1
  · rw [if_pos h1]
  · rw [if_neg h1, if_pos (by omega)]
theorem of_any (c : Int) : ∃ r, expr_of.f c = some r ∧ r.1 = Pc c := by
  by_cases h : 1 ≤ c ∧ c ≤ 14
  · exact ⟨_, of_known h.1 h.2, by unfold Pc; rw [if_pos h]⟩
  · exact ⟨_, of_not (by omega), by unfold Pc; rw [if_neg h]⟩
theorem parts_ev {c : Int} (hc : byteOp c) : Ev (fun k => r08_parts.f k c) (Pc c) :=
  ⟨1, fun k hk => by
    obtain ⟨j, rfl⟩ : ∃ j, k = j + 1 := ⟨k - 1, by omega⟩
    show r08_parts.f (j + 1) c = _
    rw [show r08_parts.f (j + 1) c = r08_parts.f 1 c from rfl]
    exact op256 (p := fun c => r08_parts.f 1 c = some (Pc c)) (by decide +kernel) hc⟩
theorem Pc_range {c : Int} (hc : byteOp c) : 0 ≤ Pc c ∧ Pc c ≤ 2 := op256 (p := fun c => 0 ≤ Pc c ∧ Pc c ≤ 2) (by decide +kernel) hc
theorem Ev.uniq {α : Type} {g : Nat → Option α} {a b : α} (h : Ev g a) (h' : Ev g b) : a = b := by
  obtain ⟨K, h⟩ := h
  obtain ⟨K', h'⟩ := h'
  have h1 := h (max K K') (by omega)
  rw [h' (max K K') (by omega)] at h1
  exact (Option.some.inj h1).symm
/-- The node at a place. -/
def N (l : List S151) (i : Nat) : S151 := rd_T151 l (i : Int)
def opsOk (l : List S151) : Prop := ∀ x ∈ l, byteOp x.f0
theorem N_mem {l : List S151} {i : Nat} (hi : i < l.length) : N l i ∈ l := by
  have : rdT T151 l (i : Int) = l[i] := by simp [rdT, hi]
  show rdT T151 l (i : Int) ∈ l
  rw [this]; exact List.getElem_mem hi
/-- How many parts are wanted ahead of a place. -/
def nd (l : List S151) : Nat → Int
  | 0 => 1
  | i + 1 => nd l i + (Pc (N l i).f0 - 1)
theorem nd_succ (l : List S151) (i : Nat) : nd l (i + 1) = nd l i + (Pc (N l i).f0 - 1) := rfl
theorem nd_range {l : List S151} (ho : opsOk l) : ∀ i : Nat, i ≤ l.length → 1 - (i : Int) ≤ nd l i ∧ nd l i ≤ 1 + (i : Int)
  | 0, _ => by unfold nd; omega
  | i + 1, h => by
    have ih := nd_range ho i (by omega)
    have := Pc_range (ho _ (N_mem (l := l) (i := i) (by omega)))
    rw [nd_succ]
    omega
/-- The tree at a place ends at another. -/
def Ends (l : List S151) (a e : Nat) : Prop := a < e ∧ e ≤ l.length ∧ nd l e = nd l a - 1 ∧ ∀ j, a ≤ j → j < e → nd l a ≤ nd l j
theorem w68 {n : Nat} (h : n ≤ 4096) : w64 ((n : Int) + 1) = ((n + 1 : Nat) : Int) := by show RowKit.wrap64 _ = _; unfold RowKit.wrap64; omega
theorem ws {n : Int} (h : -9223372036854775808 ≤ n) (h2 : n ≤ 9223372036854775807) : w64 n = n := by show RowKit.wrap64 _ = _; unfold RowKit.wrap64; omega
theorem end_loop {l : List S151} (hl : l.length ≤ 4096) (ho : opsOk l) (a : Nat) : ∀ n j : Nat, l.length - j ≤ n → a ≤ j → j ≤ l.length → (∀ i, a ≤ i → i ≤ j → nd l a ≤ nd l i) →
    (∃ e, Ends l a e ∧ Ev (fun k => expr_End.l0 k l (j : Int) (nd l j - nd l a + 1)) (e : Int) ∧ Ev (fun k => r08_End.l1 k l (nd l j - nd l a + 1) (j : Int)) (e : Int)) ∨
    ((∀ i, a ≤ i → i ≤ l.length → nd l a ≤ nd l i) ∧ Ev (fun k => expr_End.l0 k l (j : Int) (nd l j - nd l a + 1)) 0 ∧ Ev (fun k => r08_End.l1 k l (nd l j - nd l a + 1) (j : Int)) 0) := by
  intro n
  induction n with
  | zero =>
    intro j h1 h2 h3 h4
    obtain rfl : j = l.length := by omega
    have := h4 _ h2 (Nat.le_refl _)
    refine .inr ⟨h4, ?_, ?_⟩
    · exact Ev.step (fun k => by rw [expr_End.l0, if_pos (by omega), if_pos (by omega)]) (Ev.now _)
    · exact Ev.step (fun k => by rw [r08_End.l1, if_neg (by omega)]) (Ev.now _)
  | succ n ih =>
    intro j h1 h2 h3 h4
    by_cases hj : j < l.length
    · have hna := h4 _ h2 (Nat.le_refl _)
      have hop := ho _ (N_mem (l := l) (i := j) hj)
      have hP := Pc_range hop
      have r1 := nd_range ho j (by omega)
      have r2 := nd_range ho a (by omega)
      obtain ⟨r, hr, hr1⟩ := of_any (N l j).f0
      have hw : w64 ((w64 ((nd l j - nd l a + 1) + r.1)) - 1) = nd l (j + 1) - nd l a + 1 := by
        rw [hr1, nd_succ, ws (n := nd l j - nd l a + 1 + Pc (N l j).f0) (by omega) (by omega), ws (by omega) (by omega)]; omega
      have hw2 : w64 ((nd l j - nd l a + 1) + (w64 (Pc (N l j).f0 - 1))) = nd l (j + 1) - nd l a + 1 := by
        rw [nd_succ, ws (n := Pc (N l j).f0 - 1) (by omega) (by omega), ws (by omega) (by omega)]; omega
      have eL : ∀ k, expr_End.l0 (k + 1) l (j : Int) (nd l j - nd l a + 1) = expr_End.l0 k l ((j + 1 : Nat) : Int) (nd l (j + 1) - nd l a + 1) := by
        intro k
        rw [expr_End.l0, if_pos (by omega), if_neg (by omega), if_pos (by omega), if_pos (by omega), show rd_T151 l (j : Int) = N l j from rfl, hr, Option.bind_some, hw, w68 (by omega)]
      by_cases hz : nd l (j + 1) - nd l a + 1 = 0
      · refine .inl ⟨j + 1, ⟨by omega, by omega, by omega, fun i h5 h6 => h4 i h5 (by omega)⟩, ?_, ?_⟩
        · exact Ev.step eL (Ev.step (fun k => by rw [expr_End.l0, if_neg (by omega)]) (Ev.now _))
        · refine Ev.step (fun k => by (rw [r08_End.l1, if_pos (by omega), if_pos (by omega), if_pos (by omega)]; try rfl)) (Ev.bind (parts_ev hop) ?_)
          exact Ev.congr (fun k => by rw [hw2, if_pos hz, w68 (by omega)]) (Ev.now _)
      · have h4' : ∀ i, a ≤ i → i ≤ j + 1 → nd l a ≤ nd l i := by
          intro i h5 h6
          rcases Nat.lt_or_ge i (j + 1) with h7 | h7
          · exact h4 i h5 (by omega)
          · rw [show i = j + 1 by omega]
            have := nd_succ l j
            omega
        have eR : ∀ r : Int, Ev (fun k => r08_End.l1 k l (nd l (j + 1) - nd l a + 1) ((j + 1 : Nat) : Int)) r → Ev (fun k => r08_End.l1 k l (nd l j - nd l a + 1) (j : Int)) r := by
          intro r hh
          refine Ev.step (fun k => by (rw [r08_End.l1, if_pos (by omega), if_pos (by omega), if_pos (by omega)]; try rfl)) (Ev.bind (parts_ev hop) ?_)
          exact Ev.congr (fun k => by rw [hw2, if_neg hz, w68 (by omega)]) hh
        rcases ih (j + 1) (by omega) (by omega) (by omega) h4' with ⟨e, b, c, d⟩ | ⟨b, c, d⟩
        · exact .inl ⟨e, b, Ev.step eL c, eR _ d⟩
        · exact .inr ⟨b, Ev.step eL c, eR _ d⟩
    · obtain rfl : j = l.length := by omega
      have := h4 _ h2 (Nat.le_refl _)
      refine .inr ⟨h4, ?_, ?_⟩
      · exact Ev.step (fun k => by rw [expr_End.l0, if_pos (by omega), if_pos (by omega)]) (Ev.now _)
      · exact Ev.step (fun k => by rw [r08_End.l1, if_neg (by omega)]) (Ev.now _)
/-- Where a tree ends: both say the same. -/
theorem end_both {l : List S151} (hl : l.length ≤ 4096) (ho : opsOk l) {a : Nat} (ha : a ≤ l.length) :
    (∃ e, Ends l a e ∧ Ev (fun k => expr_End.f k l (a : Int)) (e : Int) ∧ Ev (fun k => r08_End.f k l (a : Int)) (e : Int)) ∨
    ((∀ i, a ≤ i → i ≤ l.length → nd l a ≤ nd l i) ∧ Ev (fun k => expr_End.f k l (a : Int)) 0 ∧ Ev (fun k => r08_End.f k l (a : Int)) 0) := by
  have h := end_loop hl ho a (l.length - a) a (Nat.le_refl _) (Nat.le_refl _) ha (fun i h1 h2 => by rw [show i = a by omega]; exact Int.le_refl _)
  rw [show nd l a - nd l a + 1 = 1 by omega] at h
  have L : ∀ r : Int, Ev (fun k => expr_End.l0 k l (a : Int) 1) r → Ev (fun k => expr_End.f k l (a : Int)) r := fun r hr => Ev.congr (fun k => by rw [expr_End.f, if_neg (by omega)]) hr
  rcases h with ⟨e, b, c, d⟩ | ⟨b, c, d⟩
  · refine .inl ⟨e, b, L _ c, Ev.congr (fun k => ?_) (Ev.step (f := fun k => r08_End.j0 k l (a : Int)) (fun k => by rw [r08_End.j0]) d)⟩
    have := b.1; have := b.2.1
    rw [r08_End.f, if_neg (by omega), if_neg (by omega)]
  · refine .inr ⟨b, L _ c, ?_⟩
    by_cases hz : (a : Int) ≥ (l.length : Int)
    · exact Ev.congr (fun k => by rw [r08_End.f, if_neg (by omega), if_pos hz]) (Ev.now _)
    · exact Ev.congr (fun k => by rw [r08_End.f, if_neg (by omega), if_neg hz]) (Ev.step (f := fun k => r08_End.j0 k l (a : Int)) (fun k => by rw [r08_End.j0]) d)
end Go.Proofs.YtbjkfkifkglplaaGreatDoor.Q
