/-
  What is reckoned has a value: expr.Holds and expr.Value answer for every list that net.Whole lets in.
-/
import Derived.Test.YtfajafegkechhaaDoorP5
set_option linter.unusedVariables false
set_option linter.unusedSimpArgs false
set_option maxRecDepth 100000
namespace Go.Proofs.YtfajafegkechhaaDoor.Q
open Go Go.Den Go.RowKit Go.Proofs
noncomputable section
/-- F answers from some round on. -/
def Tt {R : Type} (F : Nat → Option R) : Prop := ∃ v, Ev F v
section
variable {R A : Type} {F G : Nat → Option R}
theorem Tt.now (v : R) : Tt (fun _ => some v) := ⟨v, Ev.now v⟩
theorem Tt.pos {c : Prop} [Decidable c] (hc : c) (h : Tt F) : Tt (fun k => if c then F k else G k) := by simpa only [if_pos hc] using h
theorem Tt.ite {c : Prop} [Decidable c] (h : c → Tt F) (h' : ¬ c → Tt G) : Tt (fun k => if c then F k else G k) := by
  by_cases hc : c
  · simpa only [if_pos hc] using h hc
  · simpa only [if_neg hc] using h' hc
theorem Tt.bind {f : Nat → Option A} {g : Nat → A → Option R} (h : Tt f) (h' : ∀ a, Tt (fun k => g k a)) : Tt (fun k => (f k).bind (g k)) := by
  obtain ⟨a, ha⟩ := h
  obtain ⟨v, hv⟩ := h' a
  exact ⟨v, Ev.bind ha hv⟩
theorem Tt.succ (h : Tt (fun k => F (k + 1))) : Tt F := by
  obtain ⟨v, hv⟩ := h
  exact ⟨v, Ev.step (fun _ => rfl) hv⟩
end
theorem times_tot (a b : Int) : Tt (fun k => expr_times.f k a b) := by
  have h : ∃ v, expr_times.g a b = some v := by
    unfold expr_times.g expr_size.f math_bits_Mul64.f
    by_cases h1 : a < 0 <;> by_cases h2 : b < 0 <;> simp only [h1, h2, if_true, if_false, Option.bind_some, decide_true, decide_false] <;> (repeat' split) <;> exact ⟨_, rfl⟩
  obtain ⟨v, hv⟩ := h
  exact ⟨v, Ev.of_le (expr_times.le a b) hv⟩
theorem plus_tot (a b : Int) : Tt (fun _ => expr_plus.f a b) := by
  unfold expr_plus.f
  split <;> exact Tt.now _
theorem reckon_succ (k : Nat) (l : List S116) (a : Int) (v : List Int) : expr_reckon.r (k + 1) l a v = expr_reckon.f k l a v := by simp only [expr_reckon.r, expr_reckon.f]
theorem reckon_r {l : List S116} {a : Int} {v : List Int} (h : Tt (fun m => expr_reckon.f m l a v)) : Tt (fun m => expr_reckon.r m l a v) := by
  obtain ⟨x, hx⟩ := h
  exact ⟨x, Ev.step (fun k => reckon_succ k l a v) hx⟩
theorem opp_tot (a : Int) : Tt (fun _ => expr_opposite.f a) := by
  unfold expr_opposite.f
  exact Tt.now _
theorem reckon_tot {l : List S116} {k : Int} (hG : Good l k) {vars : List Int} (hv : (vars.length : Int) = k) : ∀ n p : Nat, l.length - p ≤ n → p < l.length → Tt (fun m => expr_reckon.f m l (p : Int) vars)
  | 0, p, h1, h2 => by omega
  | n + 1, p, h1, h2 => by
    have hT := hG.tree
    have hlen := hG.len
    have hz := hT.zero
    have hp := hT.pos h2
    have hop := hT.ops _ (N_mem h2)
    have hb : ¬ bad k (N l p).f0 (N l p).f1 := (hG.node p h2).1
    have hsucc := nd_succ l p
    have hN : rd_T116 l (p : Int) = N l p := rfl
    simp only [expr_reckon.f, hN]
    generalize hc : (N l p).f0 = c at *
    generalize hm : (N l p).f1 = m at *
    unfold bad at hb
    refine Tt.pos (by omega) (Tt.pos (by omega) ?_)
    refine Tt.ite (fun _ => Tt.now _) fun n1 => ?_
    refine Tt.ite (fun h => Tt.pos (by omega) (Tt.pos (by omega) (Tt.now _))) fun n2 => ?_
    refine Tt.ite (fun _ => Tt.now _) fun n7 => ?_
    have hP1 : 1 ≤ Pc c := by
      have := op256 (p := fun c => 1 ≤ c → c ≤ 14 → c ≠ 1 → c ≠ 2 → c ≠ 7 → 1 ≤ Pc c) (by decide +kernel) hop
      exact this (by omega) (by omega) n1 n2 n7
    have hlt : p + 1 < l.length := by
      rcases Nat.lt_or_ge (p + 1) l.length with h | h
      · exact h
      · have e : p + 1 = l.length := by omega
        rw [e] at hsucc
        omega
    have hle : l.length - (p + 1) ≤ n := by omega
    have hel0 : ∀ e, Ends l (p + 1) e → ¬ c = 3 → ¬ c = 12 → e < l.length := fun e he n3 n12 => by
      have hP2 : Pc c = 2 := by
        have := op256 (p := fun c => (c < 1 ∨ c > 14 ∨ c = 1 ∨ c = 2 ∨ c = 7) ∨ c = 3 ∨ c = 12 ∨ Pc c = 2) (by decide +kernel) hop
        rcases this with h | h | h | h
        · omega
        · exact absurd h n3
        · exact absurd h n12
        · exact h
      rcases Nat.lt_or_ge e l.length with h | h
      · exact h
      · have e1 : e = l.length := by have := he.2.1; omega
        have := he.2.2.1
        rw [e1] at this
        omega
    have hw : w64 ((p : Int) + 1) = ((p + 1 : Nat) : Int) := w68 (by omega)
    simp only [hw]
    refine Tt.bind (reckon_r (reckon_tot hG hv n (p + 1) hle hlt)) fun t1 => ?_
    refine Tt.ite (fun _ => Tt.now _) fun _ => ?_
    refine Tt.ite (fun _ => Tt.bind (opp_tot _) fun _ => Tt.now _) fun n3 => ?_
    refine Tt.ite (fun _ => Tt.now _) fun n12 => ?_
    have hJ : Tt (fun k => expr_reckon.j0 k l (p : Int) vars 0 false false c m t1.1 t1.2.1 t1.2.2) := by
      obtain ⟨e, he, f1, -⟩ := hT.end_at hlt
      have hel := hel0 e he n3 n12
      refine Tt.succ ?_
      simp only [expr_reckon.j0, hw]
      refine ⟨_, Ev.bind f1 (Classical.choose_spec (?_ : Tt _))⟩
      refine Tt.bind (reckon_r (reckon_tot hG hv n e (Nat.le_trans (Nat.sub_le_sub_left (Nat.le_of_lt he.1) _) hle) hel)) fun t4 => ?_
      refine Tt.ite (fun _ => Tt.now _) fun _ => ?_
      refine Tt.ite (fun _ => Tt.bind (plus_tot _ _) fun _ => Tt.now _) fun _ => ?_
      refine Tt.ite (fun _ => Tt.ite (fun _ => Tt.now _) fun _ => Tt.now _) fun _ => ?_
      refine Tt.ite (fun _ => Tt.bind (times_tot _ _) fun _ => Tt.now _) fun _ => ?_
      exact Tt.ite (fun _ => Tt.now _) fun _ => Tt.ite (fun _ => Tt.now _) fun _ => Tt.ite (fun _ => Tt.now _) fun _ => Tt.ite (fun _ => Tt.now _) fun _ => Tt.now _
    exact Tt.ite (fun _ => Tt.ite (fun _ => Tt.now _) fun _ => Tt.ite (fun _ => Tt.ite (fun _ => Tt.now _) fun _ => hJ) fun _ => hJ) fun _ => Tt.ite (fun _ => Tt.ite (fun _ => Tt.now _) fun _ => hJ) fun _ => hJ
theorem reckon_some {l : List S116} {vars : List Int} (h : sRight l (vars.length : Int) = 0) : ∃ v, expr_reckon.g l 0 vars = some v := by
  have hG : Good l (vars.length : Int) := by
    unfold sRight at h
    split at h
    · assumption
    · cases h
  have ht : ∃ v, Ev (fun k => expr_reckon.f k l 0 vars) v := reckon_tot hG rfl l.length 0 (by omega) hG.pos
  unfold expr_reckon.g
  rw [dif_pos ht]
  exact ⟨_, rfl⟩
theorem holds_some {b : List S78} {l : List S116} {vars : List Int} (ho : opsOk l) (hv : b.length = vars.length) (hb : b.length ≤ cap) (h : badT b l = false) : ∃ r e, expr_Holds.g l vars = some (r, e) := by
  have hc := cap_is
  rw [expr_Holds.g]
  by_cases h0 : (l.length : Int) = 0
  · rw [if_pos h0]; exact ⟨_, _, rfl⟩
  · rw [if_neg h0, rightg_eq ho (by omega), Option.bind_some]
    by_cases hr : sRight l (vars.length : Int) = 0
    · obtain ⟨v, hv'⟩ := reckon_some hr
      rw [if_pos hr, isT_eq ho, Option.bind_some, hv', Option.bind_some]
      repeat' split
      all_goals exact ⟨_, _, rfl⟩
    · rw [if_neg hr]; exact ⟨_, _, rfl⟩
theorem value_some {l : List S116} {vars : List Int} (ho : opsOk l) (hv : vars.length ≤ cap) : ∃ r e, expr_Value.g l vars = some (r, e) := by
  have hc := cap_is
  rw [expr_Value.g, rightg_eq ho hv, Option.bind_some]
  by_cases hr : sRight l (vars.length : Int) = 0
  · obtain ⟨v, hv'⟩ := reckon_some hr
    rw [if_pos hr, isT_eq ho, Option.bind_some, hv', Option.bind_some]
    repeat' split
    all_goals exact ⟨_, _, rfl⟩
  · rw [if_neg hr]; exact ⟨_, _, rfl⟩
end
end Go.Proofs.YtfajafegkechhaaDoor.Q
