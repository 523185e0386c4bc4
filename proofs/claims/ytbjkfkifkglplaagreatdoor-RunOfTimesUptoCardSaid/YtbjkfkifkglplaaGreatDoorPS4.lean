/-
  Compare and Sub of any two fractions.
-/
import Derived.Test.YtbjkfkifkglplaaGreatDoorPS3
set_option linter.unusedSectionVars false
set_option linter.unusedVariables false
set_option linter.unusedSimpArgs false
set_option maxRecDepth 100000
namespace Go.Proofs.YtbjkfkifkglplaaGreatDoor.Q
open Go Go.Den Go.RowKit Go.Proofs
theorem sMade_zero (s s' : Bool) (d : Nat) : sMade s 0 d = sMade s' 0 d := by
  unfold sMade
  rw [Nat.zero_div, Nat.gcd_zero_left]
  have h : ∀ b : Bool, ¬ 0 > (if b = true then 9223372036854775808 else 9223372036854775807) := fun b => by cases b <;> decide
  have e : ∀ b : Bool, (if b = true then -((0 : Nat) : Int) else ((0 : Nat) : Int)) = 0 := fun b => by cases b <;> rfl
  rw [e, e]
  by_cases hd : d / d > 9223372036854775807
  · rw [if_pos (Or.inr hd), if_pos (Or.inr hd)]
  · rw [if_neg (fun g => g.elim (h s) hd), if_neg (fun g => g.elim (h s') hd)]
def subS (P Q : Nat) (sa sb : Bool) : Bool × Nat := if sa = sb then (if P < Q then (!sa, Q - P) else (sa, P - Q)) else (sa, P + Q)
theorem dif_sub {P Q : Nat} {sa sb : Bool} (h1 : sa = true → 0 < P) (d : Nat) : sMade (dif P Q sa (!sb && decide (Q ≠ 0))).2 (dif P Q sa (!sb && decide (Q ≠ 0))).1 d = sMade (subS P Q sa sb).1 (subS P Q sa sb).2 d := by
  by_cases hQ : Q = 0
  · subst hQ
    rw [show (!sb && decide ((0 : Nat) ≠ 0)) = false by simp]
    cases sa with
    | false =>
      rw [dif_same]
      unfold subS
      cases sb <;> simp
    | true =>
      have := h1 rfl
      rw [dif_gt (by decide) this]
      unfold subS
      cases sb <;> simp
  · rw [show (!sb && decide (Q ≠ 0)) = !sb by simp [hQ]]
    by_cases he : sa = !sb
    · rw [← he, dif_same]
      unfold subS
      rw [if_neg (by rw [he]; cases sb <;> decide)]
    · have hs : sa = sb := by revert he; cases sa <;> cases sb <;> decide
      subst hs
      unfold subS
      rw [if_pos rfl]
      rcases Nat.lt_trichotomy P Q with g | g | g
      · rw [dif_lt he g, if_pos g]
      · rw [dif_eq he g, if_neg (by omega), g, Nat.sub_self]
        exact sMade_zero _ _ _
      · rw [dif_gt he g, if_neg (by omega)]
section
variable {a : Int} {A : Nat} {b : Int} {B : Nat} (ha : R64 a) (hA : 0 < A) (hA2 : A ≤ 9223372036854775807) (hb : R64 b) (hB : 0 < B) (hB2 : B ≤ 9223372036854775807)
include ha hA hA2 hb hB hB2
theorem dif_le : (dP a A b B).1 < 340282366920938463463374607431768211456 := by
  have p := prod_le (abs_le ha) hB2
  have q := prod_le (abs_le hb) hA2
  unfold dP dif
  repeat' split
  all_goals (dsimp only; omega)
theorem sub_val (h : (sRight a A && sRight b B) = true) : Ev (fun k => rat_Sub.f k a (A : Int) b (B : Int)) (sMade (dP a A b B).2 (dP a A b B).1 (A * B)) := by
  have ha1 := abs_le ha
  have hb1 := abs_le hb
  have hRA : R64 (A : Int) := by unfold R64; omega
  have hd : 0 < A * B := Nat.mul_pos hA hB
  have hd2 : A * B ≤ 85070591730234615856620279821087277056 := prod_le (by omega) hB2
  unfold rat_Sub.f
  refine Ev.bind (both_ev ha hA hA2 hb hB hB2) ?_
  rw [h]
  refine Ev.congr (fun k => by rw [if_neg (by decide), times_is ha hB hB2, Option.bind_some, times_is hb hA hA2, Option.bind_some, opposite_is, Option.bind_some]) (Ev.bind (sum_ev (prod_le ha1 hB2) (prod_le hb1 hA2) _ _) ?_)
  refine Ev.congr (fun k => by rw [times_is hRA hB hB2, Option.bind_some]) ?_
  rw [Int.natAbs_natCast, decide_eq_false (show ¬ (A : Int) < 0 by omega)]
  refine Ev.bind (a := sMade (dP a A b B).2 (dP a A b B).1 (A * B)) ?_ (Ev.now _)
  have := made_ev (dif_le ha hA hA2 hb hB hB2) hd (by omega) (dP a A b B).2 false
  rw [show ((dP a A b B).2 != false) = (dP a A b B).2 by simp] at this
  exact this
theorem rsub_val (h : (sRight a A && sRight b B) = true) : Ev (fun k => gnomonref02_Sub.f k a (A : Int) b (B : Int)) (sMade (dP a A b B).2 (dP a A b B).1 (A * B)) := by
  have ha1 := abs_le ha
  have hb1 := abs_le hb
  have hRA : R64 (A : Int) := by unfold R64; omega
  have hRB : R64 (B : Int) := by unfold R64; omega
  have hd : 0 < A * B := Nat.mul_pos hA hB
  have hd2 : A * B ≤ 85070591730234615856620279821087277056 := prod_le (by omega) hB2
  have p := prod_le ha1 hB2
  have q := prod_le hb1 hA2
  rw [Bool.and_eq_true] at h
  unfold gnomonref02_Sub.f
  refine Ev.bind (rright_ev ha hRA) ?_
  rw [h.1]
  refine Ev.congr (fun k => by rw [if_neg (by decide)]) (Ev.bind (rright_ev hb hRB) ?_)
  rw [h.2]
  refine Ev.congr (fun k => by rw [if_neg (by decide)]) (Ev.bind (a := sMade (dP a A b B).2 (dP a A b B).1 (A * B)) ?_ (Ev.now _))
  unfold gnomonref02_less.f
  refine Ev.congr (fun k => by rw [size_is ha, Option.bind_some, wk_nat (n := B) (by omega), rmul_nat (by omega) (by omega), Option.bind_some, size_is hb, Option.bind_some, wk_nat (n := A) (by omega), rmul_nat (by omega) (by omega), Option.bind_some, rmul_nat (by omega) (by omega), Option.bind_some]) ?_
  have zP : a < 0 → 0 < a.natAbs * B := fun h => Nat.mul_pos (by omega) hB
  unfold dP
  rw [dif_sub (fun h => zP (of_decide_eq_true h))]
  have hge : decide (a ≥ 0) = !decide (a < 0) := by rw [Bool.eq_iff_iff]; simp
  rw [hge]
  generalize a.natAbs * B = P at *
  generalize b.natAbs * A = Q at *
  unfold subS
  by_cases hs : decide (a < 0) = decide (b < 0)
  · refine Ev.congr (fun k => by rw [if_pos hs, below_is, Option.bind_some]) ?_
    rw [if_pos hs]
    by_cases c : P < Q
    · rw [if_pos c, decide_eq_true c]
      exact Ev.congr (fun k => by rw [if_pos rfl, minus_is (by omega) (by omega), Option.bind_some]) (Ev.bind (held_ev (by omega) hd (by omega) _) (Ev.now _))
    · rw [if_neg c, decide_eq_false c]
      exact Ev.congr (fun k => by rw [if_neg Bool.false_ne_true, minus_is (by omega) (by omega), Option.bind_some]) (Ev.bind (held_ev (by omega) hd (by omega) _) (Ev.now _))
  · rw [if_neg hs]
    exact Ev.congr (fun k => by rw [if_neg hs, rplus_is (by omega), Option.bind_some]) (Ev.bind (held_ev (by omega) hd (by omega) _) (Ev.now _))
end
theorem sRight_pos {n d : Int} (h : sRight n d = true) : d ≥ 1 := (of_decide_eq_true h).1
theorem compare_both {a A b B : Int} (ha : R64 a) (hA : R64 A) (hb : R64 b) (hB : R64 B) : ∃ v, Ev (fun k => rat_Compare.f k a A b B) v ∧ Ev (fun k => gnomonref02_Compare.f k a A b B) v := by
  by_cases h : (sRight a A && sRight b B) = true
  · have h' := h
    rw [Bool.and_eq_true] at h'
    have p := sRight_pos h'.1
    have q := sRight_pos h'.2
    have hA' := hA; have hB' := hB
    unfold R64 at hA' hB'
    obtain ⟨A, rfl⟩ : ∃ n : Nat, A = (n : Int) := ⟨A.toNat, by omega⟩
    obtain ⟨B, rfl⟩ : ∃ n : Nat, B = (n : Int) := ⟨B.toNat, by omega⟩
    exact ⟨_, compare_val ha (by omega) (by omega) hb (by omega) (by omega), rcompare_val ha (by omega) (by omega) hb (by omega) (by omega)⟩
  · refine ⟨0, ?_, ?_⟩
    · refine Ev.bind (a := false) ?_ (Ev.now _)
      unfold rat_both.f
      refine Ev.bind (right_ev ha hA) ?_
      cases e1 : sRight a A with
      | false => exact Ev.congr (fun k => by rw [if_neg Bool.false_ne_true]) (Ev.now _)
      | true =>
        refine Ev.congr (fun k => by rw [if_pos rfl]) (Ev.bind (right_ev hb hB) ?_)
        rw [e1, Bool.true_and, Bool.not_eq_true] at h
        rw [h]; exact Ev.now _
    · refine Ev.bind (rright_ev ha hA) ?_
      cases e1 : sRight a A with
      | false => exact Ev.congr (fun k => by rw [if_pos (show (!false) = true from rfl)]) (Ev.now _)
      | true =>
        refine Ev.congr (fun k => by rw [if_neg (by decide)]) (Ev.bind (rright_ev hb hB) ?_)
        rw [e1, Bool.true_and, Bool.not_eq_true] at h
        rw [h]
        exact Ev.congr (fun k => by rw [if_pos (show (!false) = true from rfl)]) (Ev.now _)
theorem sub_both {a A b B : Int} (ha : R64 a) (hA : R64 A) (hb : R64 b) (hB : R64 B) : ∃ v, Ev (fun k => rat_Sub.f k a A b B) v ∧ Ev (fun k => gnomonref02_Sub.f k a A b B) v := by
  by_cases h : (sRight a A && sRight b B) = true
  · have h' := h
    rw [Bool.and_eq_true] at h'
    have p := sRight_pos h'.1
    have q := sRight_pos h'.2
    have hA' := hA; have hB' := hB
    unfold R64 at hA' hB'
    obtain ⟨A, rfl⟩ : ∃ n : Nat, A = (n : Int) := ⟨A.toNat, by omega⟩
    obtain ⟨B, rfl⟩ : ∃ n : Nat, B = (n : Int) := ⟨B.toNat, by omega⟩
    exact ⟨_, sub_val ha (by omega) (by omega) hb (by omega) (by omega) h, rsub_val ha (by omega) (by omega) hb (by omega) (by omega) h⟩
  · refine ⟨(0, 0, 7), ?_, ?_⟩
    · refine Ev.bind (a := false) ?_ (Ev.now _)
      unfold rat_both.f
      refine Ev.bind (right_ev ha hA) ?_
      cases e1 : sRight a A with
      | false => exact Ev.congr (fun k => by rw [if_neg Bool.false_ne_true]) (Ev.now _)
      | true =>
        refine Ev.congr (fun k => by rw [if_pos rfl]) (Ev.bind (right_ev hb hB) ?_)
        rw [e1, Bool.true_and, Bool.not_eq_true] at h
        rw [h]; exact Ev.now _
    · refine Ev.bind (rright_ev ha hA) ?_
      cases e1 : sRight a A with
      | false => exact Ev.congr (fun k => by rw [if_pos (show (!false) = true from rfl)]) (Ev.now _)
      | true =>
        refine Ev.congr (fun k => by rw [if_neg (by decide)]) (Ev.bind (rright_ev hb hB) ?_)
        rw [e1, Bool.true_and, Bool.not_eq_true] at h
        rw [h]
        exact Ev.congr (fun k => by rw [if_pos (show (!false) = true from rfl)]) (Ev.now _)
end Go.Proofs.YtbjkfkifkglplaaGreatDoor.Q
