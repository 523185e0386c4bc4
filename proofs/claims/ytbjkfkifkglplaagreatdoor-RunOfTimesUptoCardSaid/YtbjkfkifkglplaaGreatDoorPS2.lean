/-
  Fractions: the program's and the document's answers are the same.
-/
import Derived.Test.YtbjkfkifkglplaaGreatDoorPS1
set_option linter.unusedSectionVars false
set_option linter.unusedVariables false
set_option linter.unusedSimpArgs false
set_option maxRecDepth 100000
namespace Go.Proofs.YtbjkfkifkglplaaGreatDoor.Q
open Go Go.Den Go.RowKit Go.Proofs
/-- A fraction in lowest terms, if it can be held. -/
def sMade (neg : Bool) (n d : Nat) : Int × Int × Int :=
  if n / Nat.gcd n d > (if neg = true then 9223372036854775808 else 9223372036854775807) ∨ d / Nat.gcd n d > 9223372036854775807 then (0, 0, 20)
  else (if neg = true then -((n / Nat.gcd n d : Nat) : Int) else ((n / Nat.gcd n d : Nat) : Int), ((d / Nat.gcd n d : Nat) : Int), 0)
theorem neg_is {n : Nat} (h : n ≤ 9223372036854775808) : w64 (wk .u64 (0 - (n : Int))) = -(n : Int) := by
  rw [wk_mod]
  show RowKit.wrap64 _ = _
  unfold RowKit.wrap64; omega
theorem number_ev (n : Nat) (neg : Bool) : Ev (fun k => rat_wide_number.f k ((hiN n, loN n) : S269) neg) (if n ≤ (if neg = true then 9223372036854775808 else 9223372036854775807) then ((if neg = true then -(n : Int) else (n : Int)), true) else (0, false)) := by
  unfold rat_wide_number.f
  simp only [S269.f0, S269.f1]
  by_cases h1 : hiN n > 0
  · refine Ev.congr (fun k => by rw [if_pos h1]) ?_
    rw [if_neg (by unfold hiN at h1; split <;> omega)]
    exact Ev.now _
  have hlo : loN n = (n : Int) := by unfold hiN at h1; unfold loN; omega
  rw [hlo]
  by_cases h2 : (n : Int) > 9223372036854775808
  · refine Ev.congr (fun k => by rw [if_neg h1, if_pos h2]) ?_
    rw [if_neg (by split <;> omega)]
    exact Ev.now _
  have hjT : n ≤ 9223372036854775808 → Ev (fun k => rat_wide_number.j0 k (hiN n) (n : Int) true) (-(n : Int), true) := fun h => Ev.step (g := fun _ => some (-(n : Int), true)) (fun k => by rw [rat_wide_number.j0, if_pos rfl, neg_is h]) (Ev.now _)
  have hjF : n ≤ 9223372036854775807 → Ev (fun k => rat_wide_number.j0 k (hiN n) (n : Int) false) ((n : Int), true) := fun h => Ev.step (g := fun _ => some ((n : Int), true)) (fun k => by rw [rat_wide_number.j0, if_neg Bool.false_ne_true, w64_id (x := (n : Int)) (by omega)]) (Ev.now _)
  have hn : n ≤ 9223372036854775808 := by omega
  have nt : ¬ ((!true) = true) := by decide
  have nf : (!false) = true := rfl
  cases neg with
  | true =>
    rw [if_pos (show n ≤ (if true = true then 9223372036854775808 else 9223372036854775807) by rw [if_pos rfl]; exact hn), if_pos rfl]
    by_cases h3 : (n : Int) = 9223372036854775808
    · exact Ev.congr (fun k => by rw [if_neg h1, if_neg h2, if_pos h3, if_neg nt]) (hjT hn)
    · exact Ev.congr (fun k => by rw [if_neg h1, if_neg h2, if_neg h3]) (hjT hn)
  | false =>
    by_cases h3 : (n : Int) = 9223372036854775808
    · rw [if_neg (show ¬ n ≤ (if false = true then 9223372036854775808 else 9223372036854775807) by rw [if_neg Bool.false_ne_true]; omega)]
      exact Ev.congr (fun k => by rw [if_neg h1, if_neg h2, if_pos h3, if_pos nf]) (Ev.now _)
    · rw [if_pos (show n ≤ (if false = true then 9223372036854775808 else 9223372036854775807) by rw [if_neg Bool.false_ne_true]; omega), if_neg Bool.false_ne_true]
      exact Ev.congr (fun k => by rw [if_neg h1, if_neg h2, if_neg h3]) (hjF (by omega))
section
variable {n d : Nat} (hn : n < 340282366920938463463374607431768211456) (hd : 0 < d) (hd2 : d ≤ 170141183460469231731687303715884105728)
include hn hd hd2
theorem made_ev (nb db : Bool) : Ev (fun k => rat_made.f k ((hiN n, loN n) : S269) nb ((hiN d, loN d) : S269) db) (sMade (nb != db) n d) := by
  have hg : 0 < Nat.gcd n d := Nat.gcd_pos_of_pos_right _ hd
  have hg2 : Nat.gcd n d ≤ d := Nat.gcd_le_right _ hd
  unfold rat_made.f
  simp only [S269.f0, S269.f1]
  refine Ev.bind (common_ev 0 0 d d n (Nat.le_refl _) hn hd2) (Ev.bind (over_ev hn hg (by omega)) (Ev.bind (over_ev (by omega) hg (by omega)) ?_))
  have fin : ∀ b : Bool, (b = (nb != db) ∨ (b = false ∧ n / Nat.gcd n d = 0)) → Ev (fun k => rat_made.j0 k b 0 0 (hiN (n / Nat.gcd n d)) (loN (n / Nat.gcd n d)) (hiN (d / Nat.gcd n d)) (loN (d / Nat.gcd n d))) (sMade (nb != db) n d) := fun b hb => by
    refine Ev.step (fun k => by rw [rat_made.j0]) (Ev.bind (number_ev _ b) (Ev.bind (number_ev _ false) ?_))
    unfold sMade
    generalize n / Nat.gcd n d = N at *
    generalize d / Nat.gcd n d = D at *
    refine Ev.eq ?_
    rcases hb with rfl | ⟨rfl, rfl⟩
    · cases (nb != db) <;> simp only [if_true, if_false, Bool.false_eq_true] <;> (repeat' split) <;> first | rfl | (exfalso; omega) | (simp_all; done) | (exfalso; simp_all; omega)
    · cases (nb != db) <;> simp only [if_true, if_false, Bool.false_eq_true] <;> (repeat' split) <;> first | rfl | (exfalso; omega) | (simp_all; done) | (exfalso; simp_all; omega)
  by_cases h : nb = db
  · exact Ev.congr (fun k => by rw [if_pos h]) (fin false (Or.inl (by subst h; simp)))
  · refine Ev.congr (fun k => by rw [if_neg h, zero_is, Option.bind_some]) (fin _ ?_)
    by_cases hz : n / Nat.gcd n d = 0
    · exact Or.inr ⟨by simp [hz], hz⟩
    · refine Or.inl ?_
      rw [decide_eq_false hz]
      cases nb <;> cases db <;> first | rfl | exact absurd rfl h
theorem held_ev (neg : Bool) : Ev (fun k => gnomonref02_held.f k neg (hiN n) (loN n) (hiN d) (loN d)) (sMade neg n d) := by
  have hg : 0 < Nat.gcd n d := Nat.gcd_pos_of_pos_right _ hd
  have hg2 : Nat.gcd n d ≤ d := Nat.gcd_le_right _ hd
  have hne : ¬ ((hiN d, loN d) : S277) = (0, 0) := fun h => by
    rw [Prod.mk.injEq] at h
    unfold hiN loN at h
    omega
  unfold gnomonref02_held.f
  refine Ev.congr (fun k => by rw [if_neg hne]) ?_
  refine Ev.bind (rcommon_ev 0 0 d d n (Nat.le_refl _) hn hd2) (Ev.bind (divide_ev hn hg (by omega)) (Ev.bind (divide_ev (by omega) hg (by omega)) ?_))
  unfold sMade
  generalize n / Nat.gcd n d = N at *
  generalize d / Nat.gcd n d = D at *
  have hj1 : N ≤ 9223372036854775808 → D ≤ 9223372036854775807 → (neg = true ∨ N ≤ 9223372036854775807) → Ev (fun k => gnomonref02_held.j1 k neg 0 0 (hiN N) (loN N) (hiN D) (loN D)) ((if neg = true then -(N : Int) else (N : Int)), (D : Int), 0) := fun h1 h2 h3 => by
    have e1 : loN N = (N : Int) := by unfold loN; omega
    have e2 : loN D = (D : Int) := by unfold loN; omega
    rw [e1, e2]
    cases neg with
    | true => exact Ev.step (g := fun _ => some (-(N : Int), (D : Int), 0)) (fun k => by rw [gnomonref02_held.j1, if_pos rfl, neg_is h1, w64_id (by omega)]) (Ev.now _)
    | false => exact Ev.step (g := fun _ => some ((N : Int), (D : Int), 0)) (fun k => by rw [gnomonref02_held.j1, if_neg (by decide), w64_id (by simp at h3; omega), w64_id (by omega)]) (Ev.now _)
  have hj : ∀ m : Int, m = (if neg = true then 9223372036854775808 else 9223372036854775807) → Ev (fun k => gnomonref02_held.j0 k neg m 0 0 (hiN N) (loN N) (hiN D) (loN D)) (if N > (if neg = true then 9223372036854775808 else 9223372036854775807) ∨ D > 9223372036854775807 then (0, 0, 20) else ((if neg = true then -(N : Int) else (N : Int)), (D : Int), 0)) := fun m hm => by
    by_cases a1 : hiN N = 0
    rotate_left
    · rw [if_pos (Or.inl (by unfold hiN at a1; split <;> omega))]
      exact Ev.step (g := fun _ => some (0, 0, 20)) (fun k => by rw [gnomonref02_held.j0, if_neg a1]) (Ev.now _)
    have e1 : loN N = (N : Int) := by unfold hiN at a1; unfold loN; omega
    by_cases a2 : loN N > m
    · rw [if_pos (Or.inl (by rw [e1, hm] at a2; cases neg <;> simp_all <;> omega))]
      exact Ev.step (g := fun _ => some (0, 0, 20)) (fun k => by rw [gnomonref02_held.j0, if_pos a1, if_pos a2]) (Ev.now _)
    by_cases a3 : hiN D = 0
    rotate_left
    · rw [if_pos (Or.inr (by unfold hiN at a3; omega))]
      exact Ev.step (g := fun _ => some (0, 0, 20)) (fun k => by rw [gnomonref02_held.j0, if_pos a1, if_neg a2, if_neg a3]) (Ev.now _)
    have e2 : loN D = (D : Int) := by unfold hiN at a3; unfold loN; omega
    by_cases a4 : loN D > 9223372036854775807
    · rw [if_pos (Or.inr (by rw [e2] at a4; omega))]
      exact Ev.step (g := fun _ => some (0, 0, 20)) (fun k => by rw [gnomonref02_held.j0, if_pos a1, if_neg a2, if_pos a3, if_pos a4]) (Ev.now _)
    rw [e1, hm] at a2
    rw [e2] at a4
    rw [if_neg (by cases neg <;> simp_all <;> omega)]
    refine Ev.step (fun k => by rw [gnomonref02_held.j0, if_pos a1, if_neg (by rw [e1, hm]; exact a2), if_pos a3, if_neg (by rw [e2]; exact a4)]) (hj1 ?_ (by omega) ?_)
    · cases neg <;> simp_all <;> omega
    · cases neg
      · right; simp at a2; omega
      · left; rfl
  cases neg with
  | true => exact Ev.congr (fun k => by rw [if_pos rfl]) (hj _ (by decide))
  | false => exact Ev.congr (fun k => by rw [if_neg (by decide)]) (hj _ (by decide))
end
/-! A fraction's parts. -/
def R64 (x : Int) : Prop := -9223372036854775808 ≤ x ∧ x ≤ 9223372036854775807
theorem abs_le {x : Int} (h : R64 x) : x.natAbs ≤ 9223372036854775808 := by unfold R64 at h; omega
theorem of_is {a : Int} (h : R64 a) : rat_of.f a = some (((hiN a.natAbs, loN a.natAbs) : S269), decide (a < 0)) := by
  unfold R64 at h
  have e1 : hiN a.natAbs = 0 := by unfold hiN; omega
  unfold rat_of.f
  by_cases h0 : a < 0
  · have e2 : wk .u64 (0 - wk .u64 a) = loN a.natAbs := by rw [wk_mod, wk_mod]; unfold loN; omega
    rw [if_pos h0, decide_eq_true h0, e1, e2]
  · have e2 : wk .u64 a = loN a.natAbs := by rw [wk_mod]; unfold loN; omega
    rw [if_neg h0, decide_eq_false h0, e1, e2]
theorem size_is {a : Int} (h : R64 a) : gnomonref02_size.f a = some ((a.natAbs : Nat) : Int) := by
  unfold R64 at h
  unfold gnomonref02_size.f
  split
  · rw [wk_mod, wk_mod]; congr 1; omega
  · rw [wk_mod]; congr 1; omega
def sRight (n d : Int) : Bool := decide (d ≥ 1 ∧ Nat.gcd n.natAbs d.toNat = 1)
theorem sRight_nat {n : Int} {D : Nat} (h : 0 < D) : sRight n (D : Int) = decide (Nat.gcd n.natAbs D = 1) := by
  unfold sRight
  apply decide_eq_decide.2
  rw [Int.toNat_natCast]
  exact ⟨fun h => h.2, fun h2 => ⟨by omega, h2⟩⟩
theorem right_ev {n d : Int} (hn : R64 n) (hd : R64 d) : Ev (fun k => rat_Right.f k n d) (sRight n d) := by
  have hn1 := abs_le hn
  unfold rat_Right.f
  by_cases h1 : d < 1
  · refine Ev.congr (fun k => by rw [if_pos h1]) ?_
    rw [show sRight n d = false from decide_eq_false (by omega)]
    exact Ev.now _
  obtain ⟨D, rfl⟩ : ∃ D : Nat, d = (D : Int) := ⟨d.toNat, by omega⟩
  have hd' := hd
  unfold R64 at hd'
  have hD : 0 < D := by omega
  have e0 : ¬ ((D : Int) = 0) := by omega
  refine Ev.congr (fun k => by rw [if_neg h1]) (Ev.bind (a := ((sMade (decide (n < 0)) n.natAbs D).1, (sMade (decide (n < 0)) n.natAbs D).2.1, (sMade (decide (n < 0)) n.natAbs D).2.2)) ?_ ?_)
  · unfold rat_New.f
    refine Ev.congr (fun k => by rw [if_neg e0, of_is hn, Option.bind_some, of_is hd, Option.bind_some]) (Ev.bind (a := sMade (decide (n < 0)) n.natAbs D) ?_ (Ev.now _))
    have := made_ev (n := n.natAbs) (d := D) (by omega) hD (by omega) (decide (n < 0)) (decide ((D : Int) < 0))
    rw [decide_eq_false (show ¬ (D : Int) < 0 by omega)] at this ⊢
    simpa using this
  · refine Ev.eq ?_
    have hg : 0 < Nat.gcd n.natAbs D := Nat.gcd_pos_of_pos_right _ hD
    rw [sRight_nat hD]
    by_cases hg1 : Nat.gcd n.natAbs D = 1
    · have hr : sMade (decide (n < 0)) n.natAbs D = (n, (D : Int), 0) := by
        unfold sMade
        unfold R64 at hn
        rw [hg1, Nat.div_one, Nat.div_one]
        by_cases hneg : n < 0
        · rw [decide_eq_true hneg, if_pos rfl, if_pos rfl, if_neg (by omega)]
          congr 1; omega
        · rw [decide_eq_false hneg, if_neg Bool.false_ne_true, if_neg Bool.false_ne_true, if_neg (by omega)]
          congr 1; omega
      rw [hr, show decide (Nat.gcd n.natAbs D = 1) = true from decide_eq_true hg1, if_pos rfl]
      congr 1
      exact decide_eq_true rfl
    · have hlt : D / Nat.gcd n.natAbs D < D := Nat.div_lt_self hD (by omega)
      have hr : (sMade (decide (n < 0)) n.natAbs D).2.2 = 0 → (sMade (decide (n < 0)) n.natAbs D).2.1 ≠ (D : Int) := by
        unfold sMade
        by_cases hc : n.natAbs / Nat.gcd n.natAbs D > (if decide (n < 0) = true then 9223372036854775808 else 9223372036854775807) ∨ D / Nat.gcd n.natAbs D > 9223372036854775807
        · rw [if_pos hc]; intro h; exact absurd h (by decide)
        · rw [if_neg hc]; intro _ h
          have h : ((D / Nat.gcd n.natAbs D : Nat) : Int) = (D : Int) := h
          omega
      generalize sMade (decide (n < 0)) n.natAbs D = r at *
      rw [show decide (Nat.gcd n.natAbs D = 1) = false from decide_eq_false hg1]
      by_cases h0 : r.2.2 = 0
      · rw [if_pos h0]
        congr 1
        refine decide_eq_false fun h => hr h0 ?_
        exact (Prod.mk.inj h).2
      · rw [if_neg h0]
theorem rright_ev {n d : Int} (hn : R64 n) (hd : R64 d) : Ev (fun k => gnomonref02_Right.f k n d) (sRight n d) := by
  have hn1 := abs_le hn
  unfold gnomonref02_Right.f
  by_cases h1 : d > 0
  rotate_left
  · refine Ev.congr (fun k => by rw [if_neg h1]) ?_
    rw [show sRight n d = false from decide_eq_false (by omega)]
    exact Ev.now _
  obtain ⟨D, rfl⟩ : ∃ D : Nat, d = (D : Int) := ⟨d.toNat, by omega⟩
  unfold R64 at hd
  have hD : 0 < D := by omega
  refine Ev.congr (fun k => by rw [if_pos h1, size_is hn, Option.bind_some, wk_nat (n := D) (by omega)]) (Ev.bind (a := (hiN (Nat.gcd n.natAbs D), loN (Nat.gcd n.natAbs D))) ?_ ?_)
  · have := rcommon_ev 0 0 D D n.natAbs (Nat.le_refl _) (by omega) (by omega)
    rw [show hiN n.natAbs = 0 by unfold hiN; omega, show loN n.natAbs = (n.natAbs : Int) by unfold loN; omega, show hiN D = 0 by unfold hiN; omega, show loN D = (D : Int) by unfold loN; omega] at this
    exact this
  · refine Ev.eq ?_
    have hg2 : Nat.gcd n.natAbs D ≤ D := Nat.gcd_le_right _ hD
    rw [sRight_nat hD]
    congr 1
    apply decide_eq_decide.2
    rw [Prod.mk.injEq]
    unfold hiN loN
    constructor
    · intro h; omega
    · intro h; exact ⟨by omega, by omega⟩
end Go.Proofs.YtbjkfkifkglplaaGreatDoor.Q
