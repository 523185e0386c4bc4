/- Part of the proof: PP2. -/
import Derived.Test.YtkmleeeekbdomaaGreatDoorPP1
set_option linter.unusedSectionVars false
set_option linter.unusedVariables false
set_option linter.unusedSimpArgs false
set_option maxRecDepth 100000
namespace Go.Proofs.YtkmleeeekbdomaaGreatDoor.Q
open Go Go.Den Go.Proofs
theorem mul_one' {n : Int} (h : rg n) : ∃ s, rat_times.f n 1 = some ((⟨0, if n < 0 then -n else n⟩ : S91), s) ∧ s = decide (n < 0) := by
  obtain ⟨x, y, s, e, ux, uy, hv, hs⟩ := times_is h (by unfold rg; omega : rg 1)
  have e1 : (if (1 : Int) < 0 then -1 else (1 : Int)) = 1 := by decide
  rw [e1, Int.mul_one] at hv
  have ua := u_abs h
  generalize hA : (if n < 0 then -n else n) = A at *
  have hx : x = 0 := by unfold val U at *; omega
  have hy : y = A := by unfold val U at *; omega
  subst hx; subst hy
  refine ⟨s, e, ?_⟩
  have h1 : decide ((1 : Int) < 0) = false := by decide
  rw [h1, hv] at hs
  by_cases hn : n < 0
  · rw [if_pos hn] at hA
    simp only [hn, decide_true] at hs ⊢
    exact hs.2 ⟨by decide, by omega⟩
  · simp only [hn, decide_false] at hs ⊢
    cases s
    · rfl
    · exact absurd (hs.1 rfl).1 (by decide)
theorem one_mul' {n : Int} (h : rg n) : ∃ s, rat_times.f 1 n = some ((⟨0, if n < 0 then -n else n⟩ : S91), s) ∧ s = decide (n < 0) := by
  obtain ⟨x, y, s, e, ux, uy, hv, hs⟩ := times_is (by unfold rg; omega : rg 1) h
  have e1 : (if (1 : Int) < 0 then -1 else (1 : Int)) = 1 := by decide
  rw [e1, Int.one_mul] at hv
  have ua := u_abs h
  generalize hA : (if n < 0 then -n else n) = A at *
  have hx : x = 0 := by unfold val U at *; omega
  have hy : y = A := by unfold val U at *; omega
  subst hx; subst hy
  refine ⟨s, e, ?_⟩
  have h1 : decide ((1 : Int) < 0) = false := by decide
  rw [h1, hv] at hs
  by_cases hn : n < 0
  · rw [if_pos hn] at hA
    simp only [hn, decide_true] at hs ⊢
    exact hs.2 ⟨by decide, by omega⟩
  · simp only [hn, decide_false] at hs ⊢
    cases s
    · rfl
    · exact absurd (hs.1 rfl).1 (by decide)
theorem zero_mul' {n : Int} (h : rg n) : rat_times.f 0 n = some ((⟨0, 0⟩ : S91), false) := by
  obtain ⟨x, y, s, e, ux, uy, hv, hs⟩ := times_is (by unfold rg; omega : rg 0) h
  have e1 : (if (0 : Int) < 0 then -0 else (0 : Int)) = 0 := by decide
  rw [e1, Int.zero_mul] at hv
  have hx : x = 0 := by unfold val U at *; omega
  have hy : y = 0 := by unfold val U at *; omega
  subst hx; subst hy
  rw [e]
  cases s
  · rfl
  · exact absurd hv (hs.1 rfl).2
theorem mul_zero' {n : Int} (h : rg n) : rat_times.f n 0 = some ((⟨0, 0⟩ : S91), false) := by
  obtain ⟨x, y, s, e, ux, uy, hv, hs⟩ := times_is h (by unfold rg; omega : rg 0)
  have e1 : (if (0 : Int) < 0 then -0 else (0 : Int)) = 0 := by decide
  rw [e1, Int.mul_zero] at hv
  have hx : x = 0 := by unfold val U at *; omega
  have hy : y = 0 := by unfold val U at *; omega
  subst hx; subst hy
  rw [e]
  cases s
  · rfl
  · exact absurd hv (hs.1 rfl).2
theorem plus_val {a b c d x y : Int} (ha : U a) (hb : U b) (hc : U c) (hd : U d) (ux : U x) (uy : U y) (h : val a b + val c d = val x y) : rat_size_plus.f a b c d = some (x, y) := by
  obtain ⟨p, q, e, up, uq, hv⟩ := plus_is ha hb hc hd
  have hv := hv (by unfold val U at *; omega)
  rw [e]
  have h1 : p = x := by unfold val U at *; omega
  have h2 : q = y := by unfold val U at *; omega
  rw [h1, h2]
theorem less_zero {a b : Int} (ha : U a) (hb : U b) : rat_size_less.f a b 0 0 = some (a, b) := by
  obtain ⟨p, q, e, up, uq, hv⟩ := less_is ha hb u_zero u_zero
  have hv := hv (by unfold val U at *; omega)
  rw [e]
  have h1 : p = a := by unfold val U at *; omega
  have h2 : q = b := by unfold val U at *; omega
  rw [h1, h2]
theorem sum_zero {A : Int} {s : Bool} (hA : U A) (hs : s = true → A ≠ 0) : rat_wide_sum.g (⟨0, A⟩ : S91) s (⟨0, 0⟩ : S91) false = some ((⟨0, A⟩ : S91), s) := by
  unfold rat_wide_sum.g
  cases s with
  | false =>
    rw [if_pos rfl, plus_val u_zero hA u_zero u_zero u_zero hA (by unfold val; omega), Option.bind_some]
  | true =>
    have h0 := hs rfl
    rw [if_neg (by decide), compare_is hA u_zero, if_neg (by show ¬ val 0 A < val 0 0; unfold val U at *; omega), if_pos (by show val 0 A > val 0 0; unfold val U at *; omega), Option.bind_some, if_neg (by decide), if_pos rfl, less_zero u_zero hA, Option.bind_some]
theorem zero_sum {A : Int} {s : Bool} (hA : U A) (hs : s = true → A ≠ 0) : rat_wide_sum.g (⟨0, 0⟩ : S91) false (⟨0, A⟩ : S91) s = some ((⟨0, A⟩ : S91), s) := by
  unfold rat_wide_sum.g
  cases s with
  | false =>
    rw [if_pos rfl, plus_val u_zero u_zero u_zero hA u_zero hA (by unfold val; omega), Option.bind_some]
  | true =>
    have h0 := hs rfl
    rw [if_neg (by decide), compare_is u_zero hA, if_pos (by show val 0 0 < val 0 A; unfold val U at *; omega), Option.bind_some, if_neg (by decide), if_neg (by decide), less_zero u_zero hA, Option.bind_some]
theorem both_rt {a b : S24} (ha : Rt a) (hb : Rt b) : rat_both.g a.1 a.2 b.1 b.2 = some true := by
  unfold rat_both.g
  unfold Rt at ha hb
  rw [ha, hb, Option.bind_some]; rfl
/-- What is made of a right fraction's own parts. -/
theorem made_rt {x : S24} (h : Rt x) (hx : rgs x) : rat_made.g (⟨0, if x.1 < 0 then -x.1 else x.1⟩ : S91) (decide (x.1 < 0)) (⟨0, if x.2 < 0 then -x.2 else x.2⟩ : S91) (decide (x.2 < 0)) = some (x.1, x.2, 0) := by
  have e := h.new
  have hp := h.pos
  unfold rat_New.g at e
  rw [if_neg (by omega), of_is hx.1, Option.bind_some, of_is hx.2, Option.bind_some] at e
  obtain ⟨t, et, e⟩ := Option.bind_eq_some_iff.1 e
  obtain ⟨p, q, r⟩ := t
  simp only [Option.some.injEq, Prod.mk.injEq] at e
  rw [et, e.1, e.2.1, e.2.2]
theorem add_zero' {x : S24} (h : Rt x) (hx : rgs x) : rat_Add.g x.1 x.2 0 1 = some (x.1, x.2, 0) := by
  obtain ⟨s1, e1, rfl⟩ := mul_one' hx.1
  obtain ⟨s2, e2, rfl⟩ := mul_one' hx.2
  unfold rat_Add.g
  have hb : rat_both.g x.1 x.2 0 1 = some true := both_rt (b := (0, 1)) h rt_one
  rw [hb, Option.bind_some, if_neg (by decide), e1, Option.bind_some, zero_mul' hx.2, Option.bind_some, sum_zero (u_abs hx.1) (fun h => by have := of_decide_eq_true h; rw [if_pos this]; omega), Option.bind_some, e2, Option.bind_some, made_rt h hx, Option.bind_some]
theorem zero_add' {x : S24} (h : Rt x) (hx : rgs x) : rat_Add.g 0 1 x.1 x.2 = some (x.1, x.2, 0) := by
  obtain ⟨s1, e1, rfl⟩ := mul_one' hx.1
  obtain ⟨s2, e2, rfl⟩ := one_mul' hx.2
  unfold rat_Add.g
  have hb : rat_both.g 0 1 x.1 x.2 = some true := both_rt (a := (0, 1)) rt_one h
  rw [hb, Option.bind_some, if_neg (by decide), zero_mul' hx.2, Option.bind_some, e1, Option.bind_some, zero_sum (u_abs hx.1) (fun h => by have := of_decide_eq_true h; rw [if_pos this]; omega), Option.bind_some, e2, Option.bind_some, made_rt h hx, Option.bind_some]
end Go.Proofs.YtkmleeeekbdomaaGreatDoor.Q
