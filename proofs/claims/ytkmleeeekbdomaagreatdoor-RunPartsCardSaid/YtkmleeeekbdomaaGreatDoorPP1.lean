/- Part of the proof: PP1. -/
import Derived.Test.YtkmleeeekbdomaaGreatDoorM64
set_option linter.unusedSectionVars false
set_option linter.unusedVariables false
set_option linter.unusedSimpArgs false
set_option maxRecDepth 100000
namespace Go.Proofs.YtkmleeeekbdomaaGreatDoor.Q
open Go Go.Den Go.Proofs
/-- A number that an int64 holds. -/
def rg (x : Int) : Prop := -9223372036854775808 ≤ x ∧ x ≤ 9223372036854775807
def rgs (x : S24) : Prop := rg x.1 ∧ rg x.2
theorem w64_rg (x : Int) : rg (w64 x) := by
  show rg (RowKit.wrap64 x)
  unfold RowKit.wrap64 rg; omega
theorem num_rg {x : S91} {y : Bool} {t : Int × Bool} (h : rat_wide_number.g x y = some t) : rg t.1 := by
  unfold rat_wide_number.g at h
  repeat' split at h
  all_goals cases h
  all_goals first | exact w64_rg _ | (unfold rg; dsimp only; omega)
theorem made_rg {a b : S91} {s u : Bool} {t : Int × Int × Int} (h : rat_made.g a s b u = some t) : rg t.1 ∧ rg t.2.1 := by
  have z : rg 0 := by unfold rg; omega
  have fin : ∀ {x y : S91} {p q : Bool}, ((rat_wide_number.g x p).bind fun t4 => ((rat_wide_number.g y q).bind fun t5 => (if (!t4.2) = true then (some (0, 0, 20)) else (if (!t5.2) = true then (some (0, 0, 20)) else (some (t4.1, t5.1, 0)))))) = some t → rg t.1 ∧ rg t.2.1 := fun {x y p q} h => by
    obtain ⟨t4, e4, h⟩ := Option.bind_eq_some_iff.1 h
    obtain ⟨t5, e5, h⟩ := Option.bind_eq_some_iff.1 h
    repeat' split at h
    · cases h; exact ⟨z, z⟩
    · cases h; exact ⟨z, z⟩
    · cases h; exact ⟨num_rg e4, num_rg e5⟩
  unfold rat_made.g at h
  obtain ⟨_, _, h⟩ := Option.bind_eq_some_iff.1 h
  obtain ⟨_, _, h⟩ := Option.bind_eq_some_iff.1 h
  obtain ⟨_, _, h⟩ := Option.bind_eq_some_iff.1 h
  split at h
  · exact fin h
  · obtain ⟨_, _, h⟩ := Option.bind_eq_some_iff.1 h
    exact fin h
theorem of_is {n : Int} (h : rg n) : rat_of.f n = some ((⟨0, if n < 0 then -n else n⟩ : S91), decide (n < 0)) := by
  unfold rg at h
  unfold rat_of.f
  by_cases hn : n < 0
  · rw [if_pos hn, if_pos hn]
    have : wk .u64 (0 - wk .u64 n) = -n := by rw [wk_mod, wk_mod]; omega
    rw [this]; simp [hn]
  · rw [if_neg hn, if_neg hn]
    have : wk .u64 n = n := by rw [wk_mod]; omega
    rw [this]; simp [hn]
theorem u_abs {n : Int} (h : rg n) : U (if n < 0 then -n else n) := by unfold rg U at *; split <;> omega
theorem u_zero : U 0 := by unfold U; omega
theorem new_is {n d : Int} (hn : rg n) (hd : rg d) : ∃ t, rat_New.g n d = some t ∧ (t.2.2 = 0 → rg t.1 ∧ rg t.2.1) := by
  unfold rat_New.g
  by_cases h0 : d = 0
  · rw [if_pos h0]; exact ⟨_, rfl, fun h => by cases h⟩
  · rw [if_neg h0, of_is hn, Option.bind_some, of_is hd, Option.bind_some]
    obtain ⟨t, e⟩ := made_is (a := (⟨0, if n < 0 then -n else n⟩ : S91)) (b := (⟨0, if d < 0 then -d else d⟩ : S91)) (s := decide (n < 0)) (u := decide (d < 0)) u_zero (u_abs hn) u_zero (u_abs hd) (by show 0 < val 0 (if d < 0 then -d else d); unfold val rg at *; split <;> omega) (by show val 0 (if d < 0 then -d else d) ≤ _; unfold val rg at *; split <;> omega)
    rw [e, Option.bind_some]
    exact ⟨_, rfl, fun _ => made_rg e⟩
theorem right_is {n d : Int} (hn : rg n) (hd : rg d) : ∃ b, rat_Right.g n d = some b := by
  unfold rat_Right.g
  by_cases h0 : d < 1
  · rw [if_pos h0]; exact ⟨_, rfl⟩
  · rw [if_neg h0]
    obtain ⟨t, e, _⟩ := new_is hn hd
    rw [e, Option.bind_some]
    split <;> exact ⟨_, rfl⟩
/-- A fraction in lowest terms. -/
def Rt (x : S24) : Prop := rat_Right.g x.1 x.2 = some true
theorem Rt.pos {x : S24} (h : Rt x) : 1 ≤ x.2 := by
  unfold Rt rat_Right.g at h
  by_cases h0 : x.2 < 1
  · rw [if_pos h0] at h; cases h
  · omega
theorem Rt.new {x : S24} (h : Rt x) : rat_New.g x.1 x.2 = some (x.1, x.2, 0) := by
  have hp := h.pos
  unfold Rt rat_Right.g at h
  rw [if_neg (by omega)] at h
  obtain ⟨t, e, h⟩ := Option.bind_eq_some_iff.1 h
  split at h
  · rename_i h0
    have h := Option.some.inj h
    have h := of_decide_eq_true h
    have h1 : t.1 = x.1 := congrArg (·.1) h
    have h2 : t.2.1 = x.2 := congrArg (·.2) h
    rw [e]
    obtain ⟨p, q, r⟩ := t
    dsimp only at h0 h1 h2
    rw [h0, h1, h2]
  · cases h
theorem rt_one : Rt (0, 1) := by
  obtain ⟨b, hb⟩ := right_is (n := 0) (d := 1) (by unfold rg; omega) (by unfold rg; omega)
  obtain ⟨K, hK⟩ := rat_Right.le 0 1 b hb
  have h1 : rat_Right.f 400 0 1 = some true := by decide +kernel
  have h2 := mo_all (fun k => rat_Right.mo k 0 1) h1 K
  have h3 : rat_Right.f (400 + K) 0 1 = some b := hK (400 + K) (by omega)
  have h4 : rat_Right.f (400 + K) 0 1 = some true := h2
  rw [h3] at h4
  cases h4
  exact hb
theorem times_is {a b : Int} (ha : rg a) (hb : rg b) : ∃ x y s, rat_times.f a b = some ((⟨x, y⟩ : S91), s) ∧ U x ∧ U y ∧ val x y = (if a < 0 then -a else a) * (if b < 0 then -b else b) ∧ (s = true ↔ (decide (a < 0) ≠ decide (b < 0) ∧ val x y ≠ 0)) := by
  unfold rat_times.f
  have ua := u_abs ha
  have ub := u_abs hb
  rw [of_is ha, Option.bind_some, of_is hb, Option.bind_some]
  dsimp only
  generalize (if a < 0 then -a else a) = A at *
  generalize (if b < 0 then -b else b) = B at *
  have hb2 : 0 ≤ A * B := Int.mul_nonneg ua.1 ub.1
  have hb3 : A * B < 18446744073709551616 * 18446744073709551616 := by
    have h1 : A * B ≤ 18446744073709551615 * B := Int.mul_le_mul_of_nonneg_right (by unfold U at ua; omega) ub.1
    have h2 : 18446744073709551615 * B ≤ 18446744073709551615 * 18446744073709551615 := by unfold U at ub; omega
    omega
  have hv : val (A * B / 18446744073709551616) (A * B % 18446744073709551616) = A * B := by unfold val; omega
  have e := mul64_eq (x := A) (y := B) ua ub
  rw [show math_bits_Mul64.f A B = _ from e, Option.bind_some]
  generalize A * B = P at *
  by_cases hs : (decide (a < 0) = decide (b < 0))
  · rw [if_pos hs]
    refine ⟨_, _, false, rfl, by unfold U; omega, by unfold U; omega, hv, ?_⟩
    simp [hs]
  · rw [if_neg hs]
    rw [zero_is (by unfold U; omega) (by unfold U; omega), Option.bind_some]
    refine ⟨_, _, _, rfl, by unfold U; omega, by unfold U; omega, hv, ?_⟩
    simp [hs]
theorem sum_is {a b : S91} {s u : Bool} (h1 : U a.f0) (h2 : U a.f1) (h3 : U b.f0) (h4 : U b.f1) : ∃ x y v, rat_wide_sum.g a s b u = some ((⟨x, y⟩ : S91), v) ∧ U x ∧ U y := by
  unfold rat_wide_sum.g
  split
  · obtain ⟨x, y, e, hx, hy, _⟩ := plus_is h1 h2 h3 h4
    rw [e, Option.bind_some]
    exact ⟨x, y, s, rfl, hx, hy⟩
  · rw [compare_is h2 h4, Option.bind_some]
    generalize (if val a.f0 a.f1 < val b.f0 b.f1 then (-1 : Int) else if val a.f0 a.f1 > val b.f0 b.f1 then 1 else 0) = z
    split
    · exact ⟨0, 0, false, rfl, u_zero, u_zero⟩
    · split
      · obtain ⟨x, y, e, hx, hy, _⟩ := less_is h1 h2 h3 h4
        rw [e, Option.bind_some]
        exact ⟨x, y, s, rfl, hx, hy⟩
      · obtain ⟨x, y, e, hx, hy, _⟩ := less_is h3 h4 h1 h2
        rw [e, Option.bind_some]
        exact ⟨x, y, u, rfl, hx, hy⟩
theorem both_is {a b : S24} (ha : rgs a) (hb : rgs b) : ∃ t, rat_both.g a.1 a.2 b.1 b.2 = some t ∧ (t = true ↔ Rt a ∧ Rt b) := by
  unfold rat_both.g Rt
  obtain ⟨p, hp⟩ := right_is ha.1 ha.2
  obtain ⟨q, hq⟩ := right_is hb.1 hb.2
  rw [hp, hq, Option.bind_some]
  cases p
  · exact ⟨false, by simp, by simp⟩
  · exact ⟨q, by simp, by simp⟩
/-- A sum, or the error. -/
theorem addR_is {a b : S24} (ha : rgs a) (hb : rgs b) : ∃ t, rat_Add.g a.1 a.2 b.1 b.2 = some t ∧ (t.2.2 = 0 → Rt a ∧ Rt b) ∧ rg t.1 ∧ rg t.2.1 := by
  unfold rat_Add.g
  obtain ⟨t, e, ht⟩ := both_is ha hb
  rw [e, Option.bind_some]
  have z : rg 0 := by unfold rg; omega
  cases t with
  | false => exact ⟨_, rfl, (by intro h; cases h), z, z⟩
  | true =>
    obtain ⟨ra, rb⟩ := ht.1 rfl
    rw [if_neg (by decide)]
    obtain ⟨x1, y1, s1, e1, u1, v1, _⟩ := times_is ha.1 hb.2
    obtain ⟨x2, y2, s2, e2, u2, v2, _⟩ := times_is hb.1 ha.2
    obtain ⟨x3, y3, s3, e3, u3, v3, hv, _⟩ := times_is ha.2 hb.2
    obtain ⟨x4, y4, s4, e4, u4, v4⟩ := sum_is (a := (⟨x1, y1⟩ : S91)) (b := (⟨x2, y2⟩ : S91)) (s := s1) (u := s2) u1 v1 u2 v2
    have pa := ra.pos
    have pb := rb.pos
    have hpos : 1 ≤ a.2 * b.2 := by have := Int.mul_le_mul pa pb (by decide) (by omega); omega
    have hle : a.2 * b.2 ≤ 9223372036854775807 * 9223372036854775807 := Int.mul_le_mul ha.2.2 hb.2.2 (by omega) (by decide)
    rw [if_neg (by omega), if_neg (by omega)] at hv
    rw [e1, Option.bind_some, e2, Option.bind_some]
    dsimp only
    rw [e4, Option.bind_some, e3, Option.bind_some]
    obtain ⟨t, et⟩ := made_is (a := (⟨x4, y4⟩ : S91)) (b := (⟨x3, y3⟩ : S91)) (s := s4) (u := s3) u4 v4 u3 v3 (by show 0 < val x3 y3; omega) (by show val x3 y3 ≤ _; omega)
    dsimp only
    rw [et, Option.bind_some]
    exact ⟨_, rfl, fun _ => ⟨ra, rb⟩, (made_rg et).1, (made_rg et).2⟩
end Go.Proofs.YtkmleeeekbdomaaGreatDoor.Q
