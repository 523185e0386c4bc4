/- Part of the proof: PS1. -/
import Derived.Test.YtkmleeeekbdomaaGreatDoorT4
import Derived.Test.YtkmleeeekbdomaaGreatDoorLV
set_option linter.unusedSectionVars false
set_option linter.unusedVariables false
set_option linter.unusedSimpArgs false
namespace Go.Proofs.YtkmleeeekbdomaaGreatDoor.Q
open Go Go.Den Go.Proofs
theorem live_le : Le (some true) (fun k => gnomonlaw20_live.f k) := fun r h => ⟨400, fun k hk => by
  cases h
  obtain ⟨j, rfl⟩ := Nat.exists_eq_add_of_le hk
  exact mo_all gnomonlaw20_live.mo live_is j⟩
theorem drop_step {b : List S41} {i : Nat} {z : S41} {w : List S41} (h : b.drop i = z :: w) : (i : Int) < (b.length : Int) ∧ rd_T41 b (i : Int) = z ∧ b.drop (i + 1) = w := by
  have hx := drop_cons h
  exact ⟨by have := hx.1; omega, rdT_head (t := T41) h, hx.2.2⟩
theorem eq_L0 (b : List S41) : ∀ (l : List S41) (i : Nat), l.length = (b.drop i).length → slices_Equal_api_Step_api_Step.L0 b l i = some (decide (l = b.drop i))
  | [], i, h => by
    have : b.drop i = [] := List.eq_nil_of_length_eq_zero h.symm
    rw [this]; rfl
  | y :: u, i, h => by
    obtain ⟨z, w, hd⟩ : ∃ z w, b.drop i = z :: w := by
      cases hd : b.drop i with
      | nil => rw [hd] at h; cases h
      | cons z w => exact ⟨z, w, rfl⟩
    obtain ⟨h1, h2, h3⟩ := drop_step hd
    rw [hd] at h ⊢
    unfold slices_Equal_api_Step_api_Step.L0
    rw [if_pos h1, h2]
    have ih := eq_L0 b u (i + 1) (by rw [h3]; simpa using h)
    by_cases hy : y = z
    · subst hy
      rw [if_pos rfl, ih, h3]
      simp
    · rw [if_neg (fun e => hy e)]
      simp [hy]
theorem eq_L1 (b : List S41) : ∀ (l : List S41) (i : Nat), l.length = (b.drop i).length → gnomonref20_Same.L1 b l i = some (decide (l = b.drop i))
  | [], i, h => by
    have : b.drop i = [] := List.eq_nil_of_length_eq_zero h.symm
    rw [this]; rfl
  | y :: u, i, h => by
    obtain ⟨z, w, hd⟩ : ∃ z w, b.drop i = z :: w := by
      cases hd : b.drop i with
      | nil => rw [hd] at h; cases h
      | cons z w => exact ⟨z, w, rfl⟩
    obtain ⟨h1, h2, h3⟩ := drop_step hd
    rw [hd] at h ⊢
    unfold gnomonref20_Same.L1
    rw [if_pos h1, h2]
    have ih := eq_L1 b u (i + 1) (by rw [h3]; simpa using h)
    by_cases hy : y = z
    · subst hy
      rw [if_pos rfl, ih, h3]
      simp
    · rw [if_neg (fun e => hy e)]
      simp [hy]
theorem same_is {a b : List S41} {p q : S24} (ha : a.length ≤ 9223372036854775807) : run_Same.g a p b q = some (decide ((a, p) = (b, q))) := by
  unfold run_Same.g slices_Equal_api_Step_api_Step.g
  by_cases hp : p = q
  · rw [if_pos hp]
    by_cases hl : (a.length : Int) = (b.length : Int)
    · rw [if_pos hl, if_pos ha, eq_L0 b a 0 (by rw [List.drop_zero]; omega)]
      simp [hp]
    · rw [if_neg hl]
      have : a ≠ b := fun e => hl (by rw [e])
      simp [this]
  · rw [if_neg hp]
    simp [hp]
theorem ref_is {a b : List S41} {p q : S24} (ha : a.length ≤ 9223372036854775807) : gnomonref20_Same.g a p b q = some (decide ((a, p) = (b, q))) := by
  unfold gnomonref20_Same.g
  by_cases hl : (a.length : Int) = (b.length : Int)
  · rw [if_pos hl]
    by_cases hp : p = q
    · rw [if_pos hp, if_pos ha, eq_L1 b a 0 (by rw [List.drop_zero]; omega)]
      simp [hp]
    · rw [if_neg hp]
      simp [hp]
  · rw [if_neg hl]
    have : a ≠ b := fun e => hl (by rw [e])
    simp [this]
theorem cut_is {a : List S41} {p : S24} (ha : a.length ≤ 2932031007402) : run_Cut.f a p (w64 ((a.length : Int) + 1)) = some (a, p) := by
  have hw : w64 ((a.length : Int) + 1) = (a.length : Int) + 1 := by
    show RowKit.wrap64 _ = _
    unfold RowKit.wrap64; omega
  rw [hw]
  unfold run_Cut.f slices_Clone_api_Step_api_Step.f
  rw [if_pos (by omega), if_pos (by simpa using ha)]
  rfl
end Go.Proofs.YtkmleeeekbdomaaGreatDoor.Q
