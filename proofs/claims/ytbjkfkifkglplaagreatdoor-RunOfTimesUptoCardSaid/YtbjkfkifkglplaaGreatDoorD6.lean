/-
  What a function with rounds computes, told without rounds.
-/
import Derived.Test.YtbjkfkifkglplaaGreatDoorD4f
set_option linter.unusedSectionVars false
set_option linter.unusedSimpArgs false
set_option linter.unusedVariables false
namespace Go.Den
open Go Go.RowKit
/-- Where x answers, F answers so from some round on. -/
def Le {R : Type} (x : Option R) (F : Nat → Option R) : Prop := ∀ r, x = some r → ∃ K, ∀ k, K ≤ k → F k = some r
section
variable {R A : Type} {x y : Option R} {F G : Nat → Option R}
theorem le_rfl {x : Option R} : Le x (fun _ => x) := fun r h => ⟨0, fun _ _ => h⟩
theorem le_none : Le (none : Option R) F := fun r h => by cases h
theorem le_ite {c : Prop} [Decidable c] (h : Le x F) (h' : Le y G) : Le (if c then x else y) (fun k => if c then F k else G k) := by
  by_cases hc : c
  · simpa only [if_pos hc] using h
  · simpa only [if_neg hc] using h'
theorem le_pos {c : Prop} [Decidable c] (hc : c) (h : Le x F) : Le x (fun k => if c then F k else G k) := by simpa only [if_pos hc] using h
theorem le_neg {c : Prop} [Decidable c] (hc : ¬ c) (h : Le x G) : Le x (fun k => if c then F k else G k) := by simpa only [if_neg hc] using h
theorem le_bind {a : Option A} {H : Nat → Option A} {g : A → Option R} {K : A → Nat → Option R} (h : Le a H) (h' : ∀ t, Le (g t) (K t)) : Le (a.bind g) (fun k => (H k).bind fun t => K t k) := fun r hr => by
  obtain ⟨t, ht, hr⟩ := Option.bind_eq_some_iff.1 hr
  obtain ⟨k1, h1⟩ := h t ht
  obtain ⟨k2, h2⟩ := h' t r hr
  exact ⟨max k1 k2, fun k hk => by show (H k).bind _ = _; rw [h1 k (by omega), Option.bind_some, h2 k (by omega)]⟩
theorem le_step (h : Le x (fun k => F (k + 1))) : Le x F := fun r hr => by
  obtain ⟨K, hK⟩ := h r hr
  refine ⟨K + 1, fun k hk => ?_⟩
  obtain ⟨j, rfl⟩ : ∃ j, k = j + 1 := ⟨k - 1, by omega⟩
  exact hK j (by omega)
theorem le_elim {B C : Type} {g1 : B → Option R} {g2 : C → Option R} {F1 : Nat → B → Option R} {F2 : Nat → C → Option R} {e : B ⊕ C} (h1 : ∀ c, Le (g1 c) (fun k => F1 k c)) (h2 : ∀ c, Le (g2 c) (fun k => F2 k c)) : Le (Sum.elim g1 g2 e) (fun k => Sum.elim (F1 k) (F2 k) e) := by
  cases e with
  | inl c => exact h1 c
  | inr c => exact h2 c
/-- A loop is entered where its list is no longer than memory. -/
theorem le_len {c : Prop} [Decidable c] (h : c → Le x F) : Le (if c then x else none) F := by
  by_cases hc : c
  · rw [if_pos hc]; exact h hc
  · rw [if_neg hc]; exact le_none
theorem le_some {r : R} (h : Le x F) (hx : x = some r) : ∃ k, F k = some r := by
  obtain ⟨K, hK⟩ := h r hx
  exact ⟨K, hK K (Nat.le_refl _)⟩
end
theorem drop_cons {α : Type} {xs : List α} {i : Nat} {x : α} {t : List α} (h : xs.drop i = x :: t) : i < xs.length ∧ xs[i]? = some x ∧ xs.drop (i + 1) = t := by
  have hi : i < xs.length := by
    rcases Nat.lt_or_ge i xs.length with h1 | h1
    · exact h1
    · rw [List.drop_eq_nil_of_le h1] at h; cases h
  rw [List.drop_eq_getElem_cons hi] at h
  injection h with h1 h2
  exact ⟨hi, by rw [List.getElem?_eq_getElem hi, h1], h2⟩
theorem drop_nil {α : Type} {xs : List α} {i : Nat} (h : xs.drop i = []) : xs.length ≤ i := by simpa using h
theorem rdT_head {t : Ty} {xs : List t.den} {i : Nat} {y : t.den} {l : List t.den} (h : xs.drop i = y :: l) : rdT t xs (i : Int) = y := by
  simp [rdT, (drop_cons h).2.1]
theorem w_next {α : Type} {xs : List α} {i : Nat} {y : α} {l : List α} (h : xs.drop i = y :: l) (hb : xs.length ≤ 9223372036854775807) : w64 ((i : Int) + 1) = ((i + 1 : Nat) : Int) := by
  have := (drop_cons h).1
  show RowKit.wrap64 _ = _
  unfold RowKit.wrap64; omega
theorem bytesOf_len (s : ByteArray) : (bytesOf s).length = s.size := by simp [bytesOf]
theorem bt_head {s : ByteArray} {i : Nat} {y : Int} {l : List Int} (h : (bytesOf s).drop i = y :: l) : btI s (i : Int) = y := by
  have h2 := (drop_cons h).2.1
  have h1 := (drop_cons h).1
  rw [bytesOf_len] at h1
  unfold bytesOf at h2
  rw [List.getElem?_map] at h2
  obtain ⟨b, hb, rfl⟩ := Option.map_eq_some_iff.1 h2
  unfold btI
  simp only [Int.toNat_natCast]
  rw [dif_pos h1]
  have hb2 : s.data.toList[i]? = some b := hb
  rw [Array.getElem?_toList] at hb2
  obtain ⟨hlt, hb2⟩ := Array.getElem?_eq_some_iff.1 hb2
  rw [← hb2]; rfl
end Go.Den
