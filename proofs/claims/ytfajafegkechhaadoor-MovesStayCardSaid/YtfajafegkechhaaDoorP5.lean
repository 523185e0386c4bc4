/-
  Lists that are handed in with room; what a state is; keys, invariants, whether time may pass: the program and the document answer the same.
-/
import Derived.Test.YtfajafegkechhaaDoorP4
set_option linter.unusedVariables false
set_option linter.unusedSimpArgs false
set_option maxRecDepth 100000
namespace Go.Proofs.YtfajafegkechhaaDoor.Q
open Go Go.Den Go.RowKit Go.Proofs
noncomputable section
theorem rd_head {xs : List Int} {i : Nat} {y : Int} {l : List Int} (h : xs.drop i = y :: l) : rd xs (i : Int) = y := by
  unfold rd
  rw [List.getD_eq_getElem?_getD, Int.toNat_natCast, (drop_cons h).2.1]; rfl
/-! Lists with room -/
def mark (n j : Nat) : Int := w64 (w64 ((-700) - (j : Int)) + (n : Int))
structure Handed (l y : List Int) : Prop where
  len : y.length = l.length + 9
  same : y.take l.length = l
  marks : ∀ j, l.length ≤ j → j < y.length → y[j]? = some (mark l.length j)
theorem sameInts0 (x : List Int) : ∀ (l : List Int) (i : Nat), x.drop i = l → gnomonmem_SameInts.L0 x l i = some true
  | [], _, _ => rfl
  | g :: t, i, hd => by
    obtain ⟨g1, g2, g3⟩ := drop_cons hd
    rw [gnomonmem_SameInts.L0, if_pos (by omega), rd_head hd, if_pos rfl, sameInts0 x t (i + 1) g3]
theorem sameInts_eq {x : List Int} (h : x.length ≤ cap) : gnomonmem_SameInts.g x x = some true := by
  have := cap_is
  rw [gnomonmem_SameInts.g, if_pos rfl, if_pos (show x.length ≤ 9223372036854775807 by omega), sameInts0 x x 0 rfl]
def isA : List S49 → List Int → Bool
  | [], [] => true
  | x :: t, i :: s => inL x i && isA t s
  | _, _ => false
def isV : List S78 → List Int → Bool
  | [], [] => true
  | v :: t, x :: s => (decide (x ≥ v.f1) && decide (x ≤ v.f2)) && isV t s
  | _, _ => false
theorem isA_len : ∀ {d : List S49} {l : List Int}, isA d l = true → d.length = l.length
  | [], [], _ => rfl
  | _ :: t, _ :: s, h => by
    simp only [isA, Bool.and_eq_true] at h
    simp [isA_len h.2]
theorem isV_len : ∀ {d : List S78} {l : List Int}, isV d l = true → d.length = l.length
  | [], [], _ => rfl
  | _ :: t, _ :: s, h => by
    simp only [isV, Bool.and_eq_true] at h
    simp [isV_len h.2]
theorem inL_eq2 (n : ByteArray) (ls : List S45) (es : List S53) (i : Int) : state_is_1.f n ls es i = some (decide (i ≥ 0) && decide (i < (ls.length : Int))) := by
  unfold state_is_1.f
  by_cases h : i ≥ 0
  · rw [if_pos h, decide_eq_true h, Bool.true_and]
  · rw [if_neg h, decide_eq_false h, Bool.false_and]
theorem inV_eq (v : S78) (i : Int) : state_is_2.f v.f0 v.f1 v.f2 v.f3 i = some (decide (i ≥ v.f1) && decide (i ≤ v.f2)) := by
  unfold state_is_2.f
  by_cases h : i ≥ v.f1
  · rw [if_pos h, decide_eq_true h, Bool.true_and]
  · rw [if_neg h, decide_eq_false h, Bool.false_and]
theorem besA (x1 : List Int) : ∀ (l : List S49) (i : Nat) (s : List Int), x1.drop i = s → l.length = s.length → state_beside_api_Auto_int_at26.L0 x1 l i = some (isA l s)
  | [], i, s, hd, hl => by
    obtain rfl : s = [] := List.eq_nil_of_length_eq_zero (by simpa using hl.symm)
    rfl
  | x :: t, i, s, hd, hl => by
    match s, hl with
    | [], hl => simp at hl
    | y :: s, hl =>
    obtain ⟨g1, g2, g3⟩ := drop_cons hd
    rw [state_beside_api_Auto_int_at26.L0, if_pos (by omega), rd_head hd, inL_eq2, Option.bind_some, besA x1 t (i + 1) s g3 (by simpa using hl), isA, inL]
    cases (decide (y ≥ 0) && decide (y < (x.f1.length : Int))) <;> rfl
theorem besV (x1 : List Int) : ∀ (l : List S78) (i : Nat) (s : List Int), x1.drop i = s → l.length = s.length → state_beside_api_Variable_int_at27.L0 x1 l i = some (isV l s)
  | [], i, s, hd, hl => by
    obtain rfl : s = [] := List.eq_nil_of_length_eq_zero (by simpa using hl.symm)
    rfl
  | x :: t, i, s, hd, hl => by
    match s, hl with
    | [], hl => simp at hl
    | y :: s, hl =>
    obtain ⟨g1, g2, g3⟩ := drop_cons hd
    rw [state_beside_api_Variable_int_at27.L0, if_pos (by omega), rd_head hd, inV_eq, Option.bind_some, besV x1 t (i + 1) s g3 (by simpa using hl), isV]
    cases (decide (y ≥ x.f1) && decide (y ≤ x.f2)) <;> rfl
theorem isA_no {d : List S49} {l : List Int} (h : ¬ d.length = l.length) : isA d l = false := by
  cases hb : isA d l with
  | false => rfl
  | true => exact absurd (isA_len hb) h
theorem isV_no {d : List S78} {l : List Int} (h : ¬ d.length = l.length) : isV d l = false := by
  cases hb : isV d l with
  | false => rfl
  | true => exact absurd (isV_len hb) h
theorem isS_eq {a b c d} (h : OkN a b c d) (l v : List Int) : state_is.g a b c d l v = some (isA d l && isV b v) := by
  have := cap_is
  have h1 := h.dl; have h2 := h.bl
  rw [state_is.g, state_beside_api_Auto_int_at26.g, state_beside_api_Variable_int_at27.g, if_pos (show d.length ≤ 9223372036854775807 by omega), if_pos (show b.length ≤ 9223372036854775807 by omega)]
  by_cases e : d.length = l.length
  · rw [if_pos (by omega), besA l d 0 l rfl e, Option.bind_some]
    cases isA d l with
    | false => rfl
    | true =>
      rw [if_pos rfl, Bool.true_and]
      by_cases e2 : b.length = v.length
      · rw [if_pos (by omega), besV v b 0 v rfl e2, Option.bind_some]
      · rw [if_neg (by omega), isV_no e2, Option.bind_some]
  · rw [if_neg (by omega), isA_no e]; rfl
def isSt (a : List ByteArray) (b : List S78) (c : List ByteArray) (d : List S49) (l v : List Int) : Bool := decide (sWhole a b c d = 0) && (isA d l && isV b v)
theorem stRight_eq {a b c d} (h : OkN a b c d) (l v : List Int) : state_Right.g a b c d l v = some (isSt a b c d l v) := by
  rw [state_Right.g, right_g h, Option.bind_some, isS_eq h, Option.bind_some, isSt]
  cases decide (sWhole a b c d = 0) <;> rfl
def sWrong (a : List ByteArray) (b : List S78) (c : List ByteArray) (d : List S49) (l v : List Int) : Int := if sWhole a b c d = 0 then (if (isA d l && isV b v) = true then 0 else 130) else 7
theorem wrong_0 {a b c d} {l v : List Int} (h : sWrong a b c d l v = 0) : sWhole a b c d = 0 ∧ isA d l = true ∧ isV b v = true := by
  unfold sWrong at h
  split at h
  · next hw =>
    split at h
    · next h2 => rw [Bool.and_eq_true] at h2; exact ⟨hw, h2⟩
    · cases h
  · cases h
/-! Whether time may pass -/
def plain : List S49 → List Int → Bool
  | x :: t, i :: s => decide ((rd_T45 x.f1 i).f1 = 0) && plain t s
  | _, _ => true
def sStays (a : List ByteArray) (b : List S78) (c : List ByteArray) (d : List S49) (l v : List Int) : Bool := isSt a b c d l v && plain d l
end
end Go.Proofs.YtfajafegkechhaaDoor.Q
