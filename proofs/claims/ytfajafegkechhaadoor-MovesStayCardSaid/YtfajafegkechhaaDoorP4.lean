/-
  States: First, Right, Invariants.
-/
import Derived.Test.YtfajafegkechhaaDoorP3
set_option linter.unusedVariables false
set_option linter.unusedSimpArgs false
set_option maxRecDepth 100000
namespace Go.Proofs.YtfajafegkechhaaDoor.Q
open Go Go.Den Go.RowKit Go.Proofs
noncomputable section
theorem right_g {a b c d} (h : OkN a b c d) : net_Right.g a b c d = some (decide (sWhole a b c d = 0)) := by rw [net_Right.g, whole_eq h, Option.bind_some]
structure Wh (a : List ByteArray) (b : List S78) (c : List ByteArray) (d : List S49) : Prop where
  ok : OkN a b c d
  few : Few a b c d
  locs : ∀ x ∈ d, 0 < x.f1.length
  vars : ∀ v ∈ b, v.f1 ≤ v.f3 ∧ v.f3 ≤ v.f2 ∧ -1048576 ≤ v.f1 ∧ v.f2 ≤ 1048576
theorem wh_of {a b c d} (ok : OkN a b c d) (h : sWhole a b c d = 0) : Wh a b c d := by
  unfold sWhole at h
  split at h
  · cases h
  next h1 =>
  split at h
  · cases h
  next h2 =>
  split at h
  · cases h
  split at h
  · cases h
  next h3 =>
  refine ⟨ok, few_of (Bool.not_eq_true _ ▸ h2), fun x hx => ?_, fun v hv => ?_⟩
  · rcases Nat.eq_zero_or_pos x.f1.length with h4 | h4
    · exfalso
      apply h1
      unfold bSome
      rw [Bool.or_eq_true]
      exact .inr (List.any_eq_true.2 ⟨x, hx, decide_eq_true (by omega)⟩)
    · exact h4
  · have h4 : ¬ badV v = true := fun h4 => h3 (List.any_eq_true.2 ⟨v, hv, h4⟩)
    rw [Bool.not_eq_true] at h4
    simp only [badV, Bool.or_eq_false_iff, decide_eq_false_iff_not] at h4
    omega
def sFirst (a : List ByteArray) (b : List S78) (c : List ByteArray) (d : List S49) : List Int × List Int × Int := if sWhole a b c d = 0 then (List.replicate d.length 0, b.map (fun v => v.f3), 0) else ([], [], 7)
theorem rep_rd (n i : Nat) : rd (List.replicate n 0) (i : Int) = 0 := by
  unfold rd
  rw [List.getD_eq_getElem?_getD, List.getElem?_replicate]
  split <;> rfl
theorem is1 (n : Nat) : ∀ (l : List S49) (i : Nat), (∀ x ∈ l, 0 < x.f1.length) → i + l.length = n → state_beside_api_Auto_int_at26.L0 (List.replicate n 0) l i = some true
  | [], _, _, _ => rfl
  | x :: t, i, h, hn => by
    rw [List.length_cons] at hn
    have h1 := hd_of h
    rw [state_beside_api_Auto_int_at26.L0, if_pos (by rw [List.length_replicate]; omega), rep_rd, state_is_1.f, if_pos (by omega), decide_eq_true (by omega), Option.bind_some, if_neg (by decide), is1 n t (i + 1) (tl_of h) (by omega)]
theorem is2 (b : List S78) : ∀ (l : List S78) (i : Nat), b.drop i = l → (∀ v ∈ l, v.f1 ≤ v.f3 ∧ v.f3 ≤ v.f2 ∧ -1048576 ≤ v.f1 ∧ v.f2 ≤ 1048576) → state_beside_api_Variable_int_at27.L0 (b.map fun v => v.f3) l i = some true
  | [], _, _, _ => rfl
  | v :: t, i, hd, h => by
    obtain ⟨g1, g2, g3⟩ := drop_cons hd
    have h1 := hd_of h
    have e : rd (b.map fun v : S78 => v.f3) (i : Int) = v.f3 := by
      unfold rd
      rw [List.getD_eq_getElem?_getD, List.getElem?_map, Int.toNat_natCast, g2]; rfl
    rw [state_beside_api_Variable_int_at27.L0, if_pos (by rw [List.length_map]; omega), e, state_is_2.f, if_pos (by omega), decide_eq_true (by omega), Option.bind_some, if_neg (by decide), is2 b t (i + 1) g3 (tl_of h)]
theorem is_eq {a b c d} (h : Wh a b c d) : state_is.g a b c d (List.replicate d.length 0) (b.map fun v => v.f3) = some true := by
  have hf := h.few
  have h2 := hf.bl; have h4 := hf.dl
  rw [state_is.g, state_beside_api_Auto_int_at26.g, if_pos (by simp), if_pos (by omega), is1 _ d 0 h.locs (by omega), Option.bind_some, if_pos rfl, state_beside_api_Variable_int_at27.g, if_pos (by simp), if_pos (by omega), is2 b b 0 rfl h.vars, Option.bind_some]
theorem sright_eq {a b c d} (h : OkN a b c d) (hw : sWhole a b c d = 0) : state_Right.g a b c d (sFirst a b c d).1 (sFirst a b c d).2.1 = some true := by
  rw [state_Right.g, right_g h, Option.bind_some, decide_eq_true hw, if_pos rfl, sFirst, if_pos hw, is_eq (wh_of h hw), Option.bind_some]
end
end Go.Proofs.YtfajafegkechhaaDoor.Q
