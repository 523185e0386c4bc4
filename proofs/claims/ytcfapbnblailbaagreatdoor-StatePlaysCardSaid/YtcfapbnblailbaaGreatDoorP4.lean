/-
  States: First, Right, Invariants.
-/
import Derived.Test.YtcfapbnblailbaaGreatDoorP3
set_option linter.unusedVariables false
set_option linter.unusedSimpArgs false
set_option maxRecDepth 100000
namespace Go.Proofs.YtcfapbnblailbaaGreatDoor.Q
open Go Go.Den Go.RowKit Go.Proofs
noncomputable section
theorem right_g {a b c d} (h : OkN a b c d) : net_Right.g a b c d = some (decide (sWhole a b c d = 0)) := by rw [net_Right.g, whole_eq h, Option.bind_some]
theorem rright_g {a b c d} (h : OkN a b c d) : gnomonref10_Right.g a b c d = some (decide (sWhole a b c d = 0)) := by rw [gnomonref10_Right.g, rwhole_eq h, Option.bind_some]
/-- What holds of a whole network. -/
structure Wh (a : List ByteArray) (b : List S104) (c : List ByteArray) (d : List S94) : Prop where
  ok : OkN a b c d
  few : Few a b c d
  locs : ∀ x ∈ d, 0 < x.f1.length
  vars : ∀ v ∈ b, v.f1 ≤ v.f3 ∧ v.f3 ≤ v.f2 ∧ -1048576 ≤ v.f1 ∧ v.f2 ≤ 1048576
theorem wh_of {a b c d} (ok : OkN a b c d) (h : sWhole a b c d = 0) : Wh a b c d := by
  unfold sWhole at h
  split at h
  · cases h
  next h1 =>
  split at h
  · cases h
  next h2 =>
  split at h
  · cases h
  split at h
  · cases h
  next h3 =>
  refine ⟨ok, few_of (Bool.not_eq_true _ ▸ h2), fun x hx => ?_, fun v hv => ?_⟩
  · rcases Nat.eq_zero_or_pos x.f1.length with h4 | h4
    · exfalso
      apply h1
      unfold bSome
      rw [Bool.or_eq_true]
      exact .inr (List.any_eq_true.2 ⟨x, hx, decide_eq_true (by omega)⟩)
    · exact h4
  · have h4 : ¬ badV v = true := fun h4 => h3 (List.any_eq_true.2 ⟨v, hv, h4⟩)
    rw [Bool.not_eq_true] at h4
    simp only [badV, Bool.or_eq_false_iff, decide_eq_false_iff_not] at h4
    omega
theorem first0 (x : List Int) : ∀ (l : List S104) (y : List Int), y.length + l.length ≤ 17592186044416 → state_First.L0 x l y = some (x, y ++ l.map (fun v => v.f3), 0)
  | [], y, _ => by simp [state_First.L0]
  | v :: t, y, h => by
    rw [List.length_cons] at h
    rw [state_First.L0, if_pos (by omega), first0 x t _ (by simp; omega)]; simp
def sFirst (a : List ByteArray) (b : List S104) (c : List ByteArray) (d : List S94) : List Int × List Int × Int := if sWhole a b c d = 0 then (List.replicate d.length 0, b.map (fun v => v.f3), 0) else ([], [], 7)
theorem first_eq {a b c d} (h : OkN a b c d) : state_First.g a b c d = some (sFirst a b c d) := by
  rw [state_First.g, right_g h, Option.bind_some, sFirst]
  by_cases hw : sWhole a b c d = 0
  · have hf := (wh_of h hw).few
    have h1 := hf.al; have h2 := hf.bl; have h3 := hf.cl; have h4 := hf.dl
    rw [decide_eq_true hw, if_neg (by decide), if_pos hw, if_pos (by omega), if_pos (by omega), if_pos (by omega), first0 _ _ _ (by simp; omega)]
    simp
  · rw [decide_eq_false hw, if_pos (show (!false) = true from rfl), if_neg hw]
theorem rep_rd (n i : Nat) : rd (List.replicate n 0) (i : Int) = 0 := by
  unfold rd
  rw [List.getD_eq_getElem?_getD, List.getElem?_replicate]
  split <;> rfl
theorem is1 (n : Nat) : ∀ (l : List S94) (i : Nat), (∀ x ∈ l, 0 < x.f1.length) → i + l.length = n → state_beside_api_Auto_int_at163.L0 (List.replicate n 0) l i = some true
  | [], _, _, _ => rfl
  | x :: t, i, h, hn => by
    rw [List.length_cons] at hn
    have h1 := hd_of h
    rw [state_beside_api_Auto_int_at163.L0, if_pos (by rw [List.length_replicate]; omega), rep_rd, state_is_1.f, if_pos (by omega), decide_eq_true (by omega), Option.bind_some, if_neg (by decide), is1 n t (i + 1) (tl_of h) (by omega)]
theorem is2 (b : List S104) : ∀ (l : List S104) (i : Nat), b.drop i = l → (∀ v ∈ l, v.f1 ≤ v.f3 ∧ v.f3 ≤ v.f2 ∧ -1048576 ≤ v.f1 ∧ v.f2 ≤ 1048576) → state_beside_api_Variable_int_at164.L0 (b.map fun v => v.f3) l i = some true
  | [], _, _, _ => rfl
  | v :: t, i, hd, h => by
    obtain ⟨g1, g2, g3⟩ := drop_cons hd
    have h1 := hd_of h
    have e : rd (b.map fun v : S104 => v.f3) (i : Int) = v.f3 := by
      unfold rd
      rw [List.getD_eq_getElem?_getD, List.getElem?_map, Int.toNat_natCast, g2]; rfl
    rw [state_beside_api_Variable_int_at164.L0, if_pos (by rw [List.length_map]; omega), e, state_is_2.f, if_pos (by omega), decide_eq_true (by omega), Option.bind_some, if_neg (by decide), is2 b t (i + 1) g3 (tl_of h)]
theorem is_eq {a b c d} (h : Wh a b c d) : state_is.g a b c d (List.replicate d.length 0) (b.map fun v => v.f3) = some true := by
  have hf := h.few
  have h2 := hf.bl; have h4 := hf.dl
  rw [state_is.g, state_beside_api_Auto_int_at163.g, if_pos (by simp), if_pos (by omega), is1 _ d 0 h.locs (by omega), Option.bind_some, if_pos rfl, state_beside_api_Variable_int_at164.g, if_pos (by simp), if_pos (by omega), is2 b b 0 rfl h.vars, Option.bind_some]
theorem wrong_ok {a b c d} (h : OkN a b c d) (hw : sWhole a b c d = 0) : state_wrong.g a b c d (List.replicate d.length 0) (b.map fun v => v.f3) = some 0 := by
  rw [state_wrong.g, right_g h, Option.bind_some, decide_eq_true hw, if_neg (by decide), is_eq (wh_of h hw), Option.bind_some, if_neg (by decide)]
theorem wrong_no {a b c d} (h : OkN a b c d) (hw : ¬ sWhole a b c d = 0) (l v) : state_wrong.g a b c d l v = some 7 := by
  rw [state_wrong.g, right_g h, Option.bind_some, decide_eq_false hw, if_pos (show (!false) = true from rfl)]
theorem rright2 (b : List S104) : ∀ (l : List S104) (i : Nat), b.drop i = l → (∀ v ∈ l, v.f1 ≤ v.f3 ∧ v.f3 ≤ v.f2 ∧ -1048576 ≤ v.f1 ∧ v.f2 ≤ 1048576) → gnomonref13_Right.L2 b (l.map fun v => v.f3) i = some true
  | [], _, _, _ => rfl
  | v :: t, i, hd, h => by
    obtain ⟨g1, g2, g3⟩ := drop_cons hd
    have h1 := hd_of h
    have e : rd_T104 b (i : Int) = v := rdT_head (t := T104) hd
    rw [List.map_cons, gnomonref13_Right.L2, if_pos (by omega), e, if_neg (by omega), if_pos (by omega), if_neg (by omega), rright2 b t (i + 1) g3 (tl_of h)]
theorem rright1 (b : List S104) (hb : b.length ≤ cap) (d : List S94) (h : ∀ v ∈ b, v.f1 ≤ v.f3 ∧ v.f3 ≤ v.f2 ∧ -1048576 ≤ v.f1 ∧ v.f2 ≤ 1048576) : ∀ (l : List S94) (i : Nat), d.drop i = l → (∀ x ∈ l, 0 < x.f1.length) → gnomonref13_Right.L1 b d (b.map fun v => v.f3) (List.replicate l.length 0) i = some true
  | [], i, _, _ => by
    have := cap_is
    rw [List.length_nil, List.replicate_zero, gnomonref13_Right.L1, if_pos (by rw [List.length_map]; omega), rright2 b b 0 rfl h]
  | x :: t, i, hd, hx => by
    obtain ⟨g1, g2, g3⟩ := drop_cons hd
    have h1 := hd_of hx
    have e : rd_T94 d (i : Int) = x := rdT_head (t := T94) hd
    rw [List.length_cons, List.replicate_succ, gnomonref13_Right.L1, if_neg (by omega), if_pos (by omega), e, if_neg (by omega), rright1 b hb d h t (i + 1) g3 (tl_of hx)]
theorem bad_ok {a b c d} (h : OkN a b c d) (hw : sWhole a b c d = 0) : gnomonref13_bad.g a b c d (List.replicate d.length 0) (b.map fun v => v.f3) = some 0 := by
  have := cap_is
  have hW := wh_of h hw
  have h4 := hW.few.dl
  rw [gnomonref13_bad.g, rright_g h, Option.bind_some, decide_eq_true hw, if_neg (by decide), gnomonref13_Right.g, rright_g h, Option.bind_some, decide_eq_true hw, if_neg (by decide), if_pos (by simp), if_pos (by simp), if_pos (by simp; omega), rright1 b h.bl d hW.vars d 0 rfl hW.locs, Option.bind_some, if_neg (by decide)]
theorem bad_no {a b c d} (h : OkN a b c d) (hw : ¬ sWhole a b c d = 0) (l v) : gnomonref13_bad.g a b c d l v = some 7 := by
  rw [gnomonref13_bad.g, rright_g h, Option.bind_some, decide_eq_false hw, if_pos (show (!false) = true from rfl)]
theorem inv0 (d : List S94) (hd8 : d.length ≤ 8) (hx : ∀ x ∈ d, 0 < x.f1.length ∧ ∀ l ∈ x.f1, l.f2.length ≤ 16) : ∀ (n i : Nat) (x : List S38), i + n = d.length → x.length ≤ 16 * i →
    ∃ r : List S38, r.length ≤ 1000 ∧ state_Invariants.L0 d (List.replicate n 0) i x = some (r, 0) ∧ gnomonref13_Invariants.L0 d (List.replicate n 0) i x = some (r, 0)
  | 0, i, x, hn, hl => ⟨x, by omega, rfl, rfl⟩
  | n + 1, i, x, hn, hl => by
    have hi : i < d.length := by omega
    have e : rd_T94 d (i : Int) = d[i] := rdT_head (t := T94) (List.drop_eq_getElem_cons hi)
    obtain ⟨h1, h2⟩ := hx d[i] (List.getElem_mem hi)
    have h1' : 0 < (d[i] : S94).f1.length := h1
    have e0 : rd_T102 (d[i] : S94).f1 0 = (d[i] : S94).f1[0] := rdT_head (t := T102) (i := 0) (List.drop_eq_getElem_cons h1')
    have h3 : ((d[i] : S94).f1[0] : S102).f2.length ≤ 16 := h2 _ (List.getElem_mem h1')
    obtain ⟨r, g1, g2, g3⟩ := inv0 d hd8 hx n (i + 1) (x ++ ((d[i] : S94).f1[0] : S102).f2) (by omega) (by rw [List.length_append]; omega)
    refine ⟨r, g1, ?_, ?_⟩
    · rw [List.replicate_succ, state_Invariants.L0, if_pos (by omega), if_pos (by omega), e, if_pos (by omega), e0, if_pos (by omega), g2]
    · rw [List.replicate_succ, gnomonref13_Invariants.L0, if_pos (by omega), if_pos (by omega), e, if_pos (by omega), e0, if_pos (by omega), g3]
theorem inv_eq {a b c d} (h : OkN a b c d) : ∃ (r : List S38) (e : Int), r.length ≤ 1000 ∧ state_Invariants.g a b c d (sFirst a b c d).1 (sFirst a b c d).2.1 = some (r, e) ∧ gnomonref13_Invariants.g a b c d (sFirst a b c d).1 (sFirst a b c d).2.1 = some (r, e) := by
  by_cases hw : sWhole a b c d = 0
  · have hW := wh_of h hw
    have h4 := hW.few.dl
    obtain ⟨r, g1, g2, g3⟩ := inv0 d hW.few.dl (fun x hx => ⟨hW.locs x hx, (hW.few.ds x hx).2.2.1⟩) d.length 0 [] (by omega) (by simp)
    refine ⟨r, 0, g1, ?_, ?_⟩
    · rw [sFirst, if_pos hw, state_Invariants.g, wrong_ok h hw, Option.bind_some, if_pos rfl, if_pos (by simp; omega), g2]
    · rw [sFirst, if_pos hw, gnomonref13_Invariants.g, bad_ok h hw, Option.bind_some, if_pos rfl, if_pos (by simp; omega), g3]
  · refine ⟨[], 7, by simp, ?_, ?_⟩
    · rw [state_Invariants.g, wrong_no h hw, Option.bind_some, if_neg (by decide)]
    · rw [gnomonref13_Invariants.g, bad_no h hw, Option.bind_some, if_neg (by decide)]
theorem same0 (x : List S38) : ∀ (l : List S38) (i : Nat), x.drop i = l → gnomonref11_SameGuards.L0 x l i = some true
  | [], _, _ => rfl
  | g :: t, i, hd => by
    obtain ⟨g1, g2, g3⟩ := drop_cons hd
    have e : rd_T38 x (i : Int) = g := rdT_head (t := T38) hd
    rw [gnomonref11_SameGuards.L0, if_pos (by omega), e, if_pos rfl, same0 x t (i + 1) g3]
theorem same_eq {x : List S38} (h : x.length ≤ cap) : gnomonref11_SameGuards.g x x = some true := by
  have := cap_is
  rw [gnomonref11_SameGuards.g, if_pos rfl, if_pos (show x.length ≤ 9223372036854775807 by omega), same0 x x 0 rfl]
theorem sright_eq {a b c d} (h : OkN a b c d) (hw : sWhole a b c d = 0) : state_Right.g a b c d (sFirst a b c d).1 (sFirst a b c d).2.1 = some true := by
  rw [state_Right.g, right_g h, Option.bind_some, decide_eq_true hw, if_pos rfl, sFirst, if_pos hw, is_eq (wh_of h hw), Option.bind_some]
theorem live13 : gnomonlaw13_live.g = some true := by decide +kernel
end
end Go.Proofs.YtcfapbnblailbaaGreatDoor.Q
