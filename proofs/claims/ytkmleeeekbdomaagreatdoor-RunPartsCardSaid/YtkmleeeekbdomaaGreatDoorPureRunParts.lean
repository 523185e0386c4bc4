/- Part of the proof: PP4. -/
import Derived.Test.YtkmleeeekbdomaaGreatDoorPP3
import Derived.Test.YtkmleeeekbdomaaGreatDoorD5b
set_option linter.unusedSectionVars false
set_option linter.unusedVariables false
set_option linter.unusedSimpArgs false
set_option maxRecDepth 100000
namespace Go.Proofs.YtkmleeeekbdomaaGreatDoor.Q
open Go Go.Den Go.Proofs
theorem add_parts {a b c : S24} (h : rat_Add.g a.1 a.2 b.1 b.2 = some (c.1, c.2, 0)) : Rt a ∧ Rt b ∧ rgs c := by
  unfold rat_Add.g at h
  obtain ⟨t, e, h⟩ := Option.bind_eq_some_iff.1 h
  cases t with
  | false => rw [if_pos (by decide)] at h; simp at h
  | true =>
    rw [if_neg (by decide)] at h
    obtain ⟨_, _, h⟩ := Option.bind_eq_some_iff.1 h
    obtain ⟨_, _, h⟩ := Option.bind_eq_some_iff.1 h
    obtain ⟨_, _, h⟩ := Option.bind_eq_some_iff.1 h
    obtain ⟨_, _, h⟩ := Option.bind_eq_some_iff.1 h
    obtain ⟨q, em, h⟩ := Option.bind_eq_some_iff.1 h
    have hq := made_rg em
    simp only [Option.some.injEq, Prod.mk.injEq] at h
    rw [h.1, h.2.1] at hq
    unfold rat_both.g at e
    obtain ⟨p, ep, e⟩ := Option.bind_eq_some_iff.1 e
    cases p with
    | false => rw [if_neg (by decide)] at e; simp at e
    | true =>
      rw [if_pos rfl] at e
      obtain ⟨w, ew, e⟩ := Option.bind_eq_some_iff.1 e
      cases e
      exact ⟨ep, ew, hq⟩
theorem Run.rgs {u : List S24} {t : S24} {s : List S24} {m : S24} (h : Run u t s m) : rgs t → rgs m := by
  induction h with
  | nil => exact id
  | cons h _ ih => exact fun _ => ih (add_parts h).2.2
theorem drop_step {b : List S41} {i : Nat} {z : S41} {w : List S41} (h : b.drop i = z :: w) : (i : Int) < (b.length : Int) ∧ rd_T41 b (i : Int) = z ∧ b.drop (i + 1) = w := by
  have hx := drop_cons h
  exact ⟨by have := hx.1; omega, rdT_head (t := T41) h, hx.2.2⟩
theorem eq_L0 (b : List S41) : ∀ (l : List S41) (i : Nat), l = b.drop i → slices_Equal_api_Step_api_Step.L0 b l i = some true
  | [], i, h => rfl
  | y :: u, i, h => by
    obtain ⟨h1, h2, h3⟩ := drop_step h.symm
    unfold slices_Equal_api_Step_api_Step.L0
    rw [if_pos h1, h2, if_pos rfl]
    exact eq_L0 b u (i + 1) h3.symm
theorem same_refl {a : List S41} {p : S24} (ha : a.length ≤ 9223372036854775807) : run_Same.g a p a p = some true := by
  unfold run_Same.g slices_Equal_api_Step_api_Step.g
  rw [if_pos rfl, if_pos rfl, if_pos ha, eq_L0 a a 0 rfl]
  rfl
theorem rats_L0 (b : List S24) : ∀ (l : List S24) (i : Nat), l = b.drop i → gnomonmem_SameRats.L0 b l i = some true
  | [], i, h => rfl
  | y :: u, i, h => by
    have hx := drop_cons h.symm
    have h1 : (i : Int) < (b.length : Int) := by have := hx.1; omega
    have h2 : rd_T24 b (i : Int) = y := rdT_head (t := T24) h.symm
    unfold gnomonmem_SameRats.L0
    rw [if_pos h1, h2, if_pos rfl]
    exact rats_L0 b u (i + 1) hx.2.2.symm
theorem rats_refl {a : List S24} (ha : a.length ≤ 9223372036854775807) : gnomonmem_SameRats.g a a = some true := by
  unfold gnomonmem_SameRats.g
  rw [if_pos rfl, if_pos ha, rats_L0 a a 0 rfl]
theorem clone_is {l : List S41} (h : l.length ≤ 2932031007402) : slices_Clone_api_Step_api_Step.f l = some l := by
  unfold slices_Clone_api_Step_api_Step.f
  rw [if_pos (by simpa using h)]
  rfl
theorem cut_gt {l : List S41} {p : S24} {a : Int} (hl : l.length ≤ 2932031007402) (h : a > (l.length : Int)) : run_Cut.f l p a = some (l, p) := by
  unfold run_Cut.f
  rw [if_pos h, clone_is hl]
  rfl
theorem cut_le {l : List S41} {p : S24} {a : Int} (hl : l.length ≤ 2932031007402) (h : a ≤ (l.length : Int)) : run_Cut.f l p a = some (l.take a.toNat, (0, 1)) := by
  unfold run_Cut.f
  rw [if_neg (by omega)]
  by_cases h0 : 0 > a
  · rw [if_pos h0, if_pos (by omega), if_pos (by omega), clone_is (by simp), Option.bind_some]
    have : a.toNat = 0 := by omega
    rw [this]
    rfl
  · rw [if_neg h0, if_pos (by omega), if_pos h, clone_is (by rw [List.length_take]; omega), Option.bind_some]
    rfl
theorem cut_some {l : List S41} {p : S24} {a : Int} (hl : l.length ≤ 2932031007402) : ∃ t, run_Cut.f l p a = some t ∧ t.1.length ≤ l.length := by
  by_cases h : a > (l.length : Int)
  · exact ⟨_, cut_gt hl h, Nat.le_refl _⟩
  · exact ⟨_, cut_le hl (by omega), by rw [List.length_take]; omega⟩
theorem dl_take {l : List S41} {p : S24} {k : Nat} (h : k ≤ l.length) : dl l p = (l.take k).map (·.1) ++ dl (l.drop k) p := by
  unfold dl
  rw [← List.append_assoc, ← List.map_append, List.take_append_drop]
theorem join_is {l : List S41} {p : S24} {k : Nat} (hk : k ≤ l.length) (hl : l.length ≤ 2932031007402) (hr : ∀ x ∈ dl l p, rgs x) (hD : ∀ x ∈ dl l p, isD x) : run_Join.g (l.take k) (0, 1) [(l.drop k, p)] = some (l, p, 0) := by
  unfold run_Join.g
  rw [clone_is (by rw [List.length_take]; omega), Option.bind_some, if_pos (by simp)]
  unfold run_Join.L0
  show (slices_Clone_api_Step_api_Step.f (l.drop k)).bind _ = _
  rw [clone_is (by rw [List.length_drop]; omega), Option.bind_some]
  have hmem : ∀ x ∈ dl (l.drop k) p, x ∈ dl l p := fun x hx => by rw [dl_take hk]; exact List.mem_append_right _ hx
  cases hd : l.drop k with
  | nil =>
    rw [hd] at hmem
    have hp := hmem p (by simp [dl])
    rw [if_neg (by simp)]
    have e : rat_Add.g (S24.f0 (0, 1)) (S24.f1 (0, 1)) (S24.f0 (S26.f1 (([] : List S41), p))) (S24.f1 (S26.f1 (([] : List S41), p))) = some (p.1, p.2, 0) := zero_add' (hD p hp).1 (hr p hp)
    rw [e, Option.bind_some, if_neg (show ¬ (0 : Int) = 7 by decide), if_pos rfl, if_neg (by simp), if_pos (by rw [List.length_take]; simp; omega)]
    have ht : l.take k = l := List.take_of_length_le (by have := congrArg List.length hd; simp at this; omega)
    rw [ht]
    simp [run_Join.L0]
  | cons y u =>
    rw [hd] at hmem
    have hp := hmem y.1 (by simp [dl])
    have h0 : (((y :: u).length : Nat) : Int) > 0 := by simp only [List.length_cons]; omega
    have h1 : (0 : Int) < (((y :: u).length : Nat) : Int) := h0
    have hy : rd_T41 (y :: u) 0 = y := rfl
    rw [if_pos h0, if_pos (by decide), if_pos h1, hy]
    have e : rat_Add.g (S24.f0 (0, 1)) (S24.f1 (0, 1)) (S24.f0 (S41.f0 y)) (S24.f1 (S41.f0 y)) = some (y.1.1, y.1.2, 0) := zero_add' (hD y.1 hp).1 (hr y.1 hp)
    have hlen : (l.take k).length + (y :: u).length = l.length := by
      have h2 := congrArg List.length hd
      rw [List.length_drop] at h2
      rw [List.length_take]; omega
    rw [e, Option.bind_some, if_neg (show ¬ (0 : Int) = 7 by decide), if_pos rfl, if_pos h0, if_pos (by decide), if_pos h1, if_pos (by rw [List.length_set]; omega)]
    have hset : (y :: u).set (Int.toNat 0) (⟨(⟨y.1.1, y.1.2⟩ : S24), S41.f1 y⟩ : S41) = y :: u := rfl
    rw [hset, ← hd, List.take_append_drop]
    rfl
theorem tail_is {l0_0 : List S41} {l0_1 : S24} {a1 : Int} (hl : l0_0.length ≤ 2932031007402) (hr : ∀ x ∈ dl l0_0 l0_1, rgs x) : ((run_Times.g l0_0 (⟨l0_1.f0, l0_1.f1⟩ : S24)).bind fun t6 => (if t6.2 = 0 then (if a1 < 0 then (some true) else (if a1 > (l0_0.length : Int) then (some true) else ((run_Cut.f l0_0 (⟨l0_1.f0, l0_1.f1⟩ : S24) a1).bind fun t7 => ((run_Times.g t7.1 t7.2).bind fun t8 => (if t8.2 = 0 then (if (t6.1.length : Int) = (w64 ((l0_0.length : Int) + 1)) then (if (t8.1.length : Int) = (w64 (a1 + 1)) then (if 0 ≤ a1 then (if a1 ≤ (t8.1.length : Int) then (if 0 ≤ a1 then (if a1 ≤ (t6.1.length : Int) then ((gnomonmem_SameRats.g (t8.1.take (Int.toNat (a1))) (t6.1.take (Int.toNat (a1)))).bind fun t9 => (if (!t9) = true then (some false) else (if 0 ≤ a1 then (if a1 ≤ (l0_0.length : Int) then ((run_Cut.f l0_0 (⟨l0_1.f0, l0_1.f1⟩ : S24) a1).bind fun t10 => ((run_Join.g t10.1 t10.2 ([(⟨(l0_0.drop (Int.toNat (a1))), (⟨l0_1.f0, l0_1.f1⟩ : S24)⟩ : S26)] : List S26)).bind fun t11 => ((run_Times.g t11.1 t11.2.1).bind fun t12 => (if t11.2.2 = 0 then (if t12.2 = 0 then ((gnomonmem_SameRats.g t12.1 t6.1).bind fun t13 => (if t13 = true then ((run_Same.g t11.1 t11.2.1 l0_0 (⟨l0_1.f0, l0_1.f1⟩ : S24)).bind fun t14 => (some t14)) else (some false))) else (some false)) else (some false))))) else (none)) else (none)))) else (none)) else (none)) else (none)) else (none)) else (some false)) else (some false)) else (some false)))))) else (some true))) = some true := by
  obtain ⟨p0, p1⟩ := l0_1
  obtain ⟨r, er, hr0⟩ := times_tot (by omega) hr
  have er' : run_Times.g l0_0 (⟨S24.f0 (p0, p1), S24.f1 (p0, p1)⟩ : S24) = some r := er
  rw [er', Option.bind_some]
  by_cases hn : ¬ r.2 = 0
  · rw [if_neg hn]
  have h0 : r.2 = 0 := Decidable.not_not.1 hn
  rw [if_pos h0]
  by_cases h1 : a1 < 0
  · rw [if_pos h1]
  rw [if_neg h1]
  by_cases h2 : a1 > (l0_0.length : Int)
  · rw [if_pos h2]
  rw [if_neg h2]
  obtain ⟨hD, m, hR⟩ := hr0 h0
  obtain ⟨k, rfl⟩ := Int.eq_ofNat_of_zero_le (by omega : 0 ≤ a1)
  have hk : k ≤ l0_0.length := by omega
  have hR' := hR
  rw [dl_take hk] at hR'
  obtain ⟨s1, s2, m1, es, R1, R2⟩ := Run.split hR'
  have hm1 : Rt m1 := by
    cases hdd : dl (l0_0.drop k) (p0, p1) with
    | nil => simp [dl] at hdd
    | cons y u =>
      rw [hdd] at R2
      cases R2 with
      | cons h _ => exact (add_parts h).1
  have hg1 : rgs m1 := R1.rgs ⟨by unfold rg; dsimp only; omega, by unfold rg; dsimp only; omega⟩
  have hcut : run_Cut.f l0_0 (⟨S24.f0 (p0, p1), S24.f1 (p0, p1)⟩ : S24) (k : Int) = some (l0_0.take k, (0, 1)) := cut_le hl (by omega)
  have hmem : ∀ x ∈ dl (l0_0.take k) (0, 1), x ∈ dl l0_0 (p0, p1) ∨ x = (0, 1) := fun x hx => by
    unfold dl at hx
    rcases List.mem_append.1 hx with hx | hx
    · left; rw [dl_take hk]; exact List.mem_append_left _ hx
    · right; simpa using hx
  have z1 : rgs (0, 1) := ⟨by unfold rg; dsimp only; omega, by unfold rg; dsimp only; omega⟩
  have htc : run_Times.g (l0_0.take k) (0, 1) = some (s1 ++ [m1], 0) := times_run (by rw [List.length_take]; omega) (fun x hx => (hmem x hx).elim (hr x) (fun e => by rw [e]; exact z1)) (fun x hx => (hmem x hx).elim (hD x) (fun e => by rw [e]; exact ⟨rt_one, by decide⟩)) (R1.app (.cons (add_zero' hm1 hg1) (.nil m1)))
  have hs1 : s1.length = k := by rw [R1.len]; simp; omega
  have hrl : r.1.length = l0_0.length + 1 := by rw [hR.len]; simp [dl]
  have hw1 : w64 ((l0_0.length : Int) + 1) = (l0_0.length : Int) + 1 := w64_id (by omega)
  have hw2 : w64 ((k : Int) + 1) = (k : Int) + 1 := w64_id (by omega)
  rw [hcut, Option.bind_some, htc, Option.bind_some, if_pos rfl, hw1, if_pos (by rw [hrl]; omega), hw2, if_pos (by simp [hs1]), if_pos (by omega), if_pos (by simp [hs1]; omega), if_pos (by omega), if_pos (by rw [hrl]; omega)]
  have et1 : (s1 ++ [m1]).take (Int.toNat (k : Int)) = s1 := by rw [Int.toNat_natCast, ← hs1, List.take_left]
  have et2 : r.1.take (Int.toNat (k : Int)) = s1 := by rw [es, Int.toNat_natCast, ← hs1, List.take_left]
  have hj : run_Join.g (l0_0.take k) (0, 1) [((l0_0.drop (Int.toNat (k : Int))), (⟨S24.f0 (p0, p1), S24.f1 (p0, p1)⟩ : S24))] = some (l0_0, (p0, p1), 0) := join_is hk hl hr hD
  have hsr : run_Same.g l0_0 (p0, p1) l0_0 (⟨S24.f0 (p0, p1), S24.f1 (p0, p1)⟩ : S24) = some true := same_refl (by omega)
  show (gnomonmem_SameRats.g ((s1 ++ [m1]).take (Int.toNat (k : Int))) (r.1.take (Int.toNat (k : Int)))).bind _ = _
  rw [et1, et2, rats_refl (by omega), Option.bind_some, if_neg (by decide), if_pos (by omega), if_pos (by omega), Option.bind_some]
  rw [hj, Option.bind_some]
  show (run_Times.g l0_0 (p0, p1)).bind _ = _
  rw [er, Option.bind_some, if_pos rfl, if_pos h0, rats_refl (by omega), Option.bind_some, if_pos rfl]
  rw [hsr]
  rfl
theorem parts_g {l : List S41} {p : S24} {a1 a2 : Int} (hl : l.length ≤ 2932031007402) (hr : ∀ x ∈ dl l p, rgs x) : gnomonlaw20_RunParts.g l p a1 a2 = some true := by
  have hT := tail_is (a1 := a1) hl hr
  unfold gnomonlaw20_RunParts.g
  obtain ⟨t1, e1, g1⟩ := cut_some (p := p) (a := a1) hl
  obtain ⟨t2, e2, g2⟩ := cut_some (l := t1.1) (p := t1.2) (a := a2) (by omega)
  rw [hT, e1, Option.bind_some, e2, Option.bind_some]
  have hlive : gnomonlaw20_live.g = some true := rfl
  have key : a1 ≤ (l.length : Int) → a2 ≤ a1 → t2 = (l.take a2.toNat, (0, 1)) := fun h1 h2 => by
    rw [cut_le hl h1] at e1
    cases e1
    rw [cut_le (by rw [List.length_take]; omega) (by rw [List.length_take]; omega)] at e2
    cases e2
    rw [List.take_take, Nat.min_eq_left (by omega)]
  have nt : ¬ ((!true) = true) := by decide
  by_cases h12 : a2 < a1
  · rw [if_pos h12, hlive, Option.bind_some, if_neg nt]
    by_cases h1 : a1 ≤ (l.length : Int)
    · rw [if_pos h1, if_pos (by omega)]
      have hc : run_Cut.f l (⟨p.f0, p.f1⟩ : S24) a2 = some (l.take a2.toNat, (0, 1)) := cut_le hl (by omega)
      rw [hc, Option.bind_some, key h1 (by omega)]
      have hs : run_Same.g (l.take a2.toNat) (⟨S24.f0 (0, 1), S24.f1 (0, 1)⟩ : S24) (l.take a2.toNat) (0, 1) = some true := same_refl (by rw [List.length_take]; omega)
      rw [hs, Option.bind_some, if_neg nt]
    · rw [if_neg h1]
  · rw [if_neg h12, hlive, Option.bind_some, if_neg nt]
    by_cases h1 : a1 ≤ (l.length : Int)
    · rw [if_pos h1]
      by_cases h2 : a2 ≤ a1
      · rw [if_pos h2, Option.bind_some]
        have ht1 : t1 = (l.take a1.toNat, (0, 1)) := by
          rw [cut_le hl h1] at e1
          cases e1; rfl
        have : a1 = a2 := by omega
        subst this
        rw [key h1 (by omega), ht1]
        have hs : run_Same.g (l.take a1.toNat) (⟨S24.f0 (0, 1), S24.f1 (0, 1)⟩ : S24) (l.take a1.toNat) (0, 1) = some true := same_refl (by rw [List.length_take]; omega)
        rw [hs, Option.bind_some, if_neg nt]
      · rw [if_neg h2]
    · rw [if_neg h1]
theorem RunParts_pure : ∀ (X0 : S26) (X1 : Int) (X2 : Int), okT T26 X0 → okT (.int .i64) X1 → okT (.int .i64) X2 → ∃ k, (gnomonlaw20_RunParts.ce k).fn (X0, X1, X2) = some true := fun X0 X1 X2 h0 h1 h2 => by
  have hl : X0.f0.length * 48 ≤ 140737488351232 := h0.1.2.2
  have rng : ∀ {x : S24}, okT T24 x → rgs x := fun {x} h => by
    have a := h.1
    have b := h.2
    simp [okT, Lit.wf, IntKind.min, IntKind.max, IntKind.signed, IntKind.bits] at a b
    exact ⟨a, b⟩
  refine le_some (gnomonlaw20_RunParts.le X0.f0 X0.f1 X1 X2) (parts_g (by omega) fun x hx => ?_)
  unfold dl at hx
  rcases List.mem_append.1 hx with hx | hx
  · obtain ⟨y, hy, rfl⟩ := List.mem_map.1 hx
    exact rng (h0.1.1 y hy).1
  · have : x = X0.f1 := by simpa using hx
    rw [this]; exact rng h0.2
end Go.Proofs.YtkmleeeekbdomaaGreatDoor.Q
