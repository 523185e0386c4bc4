/- Part of the proof: PR2. -/
import Derived.Test.YtkmleeeekbdomaaGreatDoorPR1
set_option linter.unusedSectionVars false
set_option linter.unusedVariables false
set_option linter.unusedSimpArgs false
set_option maxRecDepth 100000
namespace Go.Proofs.YtkmleeeekbdomaaGreatDoor.Q
open Go Go.Den Go.Proofs
theorem le_bnd {R A : Type} {x : Option R} {a : Option A} {H : Nat → Option A} {K : A → Nat → Option R} {v : A} (e : a = some v) (h : Le a H) (h' : Le x (K v)) : Le x (fun k => (H k).bind fun t => K t k) := fun r hr => by
  obtain ⟨k1, h1⟩ := h v e
  obtain ⟨k2, h2⟩ := h' r hr
  exact ⟨max k1 k2, fun k hk => by show (H k).bind _ = _; rw [h1 k (by omega), Option.bind_some, h2 k (by omega)]⟩
theorem w64_id {x : Int} (h : -9223372036854775808 ≤ x ∧ x ≤ 9223372036854775807) : w64 x = x := by
  show RowKit.wrap64 _ = _
  unfold RowKit.wrap64; omega
theorem bit_of {a y : Int} (h : 0 ≤ a) : Wr.and .u64 (Wr.shr .u64 a y) 1 = 0 ∨ Wr.and .u64 (Wr.shr .u64 a y) 1 = 1 := by
  have h1 : 0 ≤ Wr.shr .u64 a y := Int.ediv_nonneg h (Int.natCast_nonneg _)
  rw [and_one h1]; omega
theorem over_l0 {a b c d : Int} (ha : U a) (hb : U b) (hc : U c) (hd : U d) (ht : val c d ≤ 170141183460469231731687303715884105728) (e4 f4 e5 f5 : Int) : ∀ (n : Nat), n ≤ 128 → ∀ q0 q1 r0 r1, U r0 → U r1 → val r0 r1 < val c d →
    ∃ q2 q3 s0 s1, Le (some (q2, q3, s0, s1)) (fun k => rat_size_over.l0 k ((n : Int) - 1) a b c d e4 f4 e5 f5 q0 q1 r0 r1) ∧ U s0 ∧ U s1 ∧ val s0 s1 < val c d
  | 0, _, q0, q1, r0, r1, h0, h1, hv => by
    refine ⟨q0, q1, r0, r1, le_step ?_, h0, h1, hv⟩
    simp only [rat_size_over.l0]
    exact le_neg (by omega) le_rfl
  | n + 1, hn, q0, q1, r0, r1, h0, h1, hv => by
    have ih := over_l0 ha hb hc hd ht e4 f4 e5 f5 n (by omega)
    have en : ((n + 1 : Nat) : Int) - 1 = (n : Int) := by omega
    have ew : w64 ((n : Int) - 1) = (n : Int) - 1 := w64_id (by omega)
    have hS0 : Wr.or .u64 (wk .u64 (r0 * 2)) (r1 / 9223372036854775808) = r0 * 2 + r1 / 9223372036854775808 := by
      have e : wk .u64 (r0 * 2) = r0 * 2 := by rw [wk_mod]; unfold U val at *; omega
      rw [e]
      exact or_bit (by unfold U val at *; omega) (by omega) (by unfold U at h1; omega)
    have hS1 : wk .u64 (r1 * 2) = r1 * 2 % 18446744073709551616 := wk_mod _
    have hj : ∀ bit, (bit = 0 ∨ bit = 1) → ∃ q2 q3 s0 s1, Le (some (q2, q3, s0, s1)) (fun k => rat_size_over.j1 k (n : Int) bit a b c d e4 f4 e5 f5 q0 q1 (Wr.or .u64 (wk .u64 (r0 * 2)) (r1 / 9223372036854775808)) (wk .u64 (r1 * 2))) ∧ U s0 ∧ U s1 ∧ val s0 s1 < val c d := fun bit hbit => by
      rw [hS0, hS1]
      have hor : Wr.or .u64 (r1 * 2 % 18446744073709551616) bit = r1 * 2 % 18446744073709551616 + bit := or_bit (by unfold U; omega) (by omega) hbit
      generalize hy : r1 * 2 % 18446744073709551616 + bit = y at hor
      generalize hx : r0 * 2 + r1 / 9223372036854775808 = x
      have hxy : val x y = 2 * val r0 r1 + bit := by unfold val U at *; omega
      have ux : U x := by unfold U val at *; omega
      have uy : U y := by unfold U val at *; omega
      by_cases hlt : val x y < val c d
      · obtain ⟨q2, q3, s0, s1, hL, g⟩ := ih q0 q1 x y ux uy hlt
        refine ⟨q2, q3, s0, s1, le_step ?_, g⟩
        simp only [rat_size_over.j1, hor]
        refine le_bnd (compare_is uy hd) (rat_size_compare.le _ _ _ _) ?_
        rw [if_pos hlt]
        refine le_neg (by decide) ?_
        rw [ew]; exact hL
      · obtain ⟨z0, z1, e1, uz0, uz1, hz⟩ := less_is ux uy hc hd
        have hz := hz (by omega)
        have hz2 : val z0 z1 < val c d := by omega
        have cmp : ∃ v, rat_size_compare.g x y c d = some v ∧ v ≥ 0 := by
          rw [compare_is uy hd, if_neg hlt]
          refine ⟨_, rfl, ?_⟩
          split <;> decide
        obtain ⟨v, hv1, hv2⟩ := cmp
        by_cases h63 : (n : Int) > 63
        · obtain ⟨q2, q3, s0, s1, hL, g⟩ := ih (Wr.or .u64 q0 (Wr.shl .u64 1 (w64 ((n : Int) - 64)))) q1 z0 z1 uz0 uz1 hz2
          refine ⟨q2, q3, s0, s1, le_step ?_, g⟩
          simp only [rat_size_over.j1, hor]
          refine le_bnd hv1 (rat_size_compare.le _ _ _ _) (le_pos hv2 (le_bnd e1 le_rfl (le_pos h63 (le_pos (by rw [w64_id (by omega)]; omega) ?_))))
          rw [ew]; exact hL
        · obtain ⟨q2, q3, s0, s1, hL, g⟩ := ih q0 (Wr.or .u64 q1 (Wr.shl .u64 1 (n : Int))) z0 z1 uz0 uz1 hz2
          refine ⟨q2, q3, s0, s1, le_step ?_, g⟩
          simp only [rat_size_over.j1, hor]
          refine le_bnd hv1 (rat_size_compare.le _ _ _ _) (le_pos hv2 (le_bnd e1 le_rfl (le_neg h63 (le_pos (by omega) ?_))))
          rw [ew]; exact hL
    rw [en]
    by_cases h63 : (n : Int) > 63
    · obtain ⟨q2, q3, s0, s1, hL, g⟩ := hj _ (bit_of (y := w64 ((n : Int) - 64)) ha.1)
      refine ⟨q2, q3, s0, s1, le_step ?_, g⟩
      simp only [rat_size_over.l0]
      exact le_pos (by omega) (le_pos (by omega) (le_pos h63 (le_pos (by rw [w64_id (by omega)]; omega) hL)))
    · obtain ⟨q2, q3, s0, s1, hL, g⟩ := hj _ (bit_of (y := (n : Int)) hb.1)
      refine ⟨q2, q3, s0, s1, le_step ?_, g⟩
      simp only [rat_size_over.l0]
      exact le_pos (by omega) (le_pos (by omega) (le_neg h63 hL))
theorem over_is {a b c d : Int} (ha : U a) (hb : U b) (hc : U c) (hd : U d) (h0 : 0 < val c d) (ht : val c d ≤ 170141183460469231731687303715884105728) : ∃ q2 q3 s0 s1, rat_size_over.g a b c d = some (q2, q3, s0, s1) ∧ U s0 ∧ U s1 ∧ val s0 s1 < val c d := by
  obtain ⟨q2, q3, s0, s1, hL, g⟩ := over_l0 ha hb hc hd ht 0 0 0 0 128 (Nat.le_refl _) 0 0 0 0 (by unfold U; omega) (by unfold U; omega) (by unfold val at *; omega)
  exact ⟨q2, q3, s0, s1, lim_of hL, g⟩
theorem zero_is {a b : Int} (ha : U a) (hb : U b) : rat_size_isZero.f a b = some (decide (val a b = 0)) := by
  unfold rat_size_isZero.f
  by_cases h : a = 0
  · rw [if_pos h]; subst h; congr 1; unfold val; simp
  · rw [if_neg h]
    have : ¬ val a b = 0 := by unfold val U at *; omega
    simp [this]
theorem common_l0 (e4 f4 : Int) : ∀ (m : Nat) {a b c d : Int}, U a → U b → U c → U d → (val c d).toNat ≤ m → val c d ≤ 170141183460469231731687303715884105728 →
    ∃ g0 g1, Le (some (g0, g1)) (fun k => rat_common.l0 k a b c d e4 f4) ∧ U g0 ∧ U g1 ∧ (0 < val c d → 0 < val g0 g1 ∧ val g0 g1 ≤ 170141183460469231731687303715884105728) ∧ (val c d = 0 → g0 = a ∧ g1 = b) := by
  intro m
  induction m with
  | zero =>
    intro a b c d ha hb hc hd hm ht
    have h0 : val c d = 0 := by unfold val U at *; omega
    refine ⟨a, b, le_step ?_, ha, hb, fun h => by omega, fun _ => ⟨rfl, rfl⟩⟩
    simp only [rat_common.l0]
    exact le_bnd (zero_is hc hd) le_rfl (le_neg (by simp [h0]) le_rfl)
  | succ m ih =>
    intro a b c d ha hb hc hd hm ht
    by_cases h0 : val c d = 0
    · refine ⟨a, b, le_step ?_, ha, hb, fun h => by omega, fun _ => ⟨rfl, rfl⟩⟩
      simp only [rat_common.l0]
      exact le_bnd (zero_is hc hd) le_rfl (le_neg (by simp [h0]) le_rfl)
    · have hp : 0 < val c d := by unfold val U at *; omega
      obtain ⟨q2, q3, s0, s1, e, us0, us1, hlt⟩ := over_is ha hb hc hd hp ht
      obtain ⟨g0, g1, hL, u0, u1, hg1, hg2⟩ := ih hc hd us0 us1 (by omega) (by omega)
      refine ⟨g0, g1, le_step ?_, u0, u1, fun _ => ?_, fun h => absurd h h0⟩
      · simp only [rat_common.l0]
        exact le_bnd (zero_is hc hd) le_rfl (le_pos (by simp [h0]) (le_bnd e (rat_size_over.le _ _ _ _) hL))
      · by_cases hz : val s0 s1 = 0
        · obtain ⟨rfl, rfl⟩ := hg2 hz
          exact ⟨hp, ht⟩
        · exact hg1 (by unfold val U at *; omega)
theorem common_is {a b c d : Int} (ha : U a) (hb : U b) (hc : U c) (hd : U d) (h0 : 0 < val c d) (ht : val c d ≤ 170141183460469231731687303715884105728) : ∃ g0 g1, rat_common.g a b c d = some (g0, g1) ∧ U g0 ∧ U g1 ∧ 0 < val g0 g1 ∧ val g0 g1 ≤ 170141183460469231731687303715884105728 := by
  obtain ⟨g0, g1, hL, u0, u1, hg, _⟩ := common_l0 0 0 (val c d).toNat ha hb hc hd (Nat.le_refl _) ht
  exact ⟨g0, g1, lim_of hL, u0, u1, hg h0⟩
/-- Every fraction is made, or the error. -/
theorem made_is {a b : S91} {s u : Bool} (ha : U a.f0) (hb : U a.f1) (hc : U b.f0) (hd : U b.f1) (h0 : 0 < val b.f0 b.f1) (ht : val b.f0 b.f1 ≤ 170141183460469231731687303715884105728) : ∃ t, rat_made.g a s b u = some t := by
  unfold rat_made.g
  obtain ⟨g0, g1, e, u0, u1, hg, hg2⟩ := common_is ha hb hc hd h0 ht
  obtain ⟨q2, q3, s0, s1, e1, _⟩ := over_is ha hb u0 u1 hg hg2
  obtain ⟨q4, q5, s4, s5, e2, _⟩ := over_is hc hd u0 u1 hg hg2
  have num : ∀ x y, ∃ t, rat_wide_number.g x y = some t := fun x y => by
    unfold rat_wide_number.g
    repeat' split
    all_goals exact ⟨_, rfl⟩
  have fin : ∀ t4 t5 : Int × Bool, ∃ t, (if (!t4.2) = true then (some (0, 0, 20)) else (if (!t5.2) = true then (some (0, 0, 20)) else (some (t4.1, t5.1, 0))) : Option (Int × Int × Int)) = some t := fun t4 t5 => by
    repeat' split
    all_goals exact ⟨_, rfl⟩
  rw [e, Option.bind_some, e1, Option.bind_some, e2, Option.bind_some]
  split
  · obtain ⟨t4, e4⟩ := num (⟨q2, q3⟩ : S91) false
    obtain ⟨t5, e5⟩ := num (⟨q4, q5⟩ : S91) false
    rw [e4, Option.bind_some, e5, Option.bind_some]
    exact fin t4 t5
  · obtain ⟨z, ez⟩ : ∃ z, rat_size_isZero.f q2 q3 = some z := by unfold rat_size_isZero.f; split <;> exact ⟨_, rfl⟩
    rw [ez, Option.bind_some]
    obtain ⟨t4, e4⟩ := num (⟨q2, q3⟩ : S91) (!z)
    obtain ⟨t5, e5⟩ := num (⟨q4, q5⟩ : S91) false
    rw [e4, Option.bind_some, e5, Option.bind_some]
    exact fin t4 t5
end Go.Proofs.YtkmleeeekbdomaaGreatDoor.Q
