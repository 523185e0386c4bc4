/- Part of the proof: MO. -/
import Derived.Test.YtbjkfkifkglplaaGreatDoorT3
set_option linter.unusedSectionVars false
set_option linter.unusedSimpArgs false
set_option linter.unusedVariables false
set_option maxRecDepth 100000
namespace Go.Proofs.YtbjkfkifkglplaaGreatDoor.Q
open Go Go.Den Go.Proofs
/-- What x answers y answers. -/
def Mo {R : Type} (x y : Option R) : Prop := ∀ r, x = some r → y = some r
section
variable {R A : Type} {x y x' y' : Option R}
theorem mo_rfl : Mo x x := fun _ h => h
theorem mo_none : Mo (none : Option R) y := fun r h => by cases h
theorem mo_ite {c : Prop} [Decidable c] (h : Mo x y) (h' : Mo x' y') : Mo (if c then x else x') (if c then y else y') := by
  by_cases hc : c
  · simpa only [if_pos hc] using h
  · simpa only [if_neg hc] using h'
theorem mo_bind {a b : Option A} {g g' : A → Option R} (h : Mo a b) (h' : ∀ t, Mo (g t) (g' t)) : Mo (a.bind g) (b.bind g') := fun r hr => by
  obtain ⟨t, ht, hr⟩ := Option.bind_eq_some_iff.1 hr
  rw [h t ht, Option.bind_some]
  exact h' t r hr
theorem mo_elim {B C : Type} {g1 g1' : B → Option R} {g2 g2' : C → Option R} {e : B ⊕ C} (h1 : ∀ c, Mo (g1 c) (g1' c)) (h2 : ∀ c, Mo (g2 c) (g2' c)) : Mo (Sum.elim g1 g2 e) (Sum.elim g1' g2' e) := by
  cases e with
  | inl c => exact h1 c
  | inr c => exact h2 c
theorem mo_all {F : Nat → Option R} (h : ∀ k, Mo (F k) (F (k + 1))) {k : Nat} {r : R} (hk : F k = some r) : ∀ j, F (k + j) = some r
  | 0 => hk
  | j + 1 => h _ r (mo_all h hk j)
end
theorem slices_IndexFunc_api_Auto_api_Auto_at196.mos : ∀ k : Nat, (∀ (x0 : List S76) (x1 : Bool) (x7 : Int) (x8 : Int), Mo (slices_IndexFunc_api_Auto_api_Auto_at196.l0 k x0 x1 x7 x8) (slices_IndexFunc_api_Auto_api_Auto_at196.l0 (k + 1) x0 x1 x7 x8))
  | 0 => fun _ _ _ _ => by rw [slices_IndexFunc_api_Auto_api_Auto_at196.l0]; exact mo_none
  | k + 1 => by
    have ih := slices_IndexFunc_api_Auto_api_Auto_at196.mos k
    exact fun x0 x1 x7 x8 => by rw [slices_IndexFunc_api_Auto_api_Auto_at196.l0, slices_IndexFunc_api_Auto_api_Auto_at196.l0]; exact (mo_ite (mo_ite (mo_ite (mo_bind mo_rfl fun t1 => (mo_ite mo_rfl (ih x0 x1 x7 (w64 (x8 + 1))))) mo_rfl) mo_rfl) mo_rfl)
theorem slices_IndexFunc_api_Auto_api_Auto_at196.mo (k : Nat) (a0 : List S76) (a1 : Bool) : Mo (slices_IndexFunc_api_Auto_api_Auto_at196.f k a0 a1) (slices_IndexFunc_api_Auto_api_Auto_at196.f (k + 1) a0 a1) := by
  have ih := slices_IndexFunc_api_Auto_api_Auto_at196.mos k
  unfold slices_IndexFunc_api_Auto_api_Auto_at196.f
  exact (ih a0 a1 (a0.length : Int) 0)
theorem slices_ContainsFunc_api_Auto_api_Auto_at196.mo (k : Nat) (a0 : List S76) (a1 : Bool) : Mo (slices_ContainsFunc_api_Auto_api_Auto_at196.f k a0 a1) (slices_ContainsFunc_api_Auto_api_Auto_at196.f (k + 1) a0 a1) := by
  unfold slices_ContainsFunc_api_Auto_api_Auto_at196.f
  exact (mo_bind (slices_IndexFunc_api_Auto_api_Auto_at196.mo k a0 a1) fun t1 => mo_rfl)
theorem net_some.mo (k : Nat) (l0_0 : List ByteArray) (l0_1 : List S86) (l0_2 : List ByteArray) (l0_3 : List S76) : Mo (net_some.f k l0_0 l0_1 l0_2 l0_3) (net_some.f (k + 1) l0_0 l0_1 l0_2 l0_3) := by
  unfold net_some.f
  exact (mo_ite mo_rfl (mo_bind (slices_ContainsFunc_api_Auto_api_Auto_at196.mo k l0_3 false) fun t1 => mo_rfl))
theorem net_sizes.mos : ∀ k : Nat, (∀ (x1_0 : List ByteArray) (x1_1 : List S86) (x1_2 : List ByteArray) (x1_3 : List S76), Mo (net_sizes.j0 k x1_0 x1_1 x1_2 x1_3) (net_sizes.j0 (k + 1) x1_0 x1_1 x1_2 x1_3)) ∧ (∀ (x34 : List S76) (x35 : Int) (x36 : Int), Mo (net_sizes.l1 k x34 x35 x36) (net_sizes.l1 (k + 1) x34 x35 x36)) ∧ (∀ (x34 : List S76) (x35 : Int) (x36 : Int) (x4_0 : ByteArray) (x4_1 : List S84) (x4_2 : List S79), Mo (net_sizes.j2 k x34 x35 x36 x4_0 x4_1 x4_2) (net_sizes.j2 (k + 1) x34 x35 x36 x4_0 x4_1 x4_2)) ∧ (∀ (x34 : List S76) (x35 : Int) (x36 : Int) (x51 : List S84) (x52 : Int) (x53 : Int) (x4_0 : ByteArray) (x4_1 : List S84) (x4_2 : List S79), Mo (net_sizes.l3 k x34 x35 x36 x51 x52 x53 x4_0 x4_1 x4_2) (net_sizes.l3 (k + 1) x34 x35 x36 x51 x52 x53 x4_0 x4_1 x4_2)) ∧ (∀ (x34 : List S76) (x35 : Int) (x36 : Int) (x63 : List S79) (x64 : Int) (x65 : Int), Mo (net_sizes.l4 k x34 x35 x36 x63 x64 x65) (net_sizes.l4 (k + 1) x34 x35 x36 x63 x64 x65)) ∧ (∀ (x34 : List S76) (x35 : Int) (x36 : Int) (x63 : List S79) (x64 : Int) (x65 : Int) (x8_0 : Int) (x8_1 : Int) (x8_2 : List S43) (x8_3 : List S151) (x8_4 : Int) (x8_5 : Bool) (x8_6 : List S81), Mo (net_sizes.j5 k x34 x35 x36 x63 x64 x65 x8_0 x8_1 x8_2 x8_3 x8_4 x8_5 x8_6) (net_sizes.j5 (k + 1) x34 x35 x36 x63 x64 x65 x8_0 x8_1 x8_2 x8_3 x8_4 x8_5 x8_6)) ∧ (∀ (x34 : List S76) (x35 : Int) (x36 : Int) (x63 : List S79) (x64 : Int) (x65 : Int) (x86 : List S81) (x87 : Int) (x88 : Int), Mo (net_sizes.l6 k x34 x35 x36 x63 x64 x65 x86 x87 x88) (net_sizes.l6 (k + 1) x34 x35 x36 x63 x64 x65 x86 x87 x88))
  | 0 => ⟨fun _ _ _ _ => by rw [net_sizes.j0]; exact mo_none, fun _ _ _ => by rw [net_sizes.l1]; exact mo_none, fun _ _ _ _ _ _ => by rw [net_sizes.j2]; exact mo_none, fun _ _ _ _ _ _ _ _ _ => by rw [net_sizes.l3]; exact mo_none, fun _ _ _ _ _ _ => by rw [net_sizes.l4]; exact mo_none, fun _ _ _ _ _ _ _ _ _ _ _ _ _ => by rw [net_sizes.j5]; exact mo_none, fun _ _ _ _ _ _ _ _ _ => by rw [net_sizes.l6]; exact mo_none⟩
  | k + 1 => by
    have ih := net_sizes.mos k
    exact ⟨fun x1_0 x1_1 x1_2 x1_3 => by rw [net_sizes.j0, net_sizes.j0]; exact (ih.2.1 x1_3 (x1_3.length : Int) 0), fun x34 x35 x36 => by rw [net_sizes.l1, net_sizes.l1]; exact (mo_ite (mo_ite (mo_ite (mo_ite mo_rfl (mo_ite mo_rfl (ih.2.2.1 x34 x35 x36 ((rd_T76 x34 x36).f0) ((rd_T76 x34 x36).f1) ((rd_T76 x34 x36).f2)))) mo_rfl) mo_rfl) mo_rfl), fun x34 x35 x36 x4_0 x4_1 x4_2 => by rw [net_sizes.j2, net_sizes.j2]; exact (ih.2.2.2.1 x34 x35 x36 x4_1 (x4_1.length : Int) 0 x4_0 x4_1 x4_2), fun x34 x35 x36 x51 x52 x53 x4_0 x4_1 x4_2 => by rw [net_sizes.l3, net_sizes.l3]; exact (mo_ite (mo_ite (mo_ite (mo_ite mo_rfl (ih.2.2.2.1 x34 x35 x36 x51 x52 (w64 (x53 + 1)) x4_0 x4_1 x4_2)) mo_rfl) mo_rfl) (ih.2.2.2.2.1 x34 x35 x36 x4_2 (x4_2.length : Int) 0)), fun x34 x35 x36 x63 x64 x65 => by rw [net_sizes.l4, net_sizes.l4]; exact (mo_ite (mo_ite (mo_ite (mo_ite mo_rfl (mo_ite mo_rfl (mo_ite mo_rfl (ih.2.2.2.2.2.1 x34 x35 x36 x63 x64 x65 ((rd_T79 x63 x65).f0) ((rd_T79 x63 x65).f1) ((rd_T79 x63 x65).f2) ((rd_T79 x63 x65).f3) ((rd_T79 x63 x65).f4) ((rd_T79 x63 x65).f5) ((rd_T79 x63 x65).f6))))) mo_rfl) mo_rfl) (ih.2.1 x34 x35 (w64 (x36 + 1)))), fun x34 x35 x36 x63 x64 x65 x8_0 x8_1 x8_2 x8_3 x8_4 x8_5 x8_6 => by rw [net_sizes.j5, net_sizes.j5]; exact (ih.2.2.2.2.2.2 x34 x35 x36 x63 x64 x65 x8_6 (x8_6.length : Int) 0), fun x34 x35 x36 x63 x64 x65 x86 x87 x88 => by rw [net_sizes.l6, net_sizes.l6]; exact (mo_ite (mo_ite (mo_ite (mo_ite mo_rfl (ih.2.2.2.2.2.2 x34 x35 x36 x63 x64 x65 x86 x87 (w64 (x88 + 1)))) mo_rfl) mo_rfl) (ih.2.2.2.2.1 x34 x35 x36 x63 x64 (w64 (x65 + 1))))⟩
theorem net_sizes.mo (k : Nat) (l0_0 : List ByteArray) (l0_1 : List S86) (l0_2 : List ByteArray) (l0_3 : List S76) : Mo (net_sizes.f k l0_0 l0_1 l0_2 l0_3) (net_sizes.f (k + 1) l0_0 l0_1 l0_2 l0_3) := by
  have ih := net_sizes.mos k
  unfold net_sizes.f
  exact (mo_ite mo_rfl (mo_ite mo_rfl (mo_ite mo_rfl (mo_ite mo_rfl (ih.1 l0_0 l0_1 l0_2 l0_3)))))
theorem lex_of.mos : ∀ k : Nat, (∀ (x0 : Int) (x3 : Bool), Mo (lex_of.j0 k x0 x3) (lex_of.j0 (k + 1) x0 x3))
  | 0 => fun _ _ => by rw [lex_of.j0]; exact mo_none
  | k + 1 => by
    have ih := lex_of.mos k
    exact fun x0 x3 => by rw [lex_of.j0, lex_of.j0]; exact mo_rfl
theorem lex_of.mo (k : Nat) (a0 : Int) : Mo (lex_of.f k a0) (lex_of.f (k + 1) a0) := by
  have ih := lex_of.mos k
  unfold lex_of.f
  exact (mo_ite (ih a0 (decide (a0 = 32))) (mo_ite (ih a0 (decide (a0 = 9))) (mo_ite (ih a0 (decide (a0 = 13))) (ih a0 (decide (a0 = 10))))))
theorem lex_word.mos : ∀ k : Nat, (∀ (x0 : ByteArray) (x3 : Int), Mo (lex_word.l0 k x0 x3) (lex_word.l0 (k + 1) x0 x3))
  | 0 => fun _ _ => by rw [lex_word.l0]; exact mo_none
  | k + 1 => by
    have ih := lex_word.mos k
    exact fun x0 x3 => by rw [lex_word.l0, lex_word.l0]; exact (mo_ite (mo_ite (mo_ite (mo_bind (lex_of.mo k (btI x0 x3)) fun t1 => (mo_ite (ih x0 (w64 (x3 + 1))) (mo_ite (mo_ite (mo_bind (lex_of.mo k (btI x0 x3)) fun t2 => (mo_ite (ih x0 (w64 (x3 + 1))) (mo_ite (mo_ite (mo_ite (ih x0 (w64 (x3 + 1))) mo_rfl) mo_rfl) mo_rfl))) mo_rfl) mo_rfl))) mo_rfl) mo_rfl) mo_rfl)
theorem lex_word.mo (k : Nat) (a0 : ByteArray) : Mo (lex_word.f k a0) (lex_word.f (k + 1) a0) := by
  have ih := lex_word.mos k
  unfold lex_word.f
  exact (ih a0 1)
theorem slices_Index_string_string.mos : ∀ k : Nat, (∀ (x0 : List ByteArray) (x1 : ByteArray) (x7 : Int) (x8 : Int), Mo (slices_Index_string_string.l0 k x0 x1 x7 x8) (slices_Index_string_string.l0 (k + 1) x0 x1 x7 x8))
  | 0 => fun _ _ _ _ => by rw [slices_Index_string_string.l0]; exact mo_none
  | k + 1 => by
    have ih := slices_Index_string_string.mos k
    exact fun x0 x1 x7 x8 => by rw [slices_Index_string_string.l0, slices_Index_string_string.l0]; exact (mo_ite (mo_ite (mo_ite (mo_ite mo_rfl (ih x0 x1 x7 (w64 (x8 + 1)))) mo_rfl) mo_rfl) mo_rfl)
theorem slices_Index_string_string.mo (k : Nat) (a0 : List ByteArray) (a1 : ByteArray) : Mo (slices_Index_string_string.f k a0 a1) (slices_Index_string_string.f (k + 1) a0 a1) := by
  have ih := slices_Index_string_string.mos k
  unfold slices_Index_string_string.f
  exact (ih a0 a1 (a0.length : Int) 0)
theorem slices_Contains_string_string.mo (k : Nat) (a0 : List ByteArray) (a1 : ByteArray) : Mo (slices_Contains_string_string.f k a0 a1) (slices_Contains_string_string.f (k + 1) a0 a1) := by
  unfold slices_Contains_string_string.f
  exact (mo_bind (slices_Index_string_string.mo k a0 a1) fun t1 => mo_rfl)
theorem lex_IsName.mo (k : Nat) (a0 : ByteArray) : Mo (lex_IsName.f k a0) (lex_IsName.f (k + 1) a0) := by
  unfold lex_IsName.f
  exact (mo_ite mo_rfl (mo_ite (mo_ite (mo_ite (mo_bind (lex_of.mo k (btI a0 0)) fun t1 => (mo_ite (mo_bind (lex_word.mo k a0) fun t2 => (mo_ite (mo_bind (slices_Contains_string_string.mo k lex_kept a0) fun t3 => mo_rfl) mo_rfl)) mo_rfl)) mo_rfl) mo_rfl) mo_rfl))
theorem net_given.mos : ∀ k : Nat, (∀ (x3 : List ByteArray) (x7 : List ByteArray) (x8 : Int) (x9 : Int), Mo (net_given.l0 k x3 x7 x8 x9) (net_given.l0 (k + 1) x3 x7 x8 x9))
  | 0 => fun _ _ _ _ => by rw [net_given.l0]; exact mo_none
  | k + 1 => by
    have ih := net_given.mos k
    exact fun x3 x7 x8 x9 => by rw [net_given.l0, net_given.l0]; exact (mo_ite (mo_ite (mo_ite (mo_bind (lex_IsName.mo k (rdT .str x7 x9)) fun t1 => (mo_ite mo_rfl (mo_ite mo_rfl (mo_ite (mo_ite mo_rfl (mo_ite (mo_ite (ih ((rdT .str x7 x9) :: x3) x7 x8 (w64 (x9 + 1))) mo_rfl) mo_rfl)) mo_rfl)))) mo_rfl) mo_rfl) mo_rfl)
theorem net_given.mo (k : Nat) (a0 : List ByteArray) : Mo (net_given.f k a0) (net_given.f (k + 1) a0) := by
  have ih := net_given.mos k
  unfold net_given.f
  exact (ih ([] : List ByteArray) a0 (a0.length : Int) 0)
theorem net_Names.mos : ∀ k : Nat, (∀ (x3 : List ByteArray) (x7 : List S86) (x8 : Int) (x9 : Int), Mo (net_Names.l0 k x3 x7 x8 x9) (net_Names.l0 (k + 1) x3 x7 x8 x9))
  | 0 => fun _ _ _ _ => by rw [net_Names.l0]; exact mo_none
  | k + 1 => by
    have ih := net_Names.mos k
    exact fun x3 x7 x8 x9 => by rw [net_Names.l0, net_Names.l0]; exact (mo_ite (mo_ite (mo_ite (mo_ite (ih (x3 ++ [(rd_T86 x7 x9).f0]) x7 x8 (w64 (x9 + 1))) mo_rfl) mo_rfl) mo_rfl) mo_rfl)
theorem net_Names.mo (k : Nat) (l0_0 : List ByteArray) (l0_1 : List S86) (l0_2 : List ByteArray) (l0_3 : List S76) : Mo (net_Names.f k l0_0 l0_1 l0_2 l0_3) (net_Names.f (k + 1) l0_0 l0_1 l0_2 l0_3) := by
  have ih := net_Names.mos k
  unfold net_Names.f
  exact (ih ([] : List ByteArray) l0_1 (l0_1.length : Int) 0)
theorem slices_Concat_string_string.mos : ∀ k : Nat, (∀ (x0 : List (List ByteArray)) (x3 : Int) (x9 : List (List ByteArray)) (x10 : Int) (x11 : Int), Mo (slices_Concat_string_string.l0 k x0 x3 x9 x10 x11) (slices_Concat_string_string.l0 (k + 1) x0 x3 x9 x10 x11)) ∧ (∀ (x6 : List ByteArray) (x25 : List (List ByteArray)) (x26 : Int) (x27 : Int), Mo (slices_Concat_string_string.l1 k x6 x25 x26 x27) (slices_Concat_string_string.l1 (k + 1) x6 x25 x26 x27))
  | 0 => ⟨fun _ _ _ _ _ => by rw [slices_Concat_string_string.l0]; exact mo_none, fun _ _ _ _ => by rw [slices_Concat_string_string.l1]; exact mo_none⟩
  | k + 1 => by
    have ih := slices_Concat_string_string.mos k
    exact ⟨fun x0 x3 x9 x10 x11 => by rw [slices_Concat_string_string.l0, slices_Concat_string_string.l0]; exact (mo_ite (mo_ite (mo_ite (mo_ite mo_rfl (ih.1 x0 (w64 (x3 + ((rdT (.list .str) x9 x11).length : Int))) x9 x10 (w64 (x11 + 1)))) mo_rfl) mo_rfl) (mo_bind mo_rfl fun t1 => (ih.2 t1 x0 (x0.length : Int) 0))), fun x6 x25 x26 x27 => by rw [slices_Concat_string_string.l1, slices_Concat_string_string.l1]; exact (mo_ite (mo_ite (mo_ite (mo_ite (ih.2 (x6 ++ (rdT (.list .str) x25 x27)) x25 x26 (w64 (x27 + 1))) mo_rfl) mo_rfl) mo_rfl) mo_rfl)⟩
theorem slices_Concat_string_string.mo (k : Nat) (a0 : List (List ByteArray)) : Mo (slices_Concat_string_string.f k a0) (slices_Concat_string_string.f (k + 1) a0) := by
  have ih := slices_Concat_string_string.mos k
  unfold slices_Concat_string_string.f
  exact (ih.1 a0 0 a0 (a0.length : Int) 0)
theorem net_all.mos : ∀ k : Nat, (∀ (x3 : List ByteArray) (x15 : List S76) (x16 : Int) (x17 : Int), Mo (net_all.l0 k x3 x15 x16 x17) (net_all.l0 (k + 1) x3 x15 x16 x17))
  | 0 => fun _ _ _ _ => by rw [net_all.l0]; exact mo_none
  | k + 1 => by
    have ih := net_all.mos k
    exact fun x3 x15 x16 x17 => by rw [net_all.l0, net_all.l0]; exact (mo_ite (mo_ite (mo_ite (mo_ite (ih (x3 ++ [(rd_T76 x15 x17).f0]) x15 x16 (w64 (x17 + 1))) mo_rfl) mo_rfl) mo_rfl) mo_rfl)
theorem net_all.mo (k : Nat) (l0_0 : List ByteArray) (l0_1 : List S86) (l0_2 : List ByteArray) (l0_3 : List S76) : Mo (net_all.f k l0_0 l0_1 l0_2 l0_3) (net_all.f (k + 1) l0_0 l0_1 l0_2 l0_3) := by
  have ih := net_all.mos k
  unfold net_all.f
  exact (mo_bind (net_Names.mo k l0_0 l0_1 l0_2 l0_3) fun t1 => (mo_bind (slices_Concat_string_string.mo k ([l0_0, t1, l0_2] : List (List ByteArray))) fun t2 => (ih t2 l0_3 (l0_3.length : Int) 0)))
theorem net_locNames.mos : ∀ k : Nat, (∀ (x3 : List ByteArray) (x7 : List S84) (x8 : Int) (x9 : Int), Mo (net_locNames.l0 k x3 x7 x8 x9) (net_locNames.l0 (k + 1) x3 x7 x8 x9))
  | 0 => fun _ _ _ _ => by rw [net_locNames.l0]; exact mo_none
  | k + 1 => by
    have ih := net_locNames.mos k
    exact fun x3 x7 x8 x9 => by rw [net_locNames.l0, net_locNames.l0]; exact (mo_ite (mo_ite (mo_ite (mo_ite (ih (x3 ++ [(rd_T84 x7 x9).f0]) x7 x8 (w64 (x9 + 1))) mo_rfl) mo_rfl) mo_rfl) mo_rfl)
theorem net_locNames.mo (k : Nat) (l0_0 : ByteArray) (l0_1 : List S84) (l0_2 : List S79) : Mo (net_locNames.f k l0_0 l0_1 l0_2) (net_locNames.f (k + 1) l0_0 l0_1 l0_2) := by
  have ih := net_locNames.mos k
  unfold net_locNames.f
  exact (ih ([] : List ByteArray) l0_1 (l0_1.length : Int) 0)
theorem net_names.mos : ∀ k : Nat, (∀ (x10 : List S76) (x11 : Int) (x12 : Int), Mo (net_names.l0 k x10 x11 x12) (net_names.l0 (k + 1) x10 x11 x12))
  | 0 => fun _ _ _ => by rw [net_names.l0]; exact mo_none
  | k + 1 => by
    have ih := net_names.mos k
    exact fun x10 x11 x12 => by rw [net_names.l0, net_names.l0]; exact (mo_ite (mo_ite (mo_ite (mo_bind (net_locNames.mo k ((rd_T76 x10 x12).f0) ((rd_T76 x10 x12).f1) ((rd_T76 x10 x12).f2)) fun t3 => (mo_bind (net_given.mo k t3) fun t4 => (mo_ite mo_rfl (ih x10 x11 (w64 (x12 + 1)))))) mo_rfl) mo_rfl) mo_rfl)
theorem net_names.mo (k : Nat) (l0_0 : List ByteArray) (l0_1 : List S86) (l0_2 : List ByteArray) (l0_3 : List S76) : Mo (net_names.f k l0_0 l0_1 l0_2 l0_3) (net_names.f (k + 1) l0_0 l0_1 l0_2 l0_3) := by
  have ih := net_names.mos k
  unfold net_names.f
  exact (mo_bind (net_all.mo k l0_0 l0_1 l0_2 l0_3) fun t1 => (mo_bind (net_given.mo k t1) fun t2 => (mo_ite mo_rfl (ih l0_3 (l0_3.length : Int) 0))))
theorem net_vars.mos : ∀ k : Nat, (∀ (x6 : List S86) (x7 : Int) (x8 : Int), Mo (net_vars.l0 k x6 x7 x8) (net_vars.l0 (k + 1) x6 x7 x8))
  | 0 => fun _ _ _ => by rw [net_vars.l0]; exact mo_none
  | k + 1 => by
    have ih := net_vars.mos k
    exact fun x6 x7 x8 => by rw [net_vars.l0, net_vars.l0]; exact (mo_ite (mo_ite (mo_ite (mo_ite mo_rfl (mo_ite mo_rfl (mo_ite mo_rfl (mo_ite mo_rfl (ih x6 x7 (w64 (x8 + 1))))))) mo_rfl) mo_rfl) mo_rfl)
theorem net_vars.mo (k : Nat) (l0_0 : List ByteArray) (l0_1 : List S86) (l0_2 : List ByteArray) (l0_3 : List S76) : Mo (net_vars.f k l0_0 l0_1 l0_2 l0_3) (net_vars.f (k + 1) l0_0 l0_1 l0_2 l0_3) := by
  have ih := net_vars.mos k
  unfold net_vars.f
  exact (ih l0_1 (l0_1.length : Int) 0)
theorem net_locs.mos : ∀ k : Nat, (∀ (x8 : List S76) (x9 : Int) (x10 : Int), Mo (net_locs.l0 k x8 x9 x10) (net_locs.l0 (k + 1) x8 x9 x10)) ∧ (∀ (x8 : List S76) (x9 : Int) (x10 : Int) (x15 : List S84) (x16 : Int) (x17 : Int), Mo (net_locs.l1 k x8 x9 x10 x15 x16 x17) (net_locs.l1 (k + 1) x8 x9 x10 x15 x16 x17))
  | 0 => ⟨fun _ _ _ => by rw [net_locs.l0]; exact mo_none, fun _ _ _ _ _ _ => by rw [net_locs.l1]; exact mo_none⟩
  | k + 1 => by
    have ih := net_locs.mos k
    exact ⟨fun x8 x9 x10 => by rw [net_locs.l0, net_locs.l0]; exact (mo_ite (mo_ite (mo_ite (ih.2 x8 x9 x10 ((rd_T76 x8 x10).f1) (((rd_T76 x8 x10).f1).length : Int) 0) mo_rfl) mo_rfl) mo_rfl), fun x8 x9 x10 x15 x16 x17 => by rw [net_locs.l1, net_locs.l1]; exact (mo_ite (mo_ite (mo_ite (mo_ite mo_rfl (ih.2 x8 x9 x10 x15 x16 (w64 (x17 + 1)))) mo_rfl) mo_rfl) (ih.1 x8 x9 (w64 (x10 + 1))))⟩
theorem net_locs.mo (k : Nat) (l0_0 : List ByteArray) (l0_1 : List S86) (l0_2 : List ByteArray) (l0_3 : List S76) : Mo (net_locs.f k l0_0 l0_1 l0_2 l0_3) (net_locs.f (k + 1) l0_0 l0_1 l0_2 l0_3) := by
  have ih := net_locs.mos k
  unfold net_locs.f
  exact (ih.1 l0_3 (l0_3.length : Int) 0)
theorem net_edges.mos : ∀ k : Nat, (∀ (x9 : List S76) (x10 : Int) (x11 : Int) (x1_0 : List ByteArray) (x1_1 : List S86) (x1_2 : List ByteArray) (x1_3 : List S76), Mo (net_edges.l0 k x9 x10 x11 x1_0 x1_1 x1_2 x1_3) (net_edges.l0 (k + 1) x9 x10 x11 x1_0 x1_1 x1_2 x1_3)) ∧ (∀ (x5 : S76) (x9 : List S76) (x10 : Int) (x11 : Int) (x17 : List S79) (x18 : Int) (x19 : Int) (x1_0 : List ByteArray) (x1_1 : List S86) (x1_2 : List ByteArray) (x1_3 : List S76), Mo (net_edges.l1 k x5 x9 x10 x11 x17 x18 x19 x1_0 x1_1 x1_2 x1_3) (net_edges.l1 (k + 1) x5 x9 x10 x11 x17 x18 x19 x1_0 x1_1 x1_2 x1_3))
  | 0 => ⟨fun _ _ _ _ _ _ _ => by rw [net_edges.l0]; exact mo_none, fun _ _ _ _ _ _ _ _ _ _ _ => by rw [net_edges.l1]; exact mo_none⟩
  | k + 1 => by
    have ih := net_edges.mos k
    exact ⟨fun x9 x10 x11 x1_0 x1_1 x1_2 x1_3 => by rw [net_edges.l0, net_edges.l0]; exact (mo_ite (mo_ite (mo_ite (ih.2 (rd_T76 x9 x11) x9 x10 x11 ((rd_T76 x9 x11).f2) (((rd_T76 x9 x11).f2).length : Int) 0 x1_0 x1_1 x1_2 x1_3) mo_rfl) mo_rfl) mo_rfl), fun x5 x9 x10 x11 x17 x18 x19 x1_0 x1_1 x1_2 x1_3 => by rw [net_edges.l1, net_edges.l1]; exact (mo_ite (mo_ite (mo_ite (mo_bind mo_rfl fun t1 => (mo_ite mo_rfl (mo_bind mo_rfl fun t2 => (mo_ite mo_rfl (mo_ite mo_rfl (mo_ite mo_rfl (mo_ite (mo_ite mo_rfl (ih.2 x5 x9 x10 x11 x17 x18 (w64 (x19 + 1)) x1_0 x1_1 x1_2 x1_3)) (ih.2 x5 x9 x10 x11 x17 x18 (w64 (x19 + 1)) x1_0 x1_1 x1_2 x1_3)))))))) mo_rfl) mo_rfl) (ih.1 x9 x10 (w64 (x11 + 1)) x1_0 x1_1 x1_2 x1_3))⟩
theorem net_edges.mo (k : Nat) (l0_0 : List ByteArray) (l0_1 : List S86) (l0_2 : List ByteArray) (l0_3 : List S76) : Mo (net_edges.f k l0_0 l0_1 l0_2 l0_3) (net_edges.f (k + 1) l0_0 l0_1 l0_2 l0_3) := by
  have ih := net_edges.mos k
  unfold net_edges.f
  exact (ih.1 l0_3 (l0_3.length : Int) 0 l0_0 l0_1 l0_2 l0_3)
theorem net_clocksOf.mos : ∀ k : Nat, (∀ (x7 : List S43) (x8 : Int) (x9 : Int) (x2_0 : List ByteArray) (x2_1 : List S86) (x2_2 : List ByteArray) (x2_3 : List S76), Mo (net_clocksOf.l0 k x7 x8 x9 x2_0 x2_1 x2_2 x2_3) (net_clocksOf.l0 (k + 1) x7 x8 x9 x2_0 x2_1 x2_2 x2_3))
  | 0 => fun _ _ _ _ _ _ _ => by rw [net_clocksOf.l0]; exact mo_none
  | k + 1 => by
    have ih := net_clocksOf.mos k
    exact fun x7 x8 x9 x2_0 x2_1 x2_2 x2_3 => by rw [net_clocksOf.l0, net_clocksOf.l0]; exact (mo_ite (mo_ite (mo_ite (mo_bind mo_rfl fun t1 => (mo_ite mo_rfl (mo_ite (ih x7 x8 (w64 (x9 + 1)) x2_0 x2_1 x2_2 x2_3) (mo_bind mo_rfl fun t2 => (mo_ite mo_rfl (ih x7 x8 (w64 (x9 + 1)) x2_0 x2_1 x2_2 x2_3)))))) mo_rfl) mo_rfl) mo_rfl)
theorem net_clocksOf.mo (k : Nat) (l0_0 : List ByteArray) (l0_1 : List S86) (l0_2 : List ByteArray) (l0_3 : List S76) (a1 : List S43) : Mo (net_clocksOf.f k l0_0 l0_1 l0_2 l0_3 a1) (net_clocksOf.f (k + 1) l0_0 l0_1 l0_2 l0_3 a1) := by
  have ih := net_clocksOf.mos k
  unfold net_clocksOf.f
  exact (ih a1 (a1.length : Int) 0 l0_0 l0_1 l0_2 l0_3)
theorem net_guards.mos : ∀ k : Nat, (∀ (x3 : List S43) (x11 : List S76) (x12 : Int) (x13 : Int), Mo (net_guards.l0 k x3 x11 x12 x13) (net_guards.l0 (k + 1) x3 x11 x12 x13)) ∧ (∀ (x3 : List S43) (x11 : List S76) (x12 : Int) (x13 : Int) (x18 : List S84) (x19 : Int) (x20 : Int) (x5_0 : ByteArray) (x5_1 : List S84) (x5_2 : List S79), Mo (net_guards.l1 k x3 x11 x12 x13 x18 x19 x20 x5_0 x5_1 x5_2) (net_guards.l1 (k + 1) x3 x11 x12 x13 x18 x19 x20 x5_0 x5_1 x5_2)) ∧ (∀ (x3 : List S43) (x11 : List S76) (x12 : Int) (x13 : Int) (x30 : List S79) (x31 : Int) (x32 : Int), Mo (net_guards.l2 k x3 x11 x12 x13 x30 x31 x32) (net_guards.l2 (k + 1) x3 x11 x12 x13 x30 x31 x32))
  | 0 => ⟨fun _ _ _ _ => by rw [net_guards.l0]; exact mo_none, fun _ _ _ _ _ _ _ _ _ _ => by rw [net_guards.l1]; exact mo_none, fun _ _ _ _ _ _ _ => by rw [net_guards.l2]; exact mo_none⟩
  | k + 1 => by
    have ih := net_guards.mos k
    exact ⟨fun x3 x11 x12 x13 => by rw [net_guards.l0, net_guards.l0]; exact (mo_ite (mo_ite (mo_ite (ih.2.1 x3 x11 x12 x13 ((rd_T76 x11 x13).f1) (((rd_T76 x11 x13).f1).length : Int) 0 ((rd_T76 x11 x13).f0) ((rd_T76 x11 x13).f1) ((rd_T76 x11 x13).f2)) mo_rfl) mo_rfl) mo_rfl), fun x3 x11 x12 x13 x18 x19 x20 x5_0 x5_1 x5_2 => by rw [net_guards.l1, net_guards.l1]; exact (mo_ite (mo_ite (mo_ite (mo_ite (ih.2.1 (x3 ++ (rd_T84 x18 x20).f2) x11 x12 x13 x18 x19 (w64 (x20 + 1)) x5_0 x5_1 x5_2) mo_rfl) mo_rfl) mo_rfl) (ih.2.2 x3 x11 x12 x13 x5_2 (x5_2.length : Int) 0)), fun x3 x11 x12 x13 x30 x31 x32 => by rw [net_guards.l2, net_guards.l2]; exact (mo_ite (mo_ite (mo_ite (mo_ite (ih.2.2 (x3 ++ (rd_T79 x30 x32).f2) x11 x12 x13 x30 x31 (w64 (x32 + 1))) mo_rfl) mo_rfl) mo_rfl) (ih.1 x3 x11 x12 (w64 (x13 + 1))))⟩
theorem net_guards.mo (k : Nat) (l0_0 : List ByteArray) (l0_1 : List S86) (l0_2 : List ByteArray) (l0_3 : List S76) : Mo (net_guards.f k l0_0 l0_1 l0_2 l0_3) (net_guards.f (k + 1) l0_0 l0_1 l0_2 l0_3) := by
  have ih := net_guards.mos k
  unfold net_guards.f
  exact (ih.1 ([] : List S43) l0_3 (l0_3.length : Int) 0)
theorem net_sets.mos : ∀ k : Nat, (∀ (x3 : List S81) (x9 : List S76) (x10 : Int) (x11 : Int), Mo (net_sets.l0 k x3 x9 x10 x11) (net_sets.l0 (k + 1) x3 x9 x10 x11)) ∧ (∀ (x3 : List S81) (x9 : List S76) (x10 : Int) (x11 : Int) (x16 : List S79) (x17 : Int) (x18 : Int), Mo (net_sets.l1 k x3 x9 x10 x11 x16 x17 x18) (net_sets.l1 (k + 1) x3 x9 x10 x11 x16 x17 x18))
  | 0 => ⟨fun _ _ _ _ => by rw [net_sets.l0]; exact mo_none, fun _ _ _ _ _ _ _ => by rw [net_sets.l1]; exact mo_none⟩
  | k + 1 => by
    have ih := net_sets.mos k
    exact ⟨fun x3 x9 x10 x11 => by rw [net_sets.l0, net_sets.l0]; exact (mo_ite (mo_ite (mo_ite (ih.2 x3 x9 x10 x11 ((rd_T76 x9 x11).f2) (((rd_T76 x9 x11).f2).length : Int) 0) mo_rfl) mo_rfl) mo_rfl), fun x3 x9 x10 x11 x16 x17 x18 => by rw [net_sets.l1, net_sets.l1]; exact (mo_ite (mo_ite (mo_ite (mo_ite (ih.2 (x3 ++ (rd_T79 x16 x18).f6) x9 x10 x11 x16 x17 (w64 (x18 + 1))) mo_rfl) mo_rfl) mo_rfl) (ih.1 x3 x9 x10 (w64 (x11 + 1))))⟩
theorem net_sets.mo (k : Nat) (l0_0 : List ByteArray) (l0_1 : List S86) (l0_2 : List ByteArray) (l0_3 : List S76) : Mo (net_sets.f k l0_0 l0_1 l0_2 l0_3) (net_sets.f (k + 1) l0_0 l0_1 l0_2 l0_3) := by
  have ih := net_sets.mos k
  unfold net_sets.f
  exact (ih.1 ([] : List S81) l0_3 (l0_3.length : Int) 0)
theorem net_clocks.mos : ∀ k : Nat, (∀ (x14 : List S81) (x15 : Int) (x16 : Int) (x1_0 : List ByteArray) (x1_1 : List S86) (x1_2 : List ByteArray) (x1_3 : List S76), Mo (net_clocks.l0 k x14 x15 x16 x1_0 x1_1 x1_2 x1_3) (net_clocks.l0 (k + 1) x14 x15 x16 x1_0 x1_1 x1_2 x1_3))
  | 0 => fun _ _ _ _ _ _ _ => by rw [net_clocks.l0]; exact mo_none
  | k + 1 => by
    have ih := net_clocks.mos k
    exact fun x14 x15 x16 x1_0 x1_1 x1_2 x1_3 => by rw [net_clocks.l0, net_clocks.l0]; exact (mo_ite (mo_ite (mo_ite (mo_ite (ih x14 x15 (w64 (x16 + 1)) x1_0 x1_1 x1_2 x1_3) (mo_bind mo_rfl fun t4 => (mo_ite mo_rfl (ih x14 x15 (w64 (x16 + 1)) x1_0 x1_1 x1_2 x1_3)))) mo_rfl) mo_rfl) mo_rfl)
theorem net_clocks.mo (k : Nat) (l0_0 : List ByteArray) (l0_1 : List S86) (l0_2 : List ByteArray) (l0_3 : List S76) : Mo (net_clocks.f k l0_0 l0_1 l0_2 l0_3) (net_clocks.f (k + 1) l0_0 l0_1 l0_2 l0_3) := by
  have ih := net_clocks.mos k
  unfold net_clocks.f
  exact (mo_bind (net_guards.mo k l0_0 l0_1 l0_2 l0_3) fun t1 => (mo_bind (net_clocksOf.mo k l0_0 l0_1 l0_2 l0_3 t1) fun t2 => (mo_ite (mo_bind (net_sets.mo k l0_0 l0_1 l0_2 l0_3) fun t3 => (ih t3 (t3.length : Int) 0 l0_0 l0_1 l0_2 l0_3)) mo_rfl)))
theorem net_cmps.mos : ∀ k : Nat, (∀ (x5 : List S43) (x6 : Int) (x7 : Int), Mo (net_cmps.l0 k x5 x6 x7) (net_cmps.l0 (k + 1) x5 x6 x7))
  | 0 => fun _ _ _ => by rw [net_cmps.l0]; exact mo_none
  | k + 1 => by
    have ih := net_cmps.mos k
    exact fun x5 x6 x7 => by rw [net_cmps.l0, net_cmps.l0]; exact (mo_ite (mo_ite (mo_ite (mo_ite mo_rfl (mo_ite mo_rfl (ih x5 x6 (w64 (x7 + 1))))) mo_rfl) mo_rfl) mo_rfl)
theorem net_cmps.mo (k : Nat) (a0 : List S43) : Mo (net_cmps.f k a0) (net_cmps.f (k + 1) a0) := by
  have ih := net_cmps.mos k
  unfold net_cmps.f
  exact (ih a0 (a0.length : Int) 0)
theorem net_forms.mos : ∀ k : Nat, (∀ (x13 : List S81) (x14 : Int) (x15 : Int), Mo (net_forms.l0 k x13 x14 x15) (net_forms.l0 (k + 1) x13 x14 x15))
  | 0 => fun _ _ _ => by rw [net_forms.l0]; exact mo_none
  | k + 1 => by
    have ih := net_forms.mos k
    exact fun x13 x14 x15 => by rw [net_forms.l0, net_forms.l0]; exact (mo_ite (mo_ite (mo_ite (mo_ite (mo_ite (mo_ite (ih x13 x14 (w64 (x15 + 1))) (mo_ite (mo_ite mo_rfl (ih x13 x14 (w64 (x15 + 1)))) mo_rfl)) mo_rfl) (mo_ite (ih x13 x14 (w64 (x15 + 1))) (mo_ite (mo_ite mo_rfl (ih x13 x14 (w64 (x15 + 1)))) mo_rfl))) mo_rfl) mo_rfl) mo_rfl)
theorem net_forms.mo (k : Nat) (l0_0 : List ByteArray) (l0_1 : List S86) (l0_2 : List ByteArray) (l0_3 : List S76) : Mo (net_forms.f k l0_0 l0_1 l0_2 l0_3) (net_forms.f (k + 1) l0_0 l0_1 l0_2 l0_3) := by
  have ih := net_forms.mos k
  unfold net_forms.f
  exact (mo_bind (net_guards.mo k l0_0 l0_1 l0_2 l0_3) fun t1 => (mo_bind (net_cmps.mo k t1) fun t2 => (mo_ite (mo_bind (net_sets.mo k l0_0 l0_1 l0_2 l0_3) fun t3 => (ih t3 (t3.length : Int) 0)) mo_rfl)))
theorem expr_End.mos : ∀ k : Nat, (∀ (x0 : List S151) (x1 : Int) (x5 : Int), Mo (expr_End.l0 k x0 x1 x5) (expr_End.l0 (k + 1) x0 x1 x5))
  | 0 => fun _ _ _ => by rw [expr_End.l0]; exact mo_none
  | k + 1 => by
    have ih := expr_End.mos k
    exact fun x0 x1 x5 => by rw [expr_End.l0, expr_End.l0]; exact (mo_ite (mo_ite mo_rfl (mo_ite (mo_ite (mo_bind mo_rfl fun t1 => (ih x0 (w64 (x1 + 1)) (w64 ((w64 (x5 + t1.1)) - 1)))) mo_rfl) mo_rfl)) mo_rfl)
theorem expr_End.mo (k : Nat) (a0 : List S151) (a1 : Int) : Mo (expr_End.f k a0 a1) (expr_End.f (k + 1) a0 a1) := by
  have ih := expr_End.mos k
  unfold expr_End.f
  exact (mo_ite mo_rfl (ih a0 a1 1))
theorem expr_Right.mos : ∀ k : Nat, (∀ (x0 : List S151) (x1 : Int), Mo (expr_Right.j0 k x0 x1) (expr_Right.j0 (k + 1) x0 x1)) ∧ (∀ (x0 : List S151) (x1 : Int) (x28 : List S151) (x29 : Int) (x30 : Int), Mo (expr_Right.l1 k x0 x1 x28 x29 x30) (expr_Right.l1 (k + 1) x0 x1 x28 x29 x30)) ∧ (∀ (x0 : List S151) (x1 : Int) (x5 : Int) (x8 : Bool) (x9 : Int) (x28 : List S151) (x29 : Int) (x30 : Int) (x6_0 : Int) (x6_1 : Int) (x7_0 : Int) (x7_1 : Bool) (x7_2 : Bool) (x7_3 : ByteArray) (x7_4 : Int), Mo (expr_Right.j2 k x0 x1 x5 x8 x9 x28 x29 x30 x6_0 x6_1 x7_0 x7_1 x7_2 x7_3 x7_4) (expr_Right.j2 (k + 1) x0 x1 x5 x8 x9 x28 x29 x30 x6_0 x6_1 x7_0 x7_1 x7_2 x7_3 x7_4)) ∧ (∀ (x0 : List S151) (x1 : Int) (x5 : Int) (x28 : List S151) (x29 : Int) (x30 : Int) (x7_0 : Int) (x7_1 : Bool) (x7_2 : Bool) (x7_3 : ByteArray) (x7_4 : Int), Mo (expr_Right.j3 k x0 x1 x5 x28 x29 x30 x7_0 x7_1 x7_2 x7_3 x7_4) (expr_Right.j3 (k + 1) x0 x1 x5 x28 x29 x30 x7_0 x7_1 x7_2 x7_3 x7_4)) ∧ (∀ (x0 : List S151) (x1 : Int) (x10 : Int) (x28 : List S151) (x29 : Int) (x30 : Int) (x66 : Int) (x67 : Int) (x7_0 : Int) (x7_1 : Bool) (x7_2 : Bool) (x7_3 : ByteArray) (x7_4 : Int), Mo (expr_Right.l4 k x0 x1 x10 x28 x29 x30 x66 x67 x7_0 x7_1 x7_2 x7_3 x7_4) (expr_Right.l4 (k + 1) x0 x1 x10 x28 x29 x30 x66 x67 x7_0 x7_1 x7_2 x7_3 x7_4))
  | 0 => ⟨fun _ _ => by rw [expr_Right.j0]; exact mo_none, fun _ _ _ _ _ => by rw [expr_Right.l1]; exact mo_none, fun _ _ _ _ _ _ _ _ _ _ _ _ _ _ _ => by rw [expr_Right.j2]; exact mo_none, fun _ _ _ _ _ _ _ _ _ _ _ => by rw [expr_Right.j3]; exact mo_none, fun _ _ _ _ _ _ _ _ _ _ _ _ _ => by rw [expr_Right.l4]; exact mo_none⟩
  | k + 1 => by
    have ih := expr_Right.mos k
    exact ⟨fun x0 x1 => by rw [expr_Right.j0, expr_Right.j0]; exact (ih.2.1 x0 x1 x0 (x0.length : Int) 0), fun x0 x1 x28 x29 x30 => by rw [expr_Right.l1, expr_Right.l1]; exact (mo_ite (mo_ite (mo_ite (mo_bind mo_rfl fun t2 => (mo_ite (ih.2.2.1 x0 x1 x30 t2.2.2.2.2.2 1048576 x28 x29 x30 ((rd_T151 x28 x30).f0) ((rd_T151 x28 x30).f1) t2.1 t2.2.1 t2.2.2.1 t2.2.2.2.1 t2.2.2.2.2.1) (mo_ite (ih.2.2.1 x0 x1 x30 t2.2.2.2.2.2 (w64 ((if 0 > x1 then 0 else x1) - 1)) x28 x29 x30 ((rd_T151 x28 x30).f0) ((rd_T151 x28 x30).f1) t2.1 t2.2.1 t2.2.2.1 t2.2.2.2.1 t2.2.2.2.2.1) (ih.2.2.1 x0 x1 x30 t2.2.2.2.2.2 0 x28 x29 x30 ((rd_T151 x28 x30).f0) ((rd_T151 x28 x30).f1) t2.1 t2.2.1 t2.2.2.1 t2.2.2.2.1 t2.2.2.2.2.1)))) mo_rfl) mo_rfl) mo_rfl), fun x0 x1 x5 x8 x9 x28 x29 x30 x6_0 x6_1 x7_0 x7_1 x7_2 x7_3 x7_4 => by rw [expr_Right.j2, expr_Right.j2]; exact (mo_ite mo_rfl (mo_ite mo_rfl (mo_ite mo_rfl (ih.2.2.2.1 x0 x1 x5 x28 x29 x30 x7_0 x7_1 x7_2 x7_3 x7_4)))), fun x0 x1 x5 x28 x29 x30 x7_0 x7_1 x7_2 x7_3 x7_4 => by rw [expr_Right.j3, expr_Right.j3]; exact (ih.2.2.2.2 x0 x1 (w64 (x5 + 1)) x28 x29 x30 x7_0 0 x7_0 x7_1 x7_2 x7_3 x7_4), fun x0 x1 x10 x28 x29 x30 x66 x67 x7_0 x7_1 x7_2 x7_3 x7_4 => by rw [expr_Right.l4, expr_Right.l4]; exact (mo_ite (mo_ite (mo_ite (mo_bind mo_rfl fun t3 => (mo_ite (mo_bind (expr_End.mo k x0 x10) fun t4 => (ih.2.2.2.2 x0 x1 t4 x28 x29 x30 x66 (w64 (x67 + 1)) x7_0 x7_1 x7_2 x7_3 x7_4)) mo_rfl)) mo_rfl) mo_rfl) (ih.2.1 x0 x1 x28 x29 (w64 (x30 + 1))))⟩
theorem expr_Right.mo (k : Nat) (a0 : List S151) (a1 : Int) : Mo (expr_Right.f k a0 a1) (expr_Right.f (k + 1) a0 a1) := by
  have ih := expr_Right.mos k
  unfold expr_Right.f
  exact (mo_ite mo_rfl (mo_ite mo_rfl (mo_bind (expr_End.mo k a0 0) fun t1 => (mo_ite (ih.1 a0 a1) mo_rfl))))
theorem net_truth.mo (k : Nat) (l0_0 : List ByteArray) (l0_1 : List S86) (l0_2 : List ByteArray) (l0_3 : List S76) (a1 : List S151) : Mo (net_truth.f k l0_0 l0_1 l0_2 l0_3 a1) (net_truth.f (k + 1) l0_0 l0_1 l0_2 l0_3 a1) := by
  unfold net_truth.f
  exact (mo_ite (mo_bind (expr_Right.mo k a1 (l0_1.length : Int)) fun t1 => mo_rfl) mo_rfl)
theorem net_tests.mos : ∀ k : Nat, (∀ (x11 : List S76) (x12 : Int) (x13 : Int) (x1_0 : List ByteArray) (x1_1 : List S86) (x1_2 : List ByteArray) (x1_3 : List S76), Mo (net_tests.l0 k x11 x12 x13 x1_0 x1_1 x1_2 x1_3) (net_tests.l0 (k + 1) x11 x12 x13 x1_0 x1_1 x1_2 x1_3)) ∧ (∀ (x11 : List S76) (x12 : Int) (x13 : Int) (x18 : List S79) (x19 : Int) (x20 : Int) (x1_0 : List ByteArray) (x1_1 : List S86) (x1_2 : List ByteArray) (x1_3 : List S76), Mo (net_tests.l1 k x11 x12 x13 x18 x19 x20 x1_0 x1_1 x1_2 x1_3) (net_tests.l1 (k + 1) x11 x12 x13 x18 x19 x20 x1_0 x1_1 x1_2 x1_3)) ∧ (∀ (x34 : List S81) (x35 : Int) (x36 : Int) (x1_0 : List ByteArray) (x1_1 : List S86) (x1_2 : List ByteArray) (x1_3 : List S76), Mo (net_tests.l2 k x34 x35 x36 x1_0 x1_1 x1_2 x1_3) (net_tests.l2 (k + 1) x34 x35 x36 x1_0 x1_1 x1_2 x1_3))
  | 0 => ⟨fun _ _ _ _ _ _ _ => by rw [net_tests.l0]; exact mo_none, fun _ _ _ _ _ _ _ _ _ _ => by rw [net_tests.l1]; exact mo_none, fun _ _ _ _ _ _ _ => by rw [net_tests.l2]; exact mo_none⟩
  | k + 1 => by
    have ih := net_tests.mos k
    exact ⟨fun x11 x12 x13 x1_0 x1_1 x1_2 x1_3 => by rw [net_tests.l0, net_tests.l0]; exact (mo_ite (mo_ite (mo_ite (ih.2.1 x11 x12 x13 ((rd_T76 x11 x13).f2) (((rd_T76 x11 x13).f2).length : Int) 0 x1_0 x1_1 x1_2 x1_3) mo_rfl) mo_rfl) (mo_bind (net_sets.mo k x1_0 x1_1 x1_2 x1_3) fun t2 => (ih.2.2 t2 (t2.length : Int) 0 x1_0 x1_1 x1_2 x1_3))), fun x11 x12 x13 x18 x19 x20 x1_0 x1_1 x1_2 x1_3 => by rw [net_tests.l1, net_tests.l1]; exact (mo_ite (mo_ite (mo_ite (mo_bind (net_truth.mo k x1_0 x1_1 x1_2 x1_3 ((rd_T79 x18 x20).f3)) fun t1 => (mo_ite (ih.2.1 x11 x12 x13 x18 x19 (w64 (x20 + 1)) x1_0 x1_1 x1_2 x1_3) mo_rfl)) mo_rfl) mo_rfl) (ih.1 x11 x12 (w64 (x13 + 1)) x1_0 x1_1 x1_2 x1_3)), fun x34 x35 x36 x1_0 x1_1 x1_2 x1_3 => by rw [net_tests.l2, net_tests.l2]; exact (mo_ite (mo_ite (mo_ite (mo_ite (mo_ite mo_rfl (mo_ite mo_rfl (mo_bind (expr_Right.mo k ((rd_T81 x34 x36).f3) (x1_1.length : Int)) fun t3 => (mo_ite (mo_bind mo_rfl fun t4 => (mo_ite mo_rfl (ih.2.2 x34 x35 (w64 (x36 + 1)) x1_0 x1_1 x1_2 x1_3))) mo_rfl)))) (ih.2.2 x34 x35 (w64 (x36 + 1)) x1_0 x1_1 x1_2 x1_3)) mo_rfl) mo_rfl) mo_rfl)⟩
theorem net_tests.mo (k : Nat) (l0_0 : List ByteArray) (l0_1 : List S86) (l0_2 : List ByteArray) (l0_3 : List S76) : Mo (net_tests.f k l0_0 l0_1 l0_2 l0_3) (net_tests.f (k + 1) l0_0 l0_1 l0_2 l0_3) := by
  have ih := net_tests.mos k
  unfold net_tests.f
  exact (ih.1 l0_3 (l0_3.length : Int) 0 l0_0 l0_1 l0_2 l0_3)
theorem net_Whole.mos : ∀ k : Nat, (∀ (x8 : List DA0) (x9 : Int) (x10 : Int) (x1_0 : List ByteArray) (x1_1 : List S86) (x1_2 : List ByteArray) (x1_3 : List S76), Mo (net_Whole.l0 k x8 x9 x10 x1_0 x1_1 x1_2 x1_3) (net_Whole.l0 (k + 1) x8 x9 x10 x1_0 x1_1 x1_2 x1_3))
  | 0 => fun _ _ _ _ _ _ _ => by rw [net_Whole.l0]; exact mo_none
  | k + 1 => by
    have ih := net_Whole.mos k
    exact fun x8 x9 x10 x1_0 x1_1 x1_2 x1_3 => by rw [net_Whole.l0, net_Whole.l0]; exact (mo_ite (mo_ite (mo_ite (mo_bind (mo_elim (fun (_ : Bool) => (net_some.mo k x1_0 x1_1 x1_2 x1_3)) (fun _ => mo_elim (fun (_ : Bool) => (net_sizes.mo k x1_0 x1_1 x1_2 x1_3)) (fun _ => mo_elim (fun (_ : Bool) => (net_names.mo k x1_0 x1_1 x1_2 x1_3)) (fun _ => mo_elim (fun (_ : Bool) => (net_vars.mo k x1_0 x1_1 x1_2 x1_3)) (fun _ => mo_elim (fun (_ : Bool) => (net_locs.mo k x1_0 x1_1 x1_2 x1_3)) (fun _ => mo_elim (fun (_ : Bool) => (net_edges.mo k x1_0 x1_1 x1_2 x1_3)) (fun _ => mo_elim (fun (_ : Bool) => (net_clocks.mo k x1_0 x1_1 x1_2 x1_3)) (fun _ => mo_elim (fun (_ : Bool) => (net_forms.mo k x1_0 x1_1 x1_2 x1_3)) (fun _ => mo_elim (fun (_ : Bool) => (net_tests.mo k x1_0 x1_1 x1_2 x1_3)) (fun _ => mo_rfl)))))))))) fun t1 => (mo_ite (ih x8 x9 (w64 (x10 + 1)) x1_0 x1_1 x1_2 x1_3) mo_rfl)) mo_rfl) mo_rfl) mo_rfl)
theorem net_Whole.mo (k : Nat) (l0_0 : List ByteArray) (l0_1 : List S86) (l0_2 : List ByteArray) (l0_3 : List S76) : Mo (net_Whole.f k l0_0 l0_1 l0_2 l0_3) (net_Whole.f (k + 1) l0_0 l0_1 l0_2 l0_3) := by
  have ih := net_Whole.mos k
  unfold net_Whole.f
  exact (ih ([(Sum.inl false), (Sum.inr (Sum.inl false)), (Sum.inr (Sum.inr (Sum.inl false))), (Sum.inr (Sum.inr (Sum.inr (Sum.inl false)))), (Sum.inr (Sum.inr (Sum.inr (Sum.inr (Sum.inl false))))), (Sum.inr (Sum.inr (Sum.inr (Sum.inr (Sum.inr (Sum.inl false)))))), (Sum.inr (Sum.inr (Sum.inr (Sum.inr (Sum.inr (Sum.inr (Sum.inl false))))))), (Sum.inr (Sum.inr (Sum.inr (Sum.inr (Sum.inr (Sum.inr (Sum.inr (Sum.inl false)))))))), (Sum.inr (Sum.inr (Sum.inr (Sum.inr (Sum.inr (Sum.inr (Sum.inr (Sum.inr (Sum.inl false)))))))))] : List DA0) (([(Sum.inl false), (Sum.inr (Sum.inl false)), (Sum.inr (Sum.inr (Sum.inl false))), (Sum.inr (Sum.inr (Sum.inr (Sum.inl false)))), (Sum.inr (Sum.inr (Sum.inr (Sum.inr (Sum.inl false))))), (Sum.inr (Sum.inr (Sum.inr (Sum.inr (Sum.inr (Sum.inl false)))))), (Sum.inr (Sum.inr (Sum.inr (Sum.inr (Sum.inr (Sum.inr (Sum.inl false))))))), (Sum.inr (Sum.inr (Sum.inr (Sum.inr (Sum.inr (Sum.inr (Sum.inr (Sum.inl false)))))))), (Sum.inr (Sum.inr (Sum.inr (Sum.inr (Sum.inr (Sum.inr (Sum.inr (Sum.inr (Sum.inl false)))))))))] : List DA0).length : Int) 0 l0_0 l0_1 l0_2 l0_3)
theorem net_Right.mo (k : Nat) (l0_0 : List ByteArray) (l0_1 : List S86) (l0_2 : List ByteArray) (l0_3 : List S76) : Mo (net_Right.f k l0_0 l0_1 l0_2 l0_3) (net_Right.f (k + 1) l0_0 l0_1 l0_2 l0_3) := by
  unfold net_Right.f
  exact (mo_bind (net_Whole.mo k l0_0 l0_1 l0_2 l0_3) fun t1 => mo_rfl)
theorem moves_sides.mos : ∀ k : Nat, (∀ (x3_0 : Int) (x3_1 : Int) (x3_2 : Int) (x3_3 : Int) (x6_0 : Int) (x6_1 : Int) (x6_2 : List S43) (x6_3 : List S151) (x6_4 : Int) (x6_5 : Bool) (x6_6 : List S81) (x8_0 : Int) (x8_1 : Int) (x8_2 : List S43) (x8_3 : List S151) (x8_4 : Int) (x8_5 : Bool) (x8_6 : List S81), Mo (moves_sides.j0 k x3_0 x3_1 x3_2 x3_3 x6_0 x6_1 x6_2 x6_3 x6_4 x6_5 x6_6 x8_0 x8_1 x8_2 x8_3 x8_4 x8_5 x8_6) (moves_sides.j0 (k + 1) x3_0 x3_1 x3_2 x3_3 x6_0 x6_1 x6_2 x6_3 x6_4 x6_5 x6_6 x8_0 x8_1 x8_2 x8_3 x8_4 x8_5 x8_6))
  | 0 => fun _ _ _ _ _ _ _ _ _ _ _ _ _ _ _ _ _ _ => by rw [moves_sides.j0]; exact mo_none
  | k + 1 => by
    have ih := moves_sides.mos k
    exact fun x3_0 x3_1 x3_2 x3_3 x6_0 x6_1 x6_2 x6_3 x6_4 x6_5 x6_6 x8_0 x8_1 x8_2 x8_3 x8_4 x8_5 x8_6 => by rw [moves_sides.j0, moves_sides.j0]; exact mo_rfl
theorem moves_sides.mo (k : Nat) (l0_0 : List ByteArray) (l0_1 : List S86) (l0_2 : List ByteArray) (l0_3 : List S76) (l1_0 : Int) (l1_1 : Int) (l1_2 : Int) (l1_3 : Int) : Mo (moves_sides.f k l0_0 l0_1 l0_2 l0_3 l1_0 l1_1 l1_2 l1_3) (moves_sides.f (k + 1) l0_0 l0_1 l0_2 l0_3 l1_0 l1_1 l1_2 l1_3) := by
  have ih := moves_sides.mos k
  unfold moves_sides.f
  exact (mo_bind mo_rfl fun t1 => (mo_ite mo_rfl (mo_ite mo_rfl (mo_bind mo_rfl fun t2 => (mo_ite mo_rfl (mo_ite mo_rfl (mo_ite mo_rfl (mo_ite (mo_ite mo_rfl (mo_ite mo_rfl (ih l1_0 l1_1 l1_2 l1_3 t1.1 t1.2.1 t1.2.2.1 t1.2.2.2.1 t1.2.2.2.2.1 t1.2.2.2.2.2.1 t1.2.2.2.2.2.2.1 t2.1 t2.2.1 t2.2.2.1 t2.2.2.2.1 t2.2.2.2.2.1 t2.2.2.2.2.2.1 t2.2.2.2.2.2.2.1))) mo_rfl))))))))
theorem moves_Print.mos : ∀ k : Nat, (∀ (x6 : List ByteArray) (x15 : List S192) (x16 : Int) (x17 : Int) (x2_0 : List ByteArray) (x2_1 : List S86) (x2_2 : List ByteArray) (x2_3 : List S76), Mo (moves_Print.l0 k x6 x15 x16 x17 x2_0 x2_1 x2_2 x2_3) (moves_Print.l0 (k + 1) x6 x15 x16 x17 x2_0 x2_1 x2_2 x2_3))
  | 0 => fun _ _ _ _ _ _ _ _ => by rw [moves_Print.l0]; exact mo_none
  | k + 1 => by
    have ih := moves_Print.mos k
    exact fun x6 x15 x16 x17 x2_0 x2_1 x2_2 x2_3 => by rw [moves_Print.l0, moves_Print.l0]; exact (mo_ite (mo_ite (mo_ite (mo_bind (moves_sides.mo k x2_0 x2_1 x2_2 x2_3 ((rd_T192 x15 x17).f0) ((rd_T192 x15 x17).f1) ((rd_T192 x15 x17).f2) ((rd_T192 x15 x17).f3)) fun t2 => (mo_ite mo_rfl (mo_ite (mo_ite (mo_ite (mo_bind mo_rfl fun t3 => (mo_ite (mo_ite (mo_ite (mo_ite (mo_ite (mo_ite (mo_bind mo_rfl fun t4 => (mo_ite (mo_ite (mo_ite (ih (x6 ++ [(((((rd_T76 x2_3 ((rd_T192 x15 x17).f0)).f0) ++ (⟨#[46]⟩ : ByteArray)) ++ t3) ++ ((((⟨#[32]⟩ : ByteArray) ++ ((rd_T76 x2_3 (w64 (((rd_T192 x15 x17).f2) - 1))).f0)) ++ (⟨#[46]⟩ : ByteArray)) ++ t4))]) x15 x16 (w64 (x17 + 1)) x2_0 x2_1 x2_2 x2_3) mo_rfl) mo_rfl) mo_rfl)) mo_rfl) mo_rfl) mo_rfl) mo_rfl) (mo_ite (ih (x6 ++ [((((rd_T76 x2_3 ((rd_T192 x15 x17).f0)).f0) ++ (⟨#[46]⟩ : ByteArray)) ++ t3)]) x15 x16 (w64 (x17 + 1)) x2_0 x2_1 x2_2 x2_3) mo_rfl)) mo_rfl)) mo_rfl) mo_rfl) mo_rfl))) mo_rfl) mo_rfl) mo_rfl)
theorem moves_Print.mo (k : Nat) (l0_0 : List ByteArray) (l0_1 : List S86) (l0_2 : List ByteArray) (l0_3 : List S76) (a1 : List S192) : Mo (moves_Print.f k l0_0 l0_1 l0_2 l0_3 a1) (moves_Print.f (k + 1) l0_0 l0_1 l0_2 l0_3 a1) := by
  have ih := moves_Print.mos k
  unfold moves_Print.f
  exact (mo_bind (net_Right.mo k l0_0 l0_1 l0_2 l0_3) fun t1 => (mo_ite mo_rfl (ih ([] : List ByteArray) a1 (a1.length : Int) 0 l0_0 l0_1 l0_2 l0_3)))
theorem cmp_Or_int.mos : ∀ k : Nat, (∀ (x3 : Int) (x6 : List Int) (x7 : Int) (x8 : Int), Mo (cmp_Or_int.l0 k x3 x6 x7 x8) (cmp_Or_int.l0 (k + 1) x3 x6 x7 x8))
  | 0 => fun _ _ _ _ => by rw [cmp_Or_int.l0]; exact mo_none
  | k + 1 => by
    have ih := cmp_Or_int.mos k
    exact fun x3 x6 x7 x8 => by rw [cmp_Or_int.l0, cmp_Or_int.l0]; exact (mo_ite (mo_ite (mo_ite (mo_ite (ih x3 x6 x7 (w64 (x8 + 1))) mo_rfl) mo_rfl) mo_rfl) mo_rfl)
theorem cmp_Or_int.mo (k : Nat) (a0 : List Int) : Mo (cmp_Or_int.f k a0) (cmp_Or_int.f (k + 1) a0) := by
  have ih := cmp_Or_int.mos k
  unfold cmp_Or_int.f
  exact (ih 0 a0 (a0.length : Int) 0)
theorem rat_size_compare.mo (k : Nat) (l0_0 : Int) (l0_1 : Int) (l1_0 : Int) (l1_1 : Int) : Mo (rat_size_compare.f k l0_0 l0_1 l1_0 l1_1) (rat_size_compare.f (k + 1) l0_0 l0_1 l1_0 l1_1) := by
  unfold rat_size_compare.f
  exact (mo_bind mo_rfl fun t1 => (mo_bind mo_rfl fun t2 => (mo_bind (cmp_Or_int.mo k ([t1, t2] : List Int)) fun t3 => mo_rfl)))
theorem rat_size_over.mos : ∀ k : Nat, (∀ (x8 : Int) (x2_0 : Int) (x2_1 : Int) (x3_0 : Int) (x3_1 : Int) (x4_0 : Int) (x4_1 : Int) (x5_0 : Int) (x5_1 : Int) (x6_0 : Int) (x6_1 : Int) (x7_0 : Int) (x7_1 : Int), Mo (rat_size_over.l0 k x8 x2_0 x2_1 x3_0 x3_1 x4_0 x4_1 x5_0 x5_1 x6_0 x6_1 x7_0 x7_1) (rat_size_over.l0 (k + 1) x8 x2_0 x2_1 x3_0 x3_1 x4_0 x4_1 x5_0 x5_1 x6_0 x6_1 x7_0 x7_1)) ∧ (∀ (x8 : Int) (x9 : Int) (x2_0 : Int) (x2_1 : Int) (x3_0 : Int) (x3_1 : Int) (x4_0 : Int) (x4_1 : Int) (x5_0 : Int) (x5_1 : Int) (x6_0 : Int) (x6_1 : Int) (x7_0 : Int) (x7_1 : Int), Mo (rat_size_over.j1 k x8 x9 x2_0 x2_1 x3_0 x3_1 x4_0 x4_1 x5_0 x5_1 x6_0 x6_1 x7_0 x7_1) (rat_size_over.j1 (k + 1) x8 x9 x2_0 x2_1 x3_0 x3_1 x4_0 x4_1 x5_0 x5_1 x6_0 x6_1 x7_0 x7_1))
  | 0 => ⟨fun _ _ _ _ _ _ _ _ _ _ _ _ _ => by rw [rat_size_over.l0]; exact mo_none, fun _ _ _ _ _ _ _ _ _ _ _ _ _ _ => by rw [rat_size_over.j1]; exact mo_none⟩
  | k + 1 => by
    have ih := rat_size_over.mos k
    exact ⟨fun x8 x2_0 x2_1 x3_0 x3_1 x4_0 x4_1 x5_0 x5_1 x6_0 x6_1 x7_0 x7_1 => by rw [rat_size_over.l0, rat_size_over.l0]; exact (mo_ite (mo_ite (mo_ite (mo_ite (ih.2 x8 (Wr.and .u64 (Wr.shr .u64 x2_0 (w64 (x8 - 64))) 1) x2_0 x2_1 x3_0 x3_1 x4_0 x4_1 x5_0 x5_1 x6_0 x6_1 (Wr.or .u64 (wk .u64 (x7_0 * 2)) (x7_1 / 9223372036854775808)) (wk .u64 (x7_1 * 2))) mo_rfl) (ih.2 x8 (Wr.and .u64 (Wr.shr .u64 x2_1 x8) 1) x2_0 x2_1 x3_0 x3_1 x4_0 x4_1 x5_0 x5_1 x6_0 x6_1 (Wr.or .u64 (wk .u64 (x7_0 * 2)) (x7_1 / 9223372036854775808)) (wk .u64 (x7_1 * 2)))) mo_rfl) mo_rfl), fun x8 x9 x2_0 x2_1 x3_0 x3_1 x4_0 x4_1 x5_0 x5_1 x6_0 x6_1 x7_0 x7_1 => by rw [rat_size_over.j1, rat_size_over.j1]; exact (mo_bind (rat_size_compare.mo k x7_0 (Wr.or .u64 x7_1 x9) x3_0 x3_1) fun t1 => (mo_ite (mo_bind mo_rfl fun t2 => (mo_ite (mo_ite (ih.1 (w64 (x8 - 1)) x2_0 x2_1 x3_0 x3_1 x4_0 x4_1 x5_0 x5_1 (Wr.or .u64 x6_0 (Wr.shl .u64 1 (w64 (x8 - 64)))) x6_1 t2.1 t2.2) mo_rfl) (mo_ite (ih.1 (w64 (x8 - 1)) x2_0 x2_1 x3_0 x3_1 x4_0 x4_1 x5_0 x5_1 x6_0 (Wr.or .u64 x6_1 (Wr.shl .u64 1 x8)) t2.1 t2.2) mo_rfl))) (ih.1 (w64 (x8 - 1)) x2_0 x2_1 x3_0 x3_1 x4_0 x4_1 x5_0 x5_1 x6_0 x6_1 x7_0 (Wr.or .u64 x7_1 x9))))⟩
theorem rat_size_over.mo (k : Nat) (l0_0 : Int) (l0_1 : Int) (l1_0 : Int) (l1_1 : Int) : Mo (rat_size_over.f k l0_0 l0_1 l1_0 l1_1) (rat_size_over.f (k + 1) l0_0 l0_1 l1_0 l1_1) := by
  have ih := rat_size_over.mos k
  unfold rat_size_over.f
  exact (ih.1 127 l0_0 l0_1 l1_0 l1_1 0 0 0 0 0 0 0 0)
theorem rat_common.mos : ∀ k : Nat, (∀ (x2_0 : Int) (x2_1 : Int) (x3_0 : Int) (x3_1 : Int) (x4_0 : Int) (x4_1 : Int), Mo (rat_common.l0 k x2_0 x2_1 x3_0 x3_1 x4_0 x4_1) (rat_common.l0 (k + 1) x2_0 x2_1 x3_0 x3_1 x4_0 x4_1))
  | 0 => fun _ _ _ _ _ _ => by rw [rat_common.l0]; exact mo_none
  | k + 1 => by
    have ih := rat_common.mos k
    exact fun x2_0 x2_1 x3_0 x3_1 x4_0 x4_1 => by rw [rat_common.l0, rat_common.l0]; exact (mo_bind mo_rfl fun t1 => (mo_ite (mo_bind (rat_size_over.mo k x2_0 x2_1 x3_0 x3_1) fun t2 => (ih x3_0 x3_1 t2.2.2.1 t2.2.2.2 x4_0 x4_1)) mo_rfl))
theorem rat_common.mo (k : Nat) (l0_0 : Int) (l0_1 : Int) (l1_0 : Int) (l1_1 : Int) : Mo (rat_common.f k l0_0 l0_1 l1_0 l1_1) (rat_common.f (k + 1) l0_0 l0_1 l1_0 l1_1) := by
  have ih := rat_common.mos k
  unfold rat_common.f
  exact (ih l0_0 l0_1 l1_0 l1_1 0 0)
theorem rat_wide_number.mos : ∀ k : Nat, (∀ (x1_0 : Int) (x1_1 : Int) (x1_2 : Bool), Mo (rat_wide_number.j0 k x1_0 x1_1 x1_2) (rat_wide_number.j0 (k + 1) x1_0 x1_1 x1_2))
  | 0 => fun _ _ _ => by rw [rat_wide_number.j0]; exact mo_none
  | k + 1 => by
    have ih := rat_wide_number.mos k
    exact fun x1_0 x1_1 x1_2 => by rw [rat_wide_number.j0, rat_wide_number.j0]; exact mo_rfl
theorem rat_wide_number.mo (k : Nat) (l0_0 : S269) (l0_1 : Bool) : Mo (rat_wide_number.f k l0_0 l0_1) (rat_wide_number.f (k + 1) l0_0 l0_1) := by
  have ih := rat_wide_number.mos k
  unfold rat_wide_number.f
  exact (mo_ite mo_rfl (mo_ite mo_rfl (mo_ite (mo_ite mo_rfl (ih l0_0.f0 l0_0.f1 l0_1)) (ih l0_0.f0 l0_0.f1 l0_1))))
theorem rat_made.mos : ∀ k : Nat, (∀ (x11 : Bool) (x4_0 : Int) (x4_1 : Int) (x7_0 : Int) (x7_1 : Int) (x9_0 : Int) (x9_1 : Int), Mo (rat_made.j0 k x11 x4_0 x4_1 x7_0 x7_1 x9_0 x9_1) (rat_made.j0 (k + 1) x11 x4_0 x4_1 x7_0 x7_1 x9_0 x9_1))
  | 0 => fun _ _ _ _ _ _ _ => by rw [rat_made.j0]; exact mo_none
  | k + 1 => by
    have ih := rat_made.mos k
    exact fun x11 x4_0 x4_1 x7_0 x7_1 x9_0 x9_1 => by rw [rat_made.j0, rat_made.j0]; exact (mo_bind (rat_wide_number.mo k (⟨x7_0, x7_1⟩ : S269) x11) fun t4 => (mo_bind (rat_wide_number.mo k (⟨x9_0, x9_1⟩ : S269) false) fun t5 => mo_rfl))
theorem rat_made.mo (k : Nat) (l0_0 : S269) (l0_1 : Bool) (l1_0 : S269) (l1_1 : Bool) : Mo (rat_made.f k l0_0 l0_1 l1_0 l1_1) (rat_made.f (k + 1) l0_0 l0_1 l1_0 l1_1) := by
  have ih := rat_made.mos k
  unfold rat_made.f
  exact (mo_bind (rat_common.mo k l0_0.f0 l0_0.f1 l1_0.f0 l1_0.f1) fun t1 => (mo_bind (rat_size_over.mo k l0_0.f0 l0_0.f1 t1.1 t1.2) fun t2 => (mo_bind (rat_size_over.mo k l1_0.f0 l1_0.f1 t1.1 t1.2) fun t3 => (mo_ite (ih false 0 0 t2.1 t2.2.1 t3.1 t3.2.1) (mo_bind mo_rfl fun t6 => (ih (!t6) 0 0 t2.1 t2.2.1 t3.1 t3.2.1))))))
theorem rat_New.mo (k : Nat) (a0 : Int) (a1 : Int) : Mo (rat_New.f k a0 a1) (rat_New.f (k + 1) a0 a1) := by
  unfold rat_New.f
  exact (mo_ite mo_rfl (mo_bind mo_rfl fun t1 => (mo_bind mo_rfl fun t2 => (mo_bind (rat_made.mo k t1.1 t1.2 t2.1 t2.2) fun t3 => mo_rfl))))
theorem rat_Right.mo (k : Nat) (l0_0 : Int) (l0_1 : Int) : Mo (rat_Right.f k l0_0 l0_1) (rat_Right.f (k + 1) l0_0 l0_1) := by
  unfold rat_Right.f
  exact (mo_ite mo_rfl (mo_bind (rat_New.mo k l0_0 l0_1) fun t1 => mo_rfl))
theorem rat_both.mo (k : Nat) (l0_0 : Int) (l0_1 : Int) (l1_0 : Int) (l1_1 : Int) : Mo (rat_both.f k l0_0 l0_1 l1_0 l1_1) (rat_both.f (k + 1) l0_0 l0_1 l1_0 l1_1) := by
  unfold rat_both.f
  exact (mo_bind (rat_Right.mo k l0_0 l0_1) fun t1 => (mo_ite (mo_bind (rat_Right.mo k l1_0 l1_1) fun t2 => mo_rfl) mo_rfl))
theorem rat_wide_sum.mo (k : Nat) (l0_0 : S269) (l0_1 : Bool) (l1_0 : S269) (l1_1 : Bool) : Mo (rat_wide_sum.f k l0_0 l0_1 l1_0 l1_1) (rat_wide_sum.f (k + 1) l0_0 l0_1 l1_0 l1_1) := by
  unfold rat_wide_sum.f
  exact (mo_ite mo_rfl (mo_bind (rat_size_compare.mo k l0_0.f0 l0_0.f1 l1_0.f0 l1_0.f1) fun t2 => mo_rfl))
theorem run_delays.mos : ∀ k : Nat, (∀ (x3 : List S103) (x7 : List S208) (x8 : Int) (x9 : Int) (x1_0 : List S208) (x1_1 : Int) (x1_2 : Int), Mo (run_delays.l0 k x3 x7 x8 x9 x1_0 x1_1 x1_2) (run_delays.l0 (k + 1) x3 x7 x8 x9 x1_0 x1_1 x1_2))
  | 0 => fun _ _ _ _ _ _ _ => by rw [run_delays.l0]; exact mo_none
  | k + 1 => by
    have ih := run_delays.mos k
    exact fun x3 x7 x8 x9 x1_0 x1_1 x1_2 => by rw [run_delays.l0, run_delays.l0]; exact (mo_ite (mo_ite (mo_ite (mo_ite (ih (x3 ++ [((rd_T208 x7 x9).f0)]) x7 x8 (w64 (x9 + 1)) x1_0 x1_1 x1_2) mo_rfl) mo_rfl) mo_rfl) mo_rfl)
theorem run_delays.mo (k : Nat) (l0_0 : List S208) (l0_1 : S103) : Mo (run_delays.f k l0_0 l0_1) (run_delays.f (k + 1) l0_0 l0_1) := by
  have ih := run_delays.mos k
  unfold run_delays.f
  exact (ih ([] : List S103) l0_0 (l0_0.length : Int) 0 l0_0 l0_1.f0 l0_1.f1)
theorem run_Moves.mos : ∀ k : Nat, (∀ (x3 : List S192) (x7 : List S208) (x8 : Int) (x9 : Int), Mo (run_Moves.l0 k x3 x7 x8 x9) (run_Moves.l0 (k + 1) x3 x7 x8 x9))
  | 0 => fun _ _ _ _ => by rw [run_Moves.l0]; exact mo_none
  | k + 1 => by
    have ih := run_Moves.mos k
    exact fun x3 x7 x8 x9 => by rw [run_Moves.l0, run_Moves.l0]; exact (mo_ite (mo_ite (mo_ite (mo_ite (ih (x3 ++ [((rd_T208 x7 x9).f1)]) x7 x8 (w64 (x9 + 1))) mo_rfl) mo_rfl) mo_rfl) mo_rfl)
theorem run_Moves.mo (k : Nat) (l0_0 : List S208) (l0_1 : S103) : Mo (run_Moves.f k l0_0 l0_1) (run_Moves.f (k + 1) l0_0 l0_1) := by
  have ih := run_Moves.mos k
  unfold run_Moves.f
  exact (ih ([] : List S192) l0_0 (l0_0.length : Int) 0)
theorem run_isDelay.mo (k : Nat) (l0_0 : Int) (l0_1 : Int) : Mo (run_isDelay.f k l0_0 l0_1) (run_isDelay.f (k + 1) l0_0 l0_1) := by
  unfold run_isDelay.f
  exact (mo_bind (rat_Right.mo k l0_0 l0_1) fun t1 => mo_rfl)
theorem run_Right_1.mo (k : Nat) (l0_0 : Int) (l0_1 : Int) : Mo (run_Right_1.f k l0_0 l0_1) (run_Right_1.f (k + 1) l0_0 l0_1) := by
  unfold run_Right_1.f
  exact (mo_bind (run_isDelay.mo k l0_0 l0_1) fun t1 => mo_rfl)
theorem slices_IndexFunc_api_Rat_api_Rat_at252.mos : ∀ k : Nat, (∀ (x0 : List S103) (x1 : Bool) (x7 : Int) (x8 : Int), Mo (slices_IndexFunc_api_Rat_api_Rat_at252.l0 k x0 x1 x7 x8) (slices_IndexFunc_api_Rat_api_Rat_at252.l0 (k + 1) x0 x1 x7 x8))
  | 0 => fun _ _ _ _ => by rw [slices_IndexFunc_api_Rat_api_Rat_at252.l0]; exact mo_none
  | k + 1 => by
    have ih := slices_IndexFunc_api_Rat_api_Rat_at252.mos k
    exact fun x0 x1 x7 x8 => by rw [slices_IndexFunc_api_Rat_api_Rat_at252.l0, slices_IndexFunc_api_Rat_api_Rat_at252.l0]; exact (mo_ite (mo_ite (mo_ite (mo_bind (run_Right_1.mo k ((rd_T103 x0 x8).f0) ((rd_T103 x0 x8).f1)) fun t1 => (mo_ite mo_rfl (ih x0 x1 x7 (w64 (x8 + 1))))) mo_rfl) mo_rfl) mo_rfl)
theorem slices_IndexFunc_api_Rat_api_Rat_at252.mo (k : Nat) (a0 : List S103) (a1 : Bool) : Mo (slices_IndexFunc_api_Rat_api_Rat_at252.f k a0 a1) (slices_IndexFunc_api_Rat_api_Rat_at252.f (k + 1) a0 a1) := by
  have ih := slices_IndexFunc_api_Rat_api_Rat_at252.mos k
  unfold slices_IndexFunc_api_Rat_api_Rat_at252.f
  exact (ih a0 a1 (a0.length : Int) 0)
theorem slices_ContainsFunc_api_Rat_api_Rat_at252.mo (k : Nat) (a0 : List S103) (a1 : Bool) : Mo (slices_ContainsFunc_api_Rat_api_Rat_at252.f k a0 a1) (slices_ContainsFunc_api_Rat_api_Rat_at252.f (k + 1) a0 a1) := by
  unfold slices_ContainsFunc_api_Rat_api_Rat_at252.f
  exact (mo_bind (slices_IndexFunc_api_Rat_api_Rat_at252.mo k a0 a1) fun t1 => mo_rfl)
theorem run_Right.mo (k : Nat) (l0_0 : List ByteArray) (l0_1 : List S86) (l0_2 : List ByteArray) (l0_3 : List S76) (l1_0 : List S208) (l1_1 : S103) : Mo (run_Right.f k l0_0 l0_1 l0_2 l0_3 l1_0 l1_1) (run_Right.f (k + 1) l0_0 l0_1 l0_2 l0_3 l1_0 l1_1) := by
  unfold run_Right.f
  exact (mo_bind (net_Right.mo k l0_0 l0_1 l0_2 l0_3) fun t1 => (mo_ite mo_rfl (mo_ite mo_rfl (mo_bind (run_Moves.mo k l1_0 l1_1) fun t2 => (mo_bind (moves_Print.mo k l0_0 l0_1 l0_2 l0_3 t2) fun t3 => (mo_ite (mo_bind (run_delays.mo k l1_0 l1_1) fun t4 => (mo_bind (slices_ContainsFunc_api_Rat_api_Rat_at252.mo k t4 false) fun t5 => mo_rfl)) mo_rfl))))))
theorem rat_Print.mo (k : Nat) (l0_0 : Int) (l0_1 : Int) : Mo (rat_Print.f k l0_0 l0_1) (rat_Print.f (k + 1) l0_0 l0_1) := by
  unfold rat_Print.f
  exact (mo_bind (rat_Right.mo k l0_0 l0_1) fun t1 => mo_rfl)
theorem run_Print.mos : ∀ k : Nat, (∀ (x19 : List S208) (x20 : Int) (x21 : Int) (x2_0 : List ByteArray) (x2_1 : List S86) (x2_2 : List ByteArray) (x2_3 : List S76) (x3_0 : List S208) (x3_1 : Int) (x3_2 : Int) (x7_1 : List Int), Mo (run_Print.l0 k x19 x20 x21 x2_0 x2_1 x2_2 x2_3 x3_0 x3_1 x3_2 x7_1) (run_Print.l0 (k + 1) x19 x20 x21 x2_0 x2_1 x2_2 x2_3 x3_0 x3_1 x3_2 x7_1))
  | 0 => fun _ _ _ _ _ _ _ _ _ _ _ => by rw [run_Print.l0]; exact mo_none
  | k + 1 => by
    have ih := run_Print.mos k
    exact fun x19 x20 x21 x2_0 x2_1 x2_2 x2_3 x3_0 x3_1 x3_2 x7_1 => by rw [run_Print.l0, run_Print.l0]; exact (mo_ite (mo_ite (mo_ite (mo_bind (moves_Print.mo k x2_0 x2_1 x2_2 x2_3 ([((rd_T208 x19 x21).f1)] : List S192)) fun t2 => (mo_bind (rat_Print.mo k (((rd_T208 x19 x21).f0).f0) (((rd_T208 x19 x21).f0).f1)) fun t3 => (mo_ite (mo_ite (mo_ite (mo_bind mo_rfl fun _ => (ih x19 x20 (w64 (x21 + 1)) x2_0 x2_1 x2_2 x2_3 x3_0 x3_1 x3_2 (x7_1 ++ bytesOf (((t3 ++ (⟨#[32]⟩ : ByteArray)) ++ t2.1) ++ (⟨#[10]⟩ : ByteArray))))) mo_rfl) mo_rfl) mo_rfl))) mo_rfl) mo_rfl) (mo_bind (rat_Print.mo k x3_1 x3_2) fun t4 => mo_rfl))
theorem run_Print.mo (k : Nat) (l0_0 : List ByteArray) (l0_1 : List S86) (l0_2 : List ByteArray) (l0_3 : List S76) (l1_0 : List S208) (l1_1 : S103) : Mo (run_Print.f k l0_0 l0_1 l0_2 l0_3 l1_0 l1_1) (run_Print.f (k + 1) l0_0 l0_1 l0_2 l0_3 l1_0 l1_1) := by
  have ih := run_Print.mos k
  unfold run_Print.f
  exact (mo_bind (run_Right.mo k l0_0 l0_1 l0_2 l0_3 l1_0 l1_1) fun t1 => (mo_ite (ih l1_0 (l1_0.length : Int) 0 l0_0 l0_1 l0_2 l0_3 l1_0 l1_1.f0 l1_1.f1 ([] : List Int)) mo_rfl))
theorem rat_Add.mo (k : Nat) (l0_0 : Int) (l0_1 : Int) (l1_0 : Int) (l1_1 : Int) : Mo (rat_Add.f k l0_0 l0_1 l1_0 l1_1) (rat_Add.f (k + 1) l0_0 l0_1 l1_0 l1_1) := by
  unfold rat_Add.f
  exact (mo_bind (rat_both.mo k l0_0 l0_1 l1_0 l1_1) fun t1 => (mo_ite mo_rfl (mo_bind mo_rfl fun t2 => (mo_bind mo_rfl fun t3 => (mo_bind (rat_wide_sum.mo k t2.1 t2.2 t3.1 t3.2) fun t4 => (mo_bind mo_rfl fun t5 => (mo_bind (rat_made.mo k t4.1 t4.2 t5.1 t5.2) fun t6 => mo_rfl)))))))
theorem run_Times_1.mo (k : Nat) (l0_0 : Int) (l0_1 : Int) : Mo (run_Times_1.f k l0_0 l0_1) (run_Times_1.f (k + 1) l0_0 l0_1) := by
  unfold run_Times_1.f
  exact (mo_bind (run_isDelay.mo k l0_0 l0_1) fun t1 => mo_rfl)
theorem slices_IndexFunc_api_Rat_api_Rat_at248.mos : ∀ k : Nat, (∀ (x0 : List S103) (x1 : Bool) (x7 : Int) (x8 : Int), Mo (slices_IndexFunc_api_Rat_api_Rat_at248.l0 k x0 x1 x7 x8) (slices_IndexFunc_api_Rat_api_Rat_at248.l0 (k + 1) x0 x1 x7 x8))
  | 0 => fun _ _ _ _ => by rw [slices_IndexFunc_api_Rat_api_Rat_at248.l0]; exact mo_none
  | k + 1 => by
    have ih := slices_IndexFunc_api_Rat_api_Rat_at248.mos k
    exact fun x0 x1 x7 x8 => by rw [slices_IndexFunc_api_Rat_api_Rat_at248.l0, slices_IndexFunc_api_Rat_api_Rat_at248.l0]; exact (mo_ite (mo_ite (mo_ite (mo_bind (run_Times_1.mo k ((rd_T103 x0 x8).f0) ((rd_T103 x0 x8).f1)) fun t1 => (mo_ite mo_rfl (ih x0 x1 x7 (w64 (x8 + 1))))) mo_rfl) mo_rfl) mo_rfl)
theorem slices_IndexFunc_api_Rat_api_Rat_at248.mo (k : Nat) (a0 : List S103) (a1 : Bool) : Mo (slices_IndexFunc_api_Rat_api_Rat_at248.f k a0 a1) (slices_IndexFunc_api_Rat_api_Rat_at248.f (k + 1) a0 a1) := by
  have ih := slices_IndexFunc_api_Rat_api_Rat_at248.mos k
  unfold slices_IndexFunc_api_Rat_api_Rat_at248.f
  exact (ih a0 a1 (a0.length : Int) 0)
theorem slices_ContainsFunc_api_Rat_api_Rat_at248.mo (k : Nat) (a0 : List S103) (a1 : Bool) : Mo (slices_ContainsFunc_api_Rat_api_Rat_at248.f k a0 a1) (slices_ContainsFunc_api_Rat_api_Rat_at248.f (k + 1) a0 a1) := by
  unfold slices_ContainsFunc_api_Rat_api_Rat_at248.f
  exact (mo_bind (slices_IndexFunc_api_Rat_api_Rat_at248.mo k a0 a1) fun t1 => mo_rfl)
theorem run_Times.mos : ∀ k : Nat, (∀ (x4 : List S103) (x15 : Int) (x16 : Int) (x5_0 : Int) (x5_1 : Int), Mo (run_Times.l0 k x4 x15 x16 x5_0 x5_1) (run_Times.l0 (k + 1) x4 x15 x16 x5_0 x5_1))
  | 0 => fun _ _ _ _ _ => by rw [run_Times.l0]; exact mo_none
  | k + 1 => by
    have ih := run_Times.mos k
    exact fun x4 x15 x16 x5_0 x5_1 => by rw [run_Times.l0, run_Times.l0]; exact (mo_ite (mo_ite (mo_ite (mo_bind (rat_Add.mo k x5_0 x5_1 ((rd_T103 x4 x16).f0) ((rd_T103 x4 x16).f1)) fun t4 => (mo_ite (mo_ite (mo_ite (ih (x4.set (Int.toNat (x16)) (⟨t4.1, t4.2.1⟩ : S103)) x15 (w64 (x16 + 1)) t4.1 t4.2.1) mo_rfl) mo_rfl) mo_rfl)) mo_rfl) mo_rfl) mo_rfl)
theorem run_Times.mo (k : Nat) (l0_0 : List S208) (l0_1 : S103) : Mo (run_Times.f k l0_0 l0_1) (run_Times.f (k + 1) l0_0 l0_1) := by
  have ih := run_Times.mos k
  unfold run_Times.f
  exact (mo_bind (run_delays.mo k l0_0 l0_1) fun t1 => (mo_bind (slices_ContainsFunc_api_Rat_api_Rat_at248.mo k t1 false) fun t2 => (mo_ite mo_rfl (mo_bind mo_rfl fun t3 => (ih t1 (t1.length : Int) 0 t3.1 t3.2)))))
theorem gnomonlaw20_live.mo (k : Nat) : Mo (gnomonlaw20_live.f k) (gnomonlaw20_live.f (k + 1)) := by
  unfold gnomonlaw20_live.f
  exact (mo_bind mo_rfl fun t1 => (mo_bind (run_Print.mo k t1.1 t1.2.1 t1.2.2.1 t1.2.2.2 ([(⟨(⟨3, 1⟩ : S103), (⟨0, 0, 0, 0⟩ : S192)⟩ : S208)] : List S208) (⟨0, 1⟩ : S103)) fun t2 => (mo_bind (run_Times.mo k ([(⟨(⟨3, 1⟩ : S103), (⟨0, 0, 0, 0⟩ : S192)⟩ : S208)] : List S208) (⟨0, 1⟩ : S103)) fun t3 => (mo_ite (mo_ite (mo_ite (mo_ite (mo_ite (mo_ite (mo_ite (mo_ite (mo_ite (mo_ite (mo_ite (mo_ite (mo_bind mo_rfl fun t4 => (mo_bind (run_Right.mo k t4.1 t4.2.1 t4.2.2.1 t4.2.2.2 ([] : List S208) (⟨0, 0⟩ : S103)) fun t5 => mo_rfl)) mo_rfl) mo_rfl) mo_rfl) mo_rfl) mo_rfl) mo_rfl) mo_rfl) mo_rfl) mo_rfl) mo_rfl) mo_rfl) mo_rfl))))
end Go.Proofs.YtbjkfkifkglplaaGreatDoor.Q
