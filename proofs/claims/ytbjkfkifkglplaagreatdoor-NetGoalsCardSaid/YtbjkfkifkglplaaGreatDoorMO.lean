/- Part of the proof: MO. -/
import Derived.Test.YtbjkfkifkglplaaGreatDoorT3
set_option linter.unusedSectionVars false
set_option linter.unusedSimpArgs false
set_option linter.unusedVariables false
set_option maxRecDepth 100000
namespace Go.Proofs.YtbjkfkifkglplaaGreatDoor.Q
open Go Go.Den Go.Proofs
/-- What x answers y answers. -/
def Mo {R : Type} (x y : Option R) : Prop := ∀ r, x = some r → y = some r
section
variable {R A : Type} {x y x' y' : Option R}
theorem mo_rfl : Mo x x := fun _ h => h
theorem mo_none : Mo (none : Option R) y := fun r h => by cases h
theorem mo_ite {c : Prop} [Decidable c] (h : Mo x y) (h' : Mo x' y') : Mo (if c then x else x') (if c then y else y') := by
  by_cases hc : c
  · simpa only [if_pos hc] using h
  · simpa only [if_neg hc] using h'
theorem mo_bind {a b : Option A} {g g' : A → Option R} (h : Mo a b) (h' : ∀ t, Mo (g t) (g' t)) : Mo (a.bind g) (b.bind g') := fun r hr => by
  obtain ⟨t, ht, hr⟩ := Option.bind_eq_some_iff.1 hr
  rw [h t ht, Option.bind_some]
  exact h' t r hr
theorem mo_elim {B C : Type} {g1 g1' : B → Option R} {g2 g2' : C → Option R} {e : B ⊕ C} (h1 : ∀ c, Mo (g1 c) (g1' c)) (h2 : ∀ c, Mo (g2 c) (g2' c)) : Mo (Sum.elim g1 g2 e) (Sum.elim g1' g2' e) := by
  cases e with
  | inl c => exact h1 c
  | inr c => exact h2 c
theorem mo_all {F : Nat → Option R} (h : ∀ k, Mo (F k) (F (k + 1))) {k : Nat} {r : R} (hk : F k = some r) : ∀ j, F (k + j) = some r
  | 0 => hk
  | j + 1 => h _ r (mo_all h hk j)
end
theorem slX.mos : ∀ k : Nat, (∀ (x0 : List S76) (x1 : Bool) (x7 : Int) (x8 : Int), Mo (slX.l0 k x0 x1 x7 x8) (slX.l0 (k + 1) x0 x1 x7 x8))
  | 0 => fun _ _ _ _ => by rw [slX.l0]; exact mo_none
  | k + 1 => by
    have ih := slX.mos k
    exact fun x0 x1 x7 x8 => by rw [slX.l0, slX.l0]; exact (mo_ite (mo_ite (mo_ite (mo_bind mo_rfl fun t1 => (mo_ite mo_rfl (ih x0 x1 x7 (w64 (x8 + 1))))) mo_rfl) mo_rfl) mo_rfl)
theorem slX.mo (k : Nat) (a0 : List S76) (a1 : Bool) : Mo (slX.f k a0 a1) (slX.f (k + 1) a0 a1) := by
  have ih := slX.mos k
  unfold slX.f
  exact (ih a0 a1 (a0.length : Int) 0)
theorem slY.mo (k : Nat) (a0 : List S76) (a1 : Bool) : Mo (slY.f k a0 a1) (slY.f (k + 1) a0 a1) := by
  unfold slY.f
  exact (mo_bind (slX.mo k a0 a1) fun t1 => mo_rfl)
theorem net_some.mo (k : Nat) (l0_0 : List ByteArray) (l0_1 : List S86) (l0_2 : List ByteArray) (l0_3 : List S76) : Mo (net_some.f k l0_0 l0_1 l0_2 l0_3) (net_some.f (k + 1) l0_0 l0_1 l0_2 l0_3) := by
  unfold net_some.f
  exact (mo_ite mo_rfl (mo_bind (slY.mo k l0_3 false) fun t1 => mo_rfl))
theorem net_sizes.mos : ∀ k : Nat, (∀ (x1_0 : List ByteArray) (x1_1 : List S86) (x1_2 : List ByteArray) (x1_3 : List S76), Mo (net_sizes.j0 k x1_0 x1_1 x1_2 x1_3) (net_sizes.j0 (k + 1) x1_0 x1_1 x1_2 x1_3)) ∧ (∀ (x34 : List S76) (x35 : Int) (x36 : Int), Mo (net_sizes.l1 k x34 x35 x36) (net_sizes.l1 (k + 1) x34 x35 x36)) ∧ (∀ (x34 : List S76) (x35 : Int) (x36 : Int) (x4_0 : ByteArray) (x4_1 : List S84) (x4_2 : List S79), Mo (net_sizes.j2 k x34 x35 x36 x4_0 x4_1 x4_2) (net_sizes.j2 (k + 1) x34 x35 x36 x4_0 x4_1 x4_2)) ∧ (∀ (x34 : List S76) (x35 : Int) (x36 : Int) (x51 : List S84) (x52 : Int) (x53 : Int) (x4_0 : ByteArray) (x4_1 : List S84) (x4_2 : List S79), Mo (net_sizes.l3 k x34 x35 x36 x51 x52 x53 x4_0 x4_1 x4_2) (net_sizes.l3 (k + 1) x34 x35 x36 x51 x52 x53 x4_0 x4_1 x4_2)) ∧ (∀ (x34 : List S76) (x35 : Int) (x36 : Int) (x63 : List S79) (x64 : Int) (x65 : Int), Mo (net_sizes.l4 k x34 x35 x36 x63 x64 x65) (net_sizes.l4 (k + 1) x34 x35 x36 x63 x64 x65)) ∧ (∀ (x34 : List S76) (x35 : Int) (x36 : Int) (x63 : List S79) (x64 : Int) (x65 : Int) (x8_0 : Int) (x8_1 : Int) (x8_2 : List S43) (x8_3 : List S151) (x8_4 : Int) (x8_5 : Bool) (x8_6 : List S81), Mo (net_sizes.j5 k x34 x35 x36 x63 x64 x65 x8_0 x8_1 x8_2 x8_3 x8_4 x8_5 x8_6) (net_sizes.j5 (k + 1) x34 x35 x36 x63 x64 x65 x8_0 x8_1 x8_2 x8_3 x8_4 x8_5 x8_6)) ∧ (∀ (x34 : List S76) (x35 : Int) (x36 : Int) (x63 : List S79) (x64 : Int) (x65 : Int) (x86 : List S81) (x87 : Int) (x88 : Int), Mo (net_sizes.l6 k x34 x35 x36 x63 x64 x65 x86 x87 x88) (net_sizes.l6 (k + 1) x34 x35 x36 x63 x64 x65 x86 x87 x88))
  | 0 => ⟨fun _ _ _ _ => by rw [net_sizes.j0]; exact mo_none, fun _ _ _ => by rw [net_sizes.l1]; exact mo_none, fun _ _ _ _ _ _ => by rw [net_sizes.j2]; exact mo_none, fun _ _ _ _ _ _ _ _ _ => by rw [net_sizes.l3]; exact mo_none, fun _ _ _ _ _ _ => by rw [net_sizes.l4]; exact mo_none, fun _ _ _ _ _ _ _ _ _ _ _ _ _ => by rw [net_sizes.j5]; exact mo_none, fun _ _ _ _ _ _ _ _ _ => by rw [net_sizes.l6]; exact mo_none⟩
  | k + 1 => by
    have ih := net_sizes.mos k
    exact ⟨fun x1_0 x1_1 x1_2 x1_3 => by rw [net_sizes.j0, net_sizes.j0]; exact (ih.2.1 x1_3 (x1_3.length : Int) 0), fun x34 x35 x36 => by rw [net_sizes.l1, net_sizes.l1]; exact (mo_ite (mo_ite (mo_ite (mo_ite mo_rfl (mo_ite mo_rfl (ih.2.2.1 x34 x35 x36 ((rd_T76 x34 x36).f0) ((rd_T76 x34 x36).f1) ((rd_T76 x34 x36).f2)))) mo_rfl) mo_rfl) mo_rfl), fun x34 x35 x36 x4_0 x4_1 x4_2 => by rw [net_sizes.j2, net_sizes.j2]; exact (ih.2.2.2.1 x34 x35 x36 x4_1 (x4_1.length : Int) 0 x4_0 x4_1 x4_2), fun x34 x35 x36 x51 x52 x53 x4_0 x4_1 x4_2 => by rw [net_sizes.l3, net_sizes.l3]; exact (mo_ite (mo_ite (mo_ite (mo_ite mo_rfl (ih.2.2.2.1 x34 x35 x36 x51 x52 (w64 (x53 + 1)) x4_0 x4_1 x4_2)) mo_rfl) mo_rfl) (ih.2.2.2.2.1 x34 x35 x36 x4_2 (x4_2.length : Int) 0)), fun x34 x35 x36 x63 x64 x65 => by rw [net_sizes.l4, net_sizes.l4]; exact (mo_ite (mo_ite (mo_ite (mo_ite mo_rfl (mo_ite mo_rfl (mo_ite mo_rfl (ih.2.2.2.2.2.1 x34 x35 x36 x63 x64 x65 ((rd_T79 x63 x65).f0) ((rd_T79 x63 x65).f1) ((rd_T79 x63 x65).f2) ((rd_T79 x63 x65).f3) ((rd_T79 x63 x65).f4) ((rd_T79 x63 x65).f5) ((rd_T79 x63 x65).f6))))) mo_rfl) mo_rfl) (ih.2.1 x34 x35 (w64 (x36 + 1)))), fun x34 x35 x36 x63 x64 x65 x8_0 x8_1 x8_2 x8_3 x8_4 x8_5 x8_6 => by rw [net_sizes.j5, net_sizes.j5]; exact (ih.2.2.2.2.2.2 x34 x35 x36 x63 x64 x65 x8_6 (x8_6.length : Int) 0), fun x34 x35 x36 x63 x64 x65 x86 x87 x88 => by rw [net_sizes.l6, net_sizes.l6]; exact (mo_ite (mo_ite (mo_ite (mo_ite mo_rfl (ih.2.2.2.2.2.2 x34 x35 x36 x63 x64 x65 x86 x87 (w64 (x88 + 1)))) mo_rfl) mo_rfl) (ih.2.2.2.2.1 x34 x35 x36 x63 x64 (w64 (x65 + 1))))⟩
theorem net_sizes.mo (k : Nat) (l0_0 : List ByteArray) (l0_1 : List S86) (l0_2 : List ByteArray) (l0_3 : List S76) : Mo (net_sizes.f k l0_0 l0_1 l0_2 l0_3) (net_sizes.f (k + 1) l0_0 l0_1 l0_2 l0_3) := by
  have ih := net_sizes.mos k
  unfold net_sizes.f
  exact (mo_ite mo_rfl (mo_ite mo_rfl (mo_ite mo_rfl (mo_ite mo_rfl (ih.1 l0_0 l0_1 l0_2 l0_3)))))
theorem lex_of.mos : ∀ k : Nat, (∀ (x0 : Int) (x3 : Bool), Mo (lex_of.j0 k x0 x3) (lex_of.j0 (k + 1) x0 x3))
  | 0 => fun _ _ => by rw [lex_of.j0]; exact mo_none
  | k + 1 => by
    have ih := lex_of.mos k
    exact fun x0 x3 => by rw [lex_of.j0, lex_of.j0]; exact mo_rfl
theorem lex_of.mo (k : Nat) (a0 : Int) : Mo (lex_of.f k a0) (lex_of.f (k + 1) a0) := by
  have ih := lex_of.mos k
  unfold lex_of.f
  exact (mo_ite (ih a0 (decide (a0 = 32))) (mo_ite (ih a0 (decide (a0 = 9))) (mo_ite (ih a0 (decide (a0 = 13))) (ih a0 (decide (a0 = 10))))))
theorem lex_word.mos : ∀ k : Nat, (∀ (x0 : ByteArray) (x3 : Int), Mo (lex_word.l0 k x0 x3) (lex_word.l0 (k + 1) x0 x3))
  | 0 => fun _ _ => by rw [lex_word.l0]; exact mo_none
  | k + 1 => by
    have ih := lex_word.mos k
    exact fun x0 x3 => by rw [lex_word.l0, lex_word.l0]; exact (mo_ite (mo_ite (mo_ite (mo_bind (lex_of.mo k (btI x0 x3)) fun t1 => (mo_ite (ih x0 (w64 (x3 + 1))) (mo_ite (mo_ite (mo_bind (lex_of.mo k (btI x0 x3)) fun t2 => (mo_ite (ih x0 (w64 (x3 + 1))) (mo_ite (mo_ite (mo_ite (ih x0 (w64 (x3 + 1))) mo_rfl) mo_rfl) mo_rfl))) mo_rfl) mo_rfl))) mo_rfl) mo_rfl) mo_rfl)
theorem lex_word.mo (k : Nat) (a0 : ByteArray) : Mo (lex_word.f k a0) (lex_word.f (k + 1) a0) := by
  have ih := lex_word.mos k
  unfold lex_word.f
  exact (ih a0 1)
theorem slI.mos : ∀ k : Nat, (∀ (x0 : List ByteArray) (x1 : ByteArray) (x7 : Int) (x8 : Int), Mo (slI.l0 k x0 x1 x7 x8) (slI.l0 (k + 1) x0 x1 x7 x8))
  | 0 => fun _ _ _ _ => by rw [slI.l0]; exact mo_none
  | k + 1 => by
    have ih := slI.mos k
    exact fun x0 x1 x7 x8 => by rw [slI.l0, slI.l0]; exact (mo_ite (mo_ite (mo_ite (mo_ite mo_rfl (ih x0 x1 x7 (w64 (x8 + 1)))) mo_rfl) mo_rfl) mo_rfl)
theorem slI.mo (k : Nat) (a0 : List ByteArray) (a1 : ByteArray) : Mo (slI.f k a0 a1) (slI.f (k + 1) a0 a1) := by
  have ih := slI.mos k
  unfold slI.f
  exact (ih a0 a1 (a0.length : Int) 0)
theorem slN.mo (k : Nat) (a0 : List ByteArray) (a1 : ByteArray) : Mo (slN.f k a0 a1) (slN.f (k + 1) a0 a1) := by
  unfold slN.f
  exact (mo_bind (slI.mo k a0 a1) fun t1 => mo_rfl)
theorem lex_IsName.mo (k : Nat) (a0 : ByteArray) : Mo (lex_IsName.f k a0) (lex_IsName.f (k + 1) a0) := by
  unfold lex_IsName.f
  exact (mo_ite mo_rfl (mo_ite (mo_ite (mo_ite (mo_bind (lex_of.mo k (btI a0 0)) fun t1 => (mo_ite (mo_bind (lex_word.mo k a0) fun t2 => (mo_ite (mo_bind (slN.mo k lex_kept a0) fun t3 => mo_rfl) mo_rfl)) mo_rfl)) mo_rfl) mo_rfl) mo_rfl))
theorem net_given.mos : ∀ k : Nat, (∀ (x3 : List ByteArray) (x7 : List ByteArray) (x8 : Int) (x9 : Int), Mo (net_given.l0 k x3 x7 x8 x9) (net_given.l0 (k + 1) x3 x7 x8 x9))
  | 0 => fun _ _ _ _ => by rw [net_given.l0]; exact mo_none
  | k + 1 => by
    have ih := net_given.mos k
    exact fun x3 x7 x8 x9 => by rw [net_given.l0, net_given.l0]; exact (mo_ite (mo_ite (mo_ite (mo_bind (lex_IsName.mo k (rdT .str x7 x9)) fun t1 => (mo_ite mo_rfl (mo_ite mo_rfl (mo_ite (mo_ite mo_rfl (mo_ite (mo_ite (ih ((rdT .str x7 x9) :: x3) x7 x8 (w64 (x9 + 1))) mo_rfl) mo_rfl)) mo_rfl)))) mo_rfl) mo_rfl) mo_rfl)
theorem net_given.mo (k : Nat) (a0 : List ByteArray) : Mo (net_given.f k a0) (net_given.f (k + 1) a0) := by
  have ih := net_given.mos k
  unfold net_given.f
  exact (ih ([] : List ByteArray) a0 (a0.length : Int) 0)
theorem net_Names.mos : ∀ k : Nat, (∀ (x3 : List ByteArray) (x7 : List S86) (x8 : Int) (x9 : Int), Mo (net_Names.l0 k x3 x7 x8 x9) (net_Names.l0 (k + 1) x3 x7 x8 x9))
  | 0 => fun _ _ _ _ => by rw [net_Names.l0]; exact mo_none
  | k + 1 => by
    have ih := net_Names.mos k
    exact fun x3 x7 x8 x9 => by rw [net_Names.l0, net_Names.l0]; exact (mo_ite (mo_ite (mo_ite (mo_ite (ih (x3 ++ [(rd_T86 x7 x9).f0]) x7 x8 (w64 (x9 + 1))) mo_rfl) mo_rfl) mo_rfl) mo_rfl)
theorem net_Names.mo (k : Nat) (l0_0 : List ByteArray) (l0_1 : List S86) (l0_2 : List ByteArray) (l0_3 : List S76) : Mo (net_Names.f k l0_0 l0_1 l0_2 l0_3) (net_Names.f (k + 1) l0_0 l0_1 l0_2 l0_3) := by
  have ih := net_Names.mos k
  unfold net_Names.f
  exact (ih ([] : List ByteArray) l0_1 (l0_1.length : Int) 0)
theorem slC.mos : ∀ k : Nat, (∀ (x0 : List (List ByteArray)) (x3 : Int) (x9 : List (List ByteArray)) (x10 : Int) (x11 : Int), Mo (slC.l0 k x0 x3 x9 x10 x11) (slC.l0 (k + 1) x0 x3 x9 x10 x11)) ∧ (∀ (x6 : List ByteArray) (x25 : List (List ByteArray)) (x26 : Int) (x27 : Int), Mo (slC.l1 k x6 x25 x26 x27) (slC.l1 (k + 1) x6 x25 x26 x27))
  | 0 => ⟨fun _ _ _ _ _ => by rw [slC.l0]; exact mo_none, fun _ _ _ _ => by rw [slC.l1]; exact mo_none⟩
  | k + 1 => by
    have ih := slC.mos k
    exact ⟨fun x0 x3 x9 x10 x11 => by rw [slC.l0, slC.l0]; exact (mo_ite (mo_ite (mo_ite (mo_ite mo_rfl (ih.1 x0 (w64 (x3 + ((rdT (.list .str) x9 x11).length : Int))) x9 x10 (w64 (x11 + 1)))) mo_rfl) mo_rfl) (mo_bind mo_rfl fun t1 => (ih.2 t1 x0 (x0.length : Int) 0))), fun x6 x25 x26 x27 => by rw [slC.l1, slC.l1]; exact (mo_ite (mo_ite (mo_ite (mo_ite (ih.2 (x6 ++ (rdT (.list .str) x25 x27)) x25 x26 (w64 (x27 + 1))) mo_rfl) mo_rfl) mo_rfl) mo_rfl)⟩
theorem slC.mo (k : Nat) (a0 : List (List ByteArray)) : Mo (slC.f k a0) (slC.f (k + 1) a0) := by
  have ih := slC.mos k
  unfold slC.f
  exact (ih.1 a0 0 a0 (a0.length : Int) 0)
theorem net_all.mos : ∀ k : Nat, (∀ (x3 : List ByteArray) (x15 : List S76) (x16 : Int) (x17 : Int), Mo (net_all.l0 k x3 x15 x16 x17) (net_all.l0 (k + 1) x3 x15 x16 x17))
  | 0 => fun _ _ _ _ => by rw [net_all.l0]; exact mo_none
  | k + 1 => by
    have ih := net_all.mos k
    exact fun x3 x15 x16 x17 => by rw [net_all.l0, net_all.l0]; exact (mo_ite (mo_ite (mo_ite (mo_ite (ih (x3 ++ [(rd_T76 x15 x17).f0]) x15 x16 (w64 (x17 + 1))) mo_rfl) mo_rfl) mo_rfl) mo_rfl)
theorem net_all.mo (k : Nat) (l0_0 : List ByteArray) (l0_1 : List S86) (l0_2 : List ByteArray) (l0_3 : List S76) : Mo (net_all.f k l0_0 l0_1 l0_2 l0_3) (net_all.f (k + 1) l0_0 l0_1 l0_2 l0_3) := by
  have ih := net_all.mos k
  unfold net_all.f
  exact (mo_bind (net_Names.mo k l0_0 l0_1 l0_2 l0_3) fun t1 => (mo_bind (slC.mo k ([l0_0, t1, l0_2] : List (List ByteArray))) fun t2 => (ih t2 l0_3 (l0_3.length : Int) 0)))
theorem net_locNames.mos : ∀ k : Nat, (∀ (x3 : List ByteArray) (x7 : List S84) (x8 : Int) (x9 : Int), Mo (net_locNames.l0 k x3 x7 x8 x9) (net_locNames.l0 (k + 1) x3 x7 x8 x9))
  | 0 => fun _ _ _ _ => by rw [net_locNames.l0]; exact mo_none
  | k + 1 => by
    have ih := net_locNames.mos k
    exact fun x3 x7 x8 x9 => by rw [net_locNames.l0, net_locNames.l0]; exact (mo_ite (mo_ite (mo_ite (mo_ite (ih (x3 ++ [(rd_T84 x7 x9).f0]) x7 x8 (w64 (x9 + 1))) mo_rfl) mo_rfl) mo_rfl) mo_rfl)
theorem net_locNames.mo (k : Nat) (l0_0 : ByteArray) (l0_1 : List S84) (l0_2 : List S79) : Mo (net_locNames.f k l0_0 l0_1 l0_2) (net_locNames.f (k + 1) l0_0 l0_1 l0_2) := by
  have ih := net_locNames.mos k
  unfold net_locNames.f
  exact (ih ([] : List ByteArray) l0_1 (l0_1.length : Int) 0)
theorem net_names.mos : ∀ k : Nat, (∀ (x10 : List S76) (x11 : Int) (x12 : Int), Mo (net_names.l0 k x10 x11 x12) (net_names.l0 (k + 1) x10 x11 x12))
  | 0 => fun _ _ _ => by rw [net_names.l0]; exact mo_none
  | k + 1 => by
    have ih := net_names.mos k
    exact fun x10 x11 x12 => by rw [net_names.l0, net_names.l0]; exact (mo_ite (mo_ite (mo_ite (mo_bind (net_locNames.mo k ((rd_T76 x10 x12).f0) ((rd_T76 x10 x12).f1) ((rd_T76 x10 x12).f2)) fun t3 => (mo_bind (net_given.mo k t3) fun t4 => (mo_ite mo_rfl (ih x10 x11 (w64 (x12 + 1)))))) mo_rfl) mo_rfl) mo_rfl)
theorem net_names.mo (k : Nat) (l0_0 : List ByteArray) (l0_1 : List S86) (l0_2 : List ByteArray) (l0_3 : List S76) : Mo (net_names.f k l0_0 l0_1 l0_2 l0_3) (net_names.f (k + 1) l0_0 l0_1 l0_2 l0_3) := by
  have ih := net_names.mos k
  unfold net_names.f
  exact (mo_bind (net_all.mo k l0_0 l0_1 l0_2 l0_3) fun t1 => (mo_bind (net_given.mo k t1) fun t2 => (mo_ite mo_rfl (ih l0_3 (l0_3.length : Int) 0))))
theorem net_vars.mos : ∀ k : Nat, (∀ (x6 : List S86) (x7 : Int) (x8 : Int), Mo (net_vars.l0 k x6 x7 x8) (net_vars.l0 (k + 1) x6 x7 x8))
  | 0 => fun _ _ _ => by rw [net_vars.l0]; exact mo_none
  | k + 1 => by
    have ih := net_vars.mos k
    exact fun x6 x7 x8 => by rw [net_vars.l0, net_vars.l0]; exact (mo_ite (mo_ite (mo_ite (mo_ite mo_rfl (mo_ite mo_rfl (mo_ite mo_rfl (mo_ite mo_rfl (ih x6 x7 (w64 (x8 + 1))))))) mo_rfl) mo_rfl) mo_rfl)
theorem net_vars.mo (k : Nat) (l0_0 : List ByteArray) (l0_1 : List S86) (l0_2 : List ByteArray) (l0_3 : List S76) : Mo (net_vars.f k l0_0 l0_1 l0_2 l0_3) (net_vars.f (k + 1) l0_0 l0_1 l0_2 l0_3) := by
  have ih := net_vars.mos k
  unfold net_vars.f
  exact (ih l0_1 (l0_1.length : Int) 0)
theorem net_locs.mos : ∀ k : Nat, (∀ (x8 : List S76) (x9 : Int) (x10 : Int), Mo (net_locs.l0 k x8 x9 x10) (net_locs.l0 (k + 1) x8 x9 x10)) ∧ (∀ (x8 : List S76) (x9 : Int) (x10 : Int) (x15 : List S84) (x16 : Int) (x17 : Int), Mo (net_locs.l1 k x8 x9 x10 x15 x16 x17) (net_locs.l1 (k + 1) x8 x9 x10 x15 x16 x17))
  | 0 => ⟨fun _ _ _ => by rw [net_locs.l0]; exact mo_none, fun _ _ _ _ _ _ => by rw [net_locs.l1]; exact mo_none⟩
  | k + 1 => by
    have ih := net_locs.mos k
    exact ⟨fun x8 x9 x10 => by rw [net_locs.l0, net_locs.l0]; exact (mo_ite (mo_ite (mo_ite (ih.2 x8 x9 x10 ((rd_T76 x8 x10).f1) (((rd_T76 x8 x10).f1).length : Int) 0) mo_rfl) mo_rfl) mo_rfl), fun x8 x9 x10 x15 x16 x17 => by rw [net_locs.l1, net_locs.l1]; exact (mo_ite (mo_ite (mo_ite (mo_ite mo_rfl (ih.2 x8 x9 x10 x15 x16 (w64 (x17 + 1)))) mo_rfl) mo_rfl) (ih.1 x8 x9 (w64 (x10 + 1))))⟩
theorem net_locs.mo (k : Nat) (l0_0 : List ByteArray) (l0_1 : List S86) (l0_2 : List ByteArray) (l0_3 : List S76) : Mo (net_locs.f k l0_0 l0_1 l0_2 l0_3) (net_locs.f (k + 1) l0_0 l0_1 l0_2 l0_3) := by
  have ih := net_locs.mos k
  unfold net_locs.f
  exact (ih.1 l0_3 (l0_3.length : Int) 0)
theorem net_edges.mos : ∀ k : Nat, (∀ (x9 : List S76) (x10 : Int) (x11 : Int) (x1_0 : List ByteArray) (x1_1 : List S86) (x1_2 : List ByteArray) (x1_3 : List S76), Mo (net_edges.l0 k x9 x10 x11 x1_0 x1_1 x1_2 x1_3) (net_edges.l0 (k + 1) x9 x10 x11 x1_0 x1_1 x1_2 x1_3)) ∧ (∀ (x5 : S76) (x9 : List S76) (x10 : Int) (x11 : Int) (x17 : List S79) (x18 : Int) (x19 : Int) (x1_0 : List ByteArray) (x1_1 : List S86) (x1_2 : List ByteArray) (x1_3 : List S76), Mo (net_edges.l1 k x5 x9 x10 x11 x17 x18 x19 x1_0 x1_1 x1_2 x1_3) (net_edges.l1 (k + 1) x5 x9 x10 x11 x17 x18 x19 x1_0 x1_1 x1_2 x1_3))
  | 0 => ⟨fun _ _ _ _ _ _ _ => by rw [net_edges.l0]; exact mo_none, fun _ _ _ _ _ _ _ _ _ _ _ => by rw [net_edges.l1]; exact mo_none⟩
  | k + 1 => by
    have ih := net_edges.mos k
    exact ⟨fun x9 x10 x11 x1_0 x1_1 x1_2 x1_3 => by rw [net_edges.l0, net_edges.l0]; exact (mo_ite (mo_ite (mo_ite (ih.2 (rd_T76 x9 x11) x9 x10 x11 ((rd_T76 x9 x11).f2) (((rd_T76 x9 x11).f2).length : Int) 0 x1_0 x1_1 x1_2 x1_3) mo_rfl) mo_rfl) mo_rfl), fun x5 x9 x10 x11 x17 x18 x19 x1_0 x1_1 x1_2 x1_3 => by rw [net_edges.l1, net_edges.l1]; exact (mo_ite (mo_ite (mo_ite (mo_bind mo_rfl fun t1 => (mo_ite mo_rfl (mo_bind mo_rfl fun t2 => (mo_ite mo_rfl (mo_ite mo_rfl (mo_ite mo_rfl (mo_ite (mo_ite mo_rfl (ih.2 x5 x9 x10 x11 x17 x18 (w64 (x19 + 1)) x1_0 x1_1 x1_2 x1_3)) (ih.2 x5 x9 x10 x11 x17 x18 (w64 (x19 + 1)) x1_0 x1_1 x1_2 x1_3)))))))) mo_rfl) mo_rfl) (ih.1 x9 x10 (w64 (x11 + 1)) x1_0 x1_1 x1_2 x1_3))⟩
theorem net_edges.mo (k : Nat) (l0_0 : List ByteArray) (l0_1 : List S86) (l0_2 : List ByteArray) (l0_3 : List S76) : Mo (net_edges.f k l0_0 l0_1 l0_2 l0_3) (net_edges.f (k + 1) l0_0 l0_1 l0_2 l0_3) := by
  have ih := net_edges.mos k
  unfold net_edges.f
  exact (ih.1 l0_3 (l0_3.length : Int) 0 l0_0 l0_1 l0_2 l0_3)
theorem net_clocksOf.mos : ∀ k : Nat, (∀ (x7 : List S43) (x8 : Int) (x9 : Int) (x2_0 : List ByteArray) (x2_1 : List S86) (x2_2 : List ByteArray) (x2_3 : List S76), Mo (net_clocksOf.l0 k x7 x8 x9 x2_0 x2_1 x2_2 x2_3) (net_clocksOf.l0 (k + 1) x7 x8 x9 x2_0 x2_1 x2_2 x2_3))
  | 0 => fun _ _ _ _ _ _ _ => by rw [net_clocksOf.l0]; exact mo_none
  | k + 1 => by
    have ih := net_clocksOf.mos k
    exact fun x7 x8 x9 x2_0 x2_1 x2_2 x2_3 => by rw [net_clocksOf.l0, net_clocksOf.l0]; exact (mo_ite (mo_ite (mo_ite (mo_bind mo_rfl fun t1 => (mo_ite mo_rfl (mo_ite (ih x7 x8 (w64 (x9 + 1)) x2_0 x2_1 x2_2 x2_3) (mo_bind mo_rfl fun t2 => (mo_ite mo_rfl (ih x7 x8 (w64 (x9 + 1)) x2_0 x2_1 x2_2 x2_3)))))) mo_rfl) mo_rfl) mo_rfl)
theorem net_clocksOf.mo (k : Nat) (l0_0 : List ByteArray) (l0_1 : List S86) (l0_2 : List ByteArray) (l0_3 : List S76) (a1 : List S43) : Mo (net_clocksOf.f k l0_0 l0_1 l0_2 l0_3 a1) (net_clocksOf.f (k + 1) l0_0 l0_1 l0_2 l0_3 a1) := by
  have ih := net_clocksOf.mos k
  unfold net_clocksOf.f
  exact (ih a1 (a1.length : Int) 0 l0_0 l0_1 l0_2 l0_3)
theorem net_guards.mos : ∀ k : Nat, (∀ (x3 : List S43) (x11 : List S76) (x12 : Int) (x13 : Int), Mo (net_guards.l0 k x3 x11 x12 x13) (net_guards.l0 (k + 1) x3 x11 x12 x13)) ∧ (∀ (x3 : List S43) (x11 : List S76) (x12 : Int) (x13 : Int) (x18 : List S84) (x19 : Int) (x20 : Int) (x5_0 : ByteArray) (x5_1 : List S84) (x5_2 : List S79), Mo (net_guards.l1 k x3 x11 x12 x13 x18 x19 x20 x5_0 x5_1 x5_2) (net_guards.l1 (k + 1) x3 x11 x12 x13 x18 x19 x20 x5_0 x5_1 x5_2)) ∧ (∀ (x3 : List S43) (x11 : List S76) (x12 : Int) (x13 : Int) (x30 : List S79) (x31 : Int) (x32 : Int), Mo (net_guards.l2 k x3 x11 x12 x13 x30 x31 x32) (net_guards.l2 (k + 1) x3 x11 x12 x13 x30 x31 x32))
  | 0 => ⟨fun _ _ _ _ => by rw [net_guards.l0]; exact mo_none, fun _ _ _ _ _ _ _ _ _ _ => by rw [net_guards.l1]; exact mo_none, fun _ _ _ _ _ _ _ => by rw [net_guards.l2]; exact mo_none⟩
  | k + 1 => by
    have ih := net_guards.mos k
    exact ⟨fun x3 x11 x12 x13 => by rw [net_guards.l0, net_guards.l0]; exact (mo_ite (mo_ite (mo_ite (ih.2.1 x3 x11 x12 x13 ((rd_T76 x11 x13).f1) (((rd_T76 x11 x13).f1).length : Int) 0 ((rd_T76 x11 x13).f0) ((rd_T76 x11 x13).f1) ((rd_T76 x11 x13).f2)) mo_rfl) mo_rfl) mo_rfl), fun x3 x11 x12 x13 x18 x19 x20 x5_0 x5_1 x5_2 => by rw [net_guards.l1, net_guards.l1]; exact (mo_ite (mo_ite (mo_ite (mo_ite (ih.2.1 (x3 ++ (rd_T84 x18 x20).f2) x11 x12 x13 x18 x19 (w64 (x20 + 1)) x5_0 x5_1 x5_2) mo_rfl) mo_rfl) mo_rfl) (ih.2.2 x3 x11 x12 x13 x5_2 (x5_2.length : Int) 0)), fun x3 x11 x12 x13 x30 x31 x32 => by rw [net_guards.l2, net_guards.l2]; exact (mo_ite (mo_ite (mo_ite (mo_ite (ih.2.2 (x3 ++ (rd_T79 x30 x32).f2) x11 x12 x13 x30 x31 (w64 (x32 + 1))) mo_rfl) mo_rfl) mo_rfl) (ih.1 x3 x11 x12 (w64 (x13 + 1))))⟩
theorem net_guards.mo (k : Nat) (l0_0 : List ByteArray) (l0_1 : List S86) (l0_2 : List ByteArray) (l0_3 : List S76) : Mo (net_guards.f k l0_0 l0_1 l0_2 l0_3) (net_guards.f (k + 1) l0_0 l0_1 l0_2 l0_3) := by
  have ih := net_guards.mos k
  unfold net_guards.f
  exact (ih.1 ([] : List S43) l0_3 (l0_3.length : Int) 0)
theorem net_sets.mos : ∀ k : Nat, (∀ (x3 : List S81) (x9 : List S76) (x10 : Int) (x11 : Int), Mo (net_sets.l0 k x3 x9 x10 x11) (net_sets.l0 (k + 1) x3 x9 x10 x11)) ∧ (∀ (x3 : List S81) (x9 : List S76) (x10 : Int) (x11 : Int) (x16 : List S79) (x17 : Int) (x18 : Int), Mo (net_sets.l1 k x3 x9 x10 x11 x16 x17 x18) (net_sets.l1 (k + 1) x3 x9 x10 x11 x16 x17 x18))
  | 0 => ⟨fun _ _ _ _ => by rw [net_sets.l0]; exact mo_none, fun _ _ _ _ _ _ _ => by rw [net_sets.l1]; exact mo_none⟩
  | k + 1 => by
    have ih := net_sets.mos k
    exact ⟨fun x3 x9 x10 x11 => by rw [net_sets.l0, net_sets.l0]; exact (mo_ite (mo_ite (mo_ite (ih.2 x3 x9 x10 x11 ((rd_T76 x9 x11).f2) (((rd_T76 x9 x11).f2).length : Int) 0) mo_rfl) mo_rfl) mo_rfl), fun x3 x9 x10 x11 x16 x17 x18 => by rw [net_sets.l1, net_sets.l1]; exact (mo_ite (mo_ite (mo_ite (mo_ite (ih.2 (x3 ++ (rd_T79 x16 x18).f6) x9 x10 x11 x16 x17 (w64 (x18 + 1))) mo_rfl) mo_rfl) mo_rfl) (ih.1 x3 x9 x10 (w64 (x11 + 1))))⟩
theorem net_sets.mo (k : Nat) (l0_0 : List ByteArray) (l0_1 : List S86) (l0_2 : List ByteArray) (l0_3 : List S76) : Mo (net_sets.f k l0_0 l0_1 l0_2 l0_3) (net_sets.f (k + 1) l0_0 l0_1 l0_2 l0_3) := by
  have ih := net_sets.mos k
  unfold net_sets.f
  exact (ih.1 ([] : List S81) l0_3 (l0_3.length : Int) 0)
theorem net_clocks.mos : ∀ k : Nat, (∀ (x14 : List S81) (x15 : Int) (x16 : Int) (x1_0 : List ByteArray) (x1_1 : List S86) (x1_2 : List ByteArray) (x1_3 : List S76), Mo (net_clocks.l0 k x14 x15 x16 x1_0 x1_1 x1_2 x1_3) (net_clocks.l0 (k + 1) x14 x15 x16 x1_0 x1_1 x1_2 x1_3))
  | 0 => fun _ _ _ _ _ _ _ => by rw [net_clocks.l0]; exact mo_none
  | k + 1 => by
    have ih := net_clocks.mos k
    exact fun x14 x15 x16 x1_0 x1_1 x1_2 x1_3 => by rw [net_clocks.l0, net_clocks.l0]; exact (mo_ite (mo_ite (mo_ite (mo_ite (ih x14 x15 (w64 (x16 + 1)) x1_0 x1_1 x1_2 x1_3) (mo_bind mo_rfl fun t4 => (mo_ite mo_rfl (ih x14 x15 (w64 (x16 + 1)) x1_0 x1_1 x1_2 x1_3)))) mo_rfl) mo_rfl) mo_rfl)
theorem net_clocks.mo (k : Nat) (l0_0 : List ByteArray) (l0_1 : List S86) (l0_2 : List ByteArray) (l0_3 : List S76) : Mo (net_clocks.f k l0_0 l0_1 l0_2 l0_3) (net_clocks.f (k + 1) l0_0 l0_1 l0_2 l0_3) := by
  have ih := net_clocks.mos k
  unfold net_clocks.f
  exact (mo_bind (net_guards.mo k l0_0 l0_1 l0_2 l0_3) fun t1 => (mo_bind (net_clocksOf.mo k l0_0 l0_1 l0_2 l0_3 t1) fun t2 => (mo_ite (mo_bind (net_sets.mo k l0_0 l0_1 l0_2 l0_3) fun t3 => (ih t3 (t3.length : Int) 0 l0_0 l0_1 l0_2 l0_3)) mo_rfl)))
theorem net_cmps.mos : ∀ k : Nat, (∀ (x5 : List S43) (x6 : Int) (x7 : Int), Mo (net_cmps.l0 k x5 x6 x7) (net_cmps.l0 (k + 1) x5 x6 x7))
  | 0 => fun _ _ _ => by rw [net_cmps.l0]; exact mo_none
  | k + 1 => by
    have ih := net_cmps.mos k
    exact fun x5 x6 x7 => by rw [net_cmps.l0, net_cmps.l0]; exact (mo_ite (mo_ite (mo_ite (mo_ite mo_rfl (mo_ite mo_rfl (ih x5 x6 (w64 (x7 + 1))))) mo_rfl) mo_rfl) mo_rfl)
theorem net_cmps.mo (k : Nat) (a0 : List S43) : Mo (net_cmps.f k a0) (net_cmps.f (k + 1) a0) := by
  have ih := net_cmps.mos k
  unfold net_cmps.f
  exact (ih a0 (a0.length : Int) 0)
theorem net_forms.mos : ∀ k : Nat, (∀ (x13 : List S81) (x14 : Int) (x15 : Int), Mo (net_forms.l0 k x13 x14 x15) (net_forms.l0 (k + 1) x13 x14 x15))
  | 0 => fun _ _ _ => by rw [net_forms.l0]; exact mo_none
  | k + 1 => by
    have ih := net_forms.mos k
    exact fun x13 x14 x15 => by rw [net_forms.l0, net_forms.l0]; exact (mo_ite (mo_ite (mo_ite (mo_ite (mo_ite (mo_ite (ih x13 x14 (w64 (x15 + 1))) (mo_ite (mo_ite mo_rfl (ih x13 x14 (w64 (x15 + 1)))) mo_rfl)) mo_rfl) (mo_ite (ih x13 x14 (w64 (x15 + 1))) (mo_ite (mo_ite mo_rfl (ih x13 x14 (w64 (x15 + 1)))) mo_rfl))) mo_rfl) mo_rfl) mo_rfl)
theorem net_forms.mo (k : Nat) (l0_0 : List ByteArray) (l0_1 : List S86) (l0_2 : List ByteArray) (l0_3 : List S76) : Mo (net_forms.f k l0_0 l0_1 l0_2 l0_3) (net_forms.f (k + 1) l0_0 l0_1 l0_2 l0_3) := by
  have ih := net_forms.mos k
  unfold net_forms.f
  exact (mo_bind (net_guards.mo k l0_0 l0_1 l0_2 l0_3) fun t1 => (mo_bind (net_cmps.mo k t1) fun t2 => (mo_ite (mo_bind (net_sets.mo k l0_0 l0_1 l0_2 l0_3) fun t3 => (ih t3 (t3.length : Int) 0)) mo_rfl)))
theorem expr_End.mos : ∀ k : Nat, (∀ (x0 : List S151) (x1 : Int) (x5 : Int), Mo (expr_End.l0 k x0 x1 x5) (expr_End.l0 (k + 1) x0 x1 x5))
  | 0 => fun _ _ _ => by rw [expr_End.l0]; exact mo_none
  | k + 1 => by
    have ih := expr_End.mos k
    exact fun x0 x1 x5 => by rw [expr_End.l0, expr_End.l0]; exact (mo_ite (mo_ite mo_rfl (mo_ite (mo_ite (mo_bind mo_rfl fun t1 => (ih x0 (w64 (x1 + 1)) (w64 ((w64 (x5 + t1.1)) - 1)))) mo_rfl) mo_rfl)) mo_rfl)
theorem expr_End.mo (k : Nat) (a0 : List S151) (a1 : Int) : Mo (expr_End.f k a0 a1) (expr_End.f (k + 1) a0 a1) := by
  have ih := expr_End.mos k
  unfold expr_End.f
  exact (mo_ite mo_rfl (ih a0 a1 1))
theorem expr_Right.mos : ∀ k : Nat, (∀ (x0 : List S151) (x1 : Int), Mo (expr_Right.j0 k x0 x1) (expr_Right.j0 (k + 1) x0 x1)) ∧ (∀ (x0 : List S151) (x1 : Int) (x28 : List S151) (x29 : Int) (x30 : Int), Mo (expr_Right.l1 k x0 x1 x28 x29 x30) (expr_Right.l1 (k + 1) x0 x1 x28 x29 x30)) ∧ (∀ (x0 : List S151) (x1 : Int) (x5 : Int) (x8 : Bool) (x9 : Int) (x28 : List S151) (x29 : Int) (x30 : Int) (x6_0 : Int) (x6_1 : Int) (x7_0 : Int) (x7_1 : Bool) (x7_2 : Bool) (x7_3 : ByteArray) (x7_4 : Int), Mo (expr_Right.j2 k x0 x1 x5 x8 x9 x28 x29 x30 x6_0 x6_1 x7_0 x7_1 x7_2 x7_3 x7_4) (expr_Right.j2 (k + 1) x0 x1 x5 x8 x9 x28 x29 x30 x6_0 x6_1 x7_0 x7_1 x7_2 x7_3 x7_4)) ∧ (∀ (x0 : List S151) (x1 : Int) (x5 : Int) (x28 : List S151) (x29 : Int) (x30 : Int) (x7_0 : Int) (x7_1 : Bool) (x7_2 : Bool) (x7_3 : ByteArray) (x7_4 : Int), Mo (expr_Right.j3 k x0 x1 x5 x28 x29 x30 x7_0 x7_1 x7_2 x7_3 x7_4) (expr_Right.j3 (k + 1) x0 x1 x5 x28 x29 x30 x7_0 x7_1 x7_2 x7_3 x7_4)) ∧ (∀ (x0 : List S151) (x1 : Int) (x10 : Int) (x28 : List S151) (x29 : Int) (x30 : Int) (x66 : Int) (x67 : Int) (x7_0 : Int) (x7_1 : Bool) (x7_2 : Bool) (x7_3 : ByteArray) (x7_4 : Int), Mo (expr_Right.l4 k x0 x1 x10 x28 x29 x30 x66 x67 x7_0 x7_1 x7_2 x7_3 x7_4) (expr_Right.l4 (k + 1) x0 x1 x10 x28 x29 x30 x66 x67 x7_0 x7_1 x7_2 x7_3 x7_4))
  | 0 => ⟨fun _ _ => by rw [expr_Right.j0]; exact mo_none, fun _ _ _ _ _ => by rw [expr_Right.l1]; exact mo_none, fun _ _ _ _ _ _ _ _ _ _ _ _ _ _ _ => by rw [expr_Right.j2]; exact mo_none, fun _ _ _ _ _ _ _ _ _ _ _ => by rw [expr_Right.j3]; exact mo_none, fun _ _ _ _ _ _ _ _ _ _ _ _ _ => by rw [expr_Right.l4]; exact mo_none⟩
  | k + 1 => by
    have ih := expr_Right.mos k
    exact ⟨fun x0 x1 => by rw [expr_Right.j0, expr_Right.j0]; exact (ih.2.1 x0 x1 x0 (x0.length : Int) 0), fun x0 x1 x28 x29 x30 => by rw [expr_Right.l1, expr_Right.l1]; exact (mo_ite (mo_ite (mo_ite (mo_bind mo_rfl fun t2 => (mo_ite (ih.2.2.1 x0 x1 x30 t2.2.2.2.2.2 1048576 x28 x29 x30 ((rd_T151 x28 x30).f0) ((rd_T151 x28 x30).f1) t2.1 t2.2.1 t2.2.2.1 t2.2.2.2.1 t2.2.2.2.2.1) (mo_ite (ih.2.2.1 x0 x1 x30 t2.2.2.2.2.2 (w64 ((if 0 > x1 then 0 else x1) - 1)) x28 x29 x30 ((rd_T151 x28 x30).f0) ((rd_T151 x28 x30).f1) t2.1 t2.2.1 t2.2.2.1 t2.2.2.2.1 t2.2.2.2.2.1) (ih.2.2.1 x0 x1 x30 t2.2.2.2.2.2 0 x28 x29 x30 ((rd_T151 x28 x30).f0) ((rd_T151 x28 x30).f1) t2.1 t2.2.1 t2.2.2.1 t2.2.2.2.1 t2.2.2.2.2.1)))) mo_rfl) mo_rfl) mo_rfl), fun x0 x1 x5 x8 x9 x28 x29 x30 x6_0 x6_1 x7_0 x7_1 x7_2 x7_3 x7_4 => by rw [expr_Right.j2, expr_Right.j2]; exact (mo_ite mo_rfl (mo_ite mo_rfl (mo_ite mo_rfl (ih.2.2.2.1 x0 x1 x5 x28 x29 x30 x7_0 x7_1 x7_2 x7_3 x7_4)))), fun x0 x1 x5 x28 x29 x30 x7_0 x7_1 x7_2 x7_3 x7_4 => by rw [expr_Right.j3, expr_Right.j3]; exact (ih.2.2.2.2 x0 x1 (w64 (x5 + 1)) x28 x29 x30 x7_0 0 x7_0 x7_1 x7_2 x7_3 x7_4), fun x0 x1 x10 x28 x29 x30 x66 x67 x7_0 x7_1 x7_2 x7_3 x7_4 => by rw [expr_Right.l4, expr_Right.l4]; exact (mo_ite (mo_ite (mo_ite (mo_bind mo_rfl fun t3 => (mo_ite (mo_bind (expr_End.mo k x0 x10) fun t4 => (ih.2.2.2.2 x0 x1 t4 x28 x29 x30 x66 (w64 (x67 + 1)) x7_0 x7_1 x7_2 x7_3 x7_4)) mo_rfl)) mo_rfl) mo_rfl) (ih.2.1 x0 x1 x28 x29 (w64 (x30 + 1))))⟩
theorem expr_Right.mo (k : Nat) (a0 : List S151) (a1 : Int) : Mo (expr_Right.f k a0 a1) (expr_Right.f (k + 1) a0 a1) := by
  have ih := expr_Right.mos k
  unfold expr_Right.f
  exact (mo_ite mo_rfl (mo_ite mo_rfl (mo_bind (expr_End.mo k a0 0) fun t1 => (mo_ite (ih.1 a0 a1) mo_rfl))))
theorem net_truth.mo (k : Nat) (l0_0 : List ByteArray) (l0_1 : List S86) (l0_2 : List ByteArray) (l0_3 : List S76) (a1 : List S151) : Mo (net_truth.f k l0_0 l0_1 l0_2 l0_3 a1) (net_truth.f (k + 1) l0_0 l0_1 l0_2 l0_3 a1) := by
  unfold net_truth.f
  exact (mo_ite (mo_bind (expr_Right.mo k a1 (l0_1.length : Int)) fun t1 => mo_rfl) mo_rfl)
theorem net_tests.mos : ∀ k : Nat, (∀ (x11 : List S76) (x12 : Int) (x13 : Int) (x1_0 : List ByteArray) (x1_1 : List S86) (x1_2 : List ByteArray) (x1_3 : List S76), Mo (net_tests.l0 k x11 x12 x13 x1_0 x1_1 x1_2 x1_3) (net_tests.l0 (k + 1) x11 x12 x13 x1_0 x1_1 x1_2 x1_3)) ∧ (∀ (x11 : List S76) (x12 : Int) (x13 : Int) (x18 : List S79) (x19 : Int) (x20 : Int) (x1_0 : List ByteArray) (x1_1 : List S86) (x1_2 : List ByteArray) (x1_3 : List S76), Mo (net_tests.l1 k x11 x12 x13 x18 x19 x20 x1_0 x1_1 x1_2 x1_3) (net_tests.l1 (k + 1) x11 x12 x13 x18 x19 x20 x1_0 x1_1 x1_2 x1_3)) ∧ (∀ (x34 : List S81) (x35 : Int) (x36 : Int) (x1_0 : List ByteArray) (x1_1 : List S86) (x1_2 : List ByteArray) (x1_3 : List S76), Mo (net_tests.l2 k x34 x35 x36 x1_0 x1_1 x1_2 x1_3) (net_tests.l2 (k + 1) x34 x35 x36 x1_0 x1_1 x1_2 x1_3))
  | 0 => ⟨fun _ _ _ _ _ _ _ => by rw [net_tests.l0]; exact mo_none, fun _ _ _ _ _ _ _ _ _ _ => by rw [net_tests.l1]; exact mo_none, fun _ _ _ _ _ _ _ => by rw [net_tests.l2]; exact mo_none⟩
  | k + 1 => by
    have ih := net_tests.mos k
    exact ⟨fun x11 x12 x13 x1_0 x1_1 x1_2 x1_3 => by rw [net_tests.l0, net_tests.l0]; exact (mo_ite (mo_ite (mo_ite (ih.2.1 x11 x12 x13 ((rd_T76 x11 x13).f2) (((rd_T76 x11 x13).f2).length : Int) 0 x1_0 x1_1 x1_2 x1_3) mo_rfl) mo_rfl) (mo_bind (net_sets.mo k x1_0 x1_1 x1_2 x1_3) fun t2 => (ih.2.2 t2 (t2.length : Int) 0 x1_0 x1_1 x1_2 x1_3))), fun x11 x12 x13 x18 x19 x20 x1_0 x1_1 x1_2 x1_3 => by rw [net_tests.l1, net_tests.l1]; exact (mo_ite (mo_ite (mo_ite (mo_bind (net_truth.mo k x1_0 x1_1 x1_2 x1_3 ((rd_T79 x18 x20).f3)) fun t1 => (mo_ite (ih.2.1 x11 x12 x13 x18 x19 (w64 (x20 + 1)) x1_0 x1_1 x1_2 x1_3) mo_rfl)) mo_rfl) mo_rfl) (ih.1 x11 x12 (w64 (x13 + 1)) x1_0 x1_1 x1_2 x1_3)), fun x34 x35 x36 x1_0 x1_1 x1_2 x1_3 => by rw [net_tests.l2, net_tests.l2]; exact (mo_ite (mo_ite (mo_ite (mo_ite (mo_ite mo_rfl (mo_ite mo_rfl (mo_bind (expr_Right.mo k ((rd_T81 x34 x36).f3) (x1_1.length : Int)) fun t3 => (mo_ite (mo_bind mo_rfl fun t4 => (mo_ite mo_rfl (ih.2.2 x34 x35 (w64 (x36 + 1)) x1_0 x1_1 x1_2 x1_3))) mo_rfl)))) (ih.2.2 x34 x35 (w64 (x36 + 1)) x1_0 x1_1 x1_2 x1_3)) mo_rfl) mo_rfl) mo_rfl)⟩
theorem net_tests.mo (k : Nat) (l0_0 : List ByteArray) (l0_1 : List S86) (l0_2 : List ByteArray) (l0_3 : List S76) : Mo (net_tests.f k l0_0 l0_1 l0_2 l0_3) (net_tests.f (k + 1) l0_0 l0_1 l0_2 l0_3) := by
  have ih := net_tests.mos k
  unfold net_tests.f
  exact (ih.1 l0_3 (l0_3.length : Int) 0 l0_0 l0_1 l0_2 l0_3)
theorem net_Whole.mos : ∀ k : Nat, (∀ (x8 : List DA0) (x9 : Int) (x10 : Int) (x1_0 : List ByteArray) (x1_1 : List S86) (x1_2 : List ByteArray) (x1_3 : List S76), Mo (net_Whole.l0 k x8 x9 x10 x1_0 x1_1 x1_2 x1_3) (net_Whole.l0 (k + 1) x8 x9 x10 x1_0 x1_1 x1_2 x1_3))
  | 0 => fun _ _ _ _ _ _ _ => by rw [net_Whole.l0]; exact mo_none
  | k + 1 => by
    have ih := net_Whole.mos k
    exact fun x8 x9 x10 x1_0 x1_1 x1_2 x1_3 => by rw [net_Whole.l0, net_Whole.l0]; exact (mo_ite (mo_ite (mo_ite (mo_bind (mo_elim (fun (_ : Bool) => (net_some.mo k x1_0 x1_1 x1_2 x1_3)) (fun _ => mo_elim (fun (_ : Bool) => (net_sizes.mo k x1_0 x1_1 x1_2 x1_3)) (fun _ => mo_elim (fun (_ : Bool) => (net_names.mo k x1_0 x1_1 x1_2 x1_3)) (fun _ => mo_elim (fun (_ : Bool) => (net_vars.mo k x1_0 x1_1 x1_2 x1_3)) (fun _ => mo_elim (fun (_ : Bool) => (net_locs.mo k x1_0 x1_1 x1_2 x1_3)) (fun _ => mo_elim (fun (_ : Bool) => (net_edges.mo k x1_0 x1_1 x1_2 x1_3)) (fun _ => mo_elim (fun (_ : Bool) => (net_clocks.mo k x1_0 x1_1 x1_2 x1_3)) (fun _ => mo_elim (fun (_ : Bool) => (net_forms.mo k x1_0 x1_1 x1_2 x1_3)) (fun _ => mo_elim (fun (_ : Bool) => (net_tests.mo k x1_0 x1_1 x1_2 x1_3)) (fun _ => mo_rfl)))))))))) fun t1 => (mo_ite (ih x8 x9 (w64 (x10 + 1)) x1_0 x1_1 x1_2 x1_3) mo_rfl)) mo_rfl) mo_rfl) mo_rfl)
theorem net_Whole.mo (k : Nat) (l0_0 : List ByteArray) (l0_1 : List S86) (l0_2 : List ByteArray) (l0_3 : List S76) : Mo (net_Whole.f k l0_0 l0_1 l0_2 l0_3) (net_Whole.f (k + 1) l0_0 l0_1 l0_2 l0_3) := by
  have ih := net_Whole.mos k
  unfold net_Whole.f
  exact (ih ([(Sum.inl false), (Sum.inr (Sum.inl false)), (Sum.inr (Sum.inr (Sum.inl false))), (Sum.inr (Sum.inr (Sum.inr (Sum.inl false)))), (Sum.inr (Sum.inr (Sum.inr (Sum.inr (Sum.inl false))))), (Sum.inr (Sum.inr (Sum.inr (Sum.inr (Sum.inr (Sum.inl false)))))), (Sum.inr (Sum.inr (Sum.inr (Sum.inr (Sum.inr (Sum.inr (Sum.inl false))))))), (Sum.inr (Sum.inr (Sum.inr (Sum.inr (Sum.inr (Sum.inr (Sum.inr (Sum.inl false)))))))), (Sum.inr (Sum.inr (Sum.inr (Sum.inr (Sum.inr (Sum.inr (Sum.inr (Sum.inr (Sum.inl false)))))))))] : List DA0) (([(Sum.inl false), (Sum.inr (Sum.inl false)), (Sum.inr (Sum.inr (Sum.inl false))), (Sum.inr (Sum.inr (Sum.inr (Sum.inl false)))), (Sum.inr (Sum.inr (Sum.inr (Sum.inr (Sum.inl false))))), (Sum.inr (Sum.inr (Sum.inr (Sum.inr (Sum.inr (Sum.inl false)))))), (Sum.inr (Sum.inr (Sum.inr (Sum.inr (Sum.inr (Sum.inr (Sum.inl false))))))), (Sum.inr (Sum.inr (Sum.inr (Sum.inr (Sum.inr (Sum.inr (Sum.inr (Sum.inl false)))))))), (Sum.inr (Sum.inr (Sum.inr (Sum.inr (Sum.inr (Sum.inr (Sum.inr (Sum.inr (Sum.inl false)))))))))] : List DA0).length : Int) 0 l0_0 l0_1 l0_2 l0_3)
theorem net_Right.mo (k : Nat) (l0_0 : List ByteArray) (l0_1 : List S86) (l0_2 : List ByteArray) (l0_3 : List S76) : Mo (net_Right.f k l0_0 l0_1 l0_2 l0_3) (net_Right.f (k + 1) l0_0 l0_1 l0_2 l0_3) := by
  unfold net_Right.f
  exact (mo_bind (net_Whole.mo k l0_0 l0_1 l0_2 l0_3) fun t1 => mo_rfl)
theorem net_writer_line.mos : ∀ k : Nat, (∀ (x6 : List ByteArray) (x7 : Int) (x8 : Int) (x100000_1 : List Int) (x100000_2 : List ByteArray) (x100000_3 : List S86) (x100000_4 : List ByteArray) (x100000_5 : List S76), Mo (net_writer_line.l0 k x6 x7 x8 x100000_1 x100000_2 x100000_3 x100000_4 x100000_5) (net_writer_line.l0 (k + 1) x6 x7 x8 x100000_1 x100000_2 x100000_3 x100000_4 x100000_5))
  | 0 => fun _ _ _ _ _ _ _ _ => by rw [net_writer_line.l0]; exact mo_none
  | k + 1 => by
    have ih := net_writer_line.mos k
    exact fun x6 x7 x8 x100000_1 x100000_2 x100000_3 x100000_4 x100000_5 => by rw [net_writer_line.l0, net_writer_line.l0]; exact (mo_ite (mo_ite (mo_ite (mo_bind mo_rfl fun _ => (ih x6 x7 (w64 (x8 + 1)) (x100000_1 ++ bytesOf (rdT .str x6 x8)) x100000_2 x100000_3 x100000_4 x100000_5)) mo_rfl) mo_rfl) mo_rfl)
theorem net_writer_line.mo (k : Nat) (y0 : List Int) (y1 : S26) (a1 : List ByteArray) : Mo (net_writer_line.f k y0 y1 a1) (net_writer_line.f (k + 1) y0 y1 a1) := by
  have ih := net_writer_line.mos k
  unfold net_writer_line.f
  exact (ih a1 (a1.length : Int) 0 y0 y1.f0 y1.f1 y1.f2 y1.f3)
theorem net_writer_guard.mos : ∀ k : Nat, (∀ (x5 : ByteArray) (x100000_1 : List Int) (x100000_2 : List ByteArray) (x100000_3 : List S86) (x100000_4 : List ByteArray) (x100000_5 : List S76) (x3_0 : Int) (x3_1 : Int) (x3_2 : Int) (x3_3 : Int), Mo (net_writer_guard.j0 k x5 x100000_1 x100000_2 x100000_3 x100000_4 x100000_5 x3_0 x3_1 x3_2 x3_3) (net_writer_guard.j0 (k + 1) x5 x100000_1 x100000_2 x100000_3 x100000_4 x100000_5 x3_0 x3_1 x3_2 x3_3))
  | 0 => fun _ _ _ _ _ _ _ _ _ _ => by rw [net_writer_guard.j0]; exact mo_none
  | k + 1 => by
    have ih := net_writer_guard.mos k
    exact fun x5 x100000_1 x100000_2 x100000_3 x100000_4 x100000_5 x3_0 x3_1 x3_2 x3_3 => by rw [net_writer_guard.j0, net_writer_guard.j0]; exact mo_rfl
theorem net_writer_guard.mo (k : Nat) (y0 : List Int) (y1 : S26) (l1_0 : Int) (l1_1 : Int) (l1_2 : Int) (l1_3 : Int) : Mo (net_writer_guard.f k y0 y1 l1_0 l1_1 l1_2 l1_3) (net_writer_guard.f (k + 1) y0 y1 l1_0 l1_1 l1_2 l1_3) := by
  have ih := net_writer_guard.mos k
  unfold net_writer_guard.f
  exact (mo_ite (mo_ite (mo_ite (ih (rdT .str y1.f0 (w64 (l1_0 - 1))) y0 y1.f0 y1.f1 y1.f2 y1.f3 l1_0 l1_1 l1_2 l1_3) (mo_ite (mo_ite (mo_ite (mo_ite (ih ((rdT .str y1.f0 (w64 (l1_0 - 1))) ++ ((⟨#[32, 45, 32]⟩ : ByteArray) ++ (rdT .str y1.f0 (w64 (l1_1 - 1))))) y0 y1.f0 y1.f1 y1.f2 y1.f3 l1_0 l1_1 l1_2 l1_3) mo_rfl) mo_rfl) mo_rfl) mo_rfl)) mo_rfl) mo_rfl)
theorem expr_text.mos : ∀ k : Nat, (∀ (x0 : List S151) (x1 : Int) (x2 : List ByteArray) (x10 : Int) (x8_0 : Int) (x8_1 : Bool) (x8_2 : Bool) (x8_3 : ByteArray) (x8_4 : Int), Mo (expr_text.j0 k x0 x1 x2 x10 x8_0 x8_1 x8_2 x8_3 x8_4) (expr_text.j0 (k + 1) x0 x1 x2 x10 x8_0 x8_1 x8_2 x8_3 x8_4)) ∧ (∀ (a0 : List S151) (a1 : Int) (a2 : List ByteArray), Mo (expr_text.r k a0 a1 a2) (expr_text.r (k + 1) a0 a1 a2)) ∧ (∀ (a0 : List S151) (a1 : Int) (a2 : List ByteArray) (a3 : Int), Mo (expr_part.r k a0 a1 a2 a3) (expr_part.r (k + 1) a0 a1 a2 a3))
  | 0 => ⟨fun _ _ _ _ _ _ _ _ _ => by rw [expr_text.j0]; exact mo_none, fun _ _ _ => by rw [expr_text.r]; exact mo_none, fun _ _ _ _ => by rw [expr_part.r]; exact mo_none⟩
  | k + 1 => by
    have ih := expr_text.mos k
    exact ⟨fun x0 x1 x2 x10 x8_0 x8_1 x8_2 x8_3 x8_4 => by rw [expr_text.j0, expr_text.j0]; exact (mo_bind (ih.2.2 x0 (w64 (x1 + 1)) x2 x10) fun t5 => (mo_ite (mo_ite (mo_ite (mo_bind (expr_End.mo k x0 (w64 (x1 + 1))) fun t6 => (mo_bind (ih.2.2 x0 t6 x2 (w64 (x8_4 + 1))) fun t7 => mo_rfl)) mo_rfl) mo_rfl) mo_rfl)), fun a0 a1 a2 => by rw [expr_text.r, expr_text.r]; exact (mo_ite (mo_ite (mo_bind mo_rfl fun t1 => (mo_ite mo_rfl (mo_ite mo_rfl (mo_ite mo_rfl (mo_ite (mo_bind (ih.2.1 a0 (w64 (a1 + 1)) a2) fun t3 => mo_rfl) (mo_ite (mo_bind (ih.2.2 a0 (w64 (a1 + 1)) a2 t1.2.2.2.2.1) fun t4 => mo_rfl) (mo_ite (ih.1 a0 a1 a2 (w64 (t1.2.2.2.2.1 + 1)) t1.1 t1.2.1 t1.2.2.1 t1.2.2.2.1 t1.2.2.2.2.1) (ih.1 a0 a1 a2 t1.2.2.2.2.1 t1.1 t1.2.1 t1.2.2.1 t1.2.2.2.1 t1.2.2.2.2.1)))))))) mo_rfl) mo_rfl), fun a0 a1 a2 a3 => by rw [expr_part.r, expr_part.r]; exact (mo_bind (ih.2.1 a0 a1 a2) fun t1 => mo_rfl)⟩
theorem expr_text.mo (k : Nat) (a0 : List S151) (a1 : Int) (a2 : List ByteArray) : Mo (expr_text.f k a0 a1 a2) (expr_text.f (k + 1) a0 a1 a2) := by
  have ih := expr_text.mos k
  unfold expr_text.f
  exact (mo_ite (mo_ite (mo_bind mo_rfl fun t1 => (mo_ite mo_rfl (mo_ite mo_rfl (mo_ite mo_rfl (mo_ite (mo_bind (ih.2.1 a0 (w64 (a1 + 1)) a2) fun t3 => mo_rfl) (mo_ite (mo_bind (ih.2.2 a0 (w64 (a1 + 1)) a2 t1.2.2.2.2.1) fun t4 => mo_rfl) (mo_ite (ih.1 a0 a1 a2 (w64 (t1.2.2.2.2.1 + 1)) t1.1 t1.2.1 t1.2.2.1 t1.2.2.2.1 t1.2.2.2.2.1) (ih.1 a0 a1 a2 t1.2.2.2.2.1 t1.1 t1.2.1 t1.2.2.1 t1.2.2.2.1 t1.2.2.2.2.1)))))))) mo_rfl) mo_rfl)
theorem expr_part.mo (k : Nat) (a0 : List S151) (a1 : Int) (a2 : List ByteArray) (a3 : Int) : Mo (expr_part.f k a0 a1 a2 a3) (expr_part.f (k + 1) a0 a1 a2 a3) := by
  have ih := expr_text.mos k
  unfold expr_part.f
  exact (mo_bind (ih.2.1 a0 a1 a2) fun t1 => mo_rfl)
theorem expr_Print.mo (k : Nat) (a0 : List S151) (a1 : List ByteArray) : Mo (expr_Print.f k a0 a1) (expr_Print.f (k + 1) a0 a1) := by
  unfold expr_Print.f
  exact (mo_bind (expr_Right.mo k a0 (a1.length : Int)) fun t1 => (mo_ite (mo_bind (expr_text.mo k a0 0 a1) fun t2 => mo_rfl) mo_rfl))
theorem net_writer_test.mo (k : Nat) (y0 : List Int) (y1 : S26) (a1 : List S151) : Mo (net_writer_test.f k y0 y1 a1) (net_writer_test.f (k + 1) y0 y1 a1) := by
  unfold net_writer_test.f
  exact (mo_bind (net_Names.mo k y1.f0 y1.f1 y1.f2 y1.f3) fun t1 => (mo_bind (expr_Print.mo k a1 t1) fun t2 => mo_rfl))
theorem net_writer_conds.mos : ∀ k : Nat, (∀ (x2 : List S151) (x7 : List ByteArray) (x10 : List S43) (x11 : Int) (x12 : Int) (x100000_1 : List Int) (x100000_2 : List ByteArray) (x100000_3 : List S86) (x100000_4 : List ByteArray) (x100000_5 : List S76), Mo (net_writer_conds.l0 k x2 x7 x10 x11 x12 x100000_1 x100000_2 x100000_3 x100000_4 x100000_5) (net_writer_conds.l0 (k + 1) x2 x7 x10 x11 x12 x100000_1 x100000_2 x100000_3 x100000_4 x100000_5))
  | 0 => fun _ _ _ _ _ _ _ _ _ _ => by rw [net_writer_conds.l0]; exact mo_none
  | k + 1 => by
    have ih := net_writer_conds.mos k
    exact fun x2 x7 x10 x11 x12 x100000_1 x100000_2 x100000_3 x100000_4 x100000_5 => by rw [net_writer_conds.l0, net_writer_conds.l0]; exact (mo_ite (mo_ite (mo_ite (mo_bind (net_writer_guard.mo k x100000_1 (⟨x100000_2, x100000_3, x100000_4, x100000_5⟩ : S26) ((rd_T43 x10 x12).f0) ((rd_T43 x10 x12).f1) ((rd_T43 x10 x12).f2) ((rd_T43 x10 x12).f3)) fun t1 => (mo_ite (ih x2 (x7 ++ [t1.2]) x10 x11 (w64 (x12 + 1)) t1.1.1 t1.1.2.f0 t1.1.2.f1 t1.1.2.f2 t1.1.2.f3) mo_rfl)) mo_rfl) mo_rfl) (mo_ite (mo_bind (net_writer_test.mo k x100000_1 (⟨x100000_2, x100000_3, x100000_4, x100000_5⟩ : S26) x2) fun t2 => mo_rfl) mo_rfl))
theorem net_writer_conds.mo (k : Nat) (y0 : List Int) (y1 : S26) (a1 : List S43) (a2 : List S151) : Mo (net_writer_conds.f k y0 y1 a1 a2) (net_writer_conds.f (k + 1) y0 y1 a1 a2) := by
  have ih := net_writer_conds.mos k
  unfold net_writer_conds.f
  exact (ih a2 ([] : List ByteArray) a1 (a1.length : Int) 0 y0 y1.f0 y1.f1 y1.f2 y1.f3)
theorem net_writer_loc.mos : ∀ k : Nat, (∀ (x4 : ByteArray) (x100000_1 : List Int) (x100000_2 : List ByteArray) (x100000_3 : List S86) (x100000_4 : List ByteArray) (x100000_5 : List S76) (x3_0 : ByteArray) (x3_1 : Int) (x3_2 : List S43), Mo (net_writer_loc.j0 k x4 x100000_1 x100000_2 x100000_3 x100000_4 x100000_5 x3_0 x3_1 x3_2) (net_writer_loc.j0 (k + 1) x4 x100000_1 x100000_2 x100000_3 x100000_4 x100000_5 x3_0 x3_1 x3_2))
  | 0 => fun _ _ _ _ _ _ _ _ _ => by rw [net_writer_loc.j0]; exact mo_none
  | k + 1 => by
    have ih := net_writer_loc.mos k
    exact fun x4 x100000_1 x100000_2 x100000_3 x100000_4 x100000_5 x3_0 x3_1 x3_2 => by rw [net_writer_loc.j0, net_writer_loc.j0]; exact (mo_ite (mo_bind (net_writer_conds.mo k x100000_1 (⟨x100000_2, x100000_3, x100000_4, x100000_5⟩ : S26) x3_2 ([] : List S151)) fun t1 => (mo_bind mo_rfl fun t2 => (mo_ite (mo_ite (mo_bind (net_writer_line.mo k t1.1.1 t1.1.2 ([(x4 ++ ((⟨#[32, 105, 110, 118, 32]⟩ : ByteArray) ++ t2)), (⟨#[59]⟩ : ByteArray)] : List ByteArray)) fun t3 => mo_rfl) mo_rfl) mo_rfl))) (mo_bind (net_writer_line.mo k x100000_1 (⟨x100000_2, x100000_3, x100000_4, x100000_5⟩ : S26) ([x4, (⟨#[59]⟩ : ByteArray)] : List ByteArray)) fun t4 => mo_rfl))
theorem net_writer_loc.mo (k : Nat) (y0 : List Int) (y1 : S26) (l1_0 : ByteArray) (l1_1 : Int) (l1_2 : List S43) : Mo (net_writer_loc.f k y0 y1 l1_0 l1_1 l1_2) (net_writer_loc.f (k + 1) y0 y1 l1_0 l1_1 l1_2) := by
  have ih := net_writer_loc.mos k
  unfold net_writer_loc.f
  exact (mo_ite (mo_ite (mo_ite (ih (((⟨#[32, 32, 108, 111, 99, 32]⟩ : ByteArray) ++ l1_0) ++ (⟨#[32, 117, 114, 103, 101, 110, 116]⟩ : ByteArray)) y0 y1.f0 y1.f1 y1.f2 y1.f3 l1_0 l1_1 l1_2) mo_rfl) (mo_ite (mo_ite (ih (((⟨#[32, 32, 108, 111, 99, 32]⟩ : ByteArray) ++ l1_0) ++ (⟨#[32, 99, 111, 109, 109, 105, 116, 116, 101, 100]⟩ : ByteArray)) y0 y1.f0 y1.f1 y1.f2 y1.f3 l1_0 l1_1 l1_2) mo_rfl) (ih ((⟨#[32, 32, 108, 111, 99, 32]⟩ : ByteArray) ++ l1_0) y0 y1.f0 y1.f1 y1.f2 y1.f3 l1_0 l1_1 l1_2))) mo_rfl)
theorem net_writer_edge.mos : ∀ k : Nat, (∀ (x6 : ByteArray) (x100000_1 : List Int) (x100000_2 : List ByteArray) (x100000_3 : List S86) (x100000_4 : List ByteArray) (x100000_5 : List S76) (x5_0 : Int) (x5_1 : Int) (x5_2 : List S43) (x5_3 : List S151) (x5_4 : Int) (x5_5 : Bool) (x5_6 : List S81), Mo (net_writer_edge.j0 k x6 x100000_1 x100000_2 x100000_3 x100000_4 x100000_5 x5_0 x5_1 x5_2 x5_3 x5_4 x5_5 x5_6) (net_writer_edge.j0 (k + 1) x6 x100000_1 x100000_2 x100000_3 x100000_4 x100000_5 x5_0 x5_1 x5_2 x5_3 x5_4 x5_5 x5_6)) ∧ (∀ (x6 : ByteArray) (x100000_1 : List Int) (x100000_2 : List ByteArray) (x100000_3 : List S86) (x100000_4 : List ByteArray) (x100000_5 : List S76) (x5_0 : Int) (x5_1 : Int) (x5_2 : List S43) (x5_3 : List S151) (x5_4 : Int) (x5_5 : Bool) (x5_6 : List S81), Mo (net_writer_edge.j1 k x6 x100000_1 x100000_2 x100000_3 x100000_4 x100000_5 x5_0 x5_1 x5_2 x5_3 x5_4 x5_5 x5_6) (net_writer_edge.j1 (k + 1) x6 x100000_1 x100000_2 x100000_3 x100000_4 x100000_5 x5_0 x5_1 x5_2 x5_3 x5_4 x5_5 x5_6)) ∧ (∀ (x6 : ByteArray) (x8 : List ByteArray) (x67 : List S81) (x68 : Int) (x69 : Int) (x100000_1 : List Int) (x100000_2 : List ByteArray) (x100000_3 : List S86) (x100000_4 : List ByteArray) (x100000_5 : List S76), Mo (net_writer_edge.l2 k x6 x8 x67 x68 x69 x100000_1 x100000_2 x100000_3 x100000_4 x100000_5) (net_writer_edge.l2 (k + 1) x6 x8 x67 x68 x69 x100000_1 x100000_2 x100000_3 x100000_4 x100000_5))
  | 0 => ⟨fun _ _ _ _ _ _ _ _ _ _ _ _ _ => by rw [net_writer_edge.j0]; exact mo_none, fun _ _ _ _ _ _ _ _ _ _ _ _ _ => by rw [net_writer_edge.j1]; exact mo_none, fun _ _ _ _ _ _ _ _ _ _ => by rw [net_writer_edge.l2]; exact mo_none⟩
  | k + 1 => by
    have ih := net_writer_edge.mos k
    exact ⟨fun x6 x100000_1 x100000_2 x100000_3 x100000_4 x100000_5 x5_0 x5_1 x5_2 x5_3 x5_4 x5_5 x5_6 => by rw [net_writer_edge.j0, net_writer_edge.j0]; exact (mo_ite (mo_ite (mo_ite (mo_ite (mo_ite (mo_ite (mo_ite (ih.2.1 ((x6 ++ ((⟨#[32, 115, 121, 110, 99, 32]⟩ : ByteArray) ++ (rdT .str x100000_4 (w64 (x5_4 - 1))))) ++ (⟨#[33]⟩ : ByteArray)) x100000_1 x100000_2 x100000_3 x100000_4 x100000_5 x5_0 x5_1 x5_2 x5_3 x5_4 x5_5 x5_6) mo_rfl) (mo_ite (ih.2.1 ((x6 ++ ((⟨#[32, 115, 121, 110, 99, 32]⟩ : ByteArray) ++ (rdT .str x100000_4 (w64 (x5_4 - 1))))) ++ (⟨#[63]⟩ : ByteArray)) x100000_1 x100000_2 x100000_3 x100000_4 x100000_5 x5_0 x5_1 x5_2 x5_3 x5_4 x5_5 x5_6) mo_rfl)) mo_rfl) mo_rfl) mo_rfl) mo_rfl) (ih.2.1 x6 x100000_1 x100000_2 x100000_3 x100000_4 x100000_5 x5_0 x5_1 x5_2 x5_3 x5_4 x5_5 x5_6)), fun x6 x100000_1 x100000_2 x100000_3 x100000_4 x100000_5 x5_0 x5_1 x5_2 x5_3 x5_4 x5_5 x5_6 => by rw [net_writer_edge.j1, net_writer_edge.j1]; exact (ih.2.2 x6 ([] : List ByteArray) x5_6 (x5_6.length : Int) 0 x100000_1 x100000_2 x100000_3 x100000_4 x100000_5), fun x6 x8 x67 x68 x69 x100000_1 x100000_2 x100000_3 x100000_4 x100000_5 => by rw [net_writer_edge.l2, net_writer_edge.l2]; exact (mo_ite (mo_ite (mo_ite (mo_ite (mo_ite (mo_ite (mo_ite (mo_bind mo_rfl fun t3 => (mo_ite (mo_ite (ih.2.2 x6 (x8 ++ [(((rdT .str x100000_2 (w64 (((rd_T81 x67 x69).f0) - 1))) ++ (⟨#[32, 58, 61, 32]⟩ : ByteArray)) ++ t3)]) x67 x68 (w64 (x69 + 1)) x100000_1 x100000_2 x100000_3 x100000_4 x100000_5) mo_rfl) mo_rfl)) mo_rfl) mo_rfl) mo_rfl) (mo_bind (net_Names.mo k x100000_2 x100000_3 x100000_4 x100000_5) fun t4 => (mo_bind (expr_Print.mo k ((rd_T81 x67 x69).f3) t4) fun t5 => (mo_ite (mo_ite (mo_ite (mo_ite (mo_ite (ih.2.2 x6 (x8 ++ [((((rd_T86 x100000_3 ((rd_T81 x67 x69).f2)).f0) ++ (⟨#[32, 58, 61, 32]⟩ : ByteArray)) ++ t5.1)]) x67 x68 (w64 (x69 + 1)) x100000_1 x100000_2 x100000_3 x100000_4 x100000_5) mo_rfl) mo_rfl) mo_rfl) mo_rfl) mo_rfl)))) mo_rfl) mo_rfl) (mo_ite (mo_bind mo_rfl fun t6 => (mo_ite (mo_ite (mo_bind (net_writer_line.mo k x100000_1 (⟨x100000_2, x100000_3, x100000_4, x100000_5⟩ : S26) ([(x6 ++ ((⟨#[32, 100, 111, 32]⟩ : ByteArray) ++ t6)), (⟨#[59]⟩ : ByteArray)] : List ByteArray)) fun t7 => mo_rfl) mo_rfl) mo_rfl)) (mo_bind (net_writer_line.mo k x100000_1 (⟨x100000_2, x100000_3, x100000_4, x100000_5⟩ : S26) ([x6, (⟨#[59]⟩ : ByteArray)] : List ByteArray)) fun t8 => mo_rfl)))⟩
theorem net_writer_edge.mo (k : Nat) (y0 : List Int) (y1 : S26) (l1_0 : ByteArray) (l1_1 : List S84) (l1_2 : List S79) (l2_0 : Int) (l2_1 : Int) (l2_2 : List S43) (l2_3 : List S151) (l2_4 : Int) (l2_5 : Bool) (l2_6 : List S81) : Mo (net_writer_edge.f k y0 y1 l1_0 l1_1 l1_2 l2_0 l2_1 l2_2 l2_3 l2_4 l2_5 l2_6) (net_writer_edge.f (k + 1) y0 y1 l1_0 l1_1 l1_2 l2_0 l2_1 l2_2 l2_3 l2_4 l2_5 l2_6) := by
  have ih := net_writer_edge.mos k
  unfold net_writer_edge.f
  exact (mo_ite (mo_ite (mo_ite (mo_ite (mo_ite (mo_ite (mo_ite (mo_bind (net_writer_conds.mo k y0 y1 l2_2 l2_3) fun t1 => (mo_ite (mo_bind mo_rfl fun t2 => (mo_ite (mo_ite (ih.1 (((((⟨#[32, 32, 101, 100, 103, 101, 32]⟩ : ByteArray) ++ ((rd_T84 l1_1 l2_0).f0)) ++ (⟨#[32, 45, 62, 32]⟩ : ByteArray)) ++ ((rd_T84 l1_1 l2_1).f0)) ++ ((⟨#[32, 119, 104, 101, 110, 32]⟩ : ByteArray) ++ t2)) t1.1.1 t1.1.2.f0 t1.1.2.f1 t1.1.2.f2 t1.1.2.f3 l2_0 l2_1 l2_2 l2_3 l2_4 l2_5 l2_6) mo_rfl) mo_rfl)) (ih.1 ((((⟨#[32, 32, 101, 100, 103, 101, 32]⟩ : ByteArray) ++ ((rd_T84 l1_1 l2_0).f0)) ++ (⟨#[32, 45, 62, 32]⟩ : ByteArray)) ++ ((rd_T84 l1_1 l2_1).f0)) t1.1.1 t1.1.2.f0 t1.1.2.f1 t1.1.2.f2 t1.1.2.f3 l2_0 l2_1 l2_2 l2_3 l2_4 l2_5 l2_6))) mo_rfl) mo_rfl) mo_rfl) mo_rfl) mo_rfl) mo_rfl) mo_rfl)
theorem net_Print.mos : ∀ k : Nat, (∀ (x1_0 : List ByteArray) (x1_1 : List S86) (x1_2 : List ByteArray) (x1_3 : List S76) (x21_1 : List Int) (x21_2 : List ByteArray) (x21_3 : List S86) (x21_4 : List ByteArray) (x21_5 : List S76), Mo (net_Print.j0 k x1_0 x1_1 x1_2 x1_3 x21_1 x21_2 x21_3 x21_4 x21_5) (net_Print.j0 (k + 1) x1_0 x1_1 x1_2 x1_3 x21_1 x21_2 x21_3 x21_4 x21_5)) ∧ (∀ (x33 : List S86) (x34 : Int) (x35 : Int) (x1_0 : List ByteArray) (x1_1 : List S86) (x1_2 : List ByteArray) (x1_3 : List S76) (x21_1 : List Int) (x21_2 : List ByteArray) (x21_3 : List S86) (x21_4 : List ByteArray) (x21_5 : List S76), Mo (net_Print.l1 k x33 x34 x35 x1_0 x1_1 x1_2 x1_3 x21_1 x21_2 x21_3 x21_4 x21_5) (net_Print.l1 (k + 1) x33 x34 x35 x1_0 x1_1 x1_2 x1_3 x21_1 x21_2 x21_3 x21_4 x21_5)) ∧ (∀ (x1_0 : List ByteArray) (x1_1 : List S86) (x1_2 : List ByteArray) (x1_3 : List S76) (x21_1 : List Int) (x21_2 : List ByteArray) (x21_3 : List S86) (x21_4 : List ByteArray) (x21_5 : List S76), Mo (net_Print.j2 k x1_0 x1_1 x1_2 x1_3 x21_1 x21_2 x21_3 x21_4 x21_5) (net_Print.j2 (k + 1) x1_0 x1_1 x1_2 x1_3 x21_1 x21_2 x21_3 x21_4 x21_5)) ∧ (∀ (x65 : List S76) (x66 : Int) (x67 : Int) (x21_1 : List Int) (x21_2 : List ByteArray) (x21_3 : List S86) (x21_4 : List ByteArray) (x21_5 : List S76), Mo (net_Print.l3 k x65 x66 x67 x21_1 x21_2 x21_3 x21_4 x21_5) (net_Print.l3 (k + 1) x65 x66 x67 x21_1 x21_2 x21_3 x21_4 x21_5)) ∧ (∀ (x65 : List S76) (x66 : Int) (x67 : Int) (x77 : List S84) (x78 : Int) (x79 : Int) (x21_1 : List Int) (x21_2 : List ByteArray) (x21_3 : List S86) (x21_4 : List ByteArray) (x21_5 : List S76) (x9_0 : ByteArray) (x9_1 : List S84) (x9_2 : List S79), Mo (net_Print.l4 k x65 x66 x67 x77 x78 x79 x21_1 x21_2 x21_3 x21_4 x21_5 x9_0 x9_1 x9_2) (net_Print.l4 (k + 1) x65 x66 x67 x77 x78 x79 x21_1 x21_2 x21_3 x21_4 x21_5 x9_0 x9_1 x9_2)) ∧ (∀ (x65 : List S76) (x66 : Int) (x67 : Int) (x88 : List S79) (x89 : Int) (x90 : Int) (x21_1 : List Int) (x21_2 : List ByteArray) (x21_3 : List S86) (x21_4 : List ByteArray) (x21_5 : List S76) (x9_0 : ByteArray) (x9_1 : List S84) (x9_2 : List S79), Mo (net_Print.l5 k x65 x66 x67 x88 x89 x90 x21_1 x21_2 x21_3 x21_4 x21_5 x9_0 x9_1 x9_2) (net_Print.l5 (k + 1) x65 x66 x67 x88 x89 x90 x21_1 x21_2 x21_3 x21_4 x21_5 x9_0 x9_1 x9_2))
  | 0 => ⟨fun _ _ _ _ _ _ _ _ _ => by rw [net_Print.j0]; exact mo_none, fun _ _ _ _ _ _ _ _ _ _ _ _ => by rw [net_Print.l1]; exact mo_none, fun _ _ _ _ _ _ _ _ _ => by rw [net_Print.j2]; exact mo_none, fun _ _ _ _ _ _ _ _ => by rw [net_Print.l3]; exact mo_none, fun _ _ _ _ _ _ _ _ _ _ _ _ _ _ => by rw [net_Print.l4]; exact mo_none, fun _ _ _ _ _ _ _ _ _ _ _ _ _ _ => by rw [net_Print.l5]; exact mo_none⟩
  | k + 1 => by
    have ih := net_Print.mos k
    exact ⟨fun x1_0 x1_1 x1_2 x1_3 x21_1 x21_2 x21_3 x21_4 x21_5 => by rw [net_Print.j0, net_Print.j0]; exact (ih.2.1 x1_1 (x1_1.length : Int) 0 x1_0 x1_1 x1_2 x1_3 x21_1 x21_2 x21_3 x21_4 x21_5), fun x33 x34 x35 x1_0 x1_1 x1_2 x1_3 x21_1 x21_2 x21_3 x21_4 x21_5 => by rw [net_Print.l1, net_Print.l1]; exact (mo_ite (mo_ite (mo_ite (mo_bind mo_rfl fun t4 => (mo_bind mo_rfl fun t5 => (mo_bind mo_rfl fun t6 => (mo_bind (net_writer_line.mo k x21_1 (⟨x21_2, x21_3, x21_4, x21_5⟩ : S26) ([(⟨#[105, 110, 116, 32]⟩ : ByteArray), (rd_T86 x33 x35).f0, (⟨#[32, 105, 110, 32]⟩ : ByteArray), t4, (⟨#[32, 46, 46, 32]⟩ : ByteArray), t5, (⟨#[32, 58, 61, 32]⟩ : ByteArray), t6, (⟨#[59]⟩ : ByteArray)] : List ByteArray)) fun t7 => (ih.2.1 x33 x34 (w64 (x35 + 1)) x1_0 x1_1 x1_2 x1_3 t7.1.1 t7.1.2.f0 t7.1.2.f1 t7.1.2.f2 t7.1.2.f3))))) mo_rfl) mo_rfl) (mo_ite (mo_bind mo_rfl fun t8 => (mo_bind (net_writer_line.mo k x21_1 (⟨x21_2, x21_3, x21_4, x21_5⟩ : S26) ([(⟨#[99, 104, 97, 110, 32]⟩ : ByteArray), t8, (⟨#[59]⟩ : ByteArray)] : List ByteArray)) fun t9 => (ih.2.2.1 x1_0 x1_1 x1_2 x1_3 t9.1.1 t9.1.2.f0 t9.1.2.f1 t9.1.2.f2 t9.1.2.f3))) (ih.2.2.1 x1_0 x1_1 x1_2 x1_3 x21_1 x21_2 x21_3 x21_4 x21_5))), fun x1_0 x1_1 x1_2 x1_3 x21_1 x21_2 x21_3 x21_4 x21_5 => by rw [net_Print.j2, net_Print.j2]; exact (ih.2.2.2.1 x1_3 (x1_3.length : Int) 0 x21_1 x21_2 x21_3 x21_4 x21_5), fun x65 x66 x67 x21_1 x21_2 x21_3 x21_4 x21_5 => by rw [net_Print.l3, net_Print.l3]; exact (mo_ite (mo_ite (mo_ite (mo_bind (net_writer_line.mo k x21_1 (⟨x21_2, x21_3, x21_4, x21_5⟩ : S26) ([(⟨#[97, 117, 116, 111, 32]⟩ : ByteArray), (rd_T76 x65 x67).f0, (⟨#[32, 123]⟩ : ByteArray)] : List ByteArray)) fun t10 => (ih.2.2.2.2.1 x65 x66 x67 ((rd_T76 x65 x67).f1) (((rd_T76 x65 x67).f1).length : Int) 0 t10.1.1 t10.1.2.f0 t10.1.2.f1 t10.1.2.f2 t10.1.2.f3 ((rd_T76 x65 x67).f0) ((rd_T76 x65 x67).f1) ((rd_T76 x65 x67).f2))) mo_rfl) mo_rfl) mo_rfl), fun x65 x66 x67 x77 x78 x79 x21_1 x21_2 x21_3 x21_4 x21_5 x9_0 x9_1 x9_2 => by rw [net_Print.l4, net_Print.l4]; exact (mo_ite (mo_ite (mo_ite (mo_bind (net_writer_loc.mo k x21_1 (⟨x21_2, x21_3, x21_4, x21_5⟩ : S26) ((rd_T84 x77 x79).f0) ((rd_T84 x77 x79).f1) ((rd_T84 x77 x79).f2)) fun t11 => (ih.2.2.2.2.1 x65 x66 x67 x77 x78 (w64 (x79 + 1)) t11.1.1 t11.1.2.f0 t11.1.2.f1 t11.1.2.f2 t11.1.2.f3 x9_0 x9_1 x9_2)) mo_rfl) mo_rfl) (ih.2.2.2.2.2 x65 x66 x67 x9_2 (x9_2.length : Int) 0 x21_1 x21_2 x21_3 x21_4 x21_5 x9_0 x9_1 x9_2)), fun x65 x66 x67 x88 x89 x90 x21_1 x21_2 x21_3 x21_4 x21_5 x9_0 x9_1 x9_2 => by rw [net_Print.l5, net_Print.l5]; exact (mo_ite (mo_ite (mo_ite (mo_bind (net_writer_edge.mo k x21_1 (⟨x21_2, x21_3, x21_4, x21_5⟩ : S26) x9_0 x9_1 x9_2 ((rd_T79 x88 x90).f0) ((rd_T79 x88 x90).f1) ((rd_T79 x88 x90).f2) ((rd_T79 x88 x90).f3) ((rd_T79 x88 x90).f4) ((rd_T79 x88 x90).f5) ((rd_T79 x88 x90).f6)) fun t12 => (ih.2.2.2.2.2 x65 x66 x67 x88 x89 (w64 (x90 + 1)) t12.1.1 t12.1.2.f0 t12.1.2.f1 t12.1.2.f2 t12.1.2.f3 x9_0 x9_1 x9_2)) mo_rfl) mo_rfl) (mo_bind (net_writer_line.mo k x21_1 (⟨x21_2, x21_3, x21_4, x21_5⟩ : S26) ([(⟨#[125]⟩ : ByteArray)] : List ByteArray)) fun t13 => (ih.2.2.2.1 x65 x66 (w64 (x67 + 1)) t13.1.1 t13.1.2.f0 t13.1.2.f1 t13.1.2.f2 t13.1.2.f3)))⟩
theorem net_Print.mo (k : Nat) (l0_0 : List ByteArray) (l0_1 : List S86) (l0_2 : List ByteArray) (l0_3 : List S76) : Mo (net_Print.f k l0_0 l0_1 l0_2 l0_3) (net_Print.f (k + 1) l0_0 l0_1 l0_2 l0_3) := by
  have ih := net_Print.mos k
  unfold net_Print.f
  exact (mo_bind (net_Whole.mo k l0_0 l0_1 l0_2 l0_3) fun t1 => (mo_ite (mo_ite (mo_bind mo_rfl fun t2 => (mo_bind (net_writer_line.mo k ([] : List Int) (⟨l0_0, l0_1, l0_2, l0_3⟩ : S26) ([(⟨#[99, 108, 111, 99, 107, 32]⟩ : ByteArray), t2, (⟨#[59]⟩ : ByteArray)] : List ByteArray)) fun t3 => (ih.1 l0_0 l0_1 l0_2 l0_3 t3.1.1 t3.1.2.f0 t3.1.2.f1 t3.1.2.f2 t3.1.2.f3))) (ih.1 l0_0 l0_1 l0_2 l0_3 ([] : List Int) l0_0 l0_1 l0_2 l0_3)) mo_rfl))
theorem slices_IndexFunc_api_Auto_api_Auto_at194.mos : ∀ k : Nat, (∀ (x0 : List S76) (x1 : ByteArray) (x7 : Int) (x8 : Int), Mo (slices_IndexFunc_api_Auto_api_Auto_at194.l0 k x0 x1 x7 x8) (slices_IndexFunc_api_Auto_api_Auto_at194.l0 (k + 1) x0 x1 x7 x8))
  | 0 => fun _ _ _ _ => by rw [slices_IndexFunc_api_Auto_api_Auto_at194.l0]; exact mo_none
  | k + 1 => by
    have ih := slices_IndexFunc_api_Auto_api_Auto_at194.mos k
    exact fun x0 x1 x7 x8 => by rw [slices_IndexFunc_api_Auto_api_Auto_at194.l0, slices_IndexFunc_api_Auto_api_Auto_at194.l0]; exact (mo_ite (mo_ite (mo_ite (mo_bind mo_rfl fun t1 => (mo_ite mo_rfl (ih x0 x1 x7 (w64 (x8 + 1))))) mo_rfl) mo_rfl) mo_rfl)
theorem slices_IndexFunc_api_Auto_api_Auto_at194.mo (k : Nat) (a0 : List S76) (a1 : ByteArray) : Mo (slices_IndexFunc_api_Auto_api_Auto_at194.f k a0 a1) (slices_IndexFunc_api_Auto_api_Auto_at194.f (k + 1) a0 a1) := by
  have ih := slices_IndexFunc_api_Auto_api_Auto_at194.mos k
  unfold slices_IndexFunc_api_Auto_api_Auto_at194.f
  exact (ih a0 a1 (a0.length : Int) 0)
theorem net_Find.mo (k : Nat) (l0_0 : List ByteArray) (l0_1 : List S86) (l0_2 : List ByteArray) (l0_3 : List S76) (a1 : ByteArray) : Mo (net_Find.f k l0_0 l0_1 l0_2 l0_3 a1) (net_Find.f (k + 1) l0_0 l0_1 l0_2 l0_3 a1) := by
  unfold net_Find.f
  exact (mo_bind (slI.mo k l0_0 a1) fun t1 => (mo_ite mo_rfl (mo_bind (net_Names.mo k l0_0 l0_1 l0_2 l0_3) fun t2 => (mo_bind (slI.mo k t2 a1) fun t3 => (mo_ite mo_rfl (mo_bind (slI.mo k l0_2 a1) fun t4 => (mo_ite mo_rfl (mo_bind (slices_IndexFunc_api_Auto_api_Auto_at194.mo k l0_3 a1) fun t5 => mo_rfl))))))))
theorem gnomonlaw10_live.mo (k : Nat) : Mo (gnomonlaw10_live.f k) (gnomonlaw10_live.f (k + 1)) := by
  unfold gnomonlaw10_live.f
  exact (mo_bind mo_rfl fun t1 => (mo_bind (net_Print.mo k t1.1 t1.2.1 t1.2.2.1 t1.2.2.2) fun t2 => (mo_bind mo_rfl fun t3 => (mo_bind (net_Find.mo k t3.1 t3.2.1 t3.2.2.1 t3.2.2.2 (⟨#[65]⟩ : ByteArray)) fun t4 => (mo_ite (mo_ite (mo_ite (mo_ite (mo_bind mo_rfl fun t5 => (mo_bind (net_Right.mo k t5.1 t5.2.1 t5.2.2.1 t5.2.2.2) fun t6 => (mo_ite (mo_bind (net_Right.mo k ([] : List ByteArray) ([] : List S86) ([] : List ByteArray) ([] : List S76)) fun t7 => mo_rfl) mo_rfl))) mo_rfl) mo_rfl) mo_rfl) mo_rfl)))))
end Go.Proofs.YtbjkfkifkglplaaGreatDoor.Q
