/- Part of the proof: M64. -/
import Derived.Test.YtkmleeeekbdomaaGreatDoorPR2
import Derived.Laws.MathBits
set_option linter.unusedSectionVars false
set_option linter.unusedVariables false
set_option linter.unusedSimpArgs false
set_option maxRecDepth 100000
namespace Go.Proofs.YtkmleeeekbdomaaGreatDoor.Q
open Go Go.Den Go.RowKit Go.Proofs
noncomputable section
theorem uw {n : Int} (h : 0 ≤ n) (h2 : n < 18446744073709551616) : wk .u64 n = n := by
  show IntKind.u64.wrap n = n
  simp [IntKind.wrap, IntKind.signed, IntKind.bits]; omega
theorem low32 {n : Int} (h : 0 ≤ n) (h2 : n < 18446744073709551616) : Wr.and .u64 n 4294967295 = n % 4294967296 := by
  show IntKind.u64.wrap _ = _
  exact and_low32 n h h2
theorem mul_bound {a b : Int} (h0 : 0 ≤ a) (h1 : a ≤ 4294967295) (h2 : 0 ≤ b) (h3 : b ≤ 4294967295) : 0 ≤ a * b ∧ a * b ≤ 18446744065119617025 :=
  ⟨Int.mul_nonneg h0 h2, by have := Int.mul_le_mul h1 h3 h2 (by decide); simpa using this⟩
theorem mul64_eq {x y : Int} (hx : 0 ≤ x ∧ x < 18446744073709551616) (hy : 0 ≤ y ∧ y < 18446744073709551616) : math_bits_Mul64.f x y = some (x * y / 18446744073709551616, x * y % 18446744073709551616) := by
  obtain ⟨a, b, ha, hb, rfl⟩ : ∃ a b : Int, (0 ≤ a ∧ a ≤ 4294967295) ∧ (0 ≤ b ∧ b ≤ 4294967295) ∧ x = a * 4294967296 + b := ⟨x / 4294967296, x % 4294967296, by omega, by omega, by omega⟩
  obtain ⟨c, d, hc, hd, rfl⟩ : ∃ c d : Int, (0 ≤ c ∧ c ≤ 4294967295) ∧ (0 ≤ d ∧ d ≤ 4294967295) ∧ y = c * 4294967296 + d := ⟨y / 4294967296, y % 4294967296, by omega, by omega, by omega⟩
  have e1 : (a * 4294967296 + b) / 4294967296 = a := by omega
  have e2 : (c * 4294967296 + d) / 4294967296 = c := by omega
  have e3 : (a * 4294967296 + b) % 4294967296 = b := by omega
  have e4 : (c * 4294967296 + d) % 4294967296 = d := by omega
  have hp : (a * 4294967296 + b) * (c * 4294967296 + d) = (a * c) * 18446744073709551616 + (a * d + b * c) * 4294967296 + b * d := by
    rw [Int.add_mul, Int.mul_add, Int.mul_add]
    have h1 : a * 4294967296 * (c * 4294967296) = (a * c) * 18446744073709551616 := by
      rw [Int.mul_assoc, Int.mul_left_comm 4294967296 c, ← Int.mul_assoc]; rfl
    have h2 : a * 4294967296 * d = (a * d) * 4294967296 := by rw [Int.mul_assoc, Int.mul_comm 4294967296 d, ← Int.mul_assoc]
    have h3 : b * (c * 4294967296) = (b * c) * 4294967296 := by rw [← Int.mul_assoc]
    rw [h1, h2, h3]
    omega
  have w : wk .u64 ((a * 4294967296 + b) * (c * 4294967296 + d)) = (a * 4294967296 + b) * (c * 4294967296 + d) % 18446744073709551616 := by
    show IntKind.u64.wrap _ = _
    simp [IntKind.wrap, IntKind.signed, IntKind.bits]
  have p1 := mul_bound ha.1 ha.2 hc.1 hc.2
  have p2 := mul_bound ha.1 ha.2 hd.1 hd.2
  have p3 := mul_bound hb.1 hb.2 hc.1 hc.2
  have p4 := mul_bound hb.1 hb.2 hd.1 hd.2
  unfold math_bits_Mul64.f
  rw [w, e1, e2, low32 (by omega) (by omega), low32 (by omega) (by omega), e3, e4, hp]
  generalize a * c = A at *
  generalize a * d = B at *
  generalize b * c = C at *
  generalize b * d = D at *
  rw [uw (n := A) (by omega) (by omega), uw (n := B) (by omega) (by omega), uw (n := C) (by omega) (by omega), uw (n := D) (by omega) (by omega), uw (n := B + D / 4294967296) (by omega) (by omega), low32 (by omega) (by omega),
    uw (n := A + (B + D / 4294967296) / 4294967296) (by omega) (by omega), uw (n := (B + D / 4294967296) % 4294967296 + C) (by omega) (by omega), uw (by omega) (by omega)]
  congr 2
  omega
end
end Go.Proofs.YtkmleeeekbdomaaGreatDoor.Q
