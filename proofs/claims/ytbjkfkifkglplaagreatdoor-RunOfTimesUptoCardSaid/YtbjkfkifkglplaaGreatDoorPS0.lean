/-
  Numbers of 128 bits: by what the two words hold.
-/
import Derived.Test.YtbjkfkifkglplaaGreatDoorD4f
import Derived.Laws.MathBits
set_option linter.unusedSectionVars false
set_option linter.unusedVariables false
set_option linter.unusedSimpArgs false
set_option maxRecDepth 100000
namespace Go.Proofs.YtbjkfkifkglplaaGreatDoor.Q
open Go Go.Den Go.RowKit Go.Proofs
def hiN (n : Nat) : Int := ((n / 18446744073709551616 : Nat) : Int)
def loN (n : Nat) : Int := ((n % 18446744073709551616 : Nat) : Int)
theorem wk_mod (x : Int) : wk .u64 x = x % 18446744073709551616 := by
  show IntKind.u64.wrap x = _
  simp [IntKind.wrap, IntKind.bits, IntKind.signed]
theorem wk_nat {n : Nat} (h : n < 18446744073709551616) : wk .u64 (n : Int) = (n : Int) := by rw [wk_mod]; omega
theorem bv_nat {n : Nat} (h : n < 18446744073709551616) : (BitVec.ofInt 64 (n : Int)).toNat = n := by rw [BitVec.toNat_ofInt]; omega
theorem or_nat {x y : Nat} (hx : x < 18446744073709551616) (hy : y < 18446744073709551616) : Wr.or .u64 (x : Int) (y : Int) = ((x ||| y : Nat) : Int) := by
  show IntKind.u64.wrap ((BitVec.ofInt 64 x ||| BitVec.ofInt 64 y).toNat) = _
  rw [BitVec.toNat_or, bv_nat hx, bv_nat hy, show IntKind.u64.wrap (((x ||| y : Nat)) : Int) = _ from wk_mod _]
  have := Nat.or_lt_two_pow (n := 64) hx hy
  omega
theorem and_one_nat {x : Nat} (hx : x < 18446744073709551616) : Wr.and .u64 (x : Int) 1 = ((x % 2 : Nat) : Int) := by
  show IntKind.u64.wrap ((BitVec.ofInt 64 x &&& BitVec.ofInt 64 1).toNat) = _
  rw [BitVec.toNat_and, bv_nat hx, show (BitVec.ofInt 64 1).toNat = 1 by decide, Nat.and_one_is_mod, show IntKind.u64.wrap ((x % 2 : Nat) : Int) = _ from wk_mod _]
  omega
/-- A bit behind zeros. -/
theorem or_low {m j b : Nat} (hb : b < 2 ^ j) (h : 2 ^ j * m + b < 18446744073709551616) : Wr.or .u64 ((2 ^ j * m : Nat) : Int) (b : Int) = ((2 ^ j * m + b : Nat) : Int) := by
  rw [or_nat (by omega) (by omega), ← Nat.two_pow_add_eq_or_of_lt hb]
theorem pow_lt {j : Nat} (h : j < 64) : 2 ^ j < 18446744073709551616 := by
  have := Nat.pow_lt_pow_right (a := 2) (by decide) h
  simpa using this
theorem shl_one {j : Nat} (h : j < 64) : Wr.shl .u64 1 (j : Int) = ((2 ^ j : Nat) : Int) := by
  show IntKind.u64.wrap (1 * ((Nat.pow 2 (min (Int.toNat (j : Int)) 64) : Nat) : Int)) = _
  rw [Int.toNat_natCast, Nat.min_eq_left (by omega), Int.one_mul]
  exact wk_nat (pow_lt h)
theorem shr_nat {x j : Nat} (h : j < 64) : Wr.shr .u64 (x : Int) (j : Int) = ((x / 2 ^ j : Nat) : Int) := by
  show (x : Int) / ((Nat.pow 2 (min (Int.toNat (j : Int)) 64) : Nat) : Int) = _
  rw [Int.toNat_natCast, Nat.min_eq_left (by omega)]
  rfl
theorem shift_hi {r : Nat} (h : r < 170141183460469231731687303715884105728) : Wr.or .u64 (wk .u64 (hiN r * 2)) (loN r / 9223372036854775808) = hiN (2 * r) := by
  have e1 : wk .u64 (hiN r * 2) = ((2 ^ 1 * (r / 18446744073709551616) : Nat) : Int) := by rw [wk_mod]; unfold hiN; omega
  have e2 : loN r / 9223372036854775808 = ((r % 18446744073709551616 / 9223372036854775808 : Nat) : Int) := by unfold loN; omega
  rw [e1, e2, or_low (by omega) (by omega)]
  unfold hiN; omega
theorem shift_lo {r : Nat} : wk .u64 (loN r * 2) = loN (2 * r) := by rw [wk_mod]; unfold loN; omega
theorem put_lo {r b : Nat} (hb : b < 2) : Wr.or .u64 (loN (2 * r)) (b : Int) = loN (2 * r + b) := by
  have e1 : loN (2 * r) = ((2 ^ 1 * (r % 9223372036854775808) : Nat) : Int) := by unfold loN; omega
  rw [e1, or_low (by omega) (by omega)]
  unfold loN; omega
theorem hi_put {r b : Nat} (hb : b < 2) : hiN (2 * r) = hiN (2 * r + b) := by unfold hiN; omega
theorem bit_hi {s i : Nat} (hs : s < 340282366920938463463374607431768211456) (hi : 64 ≤ i) (h2 : i < 128) : Wr.and .u64 (Wr.shr .u64 (hiN s) ((i - 64 : Nat) : Int)) 1 = ((s / 2 ^ i % 2 : Nat) : Int) := by
  unfold hiN
  rw [shr_nat (by omega)]
  have e : s / 18446744073709551616 / 2 ^ (i - 64) = s / 2 ^ i := by
    rw [Nat.div_div_eq_div_mul, show (18446744073709551616 : Nat) = 2 ^ 64 by decide, ← Nat.pow_add, show 64 + (i - 64) = i by omega]
  have hb : s / 18446744073709551616 / 2 ^ (i - 64) < 18446744073709551616 := Nat.lt_of_le_of_lt (Nat.div_le_self _ _) (by omega)
  rw [and_one_nat hb, e]
theorem bit_lo {s i : Nat} (hi : i < 64) : Wr.and .u64 (Wr.shr .u64 (loN s) (i : Int)) 1 = ((s / 2 ^ i % 2 : Nat) : Int) := by
  unfold loN
  rw [shr_nat hi, and_one_nat (Nat.lt_of_le_of_lt (Nat.div_le_self _ _) (by omega)), ← Nat.toNat_testBit, ← Nat.toNat_testBit, show (18446744073709551616 : Nat) = 2 ^ 64 by decide, Nat.testBit_mod_two_pow, decide_eq_true hi, Bool.true_and]
theorem q_hi {X i : Nat} (hi : 64 ≤ i) (h2 : i < 128) (h : X * 2 ^ (i + 1) + 2 ^ i < 340282366920938463463374607431768211456) : Wr.or .u64 (hiN (X * 2 ^ (i + 1))) (Wr.shl .u64 1 ((i - 64 : Nat) : Int)) = hiN (X * 2 ^ (i + 1) + 2 ^ i) ∧ loN (X * 2 ^ (i + 1)) = loN (X * 2 ^ (i + 1) + 2 ^ i) := by
  obtain ⟨j, rfl⟩ : ∃ j, i = j + 64 := ⟨i - 64, by omega⟩
  have e0 : (2 : Nat) ^ (j + 64) = 2 ^ j * 18446744073709551616 := by rw [Nat.pow_add]
  have e1 : X * 2 ^ (j + 64 + 1) = (2 ^ (j + 1) * X) * 18446744073709551616 := by
    rw [show j + 64 + 1 = (j + 1) + 64 by omega, Nat.pow_add _ (j + 1) 64, ← Nat.mul_assoc, Nat.mul_comm X]
  rw [e0, e1] at h ⊢
  have hj : 2 ^ (j + 1) * X + 2 ^ j < 18446744073709551616 := by omega
  rw [show j + 64 - 64 = j by omega, shl_one (by omega), show hiN (2 ^ (j + 1) * X * 18446744073709551616) = ((2 ^ (j + 1) * X : Nat) : Int) by unfold hiN; omega, or_low (Nat.pow_lt_pow_right (by decide) (by omega)) hj]
  unfold hiN loN
  constructor <;> omega
theorem q_lo {X i : Nat} (hi : i < 64) : Wr.or .u64 (loN (X * 2 ^ (i + 1))) (Wr.shl .u64 1 (i : Int)) = loN (X * 2 ^ (i + 1) + 2 ^ i) ∧ hiN (X * 2 ^ (i + 1)) = hiN (X * 2 ^ (i + 1) + 2 ^ i) := by
  have e64 : (18446744073709551616 : Nat) = 2 ^ (i + 1) * 2 ^ (63 - i) := by rw [← Nat.pow_add, show i + 1 + (63 - i) = 64 by omega]
  have e1 : X * 2 ^ (i + 1) % 18446744073709551616 = 2 ^ (i + 1) * (X % 2 ^ (63 - i)) := by
    rw [e64, Nat.mul_comm X, Nat.mul_mod_mul_left]
  have hY : X % 2 ^ (63 - i) + 1 ≤ 2 ^ (63 - i) := Nat.mod_lt _ (Nat.pow_pos (by decide))
  have h3 : 2 ^ (i + 1) * (X % 2 ^ (63 - i) + 1) ≤ 18446744073709551616 := by
    have := Nat.mul_le_mul_left (2 ^ (i + 1)) hY
    rw [← e64] at this
    exact this
  rw [Nat.mul_add, Nat.mul_one] at h3
  have h4 : 2 ^ i < 2 ^ (i + 1) := Nat.pow_lt_pow_right (by decide) (by omega)
  have e2 : loN (X * 2 ^ (i + 1)) = ((2 ^ (i + 1) * (X % 2 ^ (63 - i)) : Nat) : Int) := by unfold loN; rw [e1]
  rw [shl_one hi, e2, or_low h4 (by omega)]
  unfold hiN loN
  generalize X * 2 ^ (i + 1) = q at *
  generalize 2 ^ (i + 1) * (X % 2 ^ (63 - i)) = z at *
  generalize 2 ^ i = y at *
  constructor <;> omega
/-- One step of a division by bits. -/
theorem div_step {T A b : Nat} (hT : 0 < T) (hb : b < 2) : (2 * (A % T) + b < T → (2 * A + b) % T = 2 * (A % T) + b ∧ (2 * A + b) / T = 2 * (A / T)) ∧ (¬ 2 * (A % T) + b < T → (2 * A + b) % T = 2 * (A % T) + b - T ∧ (2 * A + b) / T = 2 * (A / T) + 1) := by
  have h0 := Nat.div_add_mod A T
  have hr := Nat.mod_lt A hT
  have e : 2 * A + b = (2 * (A % T) + b) + T * (2 * (A / T)) := by
    have : T * (2 * (A / T)) = 2 * (T * (A / T)) := Nat.mul_left_comm ..
    omega
  constructor
  · intro h
    rw [e, Nat.add_mul_mod_self_left, Nat.add_mul_div_left _ _ hT, Nat.mod_eq_of_lt h, Nat.div_eq_of_lt h]
    exact ⟨rfl, by omega⟩
  · intro h
    have e2 : 2 * A + b = (2 * (A % T) + b - T) + T * (2 * (A / T) + 1) := by rw [Nat.mul_add, Nat.mul_one]; omega
    have hlt : 2 * (A % T) + b - T < T := by omega
    rw [e2, Nat.add_mul_mod_self_left, Nat.add_mul_div_left _ _ hT, Nat.mod_eq_of_lt hlt, Nat.div_eq_of_lt hlt]
    exact ⟨rfl, by omega⟩
theorem div_bit (s i : Nat) : s / 2 ^ i = 2 * (s / 2 ^ (i + 1)) + s / 2 ^ i % 2 := by
  rw [Nat.pow_succ, ← Nat.div_div_eq_div_mul]; omega
end Go.Proofs.YtbjkfkifkglplaaGreatDoor.Q
