/- Part of the proof: PR1. -/
import Derived.Test.YtkmleeeekbdomaaGreatDoorT4
set_option linter.unusedSectionVars false
set_option linter.unusedVariables false
set_option linter.unusedSimpArgs false
set_option maxRecDepth 100000
namespace Go.Proofs.YtkmleeeekbdomaaGreatDoor.Q
open Go Go.Den Go.Proofs
/-- A number of 64 bits. -/
def U (x : Int) : Prop := 0 ≤ x ∧ x < 18446744073709551616
def val (a b : Int) : Int := a * 18446744073709551616 + b
theorem wk_mod (x : Int) : wk .u64 x = x % 18446744073709551616 := by
  show IntKind.u64.wrap x = _
  simp [IntKind.wrap, IntKind.bits, IntKind.signed]
theorem wk_U (x : Int) : U (wk .u64 x) := by
  rw [wk_mod]; unfold U; omega
theorem or_U (x y : Int) : U (Wr.or .u64 x y) := wk_U _
theorem and_one {x : Int} (h : 0 ≤ x) : Wr.and .u64 x 1 = x % 2 := by
  show IntKind.u64.wrap ((BitVec.ofInt 64 x &&& BitVec.ofInt 64 1).toNat) = _
  obtain ⟨n, rfl⟩ := Int.eq_ofNat_of_zero_le h
  have h1 : (BitVec.ofInt 64 (n : Int) &&& BitVec.ofInt 64 1).toNat = n % 2 := by
    rw [BitVec.toNat_and]
    have : (BitVec.ofInt 64 1).toNat = 1 := by decide
    rw [this, Nat.and_one_is_mod]
    have : (BitVec.ofInt 64 (n : Int)).toNat = n % 18446744073709551616 := by
      rw [BitVec.toNat_ofInt]; omega
    rw [this]; omega
  rw [h1, show IntKind.u64.wrap ((n % 2 : Nat) : Int) = _ from wk_mod _]
  omega
theorem or_bit {x b : Int} (hx : U x) (h2 : x % 2 = 0) (hb : b = 0 ∨ b = 1) : Wr.or .u64 x b = x + b := by
  show IntKind.u64.wrap ((BitVec.ofInt 64 x ||| BitVec.ofInt 64 b).toNat) = _
  unfold U at hx
  obtain ⟨n, rfl⟩ := Int.eq_ofNat_of_zero_le hx.1
  obtain ⟨m, rfl⟩ : ∃ m, n = 2 * m := ⟨n / 2, by omega⟩
  obtain ⟨c, rfl⟩ : ∃ c : Nat, b = (c : Int) := ⟨b.toNat, by omega⟩
  have hc : c < 2 := by omega
  have e1 : (BitVec.ofInt 64 ((2 * m : Nat) : Int)).toNat = 2 * m := by rw [BitVec.toNat_ofInt]; omega
  have e2 : (BitVec.ofInt 64 (c : Int)).toNat = c := by rw [BitVec.toNat_ofInt]; omega
  have h1 : (BitVec.ofInt 64 ((2 * m : Nat) : Int) ||| BitVec.ofInt 64 (c : Int)).toNat = 2 * m + c := by
    rw [BitVec.toNat_or, e1, e2]
    have := Nat.two_pow_add_eq_or_of_lt (i := 1) (b := c) (by simpa using hc) m
    simp only [Nat.pow_one] at this
    omega
  rw [h1, show IntKind.u64.wrap ((2 * m + c : Nat) : Int) = _ from wk_mod _]
  omega
theorem cmp_is {a b : Int} : cmp_Compare_uint64.f a b = some (if a < b then -1 else if a > b then 1 else 0) := by
  unfold cmp_Compare_uint64.f cmp_isNaN_uint64.f
  simp only [Option.bind_some, decide_true, Bool.not_true, Bool.false_eq_true, if_false]
  repeat' split
  all_goals rfl
theorem or_is (x y : Int) : cmp_Or_int.g [x, y] = some (if x = 0 then y else x) := by
  unfold cmp_Or_int.g
  rw [if_pos (by simp)]
  simp only [cmp_Or_int.L0]
  by_cases hx : x = 0
  · by_cases hy : y = 0
    · simp [hx, hy]
    · simp [hx, hy]
  · simp [hx]
theorem compare_is {a b c d : Int} (hb : U b) (hd : U d) : rat_size_compare.g a b c d = some (if val a b < val c d then -1 else if val a b > val c d then 1 else 0) := by
  unfold rat_size_compare.g
  rw [cmp_is, Option.bind_some, cmp_is, Option.bind_some, or_is, Option.bind_some]
  congr 1
  unfold U val at *
  repeat' split
  all_goals first | rfl | omega
theorem sub_is {x y c : Int} (hx : U x) (hy : U y) (hc : c = 0 ∨ c = 1) : ∃ r o, math_bits_Sub64.f x y c = some (r, o) ∧ U r ∧ (o = 0 ∨ o = 1) ∧ r = x - y - c + o * 18446744073709551616 := by
  unfold U at *
  unfold math_bits_Sub64.f
  rw [if_pos (by omega)]
  refine ⟨_, _, rfl, ?_, ?_, ?_⟩
  · omega
  · split <;> simp
  · by_cases h : x.toNat < y.toNat + c.toNat
    · rw [if_pos h]; omega
    · rw [if_neg h]; omega
theorem less_is {a b c d : Int} (ha : U a) (hb : U b) (hc : U c) (hd : U d) : ∃ x y, rat_size_less.f a b c d = some (x, y) ∧ U x ∧ U y ∧ (val c d ≤ val a b → val x y = val a b - val c d) := by
  obtain ⟨r, o, e1, u1, h1, f1⟩ := sub_is hb hd (.inl rfl)
  obtain ⟨s, p, e2, u2, h2, f2⟩ := sub_is ha hc h1
  unfold rat_size_less.f
  rw [e1, Option.bind_some, e2, Option.bind_some]
  refine ⟨_, _, rfl, u2, u1, fun h => ?_⟩
  unfold val U at *
  dsimp only at *
  omega
theorem add_is {x y c : Int} (hx : U x) (hy : U y) (hc : c = 0 ∨ c = 1) : ∃ r o, math_bits_Add64.f x y c = some (r, o) ∧ U r ∧ (o = 0 ∨ o = 1) ∧ r = x + y + c - o * 18446744073709551616 := by
  unfold U at *
  unfold math_bits_Add64.f
  rw [if_pos (by omega)]
  exact ⟨_, _, rfl, by omega, by omega, by omega⟩
theorem plus_is {a b c d : Int} (ha : U a) (hb : U b) (hc : U c) (hd : U d) : ∃ x y, rat_size_plus.f a b c d = some (x, y) ∧ U x ∧ U y ∧ (val a b + val c d < 340282366920938463463374607431768211456 → val x y = val a b + val c d) := by
  obtain ⟨r, o, e1, u1, h1, f1⟩ := add_is hb hd (.inl rfl)
  obtain ⟨s, p, e2, u2, h2, f2⟩ := add_is ha hc h1
  unfold rat_size_plus.f
  rw [e1, Option.bind_some, e2, Option.bind_some]
  refine ⟨_, _, rfl, u2, u1, fun h => ?_⟩
  unfold val U at *
  dsimp only at *
  omega
end Go.Proofs.YtkmleeeekbdomaaGreatDoor.Q
