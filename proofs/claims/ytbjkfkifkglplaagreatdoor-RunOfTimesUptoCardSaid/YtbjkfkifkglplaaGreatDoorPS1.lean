/-
  Numbers of 128 bits: the program's and the document's steps.
-/
import Derived.Test.YtbjkfkifkglplaaGreatDoorPS0
import Derived.Test.YtbjkfkifkglplaaGreatDoorT3
set_option linter.unusedSectionVars false
set_option linter.unusedVariables false
set_option linter.unusedSimpArgs false
set_option maxRecDepth 100000
namespace Go.Proofs.YtbjkfkifkglplaaGreatDoor.Q
open Go Go.Den Go.RowKit Go.Proofs
def Ev {R : Type} (F : Nat → Option R) (v : R) : Prop := ∃ K, ∀ k, K ≤ k → F k = some v
theorem Ev.now {R : Type} (v : R) : Ev (fun _ => some v) v := ⟨0, fun _ _ => rfl⟩
theorem Ev.eq {R : Type} {x : Option R} {v : R} (h : x = some v) : Ev (fun _ => x) v := ⟨0, fun _ _ => h⟩
theorem Ev.congr {R : Type} {f g : Nat → Option R} {v : R} (h : ∀ k, f k = g k) (hg : Ev g v) : Ev f v := by
  obtain ⟨K, hK⟩ := hg
  exact ⟨K, fun k hk => (h k).trans (hK k hk)⟩
theorem Ev.step {R : Type} {f g : Nat → Option R} {v : R} (h : ∀ k, f (k + 1) = g k) (hg : Ev g v) : Ev f v := by
  obtain ⟨K, hK⟩ := hg
  refine ⟨K + 1, fun k hk => ?_⟩
  obtain ⟨j, rfl⟩ : ∃ j, k = j + 1 := ⟨k - 1, by omega⟩
  rw [h, hK j (by omega)]
theorem Ev.bind {A R : Type} {f : Nat → Option A} {g : Nat → A → Option R} {a : A} {v : R} (h : Ev f a) (hg : Ev (fun k => g k a) v) : Ev (fun k => (f k).bind (g k)) v := by
  obtain ⟨K, hK⟩ := h
  obtain ⟨L, hL⟩ := hg
  refine ⟨max K L, fun k hk => ?_⟩
  show (f k).bind (g k) = _
  rw [hK k (by omega), Option.bind_some]
  exact hL k (by omega)
theorem w64_id {x : Int} (h : -9223372036854775808 ≤ x ∧ x ≤ 9223372036854775807) : w64 x = x := by
  show RowKit.wrap64 _ = _
  unfold RowKit.wrap64; omega
theorem cmp_is (a b : Int) : cmp_Compare_uint64.f a b = some (if a < b then -1 else if a > b then 1 else 0) := by
  unfold cmp_Compare_uint64.f cmp_isNaN_uint64.f
  simp only [Option.bind_some, decide_true, Bool.not_true, Bool.false_eq_true, if_false]
  repeat' split
  all_goals rfl
theorem or_ev (x y : Int) : Ev (fun k => cmp_Or_int.f k [x, y]) (if x = 0 then y else x) := by
  unfold cmp_Or_int.f
  by_cases hx : x = 0
  · rw [if_pos hx]
    refine Ev.step (g := fun k => cmp_Or_int.l0 k 0 [x, y] 2 1) (fun k => by rw [cmp_Or_int.l0, if_pos (by simp), if_pos (by omega), if_pos (by simp), if_pos (by simpa [rd] using hx), show w64 ((0 : Int) + 1) = 1 from w64_id (x := 1) (by omega)]; rfl) ?_
    by_cases hy : y = 0
    · refine Ev.step (g := fun k => cmp_Or_int.l0 k 0 [x, y] 2 2) (fun k => by rw [cmp_Or_int.l0, if_pos (by omega), if_pos (by omega), if_pos (by simp), if_pos (by simpa [rd] using hy), show w64 ((1 : Int) + 1) = 2 from w64_id (x := 2) (by omega)]) ?_
      exact Ev.step (g := fun _ => some y) (fun k => by rw [cmp_Or_int.l0, if_neg (by omega), hy]) (Ev.now _)
    · exact Ev.step (g := fun _ => some y) (fun k => by rw [cmp_Or_int.l0, if_pos (by omega), if_pos (by omega), if_pos (by simp), if_neg (by simpa [rd] using hy)]; rfl) (Ev.now _)
  · rw [if_neg hx]
    exact Ev.step (g := fun _ => some x) (fun k => by rw [cmp_Or_int.l0, if_pos (by simp), if_pos (by omega), if_pos (by simp), if_neg (by simpa [rd] using hx)]; rfl) (Ev.now _)
theorem compare_ev (x y : Nat) : Ev (fun k => rat_size_compare.f k (hiN x) (loN x) (hiN y) (loN y)) (if x < y then -1 else if x > y then 1 else 0) := by
  unfold rat_size_compare.f
  simp only [cmp_is, Option.bind_some]
  refine Ev.bind (or_ev _ _) (Ev.congr (fun k => ?_) (Ev.now _))
  congr 1
  unfold hiN loN
  repeat' split
  all_goals first | rfl | (exfalso; omega)
theorem sub_is {x y : Nat} {c : Nat} (hx : x < 18446744073709551616) (hy : y < 18446744073709551616) (hc : c ≤ 1) : math_bits_Sub64.f (x : Int) (y : Int) (c : Int) = some ((((x + 18446744073709551616 - y - c) % 18446744073709551616 : Nat) : Int), ((if x < y + c then 1 else 0 : Nat) : Int)) := by
  unfold math_bits_Sub64.f
  rw [if_pos (by omega)]
  simp only [Int.toNat_natCast]
  try rfl
  try (split <;> rfl)
theorem less_is {x y : Nat} (hx : x < 340282366920938463463374607431768211456) (h : y ≤ x) : rat_size_less.f (hiN x) (loN x) (hiN y) (loN y) = some (hiN (x - y), loN (x - y)) := by
  unfold rat_size_less.f hiN loN
  rw [show (0 : Int) = ((0 : Nat) : Int) from rfl, sub_is (by omega) (by omega) (by omega), Option.bind_some, sub_is (by omega) (by omega) (by split <;> omega), Option.bind_some]
  congr 1
  rw [Prod.mk.injEq]
  constructor
  · split <;> omega
  · omega
theorem minus_is {x y : Nat} (hx : x < 340282366920938463463374607431768211456) (h : y ≤ x) : gnomonref02_minus.f (hiN x) (loN x) (hiN y) (loN y) = some (hiN (x - y), loN (x - y)) := less_is hx h
theorem plus_is {x y : Nat} (h : x + y < 340282366920938463463374607431768211456) : rat_size_plus.f (hiN x) (loN x) (hiN y) (loN y) = some (hiN (x + y), loN (x + y)) := by
  unfold rat_size_plus.f math_bits_Add64.f hiN loN
  rw [if_pos (by omega), Option.bind_some, if_pos (by dsimp only; omega), Option.bind_some]
  congr 1
  rw [Prod.mk.injEq]
  constructor <;> (dsimp only; omega)
theorem rplus_is {x y : Nat} (h : x + y < 340282366920938463463374607431768211456) : gnomonref02_plus.f (hiN x) (loN x) (hiN y) (loN y) = some (hiN (x + y), loN (x + y)) := plus_is h
theorem below_is (x y : Nat) : gnomonref02_below.f (hiN x) (loN x) (hiN y) (loN y) = some (decide (x < y)) := by
  unfold gnomonref02_below.f hiN loN
  repeat' split
  all_goals (congr 1; first | (apply decide_eq_decide.2; omega) | (symm; apply decide_eq_true; omega) | (symm; apply decide_eq_false; omega))
theorem zero_is (x : Nat) : rat_size_isZero.f (hiN x) (loN x) = some (decide (x = 0)) := by
  unfold rat_size_isZero.f hiN loN
  repeat' split
  all_goals (congr 1; first | (apply decide_eq_decide.2; omega) | (symm; apply decide_eq_true; omega) | (symm; apply decide_eq_false; omega))
section
variable {s t : Nat} (hs : s < 340282366920938463463374607431768211456) (ht : 0 < t) (h2 : t ≤ 170141183460469231731687303715884105728)
include hs ht h2
theorem over_l (e4 f4 e5 f5 : Int) : ∀ n : Nat, n ≤ 128 → Ev (fun k => rat_size_over.l0 k ((n : Int) - 1) (hiN s) (loN s) (hiN t) (loN t) e4 f4 e5 f5 (hiN (s / 2 ^ n / t * 2 ^ n)) (loN (s / 2 ^ n / t * 2 ^ n)) (hiN (s / 2 ^ n % t)) (loN (s / 2 ^ n % t))) (hiN (s / t), loN (s / t), hiN (s % t), loN (s % t))
  | 0, _ => by
    refine Ev.step (g := fun _ => some (hiN (s / t), loN (s / t), hiN (s % t), loN (s % t))) (fun k => ?_) (Ev.now _)
    rw [rat_size_over.l0, if_neg (by omega)]
    simp
  | n + 1, hn => by
    have ih := over_l e4 f4 e5 f5 n (by omega)
    have en : ((n + 1 : Nat) : Int) - 1 = (n : Int) := by omega
    have ew : w64 ((n : Int) - 1) = (n : Int) - 1 := w64_id (by omega)
    have hb : s / 2 ^ n % 2 < 2 := Nat.mod_lt _ (by decide)
    obtain ⟨d1, d2⟩ := div_step (T := t) (A := s / 2 ^ (n + 1)) (b := s / 2 ^ n % 2) ht hb
    rw [← div_bit] at d1 d2
    have hr : s / 2 ^ (n + 1) % t < t := Nat.mod_lt _ ht
    have hle : s / 2 ^ n / t * 2 ^ n ≤ s := Nat.le_trans (Nat.mul_le_mul_right _ (Nat.div_le_self _ _)) (Nat.div_mul_le_self _ _)
    have e2 : ∀ X, 2 * X * 2 ^ n = X * 2 ^ (n + 1) := fun X => by rw [Nat.pow_succ]; ac_rfl
    have e3 : ∀ X, (2 * X + 1) * 2 ^ n = X * 2 ^ (n + 1) + 2 ^ n := fun X => by rw [Nat.add_mul, e2, Nat.one_mul]
    generalize hb' : s / 2 ^ n % 2 = b at *
    generalize hr' : s / 2 ^ (n + 1) % t = r at *
    generalize hX : s / 2 ^ (n + 1) / t = X at *
    have hj : Ev (fun k => rat_size_over.j1 k (n : Int) (b : Int) (hiN s) (loN s) (hiN t) (loN t) e4 f4 e5 f5 (hiN (X * 2 ^ (n + 1))) (loN (X * 2 ^ (n + 1))) (hiN (2 * r)) (loN (2 * r))) (hiN (s / t), loN (s / t), hiN (s % t), loN (s % t)) := by
      refine Ev.step (fun k => by rw [rat_size_over.j1, put_lo hb, hi_put hb]) (Ev.bind (compare_ev (2 * r + b) t) ?_)
      by_cases hlt : 2 * r + b < t
      · obtain ⟨g1, g2⟩ := d1 hlt
        rw [g1, g2, e2] at ih
        exact Ev.congr (fun k => by rw [if_pos hlt, if_neg (by decide), ew]) ih
      · obtain ⟨g1, g2⟩ := d2 hlt
        rw [g1, g2, e3] at ih
        rw [g2, e3] at hle
        have hc : (if 2 * r + b < t then (-1 : Int) else if 2 * r + b > t then 1 else 0) ≥ 0 := by rw [if_neg hlt]; split <;> decide
        refine Ev.congr (fun k => by rw [if_pos hc, less_is (by omega) (by omega), Option.bind_some]) ?_
        by_cases h63 : (n : Int) > 63
        · obtain ⟨q1, q2⟩ := q_hi (X := X) (i := n) (by omega) (by omega) (by omega)
          have e64 : w64 ((n : Int) - 64) = ((n - 64 : Nat) : Int) := by rw [w64_id (by omega)]; omega
          exact Ev.congr (fun k => by rw [if_pos h63, e64, if_pos (by omega), q1, q2, ew]) ih
        · obtain ⟨q1, q2⟩ := q_lo (X := X) (i := n) (by omega)
          exact Ev.congr (fun k => by rw [if_neg h63, if_pos (by omega), q1, q2, ew]) ih
    rw [en]
    by_cases h63 : (n : Int) > 63
    · have e64 : w64 ((n : Int) - 64) = ((n - 64 : Nat) : Int) := by rw [w64_id (by omega)]; omega
      exact Ev.step (fun k => by rw [rat_size_over.l0, if_pos (by omega), if_pos (by omega), if_pos h63, e64, if_pos (by omega), bit_hi hs (by omega) (by omega), hb', shift_hi (by omega), shift_lo]) hj
    · exact Ev.step (fun k => by rw [rat_size_over.l0, if_pos (by omega), if_pos (by omega), if_neg h63, bit_lo (by omega), hb', shift_hi (by omega), shift_lo]) hj
theorem over_ev : Ev (fun k => rat_size_over.f k (hiN s) (loN s) (hiN t) (loN t)) (hiN (s / t), loN (s / t), hiN (s % t), loN (s % t)) := by
  have h := over_l hs ht h2 0 0 0 0 128 (Nat.le_refl _)
  have e0 : s / 2 ^ 128 = 0 := Nat.div_eq_of_lt hs
  rw [e0, Nat.zero_div, Nat.zero_mul, Nat.zero_mod] at h
  exact h
theorem divide_l (e4 f4 e5 f5 : Int) : ∀ n : Nat, n ≤ 128 → Ev (fun k => gnomonref02_divide.l0 k ((n : Int) - 1) (hiN s) (loN s) (hiN t) (loN t) e4 f4 e5 f5 (hiN (s / 2 ^ n / t)) (loN (s / 2 ^ n / t)) (hiN (s / 2 ^ n % t)) (loN (s / 2 ^ n % t))) (hiN (s / t), loN (s / t), hiN (s % t), loN (s % t))
  | 0, _ => by
    refine Ev.step (g := fun _ => some (hiN (s / t), loN (s / t), hiN (s % t), loN (s % t))) (fun k => ?_) (Ev.now _)
    rw [gnomonref02_divide.l0, if_neg (by omega)]
    simp
  | n + 1, hn => by
    have ih := divide_l e4 f4 e5 f5 n (by omega)
    have en : ((n + 1 : Nat) : Int) - 1 = (n : Int) := by omega
    have ew : w64 ((n : Int) - 1) = (n : Int) - 1 := w64_id (by omega)
    have hb : s / 2 ^ n % 2 < 2 := Nat.mod_lt _ (by decide)
    obtain ⟨d1, d2⟩ := div_step (T := t) (A := s / 2 ^ (n + 1)) (b := s / 2 ^ n % 2) ht hb
    rw [← div_bit] at d1 d2
    have hr : s / 2 ^ (n + 1) % t < t := Nat.mod_lt _ ht
    have hq : s / 2 ^ (n + 1) / t < 170141183460469231731687303715884105728 := by
      have g1 : s / 2 ^ (n + 1) / t ≤ s / 2 ^ (n + 1) := Nat.div_le_self _ _
      have g2 : s / 2 ^ (n + 1) ≤ s / 2 := by
        rw [Nat.pow_succ, Nat.mul_comm, ← Nat.div_div_eq_div_mul]
        exact Nat.div_le_self _ _
      omega
    generalize hb' : s / 2 ^ n % 2 = b at *
    generalize hr' : s / 2 ^ (n + 1) % t = r at *
    generalize hX : s / 2 ^ (n + 1) / t = X at *
    have htop : ¬ hiN r / 9223372036854775808 = 1 := by unfold hiN; omega
    have hj : Ev (fun k => gnomonref02_divide.j1 k (n : Int) (b : Int) (hiN s) (loN s) (hiN t) (loN t) e4 f4 e5 f5 (hiN X) (loN X) (hiN r) (loN r)) (hiN (s / t), loN (s / t), hiN (s % t), loN (s % t)) := by
      have hp : Wr.or .u64 (loN (2 * X)) 1 = loN (2 * X + 1) := put_lo (r := X) (b := 1) (by decide)
      have hp2 : hiN (2 * X) = hiN (2 * X + 1) := hi_put (by decide)
      refine Ev.step (fun k => by rw [gnomonref02_divide.j1, if_neg htop, shift_hi (r := r) (by omega), shift_lo (r := r), put_lo hb, hi_put (r := r) hb, below_is, Option.bind_some, shift_hi (r := X) hq, shift_lo (r := X), hp]) ?_
      by_cases hlt : 2 * r + b < t
      · obtain ⟨g1, g2⟩ := d1 hlt
        rw [g1, g2] at ih
        exact Ev.congr (fun k => by rw [decide_eq_true hlt, if_neg (by decide), ew]) ih
      · obtain ⟨g1, g2⟩ := d2 hlt
        rw [g1, g2] at ih
        exact Ev.congr (fun k => by rw [decide_eq_false hlt, if_pos (by decide), minus_is (by omega) (by omega), Option.bind_some, ew, hp2]) ih
    rw [en]
    have et : Int.tmod (n : Int) 64 = ((n % 64 : Nat) : Int) := by rw [Int.tmod_eq_emod_of_nonneg (by omega)]; omega
    by_cases h63 : (n : Int) ≥ 64
    · have e64 : wk .u64 (w64 ((n : Int) - 64)) = ((n - 64 : Nat) : Int) := by rw [w64_id (by omega), wk_mod]; omega
      exact Ev.step (fun k => by rw [gnomonref02_divide.l0, if_pos (by omega), et, wk_nat (by omega), if_pos (by omega), if_pos h63, e64, if_pos (by omega), bit_hi hs (by omega) (by omega), hb']) hj
    · exact Ev.step (fun k => by rw [gnomonref02_divide.l0, if_pos (by omega), et, wk_nat (by omega), if_pos (by omega), if_neg h63, show n % 64 = n by omega, bit_lo (by omega), hb']) hj
theorem divide_ev : Ev (fun k => gnomonref02_divide.f k (hiN s) (loN s) (hiN t) (loN t)) (hiN (s / t), loN (s / t), hiN (s % t), loN (s % t)) := by
  have h := divide_l hs ht h2 0 0 0 0 128 (Nat.le_refl _)
  have e0 : s / 2 ^ 128 = 0 := Nat.div_eq_of_lt hs
  rw [e0, Nat.zero_div, Nat.zero_mod] at h
  exact h
end
theorem gcd_step (a b : Nat) : Nat.gcd a b = Nat.gcd b (a % b) := by
  rw [Nat.gcd_comm a b, Nat.gcd_rec b a, Nat.gcd_comm]
theorem common_ev (e f : Int) : ∀ (m b a : Nat), b ≤ m → a < 340282366920938463463374607431768211456 → b ≤ 170141183460469231731687303715884105728 → Ev (fun k => rat_common.l0 k (hiN a) (loN a) (hiN b) (loN b) e f) (hiN (Nat.gcd a b), loN (Nat.gcd a b))
  | m, 0, a, _, _, _ => by
    rw [Nat.gcd_zero_right]
    exact Ev.step (g := fun _ => some (hiN a, loN a)) (fun k => by rw [rat_common.l0, zero_is, Option.bind_some, if_neg (by decide)]) (Ev.now _)
  | m + 1, b + 1, a, hm, ha, hb => by
    rw [gcd_step]
    refine Ev.step (fun k => by rw [rat_common.l0, zero_is, Option.bind_some, if_pos (by simp)]) (Ev.bind (over_ev ha (by omega) hb) ?_)
    have := Nat.mod_lt a (show b + 1 > 0 by omega)
    exact common_ev e f m (a % (b + 1)) (b + 1) (by omega) (by omega) (by omega)
theorem rcommon_ev (e f : Int) : ∀ (m b a : Nat), b ≤ m → a < 340282366920938463463374607431768211456 → b ≤ 170141183460469231731687303715884105728 → Ev (fun k => gnomonref02_common.l0 k (hiN a) (loN a) (hiN b) (loN b) e f) (hiN (Nat.gcd a b), loN (Nat.gcd a b))
  | m, 0, a, _, _, _ => by
    rw [Nat.gcd_zero_right]
    exact Ev.step (g := fun _ => some (hiN a, loN a)) (fun k => by rw [gnomonref02_common.l0, if_pos (by rfl)]) (Ev.now _)
  | m + 1, b + 1, a, hm, ha, hb => by
    rw [gcd_step]
    have hne : ¬ ((hiN (b + 1), loN (b + 1)) : S277) = (0, 0) := fun h => by
      rw [Prod.mk.injEq] at h
      unfold hiN loN at h
      omega
    refine Ev.step (fun k => by rw [gnomonref02_common.l0, if_neg hne]) (Ev.bind (divide_ev ha (by omega) hb) ?_)
    have := Nat.mod_lt a (show b + 1 > 0 by omega)
    exact rcommon_ev e f m (a % (b + 1)) (b + 1) (by omega) (by omega) (by omega)
end Go.Proofs.YtbjkfkifkglplaaGreatDoor.Q
