/-
  Compare and Sub: the program's and the document's answers are the same.
-/
import Derived.Test.YtbjkfkifkglplaaGreatDoorPS2
set_option linter.unusedSectionVars false
set_option linter.unusedVariables false
set_option linter.unusedSimpArgs false
set_option maxRecDepth 100000
namespace Go.Proofs.YtbjkfkifkglplaaGreatDoor.Q
open Go Go.Den Go.RowKit Go.Proofs
theorem low32 {n : Int} (h : 0 ≤ n) (h2 : n < 18446744073709551616) : Wr.and .u64 n 4294967295 = n % 4294967296 := by
  show IntKind.u64.wrap _ = _
  exact and_low32 n h h2
theorem uw {n : Int} (h : 0 ≤ n) (h2 : n < 18446744073709551616) : wk .u64 n = n := by rw [wk_mod]; omega
theorem mul_bound {a b : Int} (h0 : 0 ≤ a) (h1 : a ≤ 4294967295) (h2 : 0 ≤ b) (h3 : b ≤ 4294967295) : 0 ≤ a * b ∧ a * b ≤ 18446744065119617025 :=
  ⟨Int.mul_nonneg h0 h2, by have := Int.mul_le_mul h1 h3 h2 (by decide); simpa using this⟩
theorem mul64_eq {x y : Int} (hx : 0 ≤ x ∧ x < 18446744073709551616) (hy : 0 ≤ y ∧ y < 18446744073709551616) : math_bits_Mul64.f x y = some (x * y / 18446744073709551616, x * y % 18446744073709551616) := by
  obtain ⟨a, b, ha, hb, rfl⟩ : ∃ a b : Int, (0 ≤ a ∧ a ≤ 4294967295) ∧ (0 ≤ b ∧ b ≤ 4294967295) ∧ x = a * 4294967296 + b := ⟨x / 4294967296, x % 4294967296, by omega, by omega, by omega⟩
  obtain ⟨c, d, hc, hd, rfl⟩ : ∃ c d : Int, (0 ≤ c ∧ c ≤ 4294967295) ∧ (0 ≤ d ∧ d ≤ 4294967295) ∧ y = c * 4294967296 + d := ⟨y / 4294967296, y % 4294967296, by omega, by omega, by omega⟩
  have e1 : (a * 4294967296 + b) / 4294967296 = a := by omega
  have e2 : (c * 4294967296 + d) / 4294967296 = c := by omega
  have e3 : (a * 4294967296 + b) % 4294967296 = b := by omega
  have e4 : (c * 4294967296 + d) % 4294967296 = d := by omega
  have hp : (a * 4294967296 + b) * (c * 4294967296 + d) = (a * c) * 18446744073709551616 + (a * d + b * c) * 4294967296 + b * d := by
    rw [Int.add_mul, Int.mul_add, Int.mul_add]
    have h1 : a * 4294967296 * (c * 4294967296) = (a * c) * 18446744073709551616 := by
      rw [Int.mul_assoc, Int.mul_left_comm 4294967296 c, ← Int.mul_assoc]; rfl
    have h2 : a * 4294967296 * d = (a * d) * 4294967296 := by rw [Int.mul_assoc, Int.mul_comm 4294967296 d, ← Int.mul_assoc]
    have h3 : b * (c * 4294967296) = (b * c) * 4294967296 := by rw [← Int.mul_assoc]
    rw [h1, h2, h3]
    omega
  have w : wk .u64 ((a * 4294967296 + b) * (c * 4294967296 + d)) = (a * 4294967296 + b) * (c * 4294967296 + d) % 18446744073709551616 := wk_mod _
  have p1 := mul_bound ha.1 ha.2 hc.1 hc.2
  have p2 := mul_bound ha.1 ha.2 hd.1 hd.2
  have p3 := mul_bound hb.1 hb.2 hc.1 hc.2
  have p4 := mul_bound hb.1 hb.2 hd.1 hd.2
  unfold math_bits_Mul64.f
  rw [w, e1, e2, low32 (by omega) (by omega), low32 (by omega) (by omega), e3, e4, hp]
  generalize a * c = A at *
  generalize a * d = B at *
  generalize b * c = C at *
  generalize b * d = D at *
  rw [uw (n := A) (by omega) (by omega), uw (n := B) (by omega) (by omega), uw (n := C) (by omega) (by omega), uw (n := D) (by omega) (by omega), uw (n := B + D / 4294967296) (by omega) (by omega), low32 (by omega) (by omega),
    uw (n := A + (B + D / 4294967296) / 4294967296) (by omega) (by omega), uw (n := (B + D / 4294967296) % 4294967296 + C) (by omega) (by omega), uw (by omega) (by omega)]
  congr 2
  omega
theorem mul_nat {x y : Nat} (hx : x < 18446744073709551616) (hy : y < 18446744073709551616) : math_bits_Mul64.f (x : Int) (y : Int) = some (hiN (x * y), loN (x * y)) := by
  rw [mul64_eq (by omega) (by omega)]
  rfl
theorem rmul_nat {x y : Nat} (hx : x < 18446744073709551616) (hy : y < 18446744073709551616) : gnomonref02_mul.f (x : Int) (y : Int) = some (hiN (x * y), loN (x * y)) := by
  unfold gnomonref02_mul.f
  rw [mul_nat hx hy]; rfl
theorem prod_le {x y : Nat} (hx : x ≤ 9223372036854775808) (hy : y ≤ 9223372036854775807) : x * y ≤ 85070591730234615856620279821087277056 :=
  Nat.le_trans (Nat.mul_le_mul hx hy) (by decide)
theorem lo_small {x : Nat} (h : x < 18446744073709551616) : loN x = (x : Int) := by unfold loN; omega
theorem times_is {a : Int} {B : Nat} (ha : R64 a) (hb : 0 < B) (hB : B ≤ 9223372036854775807) : rat_times.f a (B : Int) = some (((hiN (a.natAbs * B), loN (a.natAbs * B)) : S269), decide (a < 0)) := by
  have ha1 := abs_le ha
  have hRB : R64 (B : Int) := by unfold R64; omega
  unfold rat_times.f
  rw [of_is ha, Option.bind_some, of_is hRB, Option.bind_some]
  simp only [S269.f1]
  rw [lo_small (x := a.natAbs) (by omega), lo_small (x := (B : Int).natAbs) (by omega), mul_nat (by omega) (by omega), Option.bind_some, Int.natAbs_natCast]
  rw [decide_eq_false (show ¬ (B : Int) < 0 by omega)]
  by_cases h0 : a < 0
  · have hp : 0 < a.natAbs * B := Nat.mul_pos (by omega) hb
    rw [decide_eq_true h0, if_neg (by decide), zero_is, Option.bind_some, decide_eq_false (by omega)]
    rfl
  · rw [decide_eq_false h0, if_pos rfl]
theorem opposite_is (Q : Nat) (sQ : Bool) : rat_wide_opposite.f ((hiN Q, loN Q) : S269) sQ = some (((hiN Q, loN Q) : S269), !sQ && decide (Q ≠ 0)) := by
  unfold rat_wide_opposite.f
  simp only [S269.f0, S269.f1]
  cases sQ with
  | true => rfl
  | false =>
    rw [if_pos (by decide), zero_is, Option.bind_some]
    by_cases h : Q = 0 <;> simp [h]
def dif (P Q : Nat) (sP o : Bool) : Nat × Bool := if sP = o then (P + Q, sP) else if P = Q then (0, false) else if P > Q then (P - Q, sP) else (Q - P, o)
theorem dif_same (P Q : Nat) (o : Bool) : dif P Q o o = (P + Q, o) := by unfold dif; rw [if_pos rfl]
theorem dif_lt {P Q : Nat} {sP o : Bool} (h : ¬ sP = o) (g : P < Q) : dif P Q sP o = (Q - P, o) := by unfold dif; rw [if_neg h, if_neg (by omega), if_neg (by omega)]
theorem dif_eq {P Q : Nat} {sP o : Bool} (h : ¬ sP = o) (g : P = Q) : dif P Q sP o = (0, false) := by unfold dif; rw [if_neg h, if_pos g]
theorem dif_gt {P Q : Nat} {sP o : Bool} (h : ¬ sP = o) (g : Q < P) : dif P Q sP o = (P - Q, sP) := by unfold dif; rw [if_neg h, if_neg (by omega), if_pos g]
theorem sum_ev {P Q : Nat} (hP : P ≤ 85070591730234615856620279821087277056) (hQ : Q ≤ 85070591730234615856620279821087277056) (sP o : Bool) : Ev (fun k => rat_wide_sum.f k ((hiN P, loN P) : S269) sP ((hiN Q, loN Q) : S269) o) (((hiN (dif P Q sP o).1, loN (dif P Q sP o).1) : S269), (dif P Q sP o).2) := by
  unfold rat_wide_sum.f
  simp only [S269.f0, S269.f1]
  by_cases h : sP = o
  · subst h
    rw [dif_same]
    exact Ev.congr (fun k => by rw [if_pos rfl, plus_is (by omega), Option.bind_some]) (Ev.now _)
  refine Ev.congr (fun k => by rw [if_neg h]) (Ev.bind (compare_ev P Q) ?_)
  rcases Nat.lt_trichotomy P Q with g | g | g
  · rw [dif_lt h g, if_pos g]
    exact Ev.congr (fun k => by rw [if_neg (by decide), if_neg (by decide), less_is (by omega) (by omega), Option.bind_some]) (Ev.now _)
  · rw [dif_eq h g, if_neg (by omega : ¬ P < Q), if_neg (by omega : ¬ P > Q)]
    exact Ev.congr (fun k => by rw [if_pos rfl]; rfl) (Ev.now _)
  · rw [dif_gt h g, if_neg (by omega : ¬ P < Q), if_pos (by omega : P > Q)]
    exact Ev.congr (fun k => by rw [if_neg (by decide), if_pos rfl, less_is (by omega) (by omega), Option.bind_some]) (Ev.now _)
/-- How two products with signs stand. -/
def cmpS (P Q : Nat) : Bool → Bool → Int
  | true, true => if Q < P then -1 else if P < Q then 1 else 0
  | true, false => -1
  | false, true => 1
  | false, false => if P < Q then -1 else if Q < P then 1 else 0
theorem dif_cmp {P Q : Nat} : ∀ {sa sb : Bool}, (sa = true → 0 < P) → (sb = true → 0 < Q) → (if (dif P Q sa (!sb && decide (Q ≠ 0))).1 = 0 then (0 : Int) else if (dif P Q sa (!sb && decide (Q ≠ 0))).2 = true then -1 else 1) = cmpS P Q sa sb := by
  intro sa sb h1 h2
  have key : ∀ o : Bool, o = (!sb && decide (Q ≠ 0)) → (if (dif P Q sa o).1 = 0 then (0 : Int) else if (dif P Q sa o).2 = true then -1 else 1) = cmpS P Q sa sb := by
    intro o ho
    have ho' : o = true ↔ (sb = false ∧ Q ≠ 0) := by rw [ho]; cases sb <;> simp
    clear ho
    by_cases he : sa = o
    · subst he
      rw [dif_same]
      dsimp only
      cases sa <;> cases sb <;> simp only [cmpS, true_implies, Bool.false_eq_true, false_implies, if_true, if_false, true_and, true_iff, false_iff, reduceCtorEq, false_and, iff_false, not_true_eq_false, Decidable.not_not] at * <;> (repeat' split) <;> first | rfl | omega
    · rcases Nat.lt_trichotomy P Q with g | g | g
      · rw [dif_lt he g]
        dsimp only
        cases sa <;> cases sb <;> cases o <;> first | exact absurd rfl he | (simp only [cmpS, true_implies, Bool.false_eq_true, false_implies, if_true, if_false, true_and, true_iff, false_iff, reduceCtorEq, false_and, iff_false, not_true_eq_false, Decidable.not_not] at * <;> (repeat' split) <;> first | rfl | omega)
      · rw [dif_eq he g]
        dsimp only
        cases sa <;> cases sb <;> cases o <;> first | exact absurd rfl he | (simp only [cmpS, true_implies, Bool.false_eq_true, false_implies, if_true, if_false, true_and, true_iff, false_iff, reduceCtorEq, false_and, iff_false, not_true_eq_false, Decidable.not_not] at * <;> (repeat' split) <;> first | rfl | omega)
      · rw [dif_gt he g]
        dsimp only
        cases sa <;> cases sb <;> cases o <;> first | exact absurd rfl he | (simp only [cmpS, true_implies, Bool.false_eq_true, false_implies, if_true, if_false, true_and, true_iff, false_iff, reduceCtorEq, false_and, iff_false, not_true_eq_false, Decidable.not_not] at * <;> (repeat' split) <;> first | rfl | omega)
  exact key _ rfl
section
variable {a : Int} {A : Nat} {b : Int} {B : Nat} (ha : R64 a) (hA : 0 < A) (hA2 : A ≤ 9223372036854775807) (hb : R64 b) (hB : 0 < B) (hB2 : B ≤ 9223372036854775807)
include ha hA hA2 hb hB hB2
theorem both_ev : Ev (fun k => rat_both.f k a (A : Int) b (B : Int)) (sRight a A && sRight b B) := by
  unfold rat_both.f
  refine Ev.bind (right_ev ha (by unfold R64; omega)) ?_
  cases sRight a A with
  | true => exact Ev.congr (fun k => by rw [if_pos rfl]) (Ev.bind (right_ev hb (by unfold R64; omega)) (Ev.now _))
  | false => exact Ev.congr (fun k => by rw [if_neg Bool.false_ne_true, Bool.false_and]) (Ev.now _)
/-- What the program's difference is. -/
def dP (a : Int) (A : Nat) (b : Int) (B : Nat) : Nat × Bool := dif (a.natAbs * B) (b.natAbs * A) (decide (a < 0)) (!decide (b < 0) && decide (b.natAbs * A ≠ 0))
theorem compare_val : Ev (fun k => rat_Compare.f k a (A : Int) b (B : Int)) (if (sRight a A && sRight b B) = true then (if (dP a A b B).1 = 0 then 0 else if (dP a A b B).2 = true then -1 else 1) else 0) := by
  have ha1 := abs_le ha
  have hb1 := abs_le hb
  unfold rat_Compare.f
  refine Ev.bind (both_ev ha hA hA2 hb hB hB2) ?_
  cases (sRight a A && sRight b B) with
  | false => exact Ev.congr (fun k => by rw [if_pos (show (!false) = true from rfl), if_neg Bool.false_ne_true]) (Ev.now _)
  | true =>
    refine Ev.congr (fun k => by rw [if_neg (by decide), times_is ha hB hB2, Option.bind_some, times_is hb hA hA2, Option.bind_some, opposite_is, Option.bind_some]) (Ev.bind (sum_ev (prod_le ha1 hB2) (prod_le hb1 hA2) _ _) ?_)
    refine Ev.eq ?_
    show (rat_size_isZero.f (hiN (dP a A b B).1) (loN (dP a A b B).1)).bind _ = _
    rw [zero_is, Option.bind_some, if_pos rfl]
    by_cases h0 : (dP a A b B).1 = 0
    · rw [if_pos h0, if_pos (decide_eq_true h0)]
    · rw [if_neg h0, decide_eq_false h0, if_neg Bool.false_ne_true]
      show (if (dP a A b B).2 = true then some (-1) else some 1) = _
      split <;> rfl
theorem rcompare_val : Ev (fun k => gnomonref02_Compare.f k a (A : Int) b (B : Int)) (if (sRight a A && sRight b B) = true then (if (dP a A b B).1 = 0 then 0 else if (dP a A b B).2 = true then -1 else 1) else 0) := by
  have ha1 := abs_le ha
  have hb1 := abs_le hb
  have hRA : R64 (A : Int) := by unfold R64; omega
  have hRB : R64 (B : Int) := by unfold R64; omega
  unfold gnomonref02_Compare.f
  refine Ev.bind (rright_ev ha hRA) ?_
  cases sRight a A with
  | false => exact Ev.congr (fun k => by rw [if_pos (show (!false) = true from rfl), Bool.false_and, if_neg Bool.false_ne_true]) (Ev.now _)
  | true =>
  refine Ev.congr (fun k => by rw [if_neg (by decide)]) (Ev.bind (rright_ev hb hRB) ?_)
  cases sRight b B with
  | false => exact Ev.congr (fun k => by rw [if_pos (show (!false) = true from rfl), Bool.and_false, if_neg Bool.false_ne_true]) (Ev.now _)
  | true =>
  refine Ev.congr (fun k => by rw [if_neg (by decide)]) ?_
  refine Ev.step (fun k => by rw [gnomonref02_Compare.j0, size_is ha, Option.bind_some, wk_nat (n := B) (by omega), rmul_nat (by omega) (by omega), Option.bind_some, size_is hb, Option.bind_some, wk_nat (n := A) (by omega), rmul_nat (by omega) (by omega), Option.bind_some]) ?_
  rw [if_pos (by decide)]
  unfold dP
  have zP : a < 0 → 0 < a.natAbs * B := fun h => Nat.mul_pos (by omega) hB
  have zQ : b < 0 → 0 < b.natAbs * A := fun h => Nat.mul_pos (by omega) hA
  generalize a.natAbs * B = P at *
  generalize b.natAbs * A = Q at *
  rw [dif_cmp (fun h => zP (of_decide_eq_true h)) (fun h => zQ (of_decide_eq_true h))]
  have j2f : ∀ X Y : Nat, a ≥ 0 ∧ b < 0 → Ev (fun k => gnomonref02_Compare.j2 k false a (A : Int) b (B : Int) (hiN X) (loN X) (hiN Y) (loN Y)) 1 := fun X Y h => Ev.step (g := fun _ => some 1) (fun k => by rw [gnomonref02_Compare.j2, if_neg Bool.false_ne_true, if_pos h.1, if_pos h.2]) (Ev.now _)
  have j2g : ∀ X Y : Nat, ¬ (a ≥ 0 ∧ b < 0) → Ev (fun k => gnomonref02_Compare.j2 k false a (A : Int) b (B : Int) (hiN X) (loN X) (hiN Y) (loN Y)) (if Y < X then 1 else 0) := fun X Y h => by
    refine Ev.step (g := fun _ => if Y < X then some 1 else some 0) (fun k => ?_) (Ev.eq (by split <;> rfl))
    rw [gnomonref02_Compare.j2, if_neg Bool.false_ne_true]
    by_cases g : a ≥ 0
    · rw [if_pos g, if_neg (fun e => h ⟨g, e⟩), below_is, Option.bind_some]
      by_cases c : Y < X <;> simp [c]
    · rw [if_neg g, below_is, Option.bind_some]
      by_cases c : Y < X <;> simp [c]
  have j2t : ∀ X Y : Nat, Ev (fun k => gnomonref02_Compare.j2 k true a (A : Int) b (B : Int) (hiN X) (loN X) (hiN Y) (loN Y)) (-1) := fun X Y => Ev.step (g := fun _ => some (-1)) (fun k => by rw [gnomonref02_Compare.j2, if_pos rfl]) (Ev.now _)
  have j1s : ∀ X Y : Nat, decide (a < 0) = decide (b < 0) → Ev (fun k => gnomonref02_Compare.j1 k a (A : Int) b (B : Int) (hiN X) (loN X) (hiN Y) (loN Y)) (if X < Y then -1 else if Y < X then 1 else 0) := fun X Y e1 => by
    have e2 : a < 0 ↔ b < 0 := decide_eq_decide.1 e1
    have st : Ev (fun k => gnomonref02_Compare.j2 k (decide (X < Y)) a (A : Int) b (B : Int) (hiN X) (loN X) (hiN Y) (loN Y)) (if X < Y then -1 else if Y < X then 1 else 0) := by
      by_cases c : X < Y
      · rw [decide_eq_true c, if_pos c]; exact j2t X Y
      · rw [decide_eq_false c, if_neg c]; exact j2g X Y (by omega)
    by_cases sa : a < 0
    · exact Ev.step (fun k => by rw [gnomonref02_Compare.j1, if_pos sa, if_neg (by omega), if_pos e1, below_is, Option.bind_some]) st
    · exact Ev.step (fun k => by rw [gnomonref02_Compare.j1, if_neg sa, if_pos e1, below_is, Option.bind_some]) st
  by_cases sa : a < 0 <;> by_cases sb : b < 0
  · refine Ev.congr (fun k => by rw [if_pos sa, if_pos sb]) ?_
    have := j1s Q P (by rw [decide_eq_true sa, decide_eq_true sb])
    rw [decide_eq_true sa, decide_eq_true sb]
    exact this
  · refine Ev.congr (fun k => by rw [if_pos sa, if_neg sb]) ?_
    rw [decide_eq_true sa, decide_eq_false sb]
    exact Ev.step (fun k => by rw [gnomonref02_Compare.j1, if_pos sa, if_pos (by omega)]) (j2t P Q)
  · refine Ev.congr (fun k => by rw [if_neg sa]) ?_
    rw [decide_eq_false sa, decide_eq_true sb]
    exact Ev.step (fun k => by rw [gnomonref02_Compare.j1, if_neg sa, if_neg (by rw [decide_eq_false sa, decide_eq_true sb]; decide)]) (j2f P Q (by omega))
  · refine Ev.congr (fun k => by rw [if_neg sa]) ?_
    have := j1s P Q (by rw [decide_eq_false sa, decide_eq_false sb])
    rw [decide_eq_false sa, decide_eq_false sb]
    exact this
end
end Go.Proofs.YtbjkfkifkglplaaGreatDoor.Q
