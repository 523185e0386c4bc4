import Derived.Test.YtgkcjefbagnkpaaDoorPureXL
import Derived.Test.YtgkcjefbagnkpaaDoorPValx13
import Derived.Test.YtgkcjefbagnkpaaDoorPValx12
import Derived.Test.YtgkcjefbagnkpaaDoorPValx11
import Derived.Test.YtgkcjefbagnkpaaDoorPValx9
import Derived.Test.YtgkcjefbagnkpaaDoorPValx10
import Derived.Test.YtgkcjefbagnkpaaDoorPValx7
import Derived.Test.YtgkcjefbagnkpaaDoorPValx4
import Derived.Test.YtgkcjefbagnkpaaDoorPValx5
import Derived.Test.YtgkcjefbagnkpaaDoorPureR8t
import Derived.Laws.MathBits
namespace Go.Proofs.YtgkcjefbagnkpaaDoor.PVal
set_option linter.unusedVariables false
set_option linter.unusedSimpArgs false
open Go Go.RowKit Go.Proofs.YtgkcjefbagnkpaaDoorW.PrintWords Go.Proofs.YtgkcjefbagnkpaaDoorW.PrintMore

/-! ### Values -/
theorem uw {n : Int} (h : 0 ≤ n) (h2 : n < 18446744073709551616) : IntKind.u64.wrap n = n := by
  simp [IntKind.wrap, IntKind.signed, IntKind.bits]; omega
theorem mul_bound {a b : Int} (h0 : 0 ≤ a) (h1 : a ≤ 4294967295) (h2 : 0 ≤ b) (h3 : b ≤ 4294967295) : 0 ≤ a * b ∧ a * b ≤ 18446744065119617025 :=
  ⟨Int.mul_nonneg h0 h2, by have := Int.mul_le_mul h1 h3 h2 (by decide); simpa using this⟩
theorem mul64_eq {x y : Int} (hx : 0 ≤ x ∧ x < 18446744073709551616) (hy : 0 ≤ y ∧ y < 18446744073709551616) : bits_Mul64.f x y = some (x * y / 18446744073709551616, x * y % 18446744073709551616) := by
  obtain ⟨a, b, ha, hb, rfl⟩ : ∃ a b : Int, (0 ≤ a ∧ a ≤ 4294967295) ∧ (0 ≤ b ∧ b ≤ 4294967295) ∧ x = a * 4294967296 + b := ⟨x / 4294967296, x % 4294967296, by omega, by omega, by omega⟩
  obtain ⟨c, d, hc, hd, rfl⟩ : ∃ c d : Int, (0 ≤ c ∧ c ≤ 4294967295) ∧ (0 ≤ d ∧ d ≤ 4294967295) ∧ y = c * 4294967296 + d := ⟨y / 4294967296, y % 4294967296, by omega, by omega, by omega⟩
  have e1 : (a * 4294967296 + b) / 4294967296 = a := by omega
  have e2 : (c * 4294967296 + d) / 4294967296 = c := by omega
  have e3 : (a * 4294967296 + b) % 4294967296 = b := by omega
  have e4 : (c * 4294967296 + d) % 4294967296 = d := by omega
  have hp : (a * 4294967296 + b) * (c * 4294967296 + d) = (a * c) * 18446744073709551616 + (a * d + b * c) * 4294967296 + b * d := by
    rw [Int.add_mul, Int.mul_add, Int.mul_add]
    have h1 : a * 4294967296 * (c * 4294967296) = (a * c) * 18446744073709551616 := by
      rw [Int.mul_assoc, Int.mul_left_comm 4294967296 c, ← Int.mul_assoc]; rfl
    have h2 : a * 4294967296 * d = (a * d) * 4294967296 := by rw [Int.mul_assoc, Int.mul_comm 4294967296 d, ← Int.mul_assoc]
    have h3 : b * (c * 4294967296) = (b * c) * 4294967296 := by rw [← Int.mul_assoc]
    rw [h1, h2, h3]
    omega
  have w : IntKind.u64.wrap ((a * 4294967296 + b) * (c * 4294967296 + d)) = (a * 4294967296 + b) * (c * 4294967296 + d) % 18446744073709551616 := by
    simp [IntKind.wrap, IntKind.signed, IntKind.bits]
  have p1 := mul_bound ha.1 ha.2 hc.1 hc.2
  have p2 := mul_bound ha.1 ha.2 hd.1 hd.2
  have p3 := mul_bound hb.1 hb.2 hc.1 hc.2
  have p4 := mul_bound hb.1 hb.2 hd.1 hd.2
  unfold bits_Mul64.f
  rw [w, e1, e2, and_low32 _ (by omega) (by omega), and_low32 _ (by omega) (by omega), e3, e4, hp]
  generalize a * c = A at *
  generalize a * d = B at *
  generalize b * c = C at *
  generalize b * d = D at *
  rw [uw (n := A) (by omega) (by omega), uw (n := B) (by omega) (by omega), uw (n := C) (by omega) (by omega), uw (n := D) (by omega) (by omega), uw (n := B + D / 4294967296) (by omega) (by omega), and_low32 _ (by omega) (by omega),
    uw (n := A + (B + D / 4294967296) / 4294967296) (by omega) (by omega), uw (n := (B + D / 4294967296) % 4294967296 + C) (by omega) (by omega), uw (by omega) (by omega)]
  congr 2
  omega
def i64 (n : Int) : Prop := -9223372036854775808 ≤ n ∧ n ≤ 9223372036854775807
theorem wrap_i64 (n : Int) : i64 (wrap64 n) := by unfold i64 wrap64; omega
theorem size_eq {a : Int} (h : i64 a) : expr_size.f a = some (if a < 0 then -a else a) := by
  unfold i64 at h
  unfold expr_size.f
  by_cases h0 : a < 0
  · rw [if_pos h0, if_pos h0]
    have e : IntKind.u64.wrap a = a + 18446744073709551616 := by simp [IntKind.wrap, IntKind.signed, IntKind.bits]; omega
    rw [e]
    simp [IntKind.wrap, IntKind.signed, IntKind.bits]; omega
  · rw [if_neg h0, if_neg h0, uw (by omega) (by omega)]
/-- A product, in a few rounds. -/
def tm (a b : Int) : Int × Bool × Bool := (expr_times.f 5 a b).getD (0, false, false)
theorem j1_some (x : Int) (b c : Bool) (k : Nat) : ∃ r, expr_times.j1 (k + 1) x b c = some r ∧ i64 r.1 := by
  rw [expr_times.j1]
  cases c <;> cases b <;> simp [wrap_i64]
  all_goals (unfold i64; omega)
theorem j0_some (x y : Int) (b : Bool) (k : Nat) : ∃ r, expr_times.j0 (k + 2) x y b = some r ∧ i64 r.1 := by
  rw [expr_times.j0]
  split
  · exact j1_some _ _ _ _
  · split
    · exact j1_some _ _ _ _
    · split
      · exact j1_some _ _ _ _
      · exact j1_some _ _ _ _
theorem times_form {a b : Int} (ha : i64 a) (hb : i64 b) (k : Nat) : ∃ P : Int, P = (if a < 0 then -a else a) * (if b < 0 then -b else b) ∧
    expr_times.f k a b = (if ((decide (a < 0)) != (decide (b < 0))) = true then (expr_times.j0 k (P / 18446744073709551616) (P % 18446744073709551616) (P % 18446744073709551616 != 0)) else (expr_times.j0 k (P / 18446744073709551616) (P % 18446744073709551616) false)) := by
  refine ⟨_, rfl, ?_⟩
  unfold i64 at ha hb
  rw [expr_times.f, size_eq ha, Option.bind_some, size_eq hb, Option.bind_some, mul64_eq (by constructor <;> (split <;> omega)) (by constructor <;> (split <;> omega)), Option.bind_some]
theorem times_some {a b : Int} (ha : i64 a) (hb : i64 b) : expr_times.f 5 a b = some (tm a b) ∧ i64 (tm a b).1 := by
  obtain ⟨P, _, h⟩ := times_form ha hb 5
  have : ∃ r, expr_times.f 5 a b = some r ∧ i64 r.1 := by
    rw [h]
    split
    · exact j0_some _ _ _ 3
    · exact j0_some _ _ _ 3
  obtain ⟨r, h1, h2⟩ := this
  unfold tm
  rw [h1]
  exact ⟨rfl, h2⟩
theorem times_ev {a b : Int} (ha : i64 a) (hb : i64 b) : Ev (fun k => expr_times.f k a b) (tm a b) := Ev.of (expr_times.mono _ _) (times_some ha hb).1
theorem tm_comm {a b : Int} (ha : i64 a) (hb : i64 b) : tm a b = tm b a := by
  obtain ⟨P, hP, h1⟩ := times_form ha hb 5
  obtain ⟨Q, hQ, h2⟩ := times_form hb ha 5
  have : P = Q := by rw [hP, hQ, Int.mul_comm]
  subst this
  have hs : (decide (a < 0) != decide (b < 0)) = (decide (b < 0) != decide (a < 0)) := by cases decide (a < 0) <;> cases decide (b < 0) <;> rfl
  unfold tm
  rw [h1, h2, hs]
def pl (a b : Int) : Int × Bool × Bool := if ((decide (a < 0)) == (decide (b < 0))) = true then (wrap64 (a + b), false, ((decide ((wrap64 (a + b)) < 0)) != (decide (a < 0)))) else (wrap64 (a + b), false, false)
theorem plus_eq (a b : Int) : expr_plus.f a b = some (pl a b) := by
  unfold expr_plus.f pl
  split <;> rfl
theorem pl_comm (a b : Int) : pl a b = pl b a := by
  unfold pl
  rw [Int.add_comm b a]
  by_cases h1 : a < 0 <;> by_cases h2 : b < 0 <;> simp [h1, h2]
theorem pl_i64 (a b : Int) : i64 (pl a b).1 := by
  unfold pl
  split <;> exact wrap_i64 _
def mi (a b : Int) : Int × Bool × Bool := if ((decide (a < 0)) != (decide (b < 0))) = true then (wrap64 (a - b), false, ((decide ((wrap64 (a - b)) < 0)) != (decide (a < 0)))) else (wrap64 (a - b), false, false)
theorem mi_i64 (a b : Int) : i64 (mi a b).1 := by
  unfold mi
  split <;> exact wrap_i64 _
/-- Two parts' values, joined. -/
def bn (o : Int) (a b : Int × Bool × Bool) : Int × Bool × Bool :=
  if o = 4 then pl a.1 b.1 else if o = 5 then mi a.1 b.1 else if o = 6 then tm a.1 b.1 else if o = 8 then (0, decide (a.1 < b.1), false) else if o = 9 then (0, decide (a.1 ≤ b.1), false) else
  if o = 10 then (0, a.1 == b.1, false) else if o = 11 then (0, a.1 != b.1, false) else b
/-- A tree's value: a number, a truth, can it not be held. -/
def vl (vars : List Int) : X → Int × Bool × Bool
  | .leaf o n => if o = 1 then (n, false, false) else if o = 2 then (rd vars n, false, false) else (0, true, false)
  | .one o x => if (vl vars x).2.2 = true then vl vars x else if o = 3 then (wrap64 (-(vl vars x).1), false, ((vl vars x).1 == (-9223372036854775808))) else (0, !(vl vars x).2.1, false)
  | .two o x y => if (vl vars x).2.2 = true then vl vars x else if o = 13 ∧ (vl vars x).2.1 = false ∨ o = 14 ∧ (vl vars x).2.1 = true then vl vars x else
    if (vl vars y).2.2 = true then vl vars y else bn o (vl vars x) (vl vars y)
theorem vl_i64 {vars : List Int} (hv : ∀ z ∈ vars, i64 z) : ∀ {x : X}, x.ok (vars.length : Int) → i64 (vl vars x).1
  | .leaf o n, h => by
    simp only [X.ok] at h
    simp only [vl]
    split
    · unfold i64; simp only; omega
    · split
      · have hm : rd vars n ∈ vars := by
          unfold rd
          have : n.toNat < vars.length := by omega
          simp [List.getD, this]
        exact hv _ hm
      · unfold i64; simp only; omega
  | .one o x, h => by
    simp only [X.ok] at h
    have ih := vl_i64 hv h.2.2
    simp only [vl]
    split
    · exact ih
    · split
      · exact wrap_i64 _
      · unfold i64; simp only; omega
  | .two o x y, h => by
    simp only [X.ok] at h
    have ihx := vl_i64 hv h.2.2.2.1
    have ihy := vl_i64 hv h.2.2.2.2
    simp only [vl]
    split
    · exact ihx
    · split
      · exact ihx
      · split
        · exact ihy
        · unfold bn
          repeat' split
          · exact pl_i64 _ _
          · exact mi_i64 _ _
          · exact (times_some ihx ihy).2
          · unfold i64; simp only; omega
          · unfold i64; simp only; omega
          · unfold i64; simp only; omega
          · unfold i64; simp only; omega
          · exact ihy
section
variable {l : List S68} {vars : List Int}
theorem reckon_ev (G : Good l (vars.length : Int)) (hv : ∀ z ∈ vars, i64 z) : ∀ {x : X} {a e : Nat}, x.ok (vars.length : Int) → At l x a e → Ev (fun k => expr_reckon.f k l (a : Int) vars) (vl vars x)
  | .leaf o n, a, e, ho, h => by
    obtain ⟨ha, hN, rfl⟩ := h
    have hN0 : (N l a).f0 = o := by rw [hN]
    have hN1 : (N l a).f1 = n := by rw [hN]
    simp only [X.ok] at ho
    simp only [vl]
    refine Ev.step (fun m => ?_) (Ev.now _)
    rw [expr_reckon.f, if_pos (by omega), if_pos (by omega), N_rd, hN0, hN1]
    rcases ho with ⟨rfl, h1, h2⟩ | ⟨rfl, h1, h2⟩ | ⟨rfl, h1⟩
    · rw [if_pos rfl, if_pos rfl]
    · rw [if_neg (by decide), if_pos rfl, if_pos h1, if_pos h2, if_neg (by decide), if_pos rfl]
    · rw [if_neg (by decide), if_neg (by decide), if_pos rfl, if_neg (by decide), if_neg (by decide)]
  | .one o x, a, e, ho, h => by
    obtain ⟨ha, hN, hx⟩ := h
    have hN0 : (N l a).f0 = o := by rw [hN]
    simp only [X.ok] at ho
    have ih := reckon_ev G hv ho.2.2 hx
    have hlen := G.len
    simp only [vl]
    have hc : o ≠ 1 ∧ o ≠ 2 ∧ o ≠ 7 := by omega
    refine Ev.step (fun m => by (rw [expr_reckon.f, if_pos (by omega), if_pos (by omega), N_rd, hN0, if_neg hc.1, if_neg hc.2.1, if_neg hc.2.2, w68 (by omega)]; try rfl)) (Ev.bind ih ?_)
    by_cases hov : (vl vars x).2.2 = true
    · exact Ev.congr (fun m => by rw [if_pos hov, if_pos hov]) (Ev.now _)
    · rcases ho.1 with rfl | rfl
      · exact Ev.congr (fun m => by rw [if_neg hov, if_pos rfl, expr_opposite.f, Option.bind_some, if_neg hov, if_pos rfl]) (Ev.now _)
      · exact Ev.congr (fun m => by rw [if_neg hov, if_neg (by decide), if_pos rfl, if_neg hov, if_neg (by decide)]) (Ev.now _)
  | .two o x y, a, e, ho, h => by
    obtain ⟨ha, hN, b, hx, hy⟩ := h
    have hN0 : (N l a).f0 = o := by rw [hN]
    simp only [X.ok] at ho
    have ihx := reckon_ev G hv ho.2.2.2.1 hx
    have ihy := reckon_ev G hv ho.2.2.2.2 hy
    have rx := vl_i64 hv ho.2.2.2.1
    have ry := vl_i64 hv ho.2.2.2.2
    have hlen := G.len
    have hi := ho.1
    obtain ⟨E1, _⟩ := end_of G ho.2.2.2.1 hx
    have hc : o ≠ 1 ∧ o ≠ 2 ∧ o ≠ 7 ∧ o ≠ 3 ∧ o ≠ 12 := by unfold isTwo at hi; omega
    simp only [vl]
    refine Ev.step (fun m => by (rw [expr_reckon.f, if_pos (by omega), if_pos (by omega), N_rd, hN0, if_neg hc.1, if_neg hc.2.1, if_neg hc.2.2.1, w68 (by omega)]; try rfl)) (Ev.bind ihx ?_)
    by_cases hov : (vl vars x).2.2 = true
    · exact Ev.congr (fun m => by rw [if_pos hov, if_pos hov]) (Ev.now _)
    · have hj : ∀ f1, Ev (fun m => expr_reckon.j0 m l (a : Int) vars o f1 (vl vars x).1 (vl vars x).2.1 (vl vars x).2.2) (if (vl vars y).2.2 = true then vl vars y else bn o (vl vars x) (vl vars y)) := by
        intro f1
        refine Ev.step (fun m => by (rw [expr_reckon.j0, w68 (by omega)]; try rfl)) (Ev.bind E1 (Ev.bind ihy ?_))
        by_cases hoy : (vl vars y).2.2 = true
        · exact Ev.congr (fun m => by rw [if_pos hoy, if_pos hoy]) (Ev.now _)
        · rw [if_neg hoy]
          have c2 : ∀ (q : Option (Int × Bool × Bool)), (if (vl vars y).2.2 = true then some ((vl vars y).1, (vl vars y).2.1, (vl vars y).2.2) else q) = q := fun q => if_neg hoy
          unfold bn
          by_cases h4 : o = 4
          · exact Ev.congr (fun m => by rw [c2, if_pos h4, plus_eq, Option.bind_some, if_pos h4]) (Ev.now _)
          rw [if_neg h4]
          by_cases h5 : o = 5
          · refine Ev.congr (fun m => ?_) (Ev.now _)
            rw [c2, if_neg h4, if_pos h5, if_pos h5]
            unfold mi
            split <;> rfl
          rw [if_neg h5]
          by_cases h6 : o = 6
          · rw [if_pos h6]
            refine Ev.congr (fun m => by (rw [c2, if_neg h4, if_neg h5, if_pos h6]; try rfl)) (Ev.bind (times_ev rx ry) (Ev.now _))
          rw [if_neg h6]
          refine Ev.congr (fun m => ?_) (Ev.now _)
          rw [c2, if_neg h4, if_neg h5, if_neg h6]
          repeat' split
          all_goals rfl
      by_cases hsc : o = 13 ∧ (vl vars x).2.1 = false ∨ o = 14 ∧ (vl vars x).2.1 = true
      · rw [if_neg hov, if_pos hsc]
        refine Ev.congr (fun m => ?_) (Ev.now _)
        rw [if_neg hov, if_neg hc.2.2.2.1, if_neg hc.2.2.2.2]
        rcases hsc with ⟨h1, h2⟩ | ⟨h1, h2⟩
        · rw [if_pos h1, if_neg (by rw [h2]; decide)]
        · rw [if_neg (by omega), if_pos h1, if_pos h2]
      · rw [if_neg hov, if_neg hsc]
        refine Ev.congr (fun m => ?_) (hj (N l a).f1)
        rw [if_neg hov, if_neg hc.2.2.2.1, if_neg hc.2.2.2.2]
        by_cases h13 : o = 13
        · rw [if_pos h13]
          by_cases hy' : (vl vars x).2.1 = true
          · rw [if_pos hy', if_neg (by omega)]
          · exact absurd (.inl ⟨h13, by simpa using hy'⟩) hsc
        · rw [if_neg h13]
          by_cases h14 : o = 14
          · rw [if_pos h14, if_neg (fun h => hsc (.inr ⟨h14, h⟩))]
          · rw [if_neg h14]
theorem isTruth_ev {x : X} (ho : x.ok (vars.length : Int)) {r : List S68} : expr_IsTruth.f (enc x ++ r) = some (Tr x.op) := by
  have hp := enc_pos x
  have h0 : (rd_T68 (enc x ++ r) 0).f0 = x.op := by
    cases x <;> rfl
  obtain ⟨q, hq, hq2⟩ := of_truth (X.op_byte ho)
  rw [expr_IsTruth.f, if_neg (by rw [List.length_append]; omega), if_pos (by rw [List.length_append]; omega), h0, hq, Option.bind_some, hq2]
def told (v : Int × Bool × Bool) : Int × Int := if v.2.2 = true then (0, 20) else (v.1, 0)
def toldB (v : Int × Bool × Bool) : Bool × Int := if v.2.2 = true then (false, 20) else (v.2.1, 0)
/-- A tree's value, as it is told. -/
theorem value_tree (hvl : vars.length ≤ 140737488355328) (hv : ∀ z ∈ vars, i64 z) {x : X} (ho : x.ok (vars.length : Int)) (hlen : (enc x).length ≤ 64) :
    (Tr x.op = false → Ev (fun k => expr_Value.f k (enc x) vars) (told (vl vars x))) ∧ (Tr x.op = true → Ev (fun k => expr_Holds.f k (enc x) vars) (toldB (vl vars x))) := by
  have G := tree_good ho hlen
  obtain ⟨c, h1, _, _, h4⟩ := right_both G.tree.ops (k := (vars.length : Int)) ⟨by omega, by omega⟩
  obtain rfl := h4.2 G
  have hat := at_of_drop (l := enc x) x 0 [] (by simp)
  have hr := reckon_ev G hv ho hat
  have ht := isTruth_ev (r := []) ho
  rw [List.append_nil] at ht
  constructor
  · intro hT
    refine Ev.congr (fun k => by (rw [expr_Value.f]; try rfl)) (Ev.bind h1 (Ev.congr (fun k => by (rw [if_pos rfl, ht, Option.bind_some, hT]; try rfl)) (Ev.step (fun k => by (rw [expr_Value.j0, if_neg (by decide)]; try rfl)) (Ev.bind hr (Ev.congr (fun k => ?_) (Ev.now _))))))
    unfold told
    split <;> rfl
  · intro hT
    refine Ev.congr (fun k => by (rw [expr_Holds.f, if_neg (by have := G.pos; omega)]; try rfl)) (Ev.bind h1 (Ev.congr (fun k => by (rw [if_pos rfl, ht, Option.bind_some, hT]; try rfl)) (Ev.step (fun k => by (rw [expr_Holds.j0, if_neg (by decide)]; try rfl)) (Ev.bind hr (Ev.congr (fun k => ?_) (Ev.now _))))))
    unfold toldB
    split <;> rfl
/-- Any list's value. -/
theorem value_any (ho : opsOk l) (hvl : vars.length ≤ 140737488355328) (hv : ∀ z ∈ vars, i64 z) :
    ∃ r, Ev (fun k => expr_Value.f k l vars) r ∧ ((∃ x : X, l = enc x ∧ x.ok (vars.length : Int) ∧ l.length ≤ 64 ∧ Tr x.op = false ∧ r = told (vl vars x)) ∨ r = (0, 121)) := by
  obtain ⟨c, h1, _, h3, h4⟩ := right_both ho (k := (vars.length : Int)) ⟨by omega, by omega⟩
  have bad : Ev (fun k => expr_Value.j0 k l vars true) (0, 121) := Ev.step (fun k => by rw [expr_Value.j0, if_pos rfl]) (Ev.now _)
  by_cases hc : c = 0
  · subst hc
    obtain ⟨x, rfl, hok, _⟩ := good_tree (h4.1 rfl)
    have hl := (h4.1 rfl).len
    by_cases hT : Tr x.op = true
    · have ht := isTruth_ev (r := []) hok
      rw [List.append_nil] at ht
      exact ⟨_, Ev.congr (fun k => by (rw [expr_Value.f]; try rfl)) (Ev.bind h1 (Ev.congr (fun k => by (rw [if_pos rfl, ht, Option.bind_some, hT]; try rfl)) bad)), .inr rfl⟩
    · exact ⟨_, (value_tree hvl hv hok hl).1 (by simpa using hT), .inl ⟨x, rfl, hok, hl, by simpa using hT, rfl⟩⟩
  · exact ⟨_, Ev.congr (fun k => by (rw [expr_Value.f]; try rfl)) (Ev.bind h1 (Ev.congr (fun k => by (rw [if_neg hc]; try rfl)) bad)), .inr rfl⟩
end
end Go.Proofs.YtgkcjefbagnkpaaDoor.PVal
