import Derived.Test.YtgkcjefbagnkpaaDoorPureXV
import Derived.Test.YtgkcjefbagnkpaaDoorPValx13
import Derived.Test.YtgkcjefbagnkpaaDoorPValx12
import Derived.Test.YtgkcjefbagnkpaaDoorPValx11
import Derived.Test.YtgkcjefbagnkpaaDoorPValx9
import Derived.Test.YtgkcjefbagnkpaaDoorPValx10
import Derived.Test.YtgkcjefbagnkpaaDoorPValx7
import Derived.Test.YtgkcjefbagnkpaaDoorPValx4
import Derived.Test.YtgkcjefbagnkpaaDoorPValx5
import Derived.Test.YtgkcjefbagnkpaaDoorPureR8t
namespace Go.Proofs.YtgkcjefbagnkpaaDoor.PVal
set_option linter.unusedVariables false
set_option linter.unusedSimpArgs false
open Go Go.RowKit Go.Proofs.YtgkcjefbagnkpaaDoorW.PrintWords Go.Proofs.YtgkcjefbagnkpaaDoorW.PrintMore

/-! ### The document's values -/
theorem sum_eq {a b : Int} (ha : i64 a) (hb : i64 b) : gnomonref08_sum.f a b = some (wrap64 (a + b), !(pl a b).2.2) ∧ (pl a b).1 = wrap64 (a + b) := by
  unfold i64 at ha hb
  have hw : wrap64 (a + b) = a + b ∨ wrap64 (a + b) = a + b - 18446744073709551616 ∨ wrap64 (a + b) = a + b + 18446744073709551616 := by unfold wrap64; omega
  have hr : -9223372036854775808 ≤ wrap64 (a + b) ∧ wrap64 (a + b) ≤ 9223372036854775807 := by unfold wrap64; omega
  unfold gnomonref08_sum.f pl
  generalize wrap64 (a + b) = s at *
  constructor
  · by_cases h1 : a < 0 <;> by_cases h2 : b < 0 <;> by_cases h3 : s < 0 <;> by_cases h4 : s ≥ a <;> by_cases h5 : s < a <;> simp [h1, h2, h3, h4, h5] <;> omega
  · split <;> rfl
theorem minus_eq {a b : Int} (ha : i64 a) (hb : i64 b) : (if b ≥ 0 then (if (wrap64 (a - b)) ≤ a then (some (wrap64 (a - b), true)) else (if b < 0 then (some (wrap64 (a - b), decide ((wrap64 (a - b)) > a))) else (some (wrap64 (a - b), false)))) else (if b < 0 then (some (wrap64 (a - b), decide ((wrap64 (a - b)) > a))) else (some (wrap64 (a - b), false))) : Option (Int × Bool)) = some (wrap64 (a - b), !(mi a b).2.2) ∧ (mi a b).1 = wrap64 (a - b) := by
  unfold i64 at ha hb
  have hw : wrap64 (a - b) = a - b ∨ wrap64 (a - b) = a - b - 18446744073709551616 ∨ wrap64 (a - b) = a - b + 18446744073709551616 := by unfold wrap64; omega
  have hr : -9223372036854775808 ≤ wrap64 (a - b) ∧ wrap64 (a - b) ≤ 9223372036854775807 := by unfold wrap64; omega
  unfold mi
  generalize wrap64 (a - b) = s at *
  constructor
  · by_cases h1 : a < 0 <;> by_cases h2 : b < 0 <;> by_cases h3 : s < 0 <;> by_cases h4 : s ≤ a <;> by_cases h5 : s > a <;> simp [h1, h2, h3, h4, h5] <;> omega
  · split <;> rfl
theorem neg64 {a : Int} (ha : i64 a) (h : a < 0) : IntKind.u64.wrap (-(IntKind.u64.wrap a)) = -a := by
  unfold i64 at ha
  have e : IntKind.u64.wrap a = a + 18446744073709551616 := by simp [IntKind.wrap, IntKind.signed, IntKind.bits]; omega
  rw [e]
  simp [IntKind.wrap, IntKind.signed, IntKind.bits]; omega
theorem j2_some (x : Bool) (y : Int) (b : Bool) (k : Nat) : gnomonref08_product.j2 (k + 1) x y b = some ((if b = true then 0 else if x = true then wrap64 (IntKind.u64.wrap (-y)) else wrap64 y), !b) := by
  rw [gnomonref08_product.j2]
  cases b <;> cases x <;> rfl
/-- The document's product, told by expr's. -/
theorem product_ev {a b : Int} (ha : i64 a) (hb : i64 b) : ∃ r, Ev (fun k => gnomonref08_product.f k a b) r ∧ r.2 = !(tm a b).2.2 ∧ ((tm a b).2.2 = false → r.1 = (tm a b).1) := by
  obtain ⟨P, hP, hf⟩ := times_form ha hb 5
  have hX : ∀ c : Int, i64 c → (if c < 0 then IntKind.u64.wrap (-(IntKind.u64.wrap c)) else IntKind.u64.wrap c) = (if c < 0 then -c else c) := fun c hc => by
    by_cases h : c < 0
    · rw [if_pos h, if_pos h, neg64 hc h]
    · unfold i64 at hc
      rw [if_neg h, if_neg h, uw (by omega) (by omega)]
  have hm : bits_Mul64.f (if a < 0 then -a else a) (if b < 0 then -b else b) = some (P / 18446744073709551616, P % 18446744073709551616) := by
    rw [hP]
    unfold i64 at ha hb
    exact mul64_eq (by constructor <;> (split <;> omega)) (by constructor <;> (split <;> omega))
  have hP0 : 0 ≤ P := by
    rw [hP]
    unfold i64 at ha hb
    exact Int.mul_nonneg (by split <;> omega) (by split <;> omega)
  -- expr's product, by cases
  have ht : expr_times.f 5 a b = some (tm a b) := (times_some ha hb).1
  rw [hf] at ht
  have e0 : ∀ k, gnomonref08_product.f (k + 3) a b = gnomonref08_product.j1 (k + 2) (decide (a < 0) != decide (b < 0)) (if a < 0 then -a else a) (if b < 0 then -b else b) := fun k => by
    rw [gnomonref08_product.f, ← hX a ha, ← hX b hb]
    by_cases h1 : a < 0 <;> by_cases h2 : b < 0 <;> simp [h1, h2, gnomonref08_product.j0]
  have key : ∀ (hi lo : Int) (sg : Bool), 0 ≤ hi → 0 ≤ lo → lo < 18446744073709551616 → (if sg = true then (expr_times.j0 5 hi lo (lo != 0)) else (expr_times.j0 5 hi lo false)) = some (tm a b) →
      ∃ r : Int × Bool, (∀ k, (if hi = 0 then (if lo > 9223372036854775808 then (gnomonref08_product.j2 (k + 1) sg lo true) else (if lo = 9223372036854775808 then (gnomonref08_product.j2 (k + 1) sg lo (!sg)) else (gnomonref08_product.j2 (k + 1) sg lo false))) else (gnomonref08_product.j2 (k + 1) sg lo true)) = some r) ∧ r.2 = !(tm a b).2.2 ∧ ((tm a b).2.2 = false → r.1 = (tm a b).1) := by
    intro hi lo sg h0 h1 h2 h3
    generalize tm a b = q at *
    by_cases c0 : hi = 0
    · have c0' : ¬ hi > 0 := by omega
      by_cases c1 : lo > 9223372036854775808
      · refine ⟨(0, false), fun k => by rw [if_pos c0, if_pos c1, j2_some]; rfl, ?_, ?_⟩ <;>
        · cases sg <;> simp [expr_times.j0, expr_times.j1, c0', c1] at h3 <;> (rw [← h3]; simp)
      · by_cases c2 : lo = 9223372036854775808
        · subst c2
          cases sg
          · simp [expr_times.j0, expr_times.j1, c0'] at h3
            exact ⟨(0, false), fun k => by rw [if_pos c0, if_neg (by decide), if_pos rfl, j2_some]; rfl, by (rw [← h3]; try rfl), by rw [← h3]; simp⟩
          · simp [expr_times.j0, expr_times.j1, c0'] at h3
            exact ⟨_, fun k => by rw [if_pos c0, if_neg (by decide), if_pos rfl, j2_some], by (rw [← h3]; try rfl), by rw [← h3]; simp⟩
        · cases sg
          · simp [expr_times.j0, expr_times.j1, c0', c1, c2] at h3
            exact ⟨_, fun k => by rw [if_pos c0, if_neg c1, if_neg c2, j2_some], by (rw [← h3]; try rfl), by rw [← h3]; simp⟩
          · by_cases c3 : lo = 0
            · subst c3
              simp [expr_times.j0, expr_times.j1, c0'] at h3
              exact ⟨_, fun k => by rw [if_pos c0, if_neg (by decide), if_neg (by decide), j2_some], by (rw [← h3]; try rfl), by rw [← h3]; intro _; rfl⟩
            · have c4 : (lo != 0) = true := by simpa using c3
              simp [expr_times.j0, expr_times.j1, c0', c1, c2, c3] at h3
              exact ⟨_, fun k => by rw [if_pos c0, if_neg c1, if_neg c2, j2_some], by (rw [← h3]; try rfl), by rw [← h3]; simp⟩
    · have c0' : hi > 0 := by omega
      refine ⟨(0, false), fun k => by rw [if_neg c0, j2_some]; rfl, ?_, ?_⟩ <;>
      · cases sg <;> simp [expr_times.j0, expr_times.j1, c0'] at h3 <;> (rw [← h3]; simp)
  obtain ⟨r, hr, h1, h2⟩ := key (P / 18446744073709551616) (P % 18446744073709551616) (decide (a < 0) != decide (b < 0)) (by omega) (by omega) (by omega) ht
  refine ⟨r, ⟨3, fun k hk => ?_⟩, h1, h2⟩
  obtain ⟨k, rfl⟩ : ∃ m, k = m + 3 := ⟨k - 3, by omega⟩
  show gnomonref08_product.f (k + 3) a b = some r
  rw [e0, gnomonref08_product.j1, hm, Option.bind_some]
  exact hr k
/-- What the document tells of a value: 1 and 0 of truths. -/
def told1 (o : Int) (v : Int × Bool × Bool) : Int := if Tr o = true then (if v.2.1 = true then 1 else 0) else v.1
theorem tm_neg {a : Int} (ha : i64 a) : (tm a (-1)).1 = wrap64 (-a) ∨ (tm a (-1)).2.2 = true := by
  obtain ⟨P, hP, h⟩ := times_form ha (b := -1) (by unfold i64; omega) 5
  have ht : expr_times.f 5 a (-1) = some (tm a (-1)) := (times_some ha (by unfold i64; omega)).1
  rw [h] at ht
  generalize tm a (-1) = q at *
  unfold i64 at ha
  have hP2 : P = if a < 0 then -a else a := by rw [hP]; simp
  have hd : P / 18446744073709551616 = 0 := by rw [hP2]; split <;> omega
  have hmo : P % 18446744073709551616 = P := by rw [hP2]; split <;> omega
  rw [hd, hmo] at ht
  by_cases h1 : a < 0
  · rw [if_pos h1] at hP2
    subst hP2
    by_cases h2 : -a = 9223372036854775808
    · simp [h1, expr_times.j0, expr_times.j1, h2] at ht
      exact .inr (by rw [← ht])
    · have h3 : ¬ (-a > 9223372036854775808) := by omega
      simp [h1, expr_times.j0, expr_times.j1, h2, h3] at ht
      refine .inl ?_
      by_cases h4 : 9223372036854775808 < -a
      · omega
      · first | (simp [h4] at ht; rw [← ht]) | rw [← ht]
  · rw [if_neg h1] at hP2
    subst hP2
    have h2 : ¬ (P = 9223372036854775808) := by omega
    have h3 : ¬ (9223372036854775808 < P) := by omega
    by_cases h4 : P = 0
    · subst h4
      simp [expr_times.j0, expr_times.j1] at ht
      exact .inl (by rw [← ht]; rfl)
    · have h5 : (P != 0) = true := by simpa using h4
      simp [h1, expr_times.j0, expr_times.j1, h2, h3, h4] at ht
      refine .inl ?_
      rw [← ht]
      simp [IntKind.wrap, IntKind.signed, IntKind.bits]
      unfold wrap64
      omega
theorem tm_neg_over {a : Int} (ha : i64 a) : (tm a (-1)).2.2 = (a == (-9223372036854775808)) := by
  obtain ⟨P, hP, h⟩ := times_form ha (b := -1) (by unfold i64; omega) 5
  have ht : expr_times.f 5 a (-1) = some (tm a (-1)) := (times_some ha (by unfold i64; omega)).1
  rw [h] at ht
  generalize tm a (-1) = q at *
  unfold i64 at ha
  have hP2 : P = if a < 0 then -a else a := by rw [hP]; simp
  have hd : P / 18446744073709551616 = 0 := by rw [hP2]; split <;> omega
  have hmo : P % 18446744073709551616 = P := by rw [hP2]; split <;> omega
  rw [hd, hmo] at ht
  by_cases h1 : a < 0
  · rw [if_pos h1] at hP2
    subst hP2
    by_cases h2 : -a = 9223372036854775808
    · simp [h1, expr_times.j0, expr_times.j1, h2] at ht
      rw [← ht]
      have : a = -9223372036854775808 := by omega
      rw [this]; rfl
    · have h3 : ¬ (9223372036854775808 < -a) := by omega
      simp [h1, expr_times.j0, expr_times.j1, h2, h3] at ht
      rw [← ht]
      symm
      rw [beq_eq_false_iff_ne]; omega
  · rw [if_neg h1] at hP2
    subst hP2
    have h2 : ¬ (P = 9223372036854775808) := by omega
    have h3 : ¬ (9223372036854775808 < P) := by omega
    have hne : (P == (-9223372036854775808)) = false := by rw [beq_eq_false_iff_ne]; omega
    rw [hne]
    by_cases h4 : P = 0
    · subst h4
      simp [expr_times.j0, expr_times.j1] at ht
      rw [← ht]
    · simp [h1, expr_times.j0, expr_times.j1, h2, h3, h4] at ht
      rw [← ht]
section
variable {l : List S68} {vars : List Int}
theorem told1_num {o : Int} {v : Int × Bool × Bool} (h : Tr o = false) : told1 o v = v.1 := by unfold told1; rw [if_neg (by rw [h]; decide)]
theorem told1_truth {o : Int} {v : Int × Bool × Bool} (h : Tr o = true) : told1 o v = if v.2.1 = true then 1 else 0 := by unfold told1; rw [if_pos h]
theorem ref_value_ev (G : Good l (vars.length : Int)) (hv : ∀ z ∈ vars, i64 z) : ∀ {x : X} {a e : Nat}, x.ok (vars.length : Int) → At l x a e →
    ∃ r, Ev (fun k => gnomonref08_value.f k l (a : Int) vars) r ∧ r.2 = !(vl vars x).2.2 ∧ ((vl vars x).2.2 = false → r.1 = told1 x.op (vl vars x))
  | .leaf o n, a, e, ho, h => by
    obtain ⟨ha, hN, rfl⟩ := h
    have hN0 : (N l a).f0 = o := by rw [hN]
    have hN1 : (N l a).f1 = n := by rw [hN]
    simp only [X.ok] at ho
    rcases ho with ⟨rfl, h1, h2⟩ | ⟨rfl, h1, h2⟩ | ⟨rfl, h1⟩
    · refine ⟨(n, true), Ev.step (fun m => ?_) (Ev.now _), rfl, fun _ => ?_⟩
      · rw [gnomonref08_value.f, if_pos (by omega), if_pos (by omega), N_rd, hN0, hN1, if_pos rfl]
      · rw [told1_num (by show Tr 1 = false; decide +kernel)]; rfl
    · refine ⟨(rd vars n, true), Ev.step (fun m => ?_) (Ev.now _), rfl, fun _ => ?_⟩
      · rw [gnomonref08_value.f, if_pos (by omega), if_pos (by omega), N_rd, hN0, hN1, if_neg (by decide), if_pos rfl, if_pos h1, if_pos h2]
      · rw [told1_num (by show Tr 2 = false; decide +kernel)]; rfl
    · refine ⟨(1, true), Ev.step (fun m => ?_) (Ev.now _), rfl, fun _ => ?_⟩
      · rw [gnomonref08_value.f, if_pos (by omega), if_pos (by omega), N_rd, hN0, if_neg (by decide), if_neg (by decide), if_pos rfl]
      · rw [told1_truth (by show Tr 7 = true; decide +kernel)]; rfl
  | .one o x, a, e, ho, h => by
    obtain ⟨ha, hN, hx⟩ := h
    have hN0 : (N l a).f0 = o := by rw [hN]
    simp only [X.ok] at ho
    obtain ⟨r, ih, i1, i2⟩ := ref_value_ev G hv ho.2.2 hx
    have hr := vl_i64 hv ho.2.2
    have hlen := G.len
    have hc : o ≠ 1 ∧ o ≠ 2 ∧ o ≠ 7 := by omega
    have st : ∀ q, Ev (fun m => if r.2 = true then (if o = 3 then ((gnomonref08_product.f m r.1 (-1)).bind fun p => (some (p.1, p.2))) else (if o = 12 then (some (wrap64 (1 - r.1), true)) else (if o = 13 then (if r.1 = 0 then (gnomonref08_value.j0 m l (a : Int) vars o r.1 true) else (if o = 14 then (gnomonref08_value.j0 m l (a : Int) vars o r.1 (r.1 == 1)) else (gnomonref08_value.j0 m l (a : Int) vars o r.1 false))) else (if o = 14 then (gnomonref08_value.j0 m l (a : Int) vars o r.1 (r.1 == 1)) else (gnomonref08_value.j0 m l (a : Int) vars o r.1 false))))) else (some (0, false))) q → Ev (fun k => gnomonref08_value.f k l (a : Int) vars) q := fun q hq =>
      Ev.step (fun m => by (rw [gnomonref08_value.f, if_pos (by omega), if_pos (by omega), N_rd, hN0, if_neg hc.1, if_neg hc.2.1, if_neg hc.2.2, w68 (by omega)]; try rfl)) (Ev.bind ih hq)
    by_cases hov : (vl vars x).2.2 = true
    · refine ⟨(0, false), st _ (Ev.congr (fun m => by rw [if_neg (by rw [i1, hov]; decide)]) (Ev.now _)), ?_, ?_⟩
      · simp only [vl]; rw [if_pos hov, hov]; rfl
      · simp only [vl]; rw [if_pos hov, hov]; intro h; cases h
    · have hov' : (vl vars x).2.2 = false := by simpa using hov
      have i2 := i2 hov'
      have i1' : r.2 = true := by rw [i1, hov']; rfl
      rcases ho.1 with rfl | rfl
      · have tx : Tr x.op = false := ho.2.1.trans (by decide +kernel)
        rw [told1_num tx] at i2
        obtain ⟨p, p1, p2, p3⟩ := product_ev hr (b := -1) (by unfold i64; omega)
        rw [tm_neg_over hr] at p2 p3
        refine ⟨p, st _ (Ev.congr (fun m => by (rw [if_pos i1', if_pos rfl, i2]; try rfl)) (Ev.bind p1 (Ev.now _))), ?_, ?_⟩
        · simp only [vl]; rw [if_neg hov, if_pos trivial]; exact p2
        · simp only [vl]
          rw [if_neg hov, if_pos trivial]
          intro h
          rw [p3 h, told1_num (by show Tr 3 = false; decide +kernel)]
          rcases tm_neg hr with q | q
          · exact q
          · rw [tm_neg_over hr] at q
            rw [q] at h; cases h
      · have tx : Tr x.op = true := ho.2.1.trans (by decide +kernel)
        rw [told1_truth tx] at i2
        refine ⟨_, st _ (Ev.congr (fun m => by rw [if_pos i1', if_neg (by decide), if_pos rfl]) (Ev.now _)), ?_, ?_⟩
        · simp only [vl]; rw [if_neg hov, if_neg (by decide)]; rfl
        · simp only [vl]
          rw [if_neg hov, if_neg (by decide), i2]
          intro _
          rw [told1_truth (by show Tr 12 = true; decide +kernel)]
          have hw0 : wrap64 1 = 1 := by unfold wrap64; omega
          have hw1 : wrap64 0 = 0 := by unfold wrap64; omega
          cases (vl vars x).2.1 <;> simp [hw0, hw1]
  | .two o x y, a, e, ho, h => by
    obtain ⟨ha, hN, b, hx, hy⟩ := h
    have hN0 : (N l a).f0 = o := by rw [hN]
    simp only [X.ok] at ho
    obtain ⟨r, ih, i1, i2⟩ := ref_value_ev G hv ho.2.2.2.1 hx
    obtain ⟨s, jh, j1, j2⟩ := ref_value_ev G hv ho.2.2.2.2 hy
    have rx := vl_i64 hv ho.2.2.2.1
    have ry := vl_i64 hv ho.2.2.2.2
    have hlen := G.len
    have hi := ho.1
    obtain ⟨_, E2⟩ := end_of G ho.2.2.2.1 hx
    have hc : o ≠ 1 ∧ o ≠ 2 ∧ o ≠ 7 ∧ o ≠ 3 ∧ o ≠ 12 := by unfold isTwo at hi; omega
    have st : ∀ q, Ev (fun m => if r.2 = true then (if o = 13 then (if r.1 = 0 then (gnomonref08_value.j0 m l (a : Int) vars o r.1 true) else (if o = 14 then (gnomonref08_value.j0 m l (a : Int) vars o r.1 (r.1 == 1)) else (gnomonref08_value.j0 m l (a : Int) vars o r.1 false))) else (if o = 14 then (gnomonref08_value.j0 m l (a : Int) vars o r.1 (r.1 == 1)) else (gnomonref08_value.j0 m l (a : Int) vars o r.1 false))) else (some (0, false))) q → Ev (fun k => gnomonref08_value.f k l (a : Int) vars) q := fun q hq =>
      Ev.step (fun m => by (rw [gnomonref08_value.f, if_pos (by omega), if_pos (by omega), N_rd, hN0, if_neg hc.1, if_neg hc.2.1, if_neg hc.2.2.1, w68 (by omega)]; try rfl)) (Ev.bind ih (Ev.congr (fun m => by rw [if_neg hc.2.2.2.1, if_neg hc.2.2.2.2]) hq))
    by_cases hov : (vl vars x).2.2 = true
    · refine ⟨(0, false), st _ (Ev.congr (fun m => by rw [if_neg (by rw [i1, hov]; decide)]) (Ev.now _)), ?_, ?_⟩
      · simp only [vl]; rw [if_pos hov, hov]; rfl
      · simp only [vl]; rw [if_pos hov, hov]; intro h; cases h
    have hov' : (vl vars x).2.2 = false := by simpa using hov
    have i2 := i2 hov'
    have i1' : r.2 = true := by rw [i1, hov']; rfl
    -- all is told by the second part
    have full : Ev (fun m => gnomonref08_value.j0 m l (a : Int) vars o r.1 false) (if (vl vars y).2.2 = true then (0, false) else (told1 o (bn o (vl vars x) (vl vars y)), !(bn o (vl vars x) (vl vars y)).2.2)) ∨ ((vl vars y).2.2 = false ∧ (bn o (vl vars x) (vl vars y)).2.2 = true ∧ ∃ z, Ev (fun m => gnomonref08_value.j0 m l (a : Int) vars o r.1 false) (z, false)) := by
      have st2 : ∀ q, Ev (fun m => (if s.2 = true then (if o = 4 then ((gnomonref08_sum.f r.1 s.1).bind fun p => (some (p.1, p.2))) else (if o = 5 then (if s.1 ≥ 0 then (if (wrap64 (r.1 - s.1)) ≤ r.1 then (some (wrap64 (r.1 - s.1), true)) else (if s.1 < 0 then (some (wrap64 (r.1 - s.1), decide ((wrap64 (r.1 - s.1)) > r.1))) else (some (wrap64 (r.1 - s.1), false)))) else (if s.1 < 0 then (some (wrap64 (r.1 - s.1), decide ((wrap64 (r.1 - s.1)) > r.1))) else (some (wrap64 (r.1 - s.1), false)))) else (if o = 6 then ((gnomonref08_product.f m r.1 s.1).bind fun p => (some (p.1, p.2))) else (if o = 8 then (if r.1 < s.1 then (some (1, true)) else (some (0, true))) else (if o = 9 then (if r.1 ≤ s.1 then (some (1, true)) else (some (0, true))) else (if o = 10 then (if r.1 = s.1 then (some (1, true)) else (some (0, true))) else (if o = 11 then (if r.1 = s.1 then (some (0, true)) else (some (1, true))) else (some (s.1, true))))))))) else (some (0, false)))) q → Ev (fun m => gnomonref08_value.j0 m l (a : Int) vars o r.1 false) q := fun q hq =>
        Ev.step (fun m => by (rw [gnomonref08_value.j0, if_neg (by decide), w68 (by omega)]; try rfl)) (Ev.bind E2 (Ev.bind jh hq))
      by_cases hoy : (vl vars y).2.2 = true
      · exact .inl (st2 _ (Ev.congr (fun m => by rw [if_neg (by rw [j1, hoy]; decide), if_pos hoy]) (Ev.now _)))
      have hoy' : (vl vars y).2.2 = false := by simpa using hoy
      have j2 := j2 hoy'
      have j1' : s.2 = true := by rw [j1, hoy']; rfl
      rw [if_neg hoy]
      have num : Takes o = false → r.1 = (vl vars x).1 ∧ s.1 = (vl vars y).1 := fun ht => ⟨i2.trans (told1_num (ho.2.1.trans ht)), j2.trans (told1_num (ho.2.2.1.trans ht))⟩
      unfold bn
      by_cases h4 : o = 4
      · subst h4
        obtain ⟨n1, n2⟩ := num (by decide +kernel)
        rw [if_pos rfl]
        obtain ⟨e1, e2⟩ := sum_eq rx ry
        refine .inl (st2 _ (Ev.congr (fun m => ?_) (Ev.now _)))
        rw [if_pos j1', if_pos rfl, n1, n2, e1, Option.bind_some, told1_num (by decide +kernel), e2]
      rw [if_neg h4]
      by_cases h5 : o = 5
      · subst h5
        obtain ⟨n1, n2⟩ := num (by decide +kernel)
        rw [if_pos rfl]
        obtain ⟨e1, e2⟩ := minus_eq rx ry
        refine .inl (st2 _ (Ev.congr (fun m => ?_) (Ev.now _)))
        rw [if_pos j1', if_neg (by decide), if_pos rfl, n1, n2, e1, told1_num (by decide +kernel), e2]
      rw [if_neg h5]
      by_cases h6 : o = 6
      · subst h6
        obtain ⟨n1, n2⟩ := num (by decide +kernel)
        rw [if_pos rfl]
        obtain ⟨p, p1, p2, p3⟩ := product_ev rx ry
        have hp : Ev (fun m => gnomonref08_value.j0 m l (a : Int) vars 6 r.1 false) (p.1, p.2) := st2 _ (Ev.congr (fun m => by (rw [if_pos j1', if_neg (by decide), if_neg (by decide), if_pos rfl, n1, n2]; try rfl)) (Ev.bind p1 (Ev.now _)))
        by_cases hq : (tm (vl vars x).1 (vl vars y).1).2.2 = true
        · exact .inr ⟨hoy', hq, p.1, by rw [p2, hq] at hp; exact hp⟩
        · have hq' : (tm (vl vars x).1 (vl vars y).1).2.2 = false := by simpa using hq
          refine .inl ?_
          rw [told1_num (by decide +kernel), ← p3 hq', ← p2]
          exact hp
      rw [if_neg h6]
      by_cases h8 : o = 8
      · subst h8
        obtain ⟨n1, n2⟩ := num (by decide +kernel)
        rw [if_pos rfl, told1_truth (by decide +kernel)]
        refine .inl (st2 _ (Ev.congr (fun m => ?_) (Ev.now _)))
        rw [if_pos j1', if_neg (by decide), if_neg (by decide), if_neg (by decide), if_pos rfl, n1, n2]
        by_cases hq : (vl vars x).1 < (vl vars y).1 <;> simp [hq]
      rw [if_neg h8]
      by_cases h9 : o = 9
      · subst h9
        obtain ⟨n1, n2⟩ := num (by decide +kernel)
        rw [if_pos rfl, told1_truth (by decide +kernel)]
        refine .inl (st2 _ (Ev.congr (fun m => ?_) (Ev.now _)))
        rw [if_pos j1', if_neg (by decide), if_neg (by decide), if_neg (by decide), if_neg (by decide), if_pos rfl, n1, n2]
        by_cases hq : (vl vars x).1 ≤ (vl vars y).1 <;> simp [hq]
      rw [if_neg h9]
      by_cases h10 : o = 10
      · subst h10
        obtain ⟨n1, n2⟩ := num (by decide +kernel)
        rw [if_pos rfl, told1_truth (by decide +kernel)]
        refine .inl (st2 _ (Ev.congr (fun m => ?_) (Ev.now _)))
        rw [if_pos j1', if_neg (by decide), if_neg (by decide), if_neg (by decide), if_neg (by decide), if_neg (by decide), if_pos rfl, n1, n2]
        by_cases hq : (vl vars x).1 = (vl vars y).1 <;> simp [hq]
      rw [if_neg h10]
      by_cases h11 : o = 11
      · subst h11
        obtain ⟨n1, n2⟩ := num (by decide +kernel)
        rw [if_pos rfl, told1_truth (by decide +kernel)]
        refine .inl (st2 _ (Ev.congr (fun m => ?_) (Ev.now _)))
        rw [if_pos j1', if_neg (by decide), if_neg (by decide), if_neg (by decide), if_neg (by decide), if_neg (by decide), if_neg (by decide), if_pos rfl, n1, n2]
        by_cases hq : (vl vars x).1 = (vl vars y).1 <;> simp [hq]
      rw [if_neg h11]
      have ho2 : o = 13 ∨ o = 14 := by unfold isTwo at hi; omega
      have tt : Takes o = true ∧ Tr o = true := by rcases ho2 with rfl | rfl <;> exact ⟨by decide +kernel, by decide +kernel⟩
      refine .inl (st2 _ (Ev.congr (fun m => ?_) (Ev.now _)))
      rw [if_pos j1', if_neg h4, if_neg h5, if_neg h6, if_neg h8, if_neg h9, if_neg h10, if_neg h11, j2, hoy', told1_truth (ho.2.2.1.trans tt.1), told1_truth tt.2]
      rfl
    by_cases hsc : o = 13 ∧ (vl vars x).2.1 = false ∨ o = 14 ∧ (vl vars x).2.1 = true
    · have ho2 : o = 13 ∨ o = 14 := by rcases hsc with h | h <;> omega
      have tt : Takes o = true ∧ Tr o = true := by rcases ho2 with rfl | rfl <;> exact ⟨by decide +kernel, by decide +kernel⟩
      rw [told1_truth (ho.2.1.trans tt.1)] at i2
      have j0t : Ev (fun m => gnomonref08_value.j0 m l (a : Int) vars o r.1 true) (r.1, true) := Ev.step (fun m => by rw [gnomonref08_value.j0, if_pos rfl]) (Ev.now _)
      refine ⟨(r.1, true), st _ (Ev.congr (fun m => ?_) j0t), ?_, ?_⟩
      · rw [if_pos i1']
        rcases hsc with ⟨h1, h2⟩ | ⟨h1, h2⟩
        · rw [if_pos h1, if_pos (by rw [i2, h2]; rfl)]
        · rw [if_neg (by omega), if_pos h1, i2, h2]; rfl
      · simp only [vl]; rw [if_neg hov, if_pos hsc, hov']; rfl
      · simp only [vl]
        rw [if_neg hov, if_pos hsc]
        intro _
        exact i2.trans (told1_truth (by exact tt.2)).symm
    · have go : ∀ q, Ev (fun m => gnomonref08_value.j0 m l (a : Int) vars o r.1 false) q → Ev (fun k => gnomonref08_value.f k l (a : Int) vars) q := fun q hq => st q (Ev.congr (fun m => by
        rw [if_pos i1']
        by_cases h13 : o = 13
        · have tt : Takes o = true := by rw [h13]; decide +kernel
          rw [told1_truth (ho.2.1.trans tt)] at i2
          have hy' : (vl vars x).2.1 = true := by
            by_cases q : (vl vars x).2.1 = true
            · exact q
            · exact absurd (.inl ⟨h13, by simpa using q⟩) hsc
          rw [if_pos h13, if_neg (by rw [i2, hy']; decide), if_neg (by omega)]
        · rw [if_neg h13]
          by_cases h14 : o = 14
          · have tt : Takes o = true := by rw [h14]; decide +kernel
            rw [told1_truth (ho.2.1.trans tt)] at i2
            have hy' : (vl vars x).2.1 = false := by
              by_cases q : (vl vars x).2.1 = true
              · exact absurd (.inr ⟨h14, q⟩) hsc
              · simpa using q
            rw [if_pos h14, i2, hy']
            rfl
          · rw [if_neg h14]) hq)
      have e0 : vl vars (.two o x y) = if (vl vars y).2.2 = true then vl vars y else bn o (vl vars x) (vl vars y) := by
        simp only [vl]; rw [if_neg hov, if_neg hsc]
      rw [e0]
      rcases full with f | ⟨f1, f2, z, f3⟩
      · by_cases hoy : (vl vars y).2.2 = true
        · rw [if_pos hoy] at f
          rw [if_pos hoy]
          exact ⟨_, go _ f, by rw [hoy]; rfl, fun h => by rw [hoy] at h; cases h⟩
        · rw [if_neg hoy] at f
          rw [if_neg hoy]
          exact ⟨_, go _ f, rfl, fun _ => rfl⟩
      · rw [if_neg (by rw [f1]; decide)]
        exact ⟨_, go _ f3, by rw [f2]; rfl, fun h => by rw [f2] at h; cases h⟩
end
end Go.Proofs.YtgkcjefbagnkpaaDoor.PVal
