-- written by wip/tools/xprint.py (over the kit's print.py): not trusted, Lean checks it.
import Derived.Test.YtpmhfahligjhaaaDoorPOrdx0
-- compact
namespace Go.Proofs.YtpmhfahligjhaaaDoor.POrd
open Go.RowKit Go.Proofs.YtpmhfahligjhaaaDoorW.PrintWords Go.Proofs.YtpmhfahligjhaaaDoorW.PrintLast Go.Proofs.YtpmhfahligjhaaaDoorW.PrintMore Go.Proofs.YtpmhfahligjhaaaDoorXW
attribute [local go_sem high] Option.map_some
attribute [local go_sem] max2_int max_two
set_option linter.unusedVariables false
set_option linter.unusedSimpArgs false

theorem q5_3 {p : Prop} (h : p := by have := HJ1.out; have := HJ7.out; first | omega | exact Nat.le_refl _) : p := h
theorem q5_4 {p : Prop} (h : p := by exact HA.out ▸ Seen.look (hS.out.drewN nd) Tryd.underlying9 Tryd.underlying113 Tryd.underlying4 (net_given.zero _) s HZ.out) : p := h
/-! ### lex_of: function 80 -/
mutual
def lex_of.j0 : Nat → Int → Bool → Option (Int)
 | 0, _, _ => none
 | k + 1, x0, x3 => if x3 = true then (some 1) else (if x0 = 35 then (some 4) else (if x0 ≥ 97 then (lex_of.j1 k x0 (decide (x0 ≤ 122))) else (lex_of.j1 k x0 false)))
def lex_of.j1 : Nat → Int → Bool → Option (Int)
 | 0, _, _ => none
 | k + 1, x0, x15 => if x15 = true then (lex_of.j2 k x0 x15) else (if x0 ≥ 65 then (lex_of.j2 k x0 (decide (x0 ≤ 90))) else (lex_of.j2 k x0 false))
def lex_of.j2 : Nat → Int → Bool → Option (Int)
 | 0, _, _ => none
 | k + 1, x0, x15 => if x15 = true then (some 2) else (if x0 ≥ 48 then (if x0 ≤ 57 then (some 3) else (some 0)) else (some 0))
end
def lex_of.f (k : Nat) (a0 : Int) : Option (Int) := if a0 = 32 then (lex_of.j0 k a0 (a0 == 32)) else (if a0 = 9 then (lex_of.j0 k a0 (a0 == 9)) else (if a0 = 13 then (lex_of.j0 k a0 (a0 == 13)) else (lex_of.j0 k a0 (a0 == 10))))
theorem lex_of.mono_l : ∀ k, (∀ y0 y1, LeO (lex_of.j0 k y0 y1) (lex_of.j0 (k + 1) y0 y1)) ∧ (∀ y0 y1, LeO (lex_of.j1 k y0 y1) (lex_of.j1 (k + 1) y0 y1)) ∧ (∀ y0 y1, LeO (lex_of.j2 k y0 y1) (lex_of.j2 (k + 1) y0 y1))
 | 0 => ⟨fun _ _ r h => by simp [lex_of.j0] at h, fun _ _ r h => by simp [lex_of.j1] at h, fun _ _ r h => by simp [lex_of.j2] at h⟩
 | k + 1 => by
  obtain ⟨ih0, ih1, ih2⟩ := lex_of.mono_l k
  refine ⟨?_, ?_, ?_⟩
  all_goals intros
  all_goals first | unfold lex_of.j0 | unfold lex_of.j1 | unfold lex_of.j2
  all_goals repeat' first | (with_reducible first | exact ih0 _ _ | exact ih1 _ _ | exact ih2 _ _ | exact LeO.refl _ | exact LeO.none _ | refine LeO.ite ?_ ?_ | refine LeO.bind ?_ (fun _ => ?_)) | exact LeO.none _ | refine LeO.ite ?_ ?_ | refine LeO.bind ?_ (fun _ => ?_)
theorem lex_of.mono : ∀ a0 k, LeO (lex_of.f k a0) (lex_of.f (k + 1) a0) := by
 intro a0 k
 obtain ⟨ih0, ih1, ih2⟩ := lex_of.mono_l k
 unfold lex_of.f
 repeat' first | (with_reducible first | exact ih0 _ _ | exact ih1 _ _ | exact ih2 _ _ | exact LeO.refl _ | exact LeO.none _ | refine LeO.ite ?_ ?_ | refine LeO.bind ?_ (fun _ => ?_)) | exact LeO.none _ | refine LeO.ite ?_ ?_ | refine LeO.bind ?_ (fun _ => ?_)
set_option maxHeartbeats 8000000 in
set_option maxRecDepth 100000 in
theorem lex_of.calls (k : Nat) (a0 : Int) (r : Int) (w : World) (h : lex_of.f k a0 = some r) :
  Calls Tryd.prog 80 #[.int .u8 a0] w fun e w' => e = .returned (.int .u8 r) ∧ Drawn0 w w' := by
 have H : (if a0 = 32 then (lex_of.j0 k a0 (a0 == 32)) else (if a0 = 9 then (lex_of.j0 k a0 (a0 == 9)) else (if a0 = 13 then (lex_of.j0 k a0 (a0 == 13)) else (lex_of.j0 k a0 (a0 == 10))))) = some r := h
 clear h
 have HC2 := zM H
 clear H
 go_enter Tryd.func80, Tryd.ntmps80
 go_upto_if 3 with (fail)
 go_cut [3] (fun v3 wc => ∃ (kq : Nat) (x3_1 : Bool), v3 = .bool x3_1 ∧ Aside0 (lex_of.j0 kq a0 x3_1 = some r) ∧ Aside0 (kq ≤ k) ∧ Drawn0 w wc)
 case first =>
  have H := HC2.out
  clear HC2
  by_cases c3 : a0 = 32
  ·
   rw [if_pos c3] at H
   obtain ⟨c3b0, c3b1⟩ := eqb c3
   clear c3
   (first | rw [c3b0] | (simp only [i64_w, i32_w]; rw [c3b0]) | skip)
   have H' := zM H
   clear H
   go_wp2
   go_meet
   case rel => exact ⟨_, ((a0 == 32)), s7, H', ⟨s5⟩, s16⟩
  rw [if_neg c3] at H
  obtain ⟨c3b0, c3b1⟩ := neb c3
  (first | rw [c3b0] | (simp only [i64_w, i32_w]; rw [c3b0]) | skip)
  by_cases c4 : a0 = 9
  ·
   rw [if_pos c4] at H
   obtain ⟨c4b0, c4b1⟩ := eqb c4
   clear c4
   have H' := zM H
   clear H
   go_wp2
   go_meet
   case rel => exact ⟨_, ((a0 == 9)), s7, H', ⟨s5⟩, s16⟩
  rw [if_neg c4] at H
  obtain ⟨c4b0, c4b1⟩ := neb c4
  by_cases c5 : a0 = 13
  ·
   rw [if_pos c5] at H
   obtain ⟨c5b0, c5b1⟩ := eqb c5
   clear c5
   have H' := zM H
   clear H
   go_wp2
   go_meet
   case rel => exact ⟨_, ((a0 == 13)), s7, H', ⟨s5⟩, s16⟩
  rw [if_neg c5] at H
  obtain ⟨c5b0, c5b1⟩ := neb c5
  have H' := zM H
  clear H
  go_wp2
  go_meet
  case rel => exact ⟨_, ((a0 == 10)), s7, H', ⟨s5⟩, s16⟩
 clear HC2
 obtain ⟨kq, x3_1, rfl, HA, HJ1, ⟨mc1, rfl⟩⟩ := hcut
 cases kq with
 | zero => exact absurd HA.out (by simp [lex_of.j0])
 | succ kj1 =>
  have H := HA.out
  clear HA
  simp only [lex_of.j0] at H
  by_cases c6 : x3_1 = true
  ·
   subst c6
   have H1 : (some 1) = some r := by rw [if_pos rfl] at H; exact H
   clear H
   have H := H1
   clear H1
   obtain rfl := Option.some.inj H
   go_wp2
   go_ret
   exact ⟨s7, s16⟩
  replace c6 := Bool.eq_false_iff.mpr c6
  subst c6
  have H1 : (if a0 = 35 then (some 4) else (if a0 ≥ 97 then (lex_of.j1 kj1 a0 (decide (a0 ≤ 122))) else (lex_of.j1 kj1 a0 false))) = some r := by rw [if_neg (show ¬ (false = true) by decide)] at H; exact H
  clear H
  have H := H1
  clear H1
  by_cases c7 : a0 = 35
  ·
   rw [if_pos c7] at H
   obtain ⟨c7b0, c7b1⟩ := eqb c7
   clear c7
   obtain rfl := Option.some.inj H
   go_wp2
   go_ret
   exact ⟨s7, s16⟩
  rw [if_neg c7] at H
  obtain ⟨c7b0, c7b1⟩ := neb c7
  have HC8 := zM H
  clear H
  go_upto_region 8 with (fail)
  go_cut [15] (fun v15 wc => ∃ (kq : Nat) (x15_7 : Bool), v15 = .bool x15_7 ∧ Aside0 (lex_of.j1 kq a0 x15_7 = some r) ∧ Aside0 (kq ≤ kj1) ∧ Drawn0 w wc)
  case first =>
   have H := HC8.out
   clear HC8
   by_cases c9 : a0 ≥ 97
   ·
    rw [if_pos c9] at H
    have c9b0 := dge c9
    clear c9
    (first | rw [c9b0] | (simp only [i64_w, i32_w]; rw [c9b0]) | skip)
    have H' := zM H
    clear H
    go_wp2
    go_meet
    case rel => exact ⟨_, (decide (a0 ≤ 122)), s7, H', ⟨(by have := HJ1.out; first | omega | exact Nat.le_refl _)⟩, s16⟩
   rw [if_neg c9] at H
   have c9b0 := dnge c9
   clear c9
   (first | rw [c9b0] | (simp only [i64_w, i32_w]; rw [c9b0]) | skip)
   have H' := zM H
   clear H
   go_wp2
   go_meet
   case rel => exact ⟨_, (false), s7, H', ⟨(by have := HJ1.out; first | omega | exact Nat.le_refl _)⟩, s16⟩
  clear HC8
  obtain ⟨kq, x15_7, rfl, HA, HJ7, ⟨mc7, rfl⟩⟩ := hcut
  cases kq with
  | zero => exact absurd HA.out (by simp [lex_of.j1])
  | succ kj7 =>
   have H := HA.out
   clear HA
   simp only [lex_of.j1] at H
   have HC10 := zM H
   clear H
   go_upto_if 15 with (fail)
   go_cut [15] (fun v15 wc => ∃ (kq : Nat) (x15_9 : Bool), v15 = .bool x15_9 ∧ Aside0 (lex_of.j2 kq a0 x15_9 = some r) ∧ Aside0 (kq ≤ kj7) ∧ Drawn0 w wc)
   case first =>
    have H := HC10.out
    clear HC10
    by_cases c11 : x15_7 = true
    ·
     subst c11
     have H1 : (lex_of.j2 kj7 a0 true) = some r := by rw [if_pos rfl] at H; exact H
     clear H
     have H := H1
     clear H1
     have H' := zM H
     clear H
     go_wp2
     go_meet
     case rel => exact ⟨_, (true), s7, H', ⟨q5_3⟩, s16⟩
    replace c11 := Bool.eq_false_iff.mpr c11
    subst c11
    have H1 : (if a0 ≥ 65 then (lex_of.j2 kj7 a0 (decide (a0 ≤ 90))) else (lex_of.j2 kj7 a0 false)) = some r := by rw [if_neg (show ¬ (false = true) by decide)] at H; exact H
    clear H
    have H := H1
    clear H1
    by_cases c12 : a0 ≥ 65
    ·
     rw [if_pos c12] at H
     have c12b0 := dge c12
     clear c12
     (first | rw [c12b0] | (simp only [i64_w, i32_w]; rw [c12b0]) | skip)
     have H' := zM H
     clear H
     go_wp2
     go_meet
     case rel => exact ⟨_, (decide (a0 ≤ 90)), s7, H', ⟨q5_3⟩, s16⟩
    rw [if_neg c12] at H
    have c12b0 := dnge c12
    clear c12
    (first | rw [c12b0] | (simp only [i64_w, i32_w]; rw [c12b0]) | skip)
    have H' := zM H
    clear H
    go_wp2
    go_meet
    case rel => exact ⟨_, (false), s7, H', ⟨q5_3⟩, s16⟩
   clear HC10
   obtain ⟨kq, x15_9, rfl, HA, HJ9, ⟨mc9, rfl⟩⟩ := hcut
   cases kq with
   | zero => exact absurd HA.out (by simp [lex_of.j2])
   | succ kj9 =>
    have H := HA.out
    clear HA
    simp only [lex_of.j2] at H
    by_cases c13 : x15_9 = true
    ·
     subst c13
     have H1 : (some 2) = some r := by rw [if_pos rfl] at H; exact H
     clear H
     have H := H1
     clear H1
     obtain rfl := Option.some.inj H
     go_wp2
     go_ret
     exact ⟨s7, s16⟩
    replace c13 := Bool.eq_false_iff.mpr c13
    subst c13
    have H1 : (if a0 ≥ 48 then (if a0 ≤ 57 then (some 3) else (some 0)) else (some 0)) = some r := by rw [if_neg (show ¬ (false = true) by decide)] at H; exact H
    clear H
    have H := H1
    clear H1
    by_cases c14 : a0 ≥ 48
    ·
     rw [if_pos c14] at H
     have c14b0 := dge c14
     clear c14
     by_cases c15 : a0 ≤ 57
     ·
      rw [if_pos c15] at H
      have c15b0 := zD c15
      clear c15
      obtain rfl := Option.some.inj H
      go_wp2
      go_ret
      exact ⟨s7, s16⟩
     rw [if_neg c15] at H
     have c15b0 := decide_eq_false c15
     clear c15
     obtain rfl := Option.some.inj H
     go_wp2
     go_ret
     exact ⟨s7, s16⟩
    rw [if_neg c14] at H
    have c14b0 := dnge c14
    clear c14
    obtain rfl := Option.some.inj H
    go_wp2
    go_ret
    exact ⟨s7, s16⟩

/-! ### lex_word: function 81 -/
def lex_word.l0 : Nat → ByteArray → Int → Option (Int)
 | 0, _, _ => none
 | k + 1, x0, x3 => if x3 < (x0.size : Int) then (if 0 ≤ x3 then ((lex_of.f k (bt x0 x3)).bind fun t169 => (if t169 = 2 then (lex_word.l0 k x0 (wrap64 (x3 + 1))) else (if t169 = 3 then (lex_word.l0 k x0 (wrap64 (x3 + 1))) else (if (bt x0 x3) = 95 then (lex_word.l0 k x0 (wrap64 (x3 + 1))) else (some x3))))) else (none)) else (some x3)
def lex_word.f (k : Nat) (a0 : ByteArray) : Option (Int) := lex_word.l0 k a0 1
theorem lex_word.mono_l : ∀ k, (∀ y0 y1, LeO (lex_word.l0 k y0 y1) (lex_word.l0 (k + 1) y0 y1))
 | 0 => fun _ _ r h => by simp [lex_word.l0] at h
 | k + 1 => by
  have ih0 := lex_word.mono_l k
  ·
   intro y0 y1
   unfold lex_word.l0
   repeat' first | (with_reducible first | exact ih0 _ _ | exact lex_of.mono _ _ | exact LeO.refl _ | exact LeO.none _ | refine LeO.ite ?_ ?_ | refine LeO.bind ?_ (fun _ => ?_)) | exact LeO.none _ | refine LeO.ite ?_ ?_ | refine LeO.bind ?_ (fun _ => ?_)
theorem lex_word.mono : ∀ a0 k, LeO (lex_word.f k a0) (lex_word.f (k + 1) a0) := by
 intro a0 k
 have ih0 := lex_word.mono_l k
 unfold lex_word.f
 repeat' first | (with_reducible first | exact ih0 _ _ | exact lex_of.mono _ _ | exact LeO.refl _ | exact LeO.none _ | refine LeO.ite ?_ ?_ | refine LeO.bind ?_ (fun _ => ?_)) | exact LeO.none _ | refine LeO.ite ?_ ?_ | refine LeO.bind ?_ (fun _ => ?_)
set_option maxHeartbeats 8000000 in
set_option maxRecDepth 100000 in
theorem lex_word.calls (k : Nat) (a0 : ByteArray) (r : Int) (w : World) (h : lex_word.f k a0 = some r) :
  Calls Tryd.prog 81 #[.string a0] w fun e w' => e = .returned (.int .i64 r) ∧ Drawn0 w w' := by
 have H : (lex_word.l0 k a0 1) = some r := h
 clear h
 have H' := zM H
 clear H
 go_enter Tryd.func81, Tryd.ntmps81
 go_wp2
 go_loopg [3] k (fun kq v3 w' => ∃ (x3_1 : Int), v3 = .int .i64 x3_1 ∧ Aside0 (lex_word.l0 kq a0 x3_1 = some r) ∧ Aside0 (kq ≤ k) ∧ Drawn0 w w')
 case atStart => exact ⟨(1), s7, H', ⟨Nat.le_refl _⟩, s16⟩
 clear H'
 obtain ⟨x3_1, rfl, HA, HK1, ⟨m1, rfl⟩⟩ := hrel
 cases gk with
 | zero => exact absurd HA.out (by simp [lex_word.l0])
 | succ k1 =>
  have H := HA.out
  clear HA
  simp only [lex_word.l0] at H
  by_cases c2 : x3_1 < (a0.size : Int)
  ·
   rw [if_pos c2] at H
   have c2b0 := zD c2
   clear c2
   by_cases c3 : 0 ≤ x3_1
   ·
    rw [if_pos c3] at H
    have c3b0 := zD c3
    clear c3
    replace H := Option.bind_eq_some_iff.mp H
    obtain ⟨t169, A50, H⟩ := H
    replace H : (if t169 = 2 then (lex_word.l0 k1 a0 (wrap64 (x3_1 + 1))) else (if t169 = 3 then (lex_word.l0 k1 a0 (wrap64 (x3_1 + 1))) else (if (bt a0 x3_1) = 95 then (lex_word.l0 k1 a0 (wrap64 (x3_1 + 1))) else (some x3_1)))) = some r := H
    have A5 := zM A50
    clear A50
    by_cases c6 : t169 = 2
    ·
     rw [if_pos c6] at H
     obtain ⟨c6b0, c6b1⟩ := eqb c6
     clear c6
     have H' := zM H
     clear H
     have p4 : 0 ≤ (x3_1 : Int) := zO s3
     have q4 : x3_1 < (a0.size : Int) := zO s3
     have hx4 := bt_at a0 x3_1
     replace p4 := eq_true p4
     replace q4 := eq_true q4
     go_wp2_with (first | (go_at_call 80; (with_reducible refine (lex_of.calls k1 (bt a0 x3_1) t169 _ A5.out).mono ?_); rintro e w' ⟨rfl, ⟨nd, rfl⟩⟩))
     go_roundg k1
     case measure => have := HK1.out; omega
     case rel => exact ⟨(wrap64 (x3_1 + 1)), s7, H', ⟨(by have := HK1.out; omega)⟩, s16⟩
    rw [if_neg c6] at H
    obtain ⟨c6b0, c6b1⟩ := neb c6
    by_cases c8 : t169 = 3
    ·
     rw [if_pos c8] at H
     obtain ⟨c8b0, c8b1⟩ := eqb c8
     clear c8
     have H' := zM H
     clear H
     have p4 : 0 ≤ (x3_1 : Int) := zO s3
     have q4 : x3_1 < (a0.size : Int) := zO s3
     have hx4 := bt_at a0 x3_1
     replace p4 := eq_true p4
     replace q4 := eq_true q4
     go_wp2_with (first | (go_at_call 80; (with_reducible refine (lex_of.calls k1 (bt a0 x3_1) t169 _ A5.out).mono ?_); rintro e w' ⟨rfl, ⟨nd, rfl⟩⟩; have p7 : 0 ≤ (x3_1 : Int) := zO s3; have q7 : x3_1 < (a0.size : Int) := zO s3; have hx7 := bt_at a0 x3_1; replace p7 := eq_true p7; replace q7 := eq_true q7))
     go_roundg k1
     case measure => have := HK1.out; omega
     case rel => exact ⟨(wrap64 (x3_1 + 1)), s7, H', ⟨(by have := HK1.out; omega)⟩, s16⟩
    rw [if_neg c8] at H
    obtain ⟨c8b0, c8b1⟩ := neb c8
    by_cases c10 : (bt a0 x3_1) = 95
    ·
     rw [if_pos c10] at H
     obtain ⟨c10b0, c10b1⟩ := eqb c10
     clear c10
     have H' := zM H
     clear H
     have p4 : 0 ≤ (x3_1 : Int) := zO s3
     have q4 : x3_1 < (a0.size : Int) := zO s3
     have hx4 := bt_at a0 x3_1
     replace p4 := eq_true p4
     replace q4 := eq_true q4
     go_wp2_with (first | (go_at_call 80; (with_reducible refine (lex_of.calls k1 (bt a0 x3_1) t169 _ A5.out).mono ?_); rintro e w' ⟨rfl, ⟨nd, rfl⟩⟩; have p7 : 0 ≤ (x3_1 : Int) := zO s3; have q7 : x3_1 < (a0.size : Int) := zO s3; have hx7 := bt_at a0 x3_1; replace p7 := eq_true p7; replace q7 := eq_true q7; have p9 : 0 ≤ (x3_1 : Int) := zO s3; have q9 : x3_1 < (a0.size : Int) := zO s3; have hx9 := bt_at a0 x3_1; replace p9 := eq_true p9; replace q9 := eq_true q9))
     go_roundg k1
     case measure => have := HK1.out; omega
     case rel => exact ⟨(wrap64 (x3_1 + 1)), s7, H', ⟨(by have := HK1.out; omega)⟩, s16⟩
    rw [if_neg c10] at H
    obtain ⟨c10b0, c10b1⟩ := neb c10
    obtain rfl := Option.some.inj H
    have p4 : 0 ≤ (x3_1 : Int) := zO s3
    have q4 : x3_1 < (a0.size : Int) := zO s3
    have hx4 := bt_at a0 x3_1
    replace p4 := eq_true p4
    replace q4 := eq_true q4
    go_wp2_with (first | (go_at_call 80; (with_reducible refine (lex_of.calls k1 (bt a0 x3_1) t169 _ A5.out).mono ?_); rintro e w' ⟨rfl, ⟨nd, rfl⟩⟩; have p7 : 0 ≤ (x3_1 : Int) := zO s3; have q7 : x3_1 < (a0.size : Int) := zO s3; have hx7 := bt_at a0 x3_1; replace p7 := eq_true p7; replace q7 := eq_true q7; have p9 : 0 ≤ (x3_1 : Int) := zO s3; have q9 : x3_1 < (a0.size : Int) := zO s3; have hx9 := bt_at a0 x3_1; replace p9 := eq_true p9; replace q9 := eq_true q9))
    go_ret
    exact ⟨s7, s16⟩
   rw [if_neg c3] at H
   exact absurd H (by simp)
  rw [if_neg c2] at H
  have c2b0 := decide_eq_false c2
  clear c2
  obtain rfl := Option.some.inj H
  go_wp2
  go_ret
  exact ⟨s7, s16⟩

/-! ### lex_IsName: function 70 -/
def keptL : List ByteArray := tab_gnomon_lex_kept.map fun v => match v with | .string s => s | _ => ByteArray.empty
def lex_IsName.f (k : Nat) (a0 : ByteArray) : Option Bool :=
  if a0.size = 0 then some false else if a0.size > 16 then some false else
    (lex_of.f k (bt a0 0)).bind fun c => if c = 2 then (lex_word.f k a0).bind fun n => if n = (a0.size : Int) then some (!(Lib.containsS keptL a0)) else some false else some false
theorem lex_IsName.mono : ∀ a0 k, LeO (lex_IsName.f k a0) (lex_IsName.f (k + 1) a0) := by
  intro a0 k
  unfold lex_IsName.f
  refine LeO.ite (LeO.refl _) (LeO.ite (LeO.refl _) (LeO.bind (lex_of.mono _ _) (fun c => LeO.ite (LeO.bind (lex_word.mono _ _) (fun n => LeO.refl _)) (LeO.refl _))))
theorem kept_cells {w : World} (hG : Glob w) : ∀ j, j < keptL.length → w.cell? ⟨2, 0 + j, none⟩ = some (.string (keptL.getD j ByteArray.empty)) := by
  intro j hj
  have h := hG.g_tab_gnomon_lex_kept j hj
  rw [Nat.zero_add, h]
  have hj' : j < 16 := hj
  have : j = 0 ∨ j = 1 ∨ j = 2 ∨ j = 3 ∨ j = 4 ∨ j = 5 ∨ j = 6 ∨ j = 7 ∨ j = 8 ∨ j = 9 ∨ j = 10 ∨ j = 11 ∨ j = 12 ∨ j = 13 ∨ j = 14 ∨ j = 15 := by omega
  rcases this with rfl | rfl | rfl | rfl | rfl | rfl | rfl | rfl | rfl | rfl | rfl | rfl | rfl | rfl | rfl | rfl <;> rfl
set_option maxHeartbeats 1000000 in
theorem lex_IsName.calls (k : Nat) (a0 : ByteArray) (r : Bool) (w : World) (hG : Glob w) (h : lex_IsName.f k a0 = some r) :
    Calls Tryd.prog 70 #[.string a0] w fun e w' => e = .returned (.bool r) ∧ Drawn0 w w' := by
  unfold lex_IsName.f at h
  have HG := zM hG
  clear hG
  by_cases h0 : a0.size = 0
  · rw [if_pos h0] at h
    obtain rfl := Option.some.inj h
    obtain rfl : a0 = ⟨#[]⟩ := by
      obtain ⟨⟨l⟩⟩ := a0
      have : l.length = 0 := h0
      rw [List.eq_nil_of_length_eq_zero this]
    clear h h0
    go_enter Tryd.func70, Tryd.ntmps70
    go_wp2
    go_ret
    exact ⟨rfl, Drawn0.refl _⟩
  · rw [if_neg h0] at h
    have e1 : (a0.toList == ([] : List UInt8)) = false := by
      rw [beq_eq_false_iff_ne]; intro e
      have : a0.toList.length = 0 := by rw [e]; rfl
      rw [Lib.toList_data, data_length] at this; exact h0 this
    have e2 : (a0.toList != ([] : List UInt8)) = true := by rw [bne, e1]; rfl
    have e3 : a0.toList.isEmpty = false := by cases hl : a0.toList with
      | nil => rw [hl] at e1; simp at e1
      | cons _ _ => rfl
    by_cases h1 : a0.size > 16
    · rw [if_pos h1] at h
      obtain rfl := Option.some.inj h
      have d1 : decide ((a0.size : Int) ≤ 16) = false := decide_eq_false (by omega)
      have d2 : decide (a0.size ≤ 16) = false := decide_eq_false (by omega)
      clear h h0 h1
      go_enter Tryd.func70, Tryd.ntmps70
      go_wp2
      go_ret
      exact ⟨rfl, Drawn0.refl _⟩
    · rw [if_neg h1] at h
      have d1 : decide ((a0.size : Int) ≤ 16) = true := zD (by omega)
      have d2 : decide (a0.size ≤ 16) = true := zD (by omega)
      have p0 : 0 < a0.size := by omega
      have hb : ((a0[0]'p0).toNat : Int) = bt a0 0 := bt_at a0 0 p0
      have hb' : ∀ h : 0 < a0.size, ((a0[0]'h).toNat : Int) = bt a0 0 := bt_at a0 0
      obtain ⟨c, hc, h⟩ := Option.bind_eq_some_iff.1 h
      have HC := zM hc
      have HP := zM p0
      clear hc h1 h0 hb
      by_cases h2 : c = 2
      · subst h2
        rw [if_pos rfl] at h
        obtain ⟨n, hn, h⟩ := Option.bind_eq_some_iff.1 h
        have HN := zM hn
        clear hn
        by_cases h3 : n = (a0.size : Int)
        · rw [if_pos h3] at h
          obtain rfl := Option.some.inj h
          subst h3
          clear h
          go_enter Tryd.func70, Tryd.ntmps70
          go_wp2_with (first | (go_at_call 80; (with_reducible refine (lex_of.calls k (bt a0 0) 2 _ HC.out).mono ?_); rintro e w' ⟨rfl, ⟨nd, rfl⟩⟩) | (go_at_call 81; (with_reducible refine (lex_word.calls k a0 _ _ HN.out).mono ?_); rintro e w' ⟨rfl, ⟨nd2, rfl⟩⟩) | (go_at_call 82; (refine (Tryd.slices_Contains_string 2 0 16 16 keptL a0 _ (Nat.le_refl _) (by decide) (kept_cells (by repeat (first | exact HG.out | refine Glob.drewN ?_ _)))).mono ?_); rintro e w' ⟨rfl, rfl⟩))
          go_ret
          exact ⟨rfl, (Drawn0.refl _).step _⟩
        · rw [if_neg h3] at h
          obtain rfl := Option.some.inj h
          have g1 : (n == (a0.size : Int)) = false := beq_eq_false_iff_ne.mpr h3
          have g2 : (n != (a0.size : Int)) = true := bne_iff_ne.mpr h3
          clear h h3
          go_enter Tryd.func70, Tryd.ntmps70
          go_wp2_with (first | (go_at_call 80; (with_reducible refine (lex_of.calls k (bt a0 0) 2 _ HC.out).mono ?_); rintro e w' ⟨rfl, ⟨nd, rfl⟩⟩) | (go_at_call 81; (with_reducible refine (lex_word.calls k a0 _ _ HN.out).mono ?_); rintro e w' ⟨rfl, ⟨nd2, rfl⟩⟩))
          go_ret
          exact ⟨rfl, (Drawn0.refl _).step _⟩
      · rw [if_neg h2] at h
        obtain rfl := Option.some.inj h
        have g1 : (c == 2) = false := beq_eq_false_iff_ne.mpr h2
        have g2 : (c != 2) = true := bne_iff_ne.mpr h2
        clear h h2
        go_enter Tryd.func70, Tryd.ntmps70
        go_wp2_with (first | (go_at_call 80; (with_reducible refine (lex_of.calls k (bt a0 0) c _ HC.out).mono ?_); rintro e w' ⟨rfl, ⟨nd, rfl⟩⟩))
        go_ret
        exact ⟨rfl, (Drawn0.refl _).step _⟩

/-! ### net_given: function 51 -/
/-- What is left of the list, when those seen stand in L. -/
def net_given.go : Nat → List ByteArray → List ByteArray → Option Bool
  | 0, _, _ => none
  | _ + 1, _, [] => some true
  | k + 1, L, s :: t => (lex_IsName.f k s).bind fun b => if b = true then (if s.size > 16 then some false else if L.any (fun x => x.data.toList == s.data.toList) = true then some false else net_given.go k (s :: L) t) else some false
theorem net_given.go_mono : ∀ k L l, LeO (net_given.go k L l) (net_given.go (k + 1) L l)
  | 0, _, _ => fun r h => by simp [net_given.go] at h
  | k + 1, L, [] => LeO.refl _
  | k + 1, L, s :: t => by
    unfold net_given.go
    exact LeO.bind (lex_IsName.mono _ _) (fun b => LeO.ite (LeO.ite (LeO.refl _) (LeO.ite (LeO.refl _) (net_given.go_mono k _ _))) (LeO.refl _))
def net_given.f (k : Nat) (l0 : List ByteArray) : Option Bool := if l0.length ≤ 140737488351232 then net_given.go k [] l0 else none
theorem net_given.mono : ∀ a0 k, LeO (net_given.f k a0) (net_given.f (k + 1) a0) := fun a0 k => by
  unfold net_given.f
  exact LeO.ite (net_given.go_mono k _ _) (LeO.refl _)
theorem net_given.zero (W : World) : (zeroValue 4).run Tryd.prog W = .ok (.bool false) W := by kernel_rfl
set_option maxHeartbeats 4000000 in
set_option maxRecDepth 100000 in
theorem net_given.calls (k : Nat) (A0 : Option Addr) (c0 : Nat) (l0 : List ByteArray) (r : Bool) (w : World) (hG : Glob w) (hr0 : Kd.C Kd.string w A0 l0.length l0) (hc0 : l0.length ≤ c0) (h : net_given.f k l0 = some r) :
    Calls Tryd.prog 51 #[.slice A0 l0.length c0] w fun e w' => e = .returned (.bool r) ∧ Below w.heap.size w w' := by
  unfold net_given.f at h
  by_cases hlen : l0.length ≤ 140737488351232
  · rw [if_pos hlen] at h
    have hmm := @run_makeMap Tryd.prog
    have HG := zM hG
    have HR := zM hr0
    have HC := zM hc0
    have HH := zM h
    have HN := zM hlen
    clear hG hr0 hc0 h hlen
    go_enter Tryd.func51, Tryd.ntmps51
    go_wp2
    go_loopw [9] (fun p wr => ∃ (j kq : Nat), p = .int .i64 j ∧ Aside0 (j ≤ l0.length) ∧ Aside0 (net_given.go kq (l0.take j).reverse (l0.drop j) = some r) ∧ Aside0 (Seen Tryd.prog 9 4 wr w.heap.size j (l0.take j).reverse) ∧ Aside0 (Below w.heap.size w wr))
      (fun p _ => l0.length - (intOf p).toNat)
    case atStart => exact ⟨0, k, rfl, ⟨Nat.zero_le _⟩, ⟨(by simpa using HH.out)⟩, ⟨Seen.made _ _ _ _⟩, ⟨(Below.refl _ _).alloc (Nat.le_refl _) _⟩⟩
    case round =>
      obtain ⟨j, kq, rfl, hj, hgo, hS, hB⟩ := hrel
      by_cases hlt : j < l0.length
      · obtain ⟨b, o, rfl, hb, hcells⟩ := C_strs HR.out (by omega)
        have hcx : wr.cell? ⟨b, o + j, none⟩ = some (.string (l0[j]'hlt)) := (hB.out.cell (by exact hb)).trans (hcells j _ (List.getElem?_eq_getElem hlt))
        have h1 := hgo.out
        rw [List.drop_eq_getElem_cons hlt] at h1
        generalize hs : l0[j]'hlt = s at h1 hcx
        cases kq with
        | zero => simp [net_given.go] at h1
        | succ kq =>
        unfold net_given.go at h1
        obtain ⟨b1, hb1, h1⟩ := Option.bind_eq_some_iff.1 h1
        have HI := zM hb1
        have d1 : decide ((j : Int) < (l0.length : Int)) = true := zD (by omega)
        have d2 : decide (j < l0.length) = true := zD hlt
        have H1 := zM h1
        have HL := zM hlt
        have hs2 : l0[j]? = some s := by rw [List.getElem?_eq_getElem hlt, hs]
        have HS := zM hs2
        have p0 : (0 ≤ (j : Int)) = True := eq_true (by omega)
        have q0 : ((j : Int) < (l0.length : Int)) = True := eq_true (by omega)
        have q1 : (j < l0.length) = True := eq_true hlt
        have hw : wrap64 ((j : Int) + 1) = ((j + 1 : Nat) : Int) := by have := HN.out; unfold wrap64; omega
        have HW := zM hw
        clear h1 hb1 hgo hs hs2 hlt hw
        cases b1 with
        | false =>
          have hr := Option.some.inj H1.out
          subst hr
          go_wp2_with (first | (go_at_call 70; (with_reducible refine (lex_IsName.calls kq s false _ (HG.out.below hB.out) HI.out).mono ?_); rintro e w' ⟨rfl, ⟨nd, rfl⟩⟩))
          go_ret
          exact ⟨rfl, pw_below_drewN hB.out _⟩
        | true =>
          have h1 := H1.out
          rw [if_pos rfl] at h1
          by_cases hz : s.size > 16
          · rw [if_pos hz] at h1
            have hr := Option.some.inj h1
            subst hr
            have d3 : decide (16 < s.size) = true := zD hz
            have d4 : decide ((16 : Int) < (s.size : Int)) = true := zD (by omega)
            have d5 : decide ((s.size : Int) > (16 : Int)) = true := zD (by omega)
            clear h1 hz
            go_wp2_with (first | (go_at_call 70; (with_reducible refine (lex_IsName.calls kq s true _ (HG.out.below hB.out) HI.out).mono ?_); rintro e w' ⟨rfl, ⟨nd, rfl⟩⟩))
            go_ret
            exact ⟨rfl, pw_below_drewN hB.out _⟩
          · rw [if_neg hz] at h1
            have d3 : decide (16 < s.size) = false := decide_eq_false (by omega)
            have d4 : decide ((16 : Int) < (s.size : Int)) = false := decide_eq_false (by omega)
            have d5 : decide ((s.size : Int) > (16 : Int)) = false := decide_eq_false (by omega)
            have hz2 : s.size ≤ maxLen := by unfold maxLen; omega
            have HZ := zM hz2
            clear hz hz2
            by_cases ha : (l0.take j).reverse.any (fun x => x.data.toList == s.data.toList) = true
            · rw [if_pos ha] at h1
              have hr := Option.some.inj h1
              subst hr
              have HA := zM ha
              clear h1 ha
              go_wp2_with (first
                | (go_at_call 70; (with_reducible refine (lex_IsName.calls kq s true _ (HG.out.below hB.out) HI.out).mono ?_); rintro e w' ⟨rfl, ⟨nd, rfl⟩⟩)
                | (at_lookup; (refine gate_guard (by rfl) ?_; dsimp only); refine wp_look rfl _ _ _ rfl (v := .bool true) ?run ?_; (case run => exact q5_4)))
              go_ret
              exact ⟨rfl, pw_below_drewN hB.out _⟩
            · rw [if_neg ha] at h1
              have ha2 : (l0.take j).reverse.any (fun x => x.data.toList == s.data.toList) = false := by simpa using ha
              have HA := zM ha2
              have HN2 := zM h1
              clear h1 ha ha2
              go_wp2_with (first
                | (go_at_call 70; (with_reducible refine (lex_IsName.calls kq s true _ (HG.out.below hB.out) HI.out).mono ?_); rintro e w' ⟨rfl, ⟨nd, rfl⟩⟩)
                | (at_lookup; (refine gate_guard (by rfl) ?_; dsimp only); refine wp_look rfl _ _ _ rfl (v := .bool false) ?run ?_; (case run => exact q5_4))
                | (at_mapUpdate; obtain ⟨w2, hrun2, hS2, hg2⟩ := Seen.put (hS.out.drewN nd) Tryd.underlying9 Tryd.underlying113 Tryd.underlying4 (by have := hj.out; have := HN.out; unfold maxLen; omega) s HZ.out; refine wp_update rfl _ _ _ _ rfl hrun2 ?_))
              have HS2 := zM hS2
              have HG2 := zM hg2
              clear hS2 hg2 hrun2
              go_roundw
              case rel =>
                have e1 : (l0.take (j + 1)).reverse = s :: (l0.take j).reverse := by
                  rw [List.take_add_one, HS.out]
                  simp
                refine ⟨j + 1, kq, by rw [HW.out], ⟨HL.out⟩, ⟨by rw [e1]; exact HN2.out⟩, ⟨by rw [e1]; exact HS2.out⟩, ⟨?_⟩⟩
                exact (pw_below_drewN hB.out _).grown HG2.out (by have := hB.out.size; simpa using this) (fun k hk => by cases hk; exact Nat.le_refl _)
              case measure => rw [HW.out]; have := HL.out; simp [intOf]; omega
      · have d1 : decide ((j : Int) < (l0.length : Int)) = false := decide_eq_false (by omega)
        have d2 : decide (j < l0.length) = false := decide_eq_false hlt
        have hgo' : r = true := by
          have h1 := hgo.out
          rw [List.drop_eq_nil_of_le (by omega)] at h1
          cases kq with
          | zero => simp [net_given.go] at h1
          | succ kq => exact (Option.some.inj h1).symm
        subst hgo'
        clear hlt
        go_wp2
        go_ret
        exact ⟨rfl, hB.out⟩
  · rw [if_neg hlen] at h
    cases h

end Go.Proofs.YtpmhfahligjhaaaDoor.POrd
