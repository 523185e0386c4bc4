-- written by wip/tools/xprint.py (over the kit's print.py): not trusted, Lean checks it.
import Derived.Test.YtgkcjefbagnkpaaDoorPValx0
import Derived.Test.YtgkcjefbagnkpaaDoorPValx8
namespace Go.Proofs.YtgkcjefbagnkpaaDoor.PVal
open Go.RowKit Go.Proofs.YtgkcjefbagnkpaaDoorW.PrintWords Go.Proofs.YtgkcjefbagnkpaaDoorW.PrintLast Go.Proofs.YtgkcjefbagnkpaaDoorW.PrintMore Go.Proofs.YtgkcjefbagnkpaaDoorXW
attribute [local go_sem high] cell_set_map Option.map_some
attribute [local go_sem] max2_int min2_int max_two min_two max_three min_three max_four min_four   -- for this text's walks alone
set_option linter.unusedVariables false
set_option linter.unusedSimpArgs false

/-! ### gnomonref08_Right: function 57 -/
mutual
def gnomonref08_Right.j0 : Nat → List (S68) → Int → Bool → Option (Int)
 | 0, _, _, _ => none
 | k + 1, x0, x1, x24 => if x24 = true then (some 121) else (gnomonref08_Right.l0 k x0 x1 0)
def gnomonref08_Right.l0 : Nat → List (S68) → Int → Int → Option (Int)
 | 0, _, _, _ => none
 | k + 1, x0, x1, x5 => if x5 < (x0.length : Int) then (if 0 ≤ x5 then (if ((rd_T68 x0 x5).f0) < 1 then (gnomonref08_Right.j2 k x0 x1 x5 ((rd_T68 x0 x5).f0) ((rd_T68 x0 x5).f1) true) else (gnomonref08_Right.j2 k x0 x1 x5 ((rd_T68 x0 x5).f0) ((rd_T68 x0 x5).f1) (decide (((rd_T68 x0 x5).f0) > 14)))) else (none)) else (some 0)
def gnomonref08_Right.j2 : Nat → List (S68) → Int → Int → Int → Int → Bool → Option (Int)
 | 0, _, _, _, _, _, _ => none
 | k + 1, x0, x1, x5, x6, x7, x46 => if x46 = true then (some 121) else (if x6 = 1 then (if x7 < 0 then (gnomonref08_Right.j3 k x0 x1 x5 x6 true) else (if x7 > 1048576 then (gnomonref08_Right.j3 k x0 x1 x5 x6 true) else (if x6 = 2 then (if x7 ≥ x1 then (gnomonref08_Right.j3 k x0 x1 x5 x6 true) else (gnomonref08_Right.j3 k x0 x1 x5 x6 false)) else (gnomonref08_Right.j3 k x0 x1 x5 x6 false)))) else (if x6 = 2 then (if x7 < 0 then (gnomonref08_Right.j3 k x0 x1 x5 x6 true) else (if x7 ≥ x1 then (gnomonref08_Right.j3 k x0 x1 x5 x6 true) else (gnomonref08_Right.j3 k x0 x1 x5 x6 false))) else (gnomonref08_Right.j3 k x0 x1 x5 x6 (x7 != 0))))
def gnomonref08_Right.j3 : Nat → List (S68) → Int → Int → Int → Bool → Option (Int)
 | 0, _, _, _, _, _ => none
 | k + 1, x0, x1, x5, x6, x81 => if x81 = true then (some 121) else (gnomonref08_Right.l1 k x0 x1 x5 x6 (wrap64 (x5 + 1)) 0)
def gnomonref08_Right.l1 : Nat → List (S68) → Int → Int → Int → Int → Int → Option (Int)
 | 0, _, _, _, _, _, _ => none
 | k + 1, x0, x1, x5, x6, x8, x9 => (gnomonref08_parts.f k x6).bind fun t238 => (if x9 < t238 then (if 0 ≤ x8 then (if x8 < (x0.length : Int) then ((gnomonref08_truth.f ((rd_T68 x0 x8).f0)).bind fun t240 => ((gnomonref08_numbers.f x6).bind fun t241 => (if (t240 == t241) = true then (some 121) else ((gnomonref08_End.f k x0 x8).bind fun t242 => (gnomonref08_Right.l1 k x0 x1 x5 x6 t242 (wrap64 (x9 + 1))))))) else (none)) else (none)) else (gnomonref08_Right.l0 k x0 x1 (wrap64 (x5 + 1))))
end
def gnomonref08_Right.f (k : Nat) (l0 : List (S68)) (a1 : Int) : Option (Int) := if (l0.length : Int) = 0 then (gnomonref08_Right.j0 k l0 a1 true) else (if (l0.length : Int) > 64 then (gnomonref08_Right.j0 k l0 a1 true) else ((gnomonref08_End.f k l0 0).bind fun t235 => (gnomonref08_Right.j0 k l0 a1 (t235 != (l0.length : Int)))))
theorem gnomonref08_Right.mono_l : ∀ k, (∀ y0 y1 y2, LeO (gnomonref08_Right.j0 k y0 y1 y2) (gnomonref08_Right.j0 (k + 1) y0 y1 y2)) ∧ (∀ y0 y1 y2, LeO (gnomonref08_Right.l0 k y0 y1 y2) (gnomonref08_Right.l0 (k + 1) y0 y1 y2)) ∧ (∀ y0 y1 y2 y3 y4 y5, LeO (gnomonref08_Right.j2 k y0 y1 y2 y3 y4 y5) (gnomonref08_Right.j2 (k + 1) y0 y1 y2 y3 y4 y5)) ∧ (∀ y0 y1 y2 y3 y4, LeO (gnomonref08_Right.j3 k y0 y1 y2 y3 y4) (gnomonref08_Right.j3 (k + 1) y0 y1 y2 y3 y4)) ∧ (∀ y0 y1 y2 y3 y4 y5, LeO (gnomonref08_Right.l1 k y0 y1 y2 y3 y4 y5) (gnomonref08_Right.l1 (k + 1) y0 y1 y2 y3 y4 y5))
 | 0 => ⟨fun _ _ _ r h => by simp [gnomonref08_Right.j0] at h, fun _ _ _ r h => by simp [gnomonref08_Right.l0] at h, fun _ _ _ _ _ _ r h => by simp [gnomonref08_Right.j2] at h, fun _ _ _ _ _ r h => by simp [gnomonref08_Right.j3] at h, fun _ _ _ _ _ _ r h => by simp [gnomonref08_Right.l1] at h⟩
 | k + 1 => by
  obtain ⟨ih0, ih1, ih2, ih3, ih4⟩ := gnomonref08_Right.mono_l k
  refine ⟨?_, ?_, ?_, ?_, ?_⟩
  ·
   intro y0 y1 y2
   unfold gnomonref08_Right.j0
   repeat' first
   | (with_reducible exact ih0 _ _ _)
   | (with_reducible exact ih1 _ _ _)
   | (with_reducible exact ih2 _ _ _ _ _ _)
   | (with_reducible exact ih3 _ _ _ _ _)
   | (with_reducible exact ih4 _ _ _ _ _ _)
   | (with_reducible exact gnomonref08_End.mono _ _ _)
   | (with_reducible exact gnomonref08_parts.mono _ _)
   | (with_reducible exact LeO.refl _)
   | (with_reducible exact LeO.none _)
   | (with_reducible refine LeO.ite ?_ ?_)
   | (with_reducible refine LeO.bind ?_ (fun _ => ?_))
   | exact ih0 _ _ _
   | exact ih1 _ _ _
   | exact ih2 _ _ _ _ _ _
   | exact ih3 _ _ _ _ _
   | exact ih4 _ _ _ _ _ _
   | exact gnomonref08_End.mono _ _ _
   | exact gnomonref08_parts.mono _ _
   | exact LeO.none _
   | refine LeO.ite ?_ ?_
   | refine LeO.bind ?_ (fun _ => ?_)
  ·
   intro y0 y1 y2
   unfold gnomonref08_Right.l0
   repeat' first
   | (with_reducible exact ih0 _ _ _)
   | (with_reducible exact ih1 _ _ _)
   | (with_reducible exact ih2 _ _ _ _ _ _)
   | (with_reducible exact ih3 _ _ _ _ _)
   | (with_reducible exact ih4 _ _ _ _ _ _)
   | (with_reducible exact gnomonref08_End.mono _ _ _)
   | (with_reducible exact gnomonref08_parts.mono _ _)
   | (with_reducible exact LeO.refl _)
   | (with_reducible exact LeO.none _)
   | (with_reducible refine LeO.ite ?_ ?_)
   | (with_reducible refine LeO.bind ?_ (fun _ => ?_))
   | exact ih0 _ _ _
   | exact ih1 _ _ _
   | exact ih2 _ _ _ _ _ _
   | exact ih3 _ _ _ _ _
   | exact ih4 _ _ _ _ _ _
   | exact gnomonref08_End.mono _ _ _
   | exact gnomonref08_parts.mono _ _
   | exact LeO.none _
   | refine LeO.ite ?_ ?_
   | refine LeO.bind ?_ (fun _ => ?_)
  ·
   intro y0 y1 y2 y3 y4 y5
   unfold gnomonref08_Right.j2
   repeat' first
   | (with_reducible exact ih0 _ _ _)
   | (with_reducible exact ih1 _ _ _)
   | (with_reducible exact ih2 _ _ _ _ _ _)
   | (with_reducible exact ih3 _ _ _ _ _)
   | (with_reducible exact ih4 _ _ _ _ _ _)
   | (with_reducible exact gnomonref08_End.mono _ _ _)
   | (with_reducible exact gnomonref08_parts.mono _ _)
   | (with_reducible exact LeO.refl _)
   | (with_reducible exact LeO.none _)
   | (with_reducible refine LeO.ite ?_ ?_)
   | (with_reducible refine LeO.bind ?_ (fun _ => ?_))
   | exact ih0 _ _ _
   | exact ih1 _ _ _
   | exact ih2 _ _ _ _ _ _
   | exact ih3 _ _ _ _ _
   | exact ih4 _ _ _ _ _ _
   | exact gnomonref08_End.mono _ _ _
   | exact gnomonref08_parts.mono _ _
   | exact LeO.none _
   | refine LeO.ite ?_ ?_
   | refine LeO.bind ?_ (fun _ => ?_)
  ·
   intro y0 y1 y2 y3 y4
   unfold gnomonref08_Right.j3
   repeat' first
   | (with_reducible exact ih0 _ _ _)
   | (with_reducible exact ih1 _ _ _)
   | (with_reducible exact ih2 _ _ _ _ _ _)
   | (with_reducible exact ih3 _ _ _ _ _)
   | (with_reducible exact ih4 _ _ _ _ _ _)
   | (with_reducible exact gnomonref08_End.mono _ _ _)
   | (with_reducible exact gnomonref08_parts.mono _ _)
   | (with_reducible exact LeO.refl _)
   | (with_reducible exact LeO.none _)
   | (with_reducible refine LeO.ite ?_ ?_)
   | (with_reducible refine LeO.bind ?_ (fun _ => ?_))
   | exact ih0 _ _ _
   | exact ih1 _ _ _
   | exact ih2 _ _ _ _ _ _
   | exact ih3 _ _ _ _ _
   | exact ih4 _ _ _ _ _ _
   | exact gnomonref08_End.mono _ _ _
   | exact gnomonref08_parts.mono _ _
   | exact LeO.none _
   | refine LeO.ite ?_ ?_
   | refine LeO.bind ?_ (fun _ => ?_)
  ·
   intro y0 y1 y2 y3 y4 y5
   unfold gnomonref08_Right.l1
   repeat' first
   | (with_reducible exact ih0 _ _ _)
   | (with_reducible exact ih1 _ _ _)
   | (with_reducible exact ih2 _ _ _ _ _ _)
   | (with_reducible exact ih3 _ _ _ _ _)
   | (with_reducible exact ih4 _ _ _ _ _ _)
   | (with_reducible exact gnomonref08_End.mono _ _ _)
   | (with_reducible exact gnomonref08_parts.mono _ _)
   | (with_reducible exact LeO.refl _)
   | (with_reducible exact LeO.none _)
   | (with_reducible refine LeO.ite ?_ ?_)
   | (with_reducible refine LeO.bind ?_ (fun _ => ?_))
   | exact ih0 _ _ _
   | exact ih1 _ _ _
   | exact ih2 _ _ _ _ _ _
   | exact ih3 _ _ _ _ _
   | exact ih4 _ _ _ _ _ _
   | exact gnomonref08_End.mono _ _ _
   | exact gnomonref08_parts.mono _ _
   | exact LeO.none _
   | refine LeO.ite ?_ ?_
   | refine LeO.bind ?_ (fun _ => ?_)
theorem gnomonref08_Right.mono : ∀ a0 a1 k, LeO (gnomonref08_Right.f k a0 a1) (gnomonref08_Right.f (k + 1) a0 a1) := by
 intro a0 a1 k
 obtain ⟨ih0, ih1, ih2, ih3, ih4⟩ := gnomonref08_Right.mono_l k
 unfold gnomonref08_Right.f
 repeat' first
   | (with_reducible exact ih0 _ _ _)
   | (with_reducible exact ih1 _ _ _)
   | (with_reducible exact ih2 _ _ _ _ _ _)
   | (with_reducible exact ih3 _ _ _ _ _)
   | (with_reducible exact ih4 _ _ _ _ _ _)
   | (with_reducible exact gnomonref08_End.mono _ _ _)
   | (with_reducible exact gnomonref08_parts.mono _ _)
   | (with_reducible exact LeO.refl _)
   | (with_reducible exact LeO.none _)
   | (with_reducible refine LeO.ite ?_ ?_)
   | (with_reducible refine LeO.bind ?_ (fun _ => ?_))
   | exact ih0 _ _ _
   | exact ih1 _ _ _
   | exact ih2 _ _ _ _ _ _
   | exact ih3 _ _ _ _ _
   | exact ih4 _ _ _ _ _ _
   | exact gnomonref08_End.mono _ _ _
   | exact gnomonref08_parts.mono _ _
   | exact LeO.none _
   | refine LeO.ite ?_ ?_
   | refine LeO.bind ?_ (fun _ => ?_)
set_option maxHeartbeats 8000000 in
set_option maxRecDepth 100000 in
theorem gnomonref08_Right.calls (k : Nat) (A0 : Option Addr) (c0 : Nat) (l0 : List (S68)) (a1 : Int) (r : Int) (w : World) (hr0 : Kd.C k68 w A0 l0.length l0) (hc0 : l0.length ≤ c0) (h : gnomonref08_Right.f k l0 a1 = some r) :
  Calls Tryd.prog 57 #[.slice A0 l0.length c0, .int .i64 a1] w fun e w' => e = .returned (.int .i64 r) ∧ Drawn0 w w' := by
 have HR0 := Aside0.mk hr0
 have HC0 := Aside0.mk hc0
 clear hr0 hc0
 have H : (if (l0.length : Int) = 0 then (gnomonref08_Right.j0 k l0 a1 true) else (if (l0.length : Int) > 64 then (gnomonref08_Right.j0 k l0 a1 true) else ((gnomonref08_End.f k l0 0).bind fun t235 => (gnomonref08_Right.j0 k l0 a1 (t235 != (l0.length : Int)))))) = some r := h
 clear h
 have HC3 := Aside0.mk H
 clear H
 go_enter Tryd.func57, Tryd.ntmps57
 go_upto_region 1 with (fail)
 go_cut [24] (fun v24 wc => ∃ (kq : Nat) (x24_2 : Bool), v24 = .bool x24_2 ∧ Aside0 (gnomonref08_Right.j0 kq l0 a1 x24_2 = some r) ∧ Aside0 (kq ≤ k) ∧ Drawn0 w wc)
 case first =>
  have H := HC3.out
  clear HC3
  by_cases c4 : (l0.length : Int) = 0
  ·
   rw [if_pos c4] at H
   have c4b0 : ((l0.length : Int) == 0) = true := beq_iff_eq.mpr c4
   have c4b1 : ((l0.length : Int) != 0) = false := bne_eq_false_iff_eq.mpr c4
   clear c4
   (first | rw [c4b0] | (simp only [i64_w, i32_w]; rw [c4b0]) | skip)
   have H' := Aside0.mk H
   clear H
   go_wp2
   go_meet
   case rel => exact ⟨_, (true), (by first | rfl | (simp; done) | (simp [*]; done)), H', ⟨by first | omega | exact Nat.le_refl _⟩, by repeat (first | exact Drawn0.refl _ | apply Drawn0.step)⟩
  ·
   rw [if_neg c4] at H
   have c4b0 : ((l0.length : Int) == 0) = false := beq_eq_false_iff_ne.mpr c4
   have c4b1 : ((l0.length : Int) != 0) = true := bne_iff_ne.mpr c4
   have c4b2 : ¬ (l0 = []) := fun h_ => c4 (by rw [h_]; rfl)
   (first | rw [c4b0] | (simp only [i64_w, i32_w]; rw [c4b0]) | skip)
   by_cases c5 : (l0.length : Int) > 64
   ·
    rw [if_pos c5] at H
    have c5b0 : decide (64 < (l0.length : Int)) = true := decide_eq_true c5
    have c5b1 : decide (64 < l0.length) = true := decide_eq_true (by omega)
    clear c5
    have H' := Aside0.mk H
    clear H
    go_wp2
    go_meet
    case rel => exact ⟨_, (true), (by first | rfl | (simp; done) | (simp [*]; done)), H', ⟨by first | omega | exact Nat.le_refl _⟩, by repeat (first | exact Drawn0.refl _ | apply Drawn0.step)⟩
   ·
    rw [if_neg c5] at H
    have c5b0 : decide (64 < (l0.length : Int)) = false := decide_eq_false c5
    have c5b1 : decide (64 < l0.length) = false := decide_eq_false (by omega)
    clear c5
    replace H := Option.bind_eq_some_iff.mp H
    obtain ⟨t235, A60, H⟩ := H
    replace H : (gnomonref08_Right.j0 k l0 a1 (t235 != (l0.length : Int))) = some r := H
    have A6 := Aside0.mk A60
    clear A60
    have H' := Aside0.mk H
    clear H
    go_wp2_with (first | (go_at_call 80; (with_reducible refine (gnomonref08_End.calls k _ _ l0 0 t235 _ ?side1 ?side2 A6.out).mono ?_); (case side1 => repeat (first | exact HR0.out | (with_reducible refine Kd.C_alloc ?_ _) | (with_reducible refine Kd.C_drewN ?_ _) | (with_reducible refine Kd.C_drew ?_))); (case side2 => exact HC0.out); rintro e w' ⟨rfl, ⟨nd, rfl⟩⟩))
    go_meet
    case rel => exact ⟨_, ((t235 != (l0.length : Int))), (by first | rfl | (simp; done) | (simp [*]; done)), H', ⟨by first | omega | exact Nat.le_refl _⟩, by repeat (first | exact Drawn0.refl _ | apply Drawn0.step)⟩
 case rest =>
  clear HC3
  try clear p2
  try clear c4
  try clear c4b0
  try clear c4b1
  try clear c4b2
  try clear c5
  try clear c5b0
  try clear c5b1
  obtain ⟨kq, x24_2, rfl, HA, HJ2, ⟨mc2, rfl⟩⟩ := hcut
  cases kq with
  | zero => exact absurd HA.out (by simp [gnomonref08_Right.j0])
  | succ kj2 =>
   have H := HA.out
   clear HA
   simp only [gnomonref08_Right.j0] at H
   by_cases c7 : x24_2 = true
   ·
    subst c7
    have H1 : (some 121) = some r := by rw [if_pos rfl] at H; exact H
    clear H
    have H := H1
    clear H1
    obtain rfl := Option.some.inj H
    go_wp2
    go_ret
    exact ⟨by first | rfl | (simp; done) | (simp [*]; done), by repeat (first | exact Drawn0.refl _ | apply Drawn0.step)⟩
   ·
    replace c7 := Bool.eq_false_iff.mpr c7
    subst c7
    have H1 : (gnomonref08_Right.l0 kj2 l0 a1 0) = some r := by rw [if_neg (show ¬ (false = true) by decide)] at H; exact H
    clear H
    have H := H1
    clear H1
    have H' := Aside0.mk H
    clear H
    go_wp2
    go_loopg [5] kj2 (fun kq v5 w' => ∃ (x5_2 : Int), v5 = .int .i64 x5_2 ∧ Aside0 (gnomonref08_Right.l0 kq l0 a1 x5_2 = some r) ∧ Aside0 (kq ≤ kj2) ∧ Drawn0 w w')
    case atStart => exact ⟨(0), (by first | rfl | (simp; done) | (simp [*]; done)), H', ⟨Nat.le_refl _⟩, by repeat (first | exact Drawn0.refl _ | apply Drawn0.step)⟩
    case round =>
     clear H'
     try clear c2
     try clear p2
     try clear c4
     try clear c4b0
     try clear c4b1
     try clear c4b2
     try clear c5
     try clear c5b0
     try clear c5b1
     try clear c7
     try clear p2
     obtain ⟨x5_2, rfl, HA, HK2, ⟨m2, rfl⟩⟩ := hrel
     cases gk with
     | zero => exact absurd HA.out (by simp [gnomonref08_Right.l0])
     | succ k2 =>
      have H := HA.out
      clear HA
      simp only [gnomonref08_Right.l0] at H
      by_cases c8 : x5_2 < (l0.length : Int)
      ·
       rw [if_pos c8] at H
       have c8b0 : decide (x5_2 < (l0.length : Int)) = true := decide_eq_true c8
       clear c8
       by_cases c9 : 0 ≤ x5_2
       ·
        rw [if_pos c9] at H
        have c9b0 : decide (0 ≤ x5_2) = true := decide_eq_true c9
        clear c9
        have HC10 := Aside0.mk H
        clear H
        have p236 : 0 ≤ (x5_2 : Int) := of_decide_eq_true (by first | (with_reducible assumption) | assumption)
        have q236 : x5_2 < (l0.length : Int) := of_decide_eq_true (by first | (with_reducible assumption) | assumption)
        obtain ⟨ad236, e236, hx236_0, hx236_1⟩ := at_T68 HR0.out x5_2 p236 q236
        cases e236
        replace p236 := eq_true p236
        replace q236 := eq_true q236
        have p237 : 0 ≤ (x5_2 : Int) := of_decide_eq_true (by first | (with_reducible assumption) | assumption)
        have q237 : x5_2 < (l0.length : Int) := of_decide_eq_true (by first | (with_reducible assumption) | assumption)
        obtain ⟨ad237, e237, hx237_0, hx237_1⟩ := at_T68 HR0.out x5_2 p237 q237
        obtain rfl : ad236 = ad237 := (by injection e237)
        replace p237 := eq_true p237
        replace q237 := eq_true q237
        go_upto_region 8 with (fail)
        go_cut [46] (fun v46 wc => ∃ (kq : Nat) (x46_9 : Bool), v46 = .bool x46_9 ∧ Aside0 (gnomonref08_Right.j2 kq l0 a1 x5_2 ((rd_T68 l0 x5_2).f0) ((rd_T68 l0 x5_2).f1) x46_9 = some r) ∧ Aside0 (kq ≤ k2) ∧ Drawn0 w wc)
        case first =>
         have H := HC10.out
         clear HC10
         by_cases c11 : ((rd_T68 l0 x5_2).f0) < 1
         ·
          rw [if_pos c11] at H
          have c11b0 : decide (((rd_T68 l0 x5_2).f0) < 1) = true := decide_eq_true c11
          clear c11
          (first | rw [c11b0] | (simp only [i64_w, i32_w]; rw [c11b0]) | skip)
          have H' := Aside0.mk H
          clear H
          go_wp2
          go_meet
          case rel => exact ⟨_, (true), (by first | rfl | (simp; done) | (simp [*]; done)), H', ⟨by have := HJ2.out; have := HK2.out; first | omega | exact Nat.le_refl _⟩, by repeat (first | exact Drawn0.refl _ | apply Drawn0.step)⟩
         ·
          rw [if_neg c11] at H
          have c11b0 : decide (((rd_T68 l0 x5_2).f0) < 1) = false := decide_eq_false c11
          clear c11
          (first | rw [c11b0] | (simp only [i64_w, i32_w]; rw [c11b0]) | skip)
          have H' := Aside0.mk H
          clear H
          go_wp2
          go_meet
          case rel => exact ⟨_, (decide (((rd_T68 l0 x5_2).f0) > 14)), (by first | rfl | (simp; done) | (simp [*]; done)), H', ⟨by have := HJ2.out; have := HK2.out; first | omega | exact Nat.le_refl _⟩, by repeat (first | exact Drawn0.refl _ | apply Drawn0.step)⟩
        case rest =>
         clear HC10
         try clear c1
         try clear c2
         try clear p2
         try clear q2
         try clear hx2
         try clear c4
         try clear c4b0
         try clear c4b1
         try clear c4b2
         try clear c5
         try clear c5b0
         try clear c5b1
         try clear c7
         try clear c8
         try clear c8b0
         try clear c9
         try clear c9b0
         try clear c11
         try clear c11b0
         try clear hx236_0
         try clear hx236_1
         try clear hx237_0
         try clear hx237_1
         try clear p2
         try clear p236
         try clear p237
         try clear q236
         try clear q237
         obtain ⟨kq, x46_9, rfl, HA, HJ9, ⟨mc9, rfl⟩⟩ := hcut
         cases kq with
         | zero => exact absurd HA.out (by simp [gnomonref08_Right.j2])
         | succ kj9 =>
          have H := HA.out
          clear HA
          simp only [gnomonref08_Right.j2] at H
          by_cases c12 : x46_9 = true
          ·
           subst c12
           have H1 : (some 121) = some r := by rw [if_pos rfl] at H; exact H
           clear H
           have H := H1
           clear H1
           obtain rfl := Option.some.inj H
           go_wp2
           go_ret
           exact ⟨by first | rfl | (simp; done) | (simp [*]; done), by repeat (first | exact Drawn0.refl _ | apply Drawn0.step)⟩
          ·
           replace c12 := Bool.eq_false_iff.mpr c12
           subst c12
           have H1 : (if ((rd_T68 l0 x5_2).f0) = 1 then (if ((rd_T68 l0 x5_2).f1) < 0 then (gnomonref08_Right.j3 kj9 l0 a1 x5_2 ((rd_T68 l0 x5_2).f0) true) else (if ((rd_T68 l0 x5_2).f1) > 1048576 then (gnomonref08_Right.j3 kj9 l0 a1 x5_2 ((rd_T68 l0 x5_2).f0) true) else (if ((rd_T68 l0 x5_2).f0) = 2 then (if ((rd_T68 l0 x5_2).f1) ≥ a1 then (gnomonref08_Right.j3 kj9 l0 a1 x5_2 ((rd_T68 l0 x5_2).f0) true) else (gnomonref08_Right.j3 kj9 l0 a1 x5_2 ((rd_T68 l0 x5_2).f0) false)) else (gnomonref08_Right.j3 kj9 l0 a1 x5_2 ((rd_T68 l0 x5_2).f0) false)))) else (if ((rd_T68 l0 x5_2).f0) = 2 then (if ((rd_T68 l0 x5_2).f1) < 0 then (gnomonref08_Right.j3 kj9 l0 a1 x5_2 ((rd_T68 l0 x5_2).f0) true) else (if ((rd_T68 l0 x5_2).f1) ≥ a1 then (gnomonref08_Right.j3 kj9 l0 a1 x5_2 ((rd_T68 l0 x5_2).f0) true) else (gnomonref08_Right.j3 kj9 l0 a1 x5_2 ((rd_T68 l0 x5_2).f0) false))) else (gnomonref08_Right.j3 kj9 l0 a1 x5_2 ((rd_T68 l0 x5_2).f0) (((rd_T68 l0 x5_2).f1) != 0)))) = some r := by rw [if_neg (show ¬ (false = true) by decide)] at H; exact H
           clear H
           have H := H1
           clear H1
           have HC13 := Aside0.mk H
           clear H
           go_upto_region 10 with (fail)
           go_cut [81] (fun v81 wc => ∃ (kq : Nat) (x81_12 : Bool), v81 = .bool x81_12 ∧ Aside0 (gnomonref08_Right.j3 kq l0 a1 x5_2 ((rd_T68 l0 x5_2).f0) x81_12 = some r) ∧ Aside0 (kq ≤ kj9) ∧ Drawn0 w wc)
           case first =>
            have H := HC13.out
            clear HC13
            by_cases c14 : ((rd_T68 l0 x5_2).f0) = 1
            ·
             rw [if_pos c14] at H
             have c14b0 : (((rd_T68 l0 x5_2).f0) == 1) = true := beq_iff_eq.mpr c14
             have c14b1 : (((rd_T68 l0 x5_2).f0) != 1) = false := bne_eq_false_iff_eq.mpr c14
             clear c14
             (first | rw [c14b0] | (simp only [i64_w, i32_w]; rw [c14b0]) | skip)
             by_cases c15 : ((rd_T68 l0 x5_2).f1) < 0
             ·
              rw [if_pos c15] at H
              have c15b0 : decide (((rd_T68 l0 x5_2).f1) < 0) = true := decide_eq_true c15
              clear c15
              have H' := Aside0.mk H
              clear H
              go_wp2
              go_meet
              case rel => exact ⟨_, (true), (by first | rfl | (simp; done) | (simp [*]; done)), H', ⟨by have := HJ2.out; have := HK2.out; have := HJ9.out; first | omega | exact Nat.le_refl _⟩, by repeat (first | exact Drawn0.refl _ | apply Drawn0.step)⟩
             ·
              rw [if_neg c15] at H
              have c15b0 : decide (((rd_T68 l0 x5_2).f1) < 0) = false := decide_eq_false c15
              clear c15
              by_cases c16 : ((rd_T68 l0 x5_2).f1) > 1048576
              ·
               rw [if_pos c16] at H
               have c16b0 : decide (1048576 < ((rd_T68 l0 x5_2).f1)) = true := decide_eq_true c16
               clear c16
               have H' := Aside0.mk H
               clear H
               go_wp2
               go_meet
               case rel => exact ⟨_, (true), (by first | rfl | (simp; done) | (simp [*]; done)), H', ⟨by have := HJ2.out; have := HK2.out; have := HJ9.out; first | omega | exact Nat.le_refl _⟩, by repeat (first | exact Drawn0.refl _ | apply Drawn0.step)⟩
              ·
               rw [if_neg c16] at H
               have c16b0 : decide (1048576 < ((rd_T68 l0 x5_2).f1)) = false := decide_eq_false c16
               clear c16
               by_cases c17 : ((rd_T68 l0 x5_2).f0) = 2
               ·
                rw [if_pos c17] at H
                have c17b0 : (((rd_T68 l0 x5_2).f0) == 2) = true := beq_iff_eq.mpr c17
                have c17b1 : (((rd_T68 l0 x5_2).f0) != 2) = false := bne_eq_false_iff_eq.mpr c17
                clear c17
                by_cases c18 : ((rd_T68 l0 x5_2).f1) ≥ a1
                ·
                 rw [if_pos c18] at H
                 have c18b0 : decide (a1 ≤ ((rd_T68 l0 x5_2).f1)) = true := decide_eq_true c18
                 clear c18
                 have H' := Aside0.mk H
                 clear H
                 go_wp2
                 go_meet
                 case rel => exact ⟨_, (true), (by first | rfl | (simp; done) | (simp [*]; done)), H', ⟨by have := HJ2.out; have := HK2.out; have := HJ9.out; first | omega | exact Nat.le_refl _⟩, by repeat (first | exact Drawn0.refl _ | apply Drawn0.step)⟩
                ·
                 rw [if_neg c18] at H
                 have c18b0 : decide (a1 ≤ ((rd_T68 l0 x5_2).f1)) = false := decide_eq_false c18
                 clear c18
                 have H' := Aside0.mk H
                 clear H
                 go_wp2
                 go_meet
                 case rel => exact ⟨_, (false), (by first | rfl | (simp; done) | (simp [*]; done)), H', ⟨by have := HJ2.out; have := HK2.out; have := HJ9.out; first | omega | exact Nat.le_refl _⟩, by repeat (first | exact Drawn0.refl _ | apply Drawn0.step)⟩
               ·
                rw [if_neg c17] at H
                have c17b0 : (((rd_T68 l0 x5_2).f0) == 2) = false := beq_eq_false_iff_ne.mpr c17
                have c17b1 : (((rd_T68 l0 x5_2).f0) != 2) = true := bne_iff_ne.mpr c17
                have H' := Aside0.mk H
                clear H
                go_wp2
                go_meet
                case rel => exact ⟨_, (false), (by first | rfl | (simp; done) | (simp [*]; done)), H', ⟨by have := HJ2.out; have := HK2.out; have := HJ9.out; first | omega | exact Nat.le_refl _⟩, by repeat (first | exact Drawn0.refl _ | apply Drawn0.step)⟩
            ·
             rw [if_neg c14] at H
             have c14b0 : (((rd_T68 l0 x5_2).f0) == 1) = false := beq_eq_false_iff_ne.mpr c14
             have c14b1 : (((rd_T68 l0 x5_2).f0) != 1) = true := bne_iff_ne.mpr c14
             (first | rw [c14b0] | (simp only [i64_w, i32_w]; rw [c14b0]) | skip)
             by_cases c19 : ((rd_T68 l0 x5_2).f0) = 2
             ·
              rw [if_pos c19] at H
              have c19b0 : (((rd_T68 l0 x5_2).f0) == 2) = true := beq_iff_eq.mpr c19
              have c19b1 : (((rd_T68 l0 x5_2).f0) != 2) = false := bne_eq_false_iff_eq.mpr c19
              clear c19
              by_cases c20 : ((rd_T68 l0 x5_2).f1) < 0
              ·
               rw [if_pos c20] at H
               have c20b0 : decide (((rd_T68 l0 x5_2).f1) < 0) = true := decide_eq_true c20
               clear c20
               have H' := Aside0.mk H
               clear H
               go_wp2
               go_meet
               case rel => exact ⟨_, (true), (by first | rfl | (simp; done) | (simp [*]; done)), H', ⟨by have := HJ2.out; have := HK2.out; have := HJ9.out; first | omega | exact Nat.le_refl _⟩, by repeat (first | exact Drawn0.refl _ | apply Drawn0.step)⟩
              ·
               rw [if_neg c20] at H
               have c20b0 : decide (((rd_T68 l0 x5_2).f1) < 0) = false := decide_eq_false c20
               clear c20
               by_cases c21 : ((rd_T68 l0 x5_2).f1) ≥ a1
               ·
                rw [if_pos c21] at H
                have c21b0 : decide (a1 ≤ ((rd_T68 l0 x5_2).f1)) = true := decide_eq_true c21
                clear c21
                have H' := Aside0.mk H
                clear H
                go_wp2
                go_meet
                case rel => exact ⟨_, (true), (by first | rfl | (simp; done) | (simp [*]; done)), H', ⟨by have := HJ2.out; have := HK2.out; have := HJ9.out; first | omega | exact Nat.le_refl _⟩, by repeat (first | exact Drawn0.refl _ | apply Drawn0.step)⟩
               ·
                rw [if_neg c21] at H
                have c21b0 : decide (a1 ≤ ((rd_T68 l0 x5_2).f1)) = false := decide_eq_false c21
                clear c21
                have H' := Aside0.mk H
                clear H
                go_wp2
                go_meet
                case rel => exact ⟨_, (false), (by first | rfl | (simp; done) | (simp [*]; done)), H', ⟨by have := HJ2.out; have := HK2.out; have := HJ9.out; first | omega | exact Nat.le_refl _⟩, by repeat (first | exact Drawn0.refl _ | apply Drawn0.step)⟩
             ·
              rw [if_neg c19] at H
              have c19b0 : (((rd_T68 l0 x5_2).f0) == 2) = false := beq_eq_false_iff_ne.mpr c19
              have c19b1 : (((rd_T68 l0 x5_2).f0) != 2) = true := bne_iff_ne.mpr c19
              have H' := Aside0.mk H
              clear H
              go_wp2
              go_meet
              case rel => exact ⟨_, ((((rd_T68 l0 x5_2).f1) != 0)), (by first | rfl | (simp; done) | (simp [*]; done)), H', ⟨by have := HJ2.out; have := HK2.out; have := HJ9.out; first | omega | exact Nat.le_refl _⟩, by repeat (first | exact Drawn0.refl _ | apply Drawn0.step)⟩
           case rest =>
            clear HC13
            try clear c1
            try clear c2
            try clear p2
            try clear q2
            try clear hx2
            try clear c4
            try clear c4b0
            try clear c4b1
            try clear c4b2
            try clear c5
            try clear c5b0
            try clear c5b1
            try clear c7
            try clear c8
            try clear c8b0
            try clear c9
            try clear c9b0
            try clear c11
            try clear c11b0
            try clear c12
            try clear c14
            try clear c14b0
            try clear c14b1
            try clear c15
            try clear c15b0
            try clear c16
            try clear c16b0
            try clear c17
            try clear c17b0
            try clear c17b1
            try clear c18
            try clear c18b0
            try clear c19
            try clear c19b0
            try clear c19b1
            try clear c20
            try clear c20b0
            try clear c21
            try clear c21b0
            try clear hx236_0
            try clear hx236_1
            try clear hx237_0
            try clear hx237_1
            try clear p2
            try clear p236
            try clear p237
            try clear q2
            try clear q236
            try clear q237
            obtain ⟨kq, x81_12, rfl, HA, HJ12, ⟨mc12, rfl⟩⟩ := hcut
            cases kq with
            | zero => exact absurd HA.out (by simp [gnomonref08_Right.j3])
            | succ kj12 =>
             have H := HA.out
             clear HA
             simp only [gnomonref08_Right.j3] at H
             by_cases c22 : x81_12 = true
             ·
              subst c22
              have H1 : (some 121) = some r := by rw [if_pos rfl] at H; exact H
              clear H
              have H := H1
              clear H1
              obtain rfl := Option.some.inj H
              go_wp2
              go_ret
              exact ⟨by first | rfl | (simp; done) | (simp [*]; done), by repeat (first | exact Drawn0.refl _ | apply Drawn0.step)⟩
             ·
              replace c22 := Bool.eq_false_iff.mpr c22
              subst c22
              have H1 : (gnomonref08_Right.l1 kj12 l0 a1 x5_2 ((rd_T68 l0 x5_2).f0) (wrap64 (x5_2 + 1)) 0) = some r := by rw [if_neg (show ¬ (false = true) by decide)] at H; exact H
              clear H
              have H := H1
              clear H1
              have H' := Aside0.mk H
              clear H
              go_wp2
              go_loopg [8, 9] kj12 (fun kq v8 v9 w' => ∃ (x8_5 : Int) (x9_5 : Int), v8 = .int .i64 x8_5 ∧ v9 = .int .i64 x9_5 ∧ Aside0 (gnomonref08_Right.l1 kq l0 a1 x5_2 ((rd_T68 l0 x5_2).f0) x8_5 x9_5 = some r) ∧ Aside0 (kq ≤ kj12) ∧ Drawn0 w w')
              case atStart => exact ⟨(wrap64 (x5_2 + 1)), (0), (by first | rfl | (simp; done) | (simp [*]; done)), (by first | rfl | (simp; done) | (simp [*]; done)), H', ⟨Nat.le_refl _⟩, by repeat (first | exact Drawn0.refl _ | apply Drawn0.step)⟩
              case round =>
               clear H'
               try clear c1
               try clear c2
               try clear p2
               try clear q2
               try clear hx2
               try clear c4
               try clear c4b0
               try clear c4b1
               try clear c4b2
               try clear c5
               try clear c5b0
               try clear c5b1
               try clear p6
               try clear c7
               try clear c8
               try clear c8b0
               try clear c9
               try clear c9b0
               try clear c11
               try clear c11b0
               try clear c12
               try clear c14
               try clear c14b0
               try clear c14b1
               try clear c15
               try clear c15b0
               try clear c16
               try clear c16b0
               try clear c17
               try clear c17b0
               try clear c17b1
               try clear c18
               try clear c18b0
               try clear c19
               try clear c19b0
               try clear c19b1
               try clear c20
               try clear c20b0
               try clear c21
               try clear c21b0
               try clear c22
               try clear hx236_0
               try clear hx236_1
               try clear hx237_0
               try clear hx237_1
               try clear p2
               try clear p236
               try clear p237
               try clear q2
               try clear q236
               try clear q237
               obtain ⟨x8_5, x9_5, rfl, rfl, HA, HK5, ⟨m5, rfl⟩⟩ := hrel
               cases gk with
               | zero => exact absurd HA.out (by simp [gnomonref08_Right.l1])
               | succ k5 =>
                have H := HA.out
                clear HA
                simp only [gnomonref08_Right.l1] at H
                replace H := Option.bind_eq_some_iff.mp H
                obtain ⟨t238, A230, H⟩ := H
                replace H : (if x9_5 < t238 then (if 0 ≤ x8_5 then (if x8_5 < (l0.length : Int) then ((gnomonref08_truth.f ((rd_T68 l0 x8_5).f0)).bind fun t240 => ((gnomonref08_numbers.f ((rd_T68 l0 x5_2).f0)).bind fun t241 => (if (t240 == t241) = true then (some 121) else ((gnomonref08_End.f k5 l0 x8_5).bind fun t242 => (gnomonref08_Right.l1 k5 l0 a1 x5_2 ((rd_T68 l0 x5_2).f0) t242 (wrap64 (x9_5 + 1))))))) else (none)) else (none)) else (gnomonref08_Right.l0 k5 l0 a1 (wrap64 (x5_2 + 1)))) = some r := H
                have A23 := Aside0.mk A230
                clear A230
                by_cases c24 : x9_5 < t238
                ·
                 rw [if_pos c24] at H
                 have c24b0 : decide (x9_5 < t238) = true := decide_eq_true c24
                 clear c24
                 by_cases c25 : 0 ≤ x8_5
                 ·
                  rw [if_pos c25] at H
                  have c25b0 : decide (0 ≤ x8_5) = true := decide_eq_true c25
                  clear c25
                  by_cases c26 : x8_5 < (l0.length : Int)
                  ·
                   rw [if_pos c26] at H
                   have c26b0 : decide (x8_5 < (l0.length : Int)) = true := decide_eq_true c26
                   clear c26
                   replace H := Option.bind_eq_some_iff.mp H
                   obtain ⟨t240, A270, H⟩ := H
                   replace H : ((gnomonref08_numbers.f ((rd_T68 l0 x5_2).f0)).bind fun t241 => (if (t240 == t241) = true then (some 121) else ((gnomonref08_End.f k5 l0 x8_5).bind fun t242 => (gnomonref08_Right.l1 k5 l0 a1 x5_2 ((rd_T68 l0 x5_2).f0) t242 (wrap64 (x9_5 + 1)))))) = some r := H
                   have A27 := Aside0.mk A270
                   clear A270
                   replace H := Option.bind_eq_some_iff.mp H
                   obtain ⟨t241, A280, H⟩ := H
                   replace H : (if (t240 == t241) = true then (some 121) else ((gnomonref08_End.f k5 l0 x8_5).bind fun t242 => (gnomonref08_Right.l1 k5 l0 a1 x5_2 ((rd_T68 l0 x5_2).f0) t242 (wrap64 (x9_5 + 1))))) = some r := H
                   have A28 := Aside0.mk A280
                   clear A280
                   by_cases c29 : (t240 == t241) = true
                   ·
                    rw [if_pos c29] at H
                    have c29b0 : (t240 == t241) = true := c29
                    (try (have c29b1 : decide (t240 = t241) = true := by simpa using c29))
                    (try (have c29b2 : (t240 == t241) = true := by simpa using c29))
                    clear c29
                    obtain rfl := Option.some.inj H
                    go_wp2_with (first | ((with_reducible refine gate_callee (f := 81) rfl ?_); refine goesL_ (some 86) rfl rfl Tryd.func81 (by kernel_rfl) rfl #[.int .u8 ((rd_T68 l0 x5_2).f0)] rfl (by (try simp only [List.map_toArray, List.map_cons, List.map_nil]); first | done | rfl | (simp only [List.length_drop, List.length_take]; rfl)) ?_; (with_reducible refine (gnomonref08_parts.calls k5 ((rd_T68 l0 x5_2).f0) t238 _ A23.out).mono ?_); rintro e w' ⟨rfl, ⟨nd, rfl⟩⟩; refine ⟨_, rfl, ?_⟩; have p239 : 0 ≤ (x8_5 : Int) := of_decide_eq_true (by first | (with_reducible assumption) | assumption); have q239 : x8_5 < (l0.length : Int) := of_decide_eq_true (by first | (with_reducible assumption) | assumption); obtain ⟨ad239, e239, hx239_0, hx239_1⟩ := at_T68 HR0.out x8_5 p239 q239; obtain rfl : ad236 = ad239 := (by injection e239); replace p239 := eq_true p239; replace q239 := eq_true q239) | ((with_reducible refine gate_callee (f := 82) rfl ?_); refine goesL_ (some 95) rfl rfl Tryd.func82 (by kernel_rfl) rfl #[.int .u8 ((rd_T68 l0 x8_5).f0)] rfl (by (try simp only [List.map_toArray, List.map_cons, List.map_nil]); first | done | rfl | (simp only [List.length_drop, List.length_take]; rfl)) ?_; (with_reducible refine (gnomonref08_truth.calls ((rd_T68 l0 x8_5).f0) t240 _ A27.out).mono ?_); rintro e w' ⟨rfl, ⟨nd, rfl⟩⟩; refine ⟨_, rfl, ?_⟩) | ((with_reducible refine gate_callee (f := 83) rfl ?_); refine goesL_ (some 97) rfl rfl Tryd.func83 (by kernel_rfl) rfl #[.int .u8 ((rd_T68 l0 x5_2).f0)] rfl (by (try simp only [List.map_toArray, List.map_cons, List.map_nil]); first | done | rfl | (simp only [List.length_drop, List.length_take]; rfl)) ?_; (with_reducible refine (gnomonref08_numbers.calls ((rd_T68 l0 x5_2).f0) t241 _ A28.out).mono ?_); rintro e w' ⟨rfl, ⟨nd, rfl⟩⟩; refine ⟨_, rfl, ?_⟩))
                    go_ret
                    exact ⟨by first | rfl | (simp; done) | (simp [*]; done), by repeat (first | exact Drawn0.refl _ | apply Drawn0.step)⟩
                   ·
                    rw [if_neg c29] at H
                    have c29b0 : (t240 == t241) = false := by simpa using c29
                    (try (have c29b1 : decide (t240 = t241) = false := by simpa using c29))
                    (try (have c29b2 : (t240 == t241) = false := by simpa using c29))
                    (try (have c29b3 : ¬ (t240 = t241) := by simpa using c29))
                    clear c29
                    replace H := Option.bind_eq_some_iff.mp H
                    obtain ⟨t242, A300, H⟩ := H
                    replace H : (gnomonref08_Right.l1 k5 l0 a1 x5_2 ((rd_T68 l0 x5_2).f0) t242 (wrap64 (x9_5 + 1))) = some r := H
                    have A30 := Aside0.mk A300
                    clear A300
                    have H' := Aside0.mk H
                    clear H
                    go_wp2_with (first | ((with_reducible refine gate_callee (f := 81) rfl ?_); refine goesL_ (some 86) rfl rfl Tryd.func81 (by kernel_rfl) rfl #[.int .u8 ((rd_T68 l0 x5_2).f0)] rfl (by (try simp only [List.map_toArray, List.map_cons, List.map_nil]); first | done | rfl | (simp only [List.length_drop, List.length_take]; rfl)) ?_; (with_reducible refine (gnomonref08_parts.calls k5 ((rd_T68 l0 x5_2).f0) t238 _ A23.out).mono ?_); rintro e w' ⟨rfl, ⟨nd, rfl⟩⟩; refine ⟨_, rfl, ?_⟩; have p239 : 0 ≤ (x8_5 : Int) := of_decide_eq_true (by first | (with_reducible assumption) | assumption); have q239 : x8_5 < (l0.length : Int) := of_decide_eq_true (by first | (with_reducible assumption) | assumption); obtain ⟨ad239, e239, hx239_0, hx239_1⟩ := at_T68 HR0.out x8_5 p239 q239; obtain rfl : ad236 = ad239 := (by injection e239); replace p239 := eq_true p239; replace q239 := eq_true q239) | ((with_reducible refine gate_callee (f := 82) rfl ?_); refine goesL_ (some 95) rfl rfl Tryd.func82 (by kernel_rfl) rfl #[.int .u8 ((rd_T68 l0 x8_5).f0)] rfl (by (try simp only [List.map_toArray, List.map_cons, List.map_nil]); first | done | rfl | (simp only [List.length_drop, List.length_take]; rfl)) ?_; (with_reducible refine (gnomonref08_truth.calls ((rd_T68 l0 x8_5).f0) t240 _ A27.out).mono ?_); rintro e w' ⟨rfl, ⟨nd, rfl⟩⟩; refine ⟨_, rfl, ?_⟩) | ((with_reducible refine gate_callee (f := 83) rfl ?_); refine goesL_ (some 97) rfl rfl Tryd.func83 (by kernel_rfl) rfl #[.int .u8 ((rd_T68 l0 x5_2).f0)] rfl (by (try simp only [List.map_toArray, List.map_cons, List.map_nil]); first | done | rfl | (simp only [List.length_drop, List.length_take]; rfl)) ?_; (with_reducible refine (gnomonref08_numbers.calls ((rd_T68 l0 x5_2).f0) t241 _ A28.out).mono ?_); rintro e w' ⟨rfl, ⟨nd, rfl⟩⟩; refine ⟨_, rfl, ?_⟩) | ((with_reducible refine gate_callee (f := 80) rfl ?_); refine goesL_ (some 101) rfl rfl Tryd.func80 (by kernel_rfl) rfl #[.slice (some ad236) l0.length c0, .int .i64 x8_5] rfl (by (try simp only [List.map_toArray, List.map_cons, List.map_nil]); first | done | rfl | (simp only [List.length_drop, List.length_take]; rfl)) ?_; (with_reducible refine (gnomonref08_End.calls k5 _ _ l0 x8_5 t242 _ ?side1 ?side2 A30.out).mono ?_); (case side1 => repeat (first | exact HR0.out | (with_reducible refine Kd.C_alloc ?_ _) | (with_reducible refine Kd.C_drewN ?_ _) | (with_reducible refine Kd.C_drew ?_))); (case side2 => exact HC0.out); rintro e w' ⟨rfl, ⟨nd, rfl⟩⟩; refine ⟨_, rfl, ?_⟩))
                    go_roundg k5
                    case measure => have := HJ2.out; have := HK2.out; have := HJ9.out; have := HJ12.out; have := HK5.out; omega
                    case rel => exact ⟨(t242), (wrap64 (x9_5 + 1)), (by first | rfl | (simp; done) | (simp [*]; done)), (by first | rfl | (simp; done) | (simp [*]; done)), H', ⟨by have := HJ2.out; have := HK2.out; have := HJ9.out; have := HJ12.out; have := HK5.out; omega⟩, by repeat (first | exact Drawn0.refl _ | apply Drawn0.step)⟩
                  ·
                   rw [if_neg c26] at H
                   exact absurd H (by simp)
                 ·
                  rw [if_neg c25] at H
                  exact absurd H (by simp)
                ·
                 rw [if_neg c24] at H
                 have c24b0 : decide (x9_5 < t238) = false := decide_eq_false c24
                 clear c24
                 have H' := Aside0.mk H
                 clear H
                 go_wp2_with (first | ((with_reducible refine gate_callee (f := 81) rfl ?_); refine goesL_ (some 86) rfl rfl Tryd.func81 (by kernel_rfl) rfl #[.int .u8 ((rd_T68 l0 x5_2).f0)] rfl (by (try simp only [List.map_toArray, List.map_cons, List.map_nil]); first | done | rfl | (simp only [List.length_drop, List.length_take]; rfl)) ?_; (with_reducible refine (gnomonref08_parts.calls k5 ((rd_T68 l0 x5_2).f0) t238 _ A23.out).mono ?_); rintro e w' ⟨rfl, ⟨nd, rfl⟩⟩; refine ⟨_, rfl, ?_⟩))
                 go_roundg k5
                 case measure => have := HJ2.out; have := HK2.out; have := HJ9.out; have := HJ12.out; have := HK5.out; omega
                 case rel => exact ⟨(wrap64 (x5_2 + 1)), (by first | rfl | (simp; done) | (simp [*]; done)), H', ⟨by have := HJ2.out; have := HK2.out; have := HJ9.out; have := HJ12.out; have := HK5.out; omega⟩, by repeat (first | exact Drawn0.refl _ | apply Drawn0.step)⟩
       ·
        rw [if_neg c9] at H
        exact absurd H (by simp)
      ·
       rw [if_neg c8] at H
       have c8b0 : decide (x5_2 < (l0.length : Int)) = false := decide_eq_false c8
       clear c8
       obtain rfl := Option.some.inj H
       go_wp2
       go_ret
       exact ⟨by first | rfl | (simp; done) | (simp [*]; done), by repeat (first | exact Drawn0.refl _ | apply Drawn0.step)⟩

/-! ### gnomonref08_IsTruth: function 61 -/
def gnomonref08_IsTruth.f (l0 : List (S68)) : Option (Bool) := if (l0.length : Int) > 0 then (if 0 < (l0.length : Int) then ((gnomonref08_truth.f ((rd_T68 l0 0).f0)).bind fun t244 => (some t244)) else (none)) else (some false)
set_option maxHeartbeats 8000000 in
set_option maxRecDepth 100000 in
theorem gnomonref08_IsTruth.calls (A0 : Option Addr) (c0 : Nat) (l0 : List (S68)) (r : Bool) (w : World) (hr0 : Kd.C k68 w A0 l0.length l0) (hc0 : l0.length ≤ c0) (h : gnomonref08_IsTruth.f l0 = some r) :
  Calls Tryd.prog 61 #[.slice A0 l0.length c0] w fun e w' => e = .returned (.bool r) ∧ Drawn0 w w' := by
 have HR0 := Aside0.mk hr0
 have HC0 := Aside0.mk hc0
 clear hr0 hc0
 have H : (if (l0.length : Int) > 0 then (if 0 < (l0.length : Int) then ((gnomonref08_truth.f ((rd_T68 l0 0).f0)).bind fun t244 => (some t244)) else (none)) else (some false)) = some r := h
 clear h
 by_cases c2 : (l0.length : Int) > 0
 ·
  rw [if_pos c2] at H
  have c2b0 : decide (0 < (l0.length : Int)) = true := decide_eq_true c2
  have c2b1 : decide (0 < l0.length) = true := decide_eq_true (by omega)
  clear c2
  by_cases c3 : 0 < (l0.length : Int)
  ·
   rw [if_pos c3] at H
   have c3b0 : decide (0 < (l0.length : Int)) = true := decide_eq_true c3
   have c3b1 : decide (0 < l0.length) = true := decide_eq_true (by omega)
   clear c3
   replace H := Option.bind_eq_some_iff.mp H
   obtain ⟨t244, A40, H⟩ := H
   replace H : (some t244) = some r := H
   have A4 := Aside0.mk A40
   clear A40
   obtain rfl := Option.some.inj H
   have p243 : 0 ≤ (0 : Int) := (by omega)
   have q243 : 0 < (l0.length : Int) := of_decide_eq_true (by first | (with_reducible assumption) | assumption)
   obtain ⟨ad243, e243, hx243_0, hx243_1⟩ := at_T68 HR0.out 0 p243 q243
   cases e243
   have qi243 : (0 < l0.length) = True := eq_true (by omega)
   (try rw [show ((0 : Int)).toNat = 0 from rfl] at hx243_0)
   (try rw [show 0 * 2 = 0 from rfl] at hx243_0)
   (try rw [Addr.add_zero'] at hx243_0)
   (try rw [show ((0 : Int)).toNat = 0 from rfl] at hx243_1)
   (try rw [show 0 * 2 = 0 from rfl] at hx243_1)
   (try rw [Addr.add_zero'] at hx243_1)
   replace p243 := eq_true p243
   replace q243 := eq_true q243
   go_enter Tryd.func61, Tryd.ntmps61
   go_wp2_with (first | (go_at_call 82; (with_reducible refine (gnomonref08_truth.calls ((rd_T68 l0 0).f0) t244 _ A4.out).mono ?_); rintro e w' ⟨rfl, ⟨nd, rfl⟩⟩))
   go_ret
   exact ⟨by first | rfl | (simp; done) | (simp [*]; done), by repeat (first | exact Drawn0.refl _ | apply Drawn0.step)⟩
  ·
   rw [if_neg c3] at H
   exact absurd H (by simp)
 ·
  rw [if_neg c2] at H
  have c2b0 : decide (0 < (l0.length : Int)) = false := decide_eq_false c2
  have c2b1 : decide (0 < l0.length) = false := decide_eq_false (by omega)
  clear c2
  obtain rfl := Option.some.inj H
  go_enter Tryd.func61, Tryd.ntmps61
  go_wp2
  go_ret
  exact ⟨by first | rfl | (simp; done) | (simp [*]; done), by repeat (first | exact Drawn0.refl _ | apply Drawn0.step)⟩

end Go.Proofs.YtgkcjefbagnkpaaDoor.PVal
