-- written by wip/tools/xprint.py (over the kit's print.py): not trusted, Lean checks it.
import Derived.Test.YtpmhfahligjhaaaDoorPOrdx0
import Derived.Test.YtpmhfahligjhaaaDoorPOrdx1
import Derived.Test.YtpmhfahligjhaaaDoorPOrdx14
-- compact
namespace Go.Proofs.YtpmhfahligjhaaaDoor.POrd
open Go.RowKit Go.Proofs.YtpmhfahligjhaaaDoorW.PrintWords Go.Proofs.YtpmhfahligjhaaaDoorW.PrintLast Go.Proofs.YtpmhfahligjhaaaDoorW.PrintMore Go.Proofs.YtpmhfahligjhaaaDoorXW
attribute [local go_sem high] Option.map_some
attribute [local go_sem] max2_int max_two
set_option linter.unusedVariables false
set_option linter.unusedSimpArgs false

theorem q19_0 {p : Prop} (h : p := by repeat (first | (with_reducible first | exact HB.out | apply below_alloc | apply pw_below_drewN | apply below_drew1 | refine below_set ?_ GE448.out | refine below_set ?_ GE449.out) | exact HB.out)) : p := h
theorem q19_1 {p : Prop} (h : p := by (with_reducible repeat (first | refine blk_drewN ?_ _ | refine blk_drew ?_ | refine blk_alloc ?_ _)); exact BK448.out) : p := h
theorem q19_4 {p : Prop} (h : p := by (with_reducible repeat (first | refine blk_drewN ?_ _ | refine blk_drew ?_ | refine blk_alloc ?_ _)); exact BK449.out) : p := h
theorem q19_8 {p : Prop} (h : p := by repeat (first | (with_reducible first | exact HB.out | apply below_alloc | apply pw_below_drewN | apply below_drew1 | refine below_set ?_ GE441.out | refine below_set ?_ GE442.out) | exact HB.out)) : p := h
theorem q19_9 {p : Prop} (h : p := by (with_reducible repeat (first | refine blk_drewN ?_ _ | refine blk_drew ?_ | refine blk_alloc ?_ _)); exact BK441.out) : p := h
theorem q19_10 {p : Prop} (h : p := by repeat (first | (with_reducible first | exact HB.out | apply below_alloc | apply pw_below_drewN | apply below_drew1 | refine below_set ?_ GE448.out) | exact HB.out)) : p := h
theorem q19_11 {p : Prop} (h : p := by repeat (first | (with_reducible first | exact HB.out | apply below_alloc | apply pw_below_drewN | apply below_drew1 | refine below_set ?_ GE441.out) | exact HB.out)) : p := h
theorem q19_18 {p : Prop} (h : p := by (with_reducible repeat (first | refine blk_drewN ?_ _ | refine blk_drew ?_ | refine blk_alloc ?_ _)); exact BK445.out) : p := h
theorem q19_19 {p : Prop} (h : p := by repeat (first | (with_reducible first | exact HB.out | apply below_alloc | apply pw_below_drewN | apply below_drew1 | refine below_set ?_ GE445.out | refine below_set ?_ GE446.out) | exact HB.out)) : p := h
theorem q19_23 {p : Prop} (h : p := by repeat (first | (with_reducible first | exact HB.out | apply below_alloc | apply pw_below_drewN | apply below_drew1 | refine below_set ?_ GE445.out) | exact HB.out)) : p := h
theorem q19_25 {p : Prop} (h : p := by (with_reducible repeat (first | apply Kd.R_alloc | apply Kd.R_drewN | apply Kd.R_drew)); exact HO459.out) : p := h
/-! ### gnomonref13_row: function 16 -/
mutual
def gnomonref13_row.l0 : Nat → List Int → List Int → Int → Option (Int)
 | 0, _, _, _ => none
 | k + 1, x0, x1, x5 => if x5 < (x0.length : Int) then (gnomonref13_row.j1 k x0 x1 x5 (decide (x5 < (x1.length : Int)))) else (gnomonref13_row.j1 k x0 x1 x5 false)
def gnomonref13_row.j1 : Nat → List Int → List Int → Int → Bool → Option (Int)
 | 0, _, _, _, _ => none
 | k + 1, x0, x1, x5, x15 => if x15 = true then (if 0 ≤ x5 then (if x5 < (x0.length : Int) then (if x5 < (x1.length : Int) then (if (rd x0 x5) < (rd x1 x5) then (some (-1)) else (if (rd x0 x5) > (rd x1 x5) then (some 1) else (gnomonref13_row.l0 k x0 x1 (wrap64 (x5 + 1))))) else (none)) else (none)) else (none)) else (if (x0.length : Int) < (x1.length : Int) then (some (-1)) else (if (x0.length : Int) > (x1.length : Int) then (some 1) else (some 0)))
end
def gnomonref13_row.f (k : Nat) (l0 : List Int) (l1 : List Int) : Option (Int) := gnomonref13_row.l0 k l0 l1 0
theorem gnomonref13_row.mono_l : ∀ k, (∀ y0 y1 y2, LeO (gnomonref13_row.l0 k y0 y1 y2) (gnomonref13_row.l0 (k + 1) y0 y1 y2)) ∧ (∀ y0 y1 y2 y3, LeO (gnomonref13_row.j1 k y0 y1 y2 y3) (gnomonref13_row.j1 (k + 1) y0 y1 y2 y3))
 | 0 => ⟨fun _ _ _ r h => by simp [gnomonref13_row.l0] at h, fun _ _ _ _ r h => by simp [gnomonref13_row.j1] at h⟩
 | k + 1 => by
  obtain ⟨ih0, ih1⟩ := gnomonref13_row.mono_l k
  refine ⟨?_, ?_⟩
  all_goals intros
  all_goals first | unfold gnomonref13_row.l0 | unfold gnomonref13_row.j1
  all_goals repeat' first | (with_reducible first | exact ih0 _ _ _ | exact ih1 _ _ _ _ | exact LeO.refl _ | exact LeO.none _ | refine LeO.ite ?_ ?_ | refine LeO.bind ?_ (fun _ => ?_)) | exact LeO.none _ | refine LeO.ite ?_ ?_ | refine LeO.bind ?_ (fun _ => ?_)
theorem gnomonref13_row.mono : ∀ a0 a1 k, LeO (gnomonref13_row.f k a0 a1) (gnomonref13_row.f (k + 1) a0 a1) := by
 intro a0 a1 k
 obtain ⟨ih0, ih1⟩ := gnomonref13_row.mono_l k
 unfold gnomonref13_row.f
 repeat' first | (with_reducible first | exact ih0 _ _ _ | exact ih1 _ _ _ _ | exact LeO.refl _ | exact LeO.none _ | refine LeO.ite ?_ ?_ | refine LeO.bind ?_ (fun _ => ?_)) | exact LeO.none _ | refine LeO.ite ?_ ?_ | refine LeO.bind ?_ (fun _ => ?_)
set_option maxHeartbeats 8000000 in
set_option maxRecDepth 100000 in
theorem gnomonref13_row.calls (k : Nat) (A0 : Option Addr) (c0 : Nat) (l0 : List Int) (A1 : Option Addr) (c1 : Nat) (l1 : List Int) (r : Int) (w : World) (hr0 : Kd.C (Kd.int .i64) w A0 l0.length l0) (hc0 : l0.length ≤ c0) (hr1 : Kd.C (Kd.int .i64) w A1 l1.length l1) (hc1 : l1.length ≤ c1) (h : gnomonref13_row.f k l0 l1 = some r) :
  Calls Tryd.prog 16 #[.slice A0 l0.length c0, .slice A1 l1.length c1] w fun e w' => e = .returned (.int .i64 r) ∧ Drawn0 w w' := by
 have HR0 := zM hr0
 have HC0 := zM hc0
 clear hr0 hc0
 have HR1 := zM hr1
 have HC1 := zM hc1
 clear hr1 hc1
 have H : (gnomonref13_row.l0 k l0 l1 0) = some r := h
 clear h
 have H' := zM H
 clear H
 go_enter Tryd.func16, Tryd.ntmps16
 go_wp2
 repeat (go_quiet (fail); try go_wp2)
 go_loopg [5] k (fun kq v5 w' => ∃ (x5_1 : Int), v5 = .int .i64 x5_1 ∧ Aside0 (gnomonref13_row.l0 kq l0 l1 x5_1 = some r) ∧ Aside0 (kq ≤ k) ∧ Drawn0 w w')
 case atStart => exact ⟨(0), s7, H', ⟨Nat.le_refl _⟩, s16⟩
 clear H'
 obtain ⟨x5_1, rfl, HA, HK1, ⟨m1, rfl⟩⟩ := hrel
 cases gk with
 | zero => exact absurd HA.out (by simp [gnomonref13_row.l0])
 | succ k1 =>
  have H := HA.out
  clear HA
  simp only [gnomonref13_row.l0] at H
  have HC3 := zM H
  clear H
  go_upto_region 2 with (fail)
  repeat (go_quiet (fail); go_upto_region 2 with (fail))
  go_cut [15] (fun v15 wc => ∃ (kq : Nat) (x15_2 : Bool), v15 = .bool x15_2 ∧ Aside0 (gnomonref13_row.j1 kq l0 l1 x5_1 x15_2 = some r) ∧ Aside0 (kq ≤ k1) ∧ Drawn0 w wc)
  case first =>
   have H := HC3.out
   clear HC3
   by_cases c4 : x5_1 < (l0.length : Int)
   ·
    rw [if_pos c4] at H
    have c4b0 := zD c4
    clear c4
    (first | rw [c4b0] | (simp only [i64_w, i32_w]; rw [c4b0]) | skip)
    have H' := zM H
    clear H
    go_wp2
    repeat (go_quiet (fail); try go_wp2)
    go_meet
    case rel => exact ⟨_, (decide (x5_1 < (l1.length : Int))), s7, H', ⟨(by have := HK1.out; first | omega | exact Nat.le_refl _)⟩, s16⟩
   rw [if_neg c4] at H
   have c4b0 := decide_eq_false c4
   clear c4
   (first | rw [c4b0] | (simp only [i64_w, i32_w]; rw [c4b0]) | skip)
   have H' := zM H
   clear H
   go_wp2
   repeat (go_quiet (fail); try go_wp2)
   go_meet
   case rel => exact ⟨_, (false), s7, H', ⟨(by have := HK1.out; first | omega | exact Nat.le_refl _)⟩, s16⟩
  clear HC3
  obtain ⟨kq, x15_2, rfl, HA, HJ2, ⟨mc2, rfl⟩⟩ := hcut
  cases kq with
  | zero => exact absurd HA.out (by simp [gnomonref13_row.j1])
  | succ kj2 =>
   have H := HA.out
   clear HA
   simp only [gnomonref13_row.j1] at H
   by_cases c5 : x15_2 = true
   ·
    subst c5
    have H1 : (if 0 ≤ x5_1 then (if x5_1 < (l0.length : Int) then (if x5_1 < (l1.length : Int) then (if (rd l0 x5_1) < (rd l1 x5_1) then (some (-1)) else (if (rd l0 x5_1) > (rd l1 x5_1) then (some 1) else (gnomonref13_row.l0 kj2 l0 l1 (wrap64 (x5_1 + 1))))) else (none)) else (none)) else (none)) = some r := by rw [if_pos rfl] at H; exact H
    clear H
    have H := H1
    clear H1
    by_cases c6 : 0 ≤ x5_1
    ·
     rw [if_pos c6] at H
     have c6b0 := zD c6
     clear c6
     by_cases c7 : x5_1 < (l0.length : Int)
     ·
      rw [if_pos c7] at H
      have c7b0 := zD c7
      clear c7
      by_cases c8 : x5_1 < (l1.length : Int)
      ·
       rw [if_pos c8] at H
       have c8b0 := zD c8
       clear c8
       by_cases c9 : (rd l0 x5_1) < (rd l1 x5_1)
       ·
        rw [if_pos c9] at H
        have c9b0 := zD c9
        clear c9
        obtain rfl := Option.some.inj H
        have p437 : 0 ≤ (x5_1 : Int) := zO s3
        have q437 : x5_1 < (l0.length : Int) := zO s3
        obtain ⟨ad437, e437, hx437_0⟩ := Kd.at_int HR0.out x5_1 p437 q437
        cases e437
        replace p437 := eq_true p437
        replace q437 := eq_true q437
        have p438 : 0 ≤ (x5_1 : Int) := zO s3
        have q438 : x5_1 < (l1.length : Int) := zO s3
        obtain ⟨ad438, e438, hx438_0⟩ := Kd.at_int HR1.out x5_1 p438 q438
        cases e438
        replace p438 := eq_true p438
        replace q438 := eq_true q438
        go_wp2
        repeat (go_quiet (fail); try go_wp2)
        go_ret
        exact ⟨s7, s16⟩
       rw [if_neg c9] at H
       have c9b0 := decide_eq_false c9
       clear c9
       by_cases c10 : (rd l0 x5_1) > (rd l1 x5_1)
       ·
        rw [if_pos c10] at H
        have c10b0 := dgt c10
        clear c10
        obtain rfl := Option.some.inj H
        have p437 : 0 ≤ (x5_1 : Int) := zO s3
        have q437 : x5_1 < (l0.length : Int) := zO s3
        obtain ⟨ad437, e437, hx437_0⟩ := Kd.at_int HR0.out x5_1 p437 q437
        cases e437
        replace p437 := eq_true p437
        replace q437 := eq_true q437
        have p438 : 0 ≤ (x5_1 : Int) := zO s3
        have q438 : x5_1 < (l1.length : Int) := zO s3
        obtain ⟨ad438, e438, hx438_0⟩ := Kd.at_int HR1.out x5_1 p438 q438
        cases e438
        replace p438 := eq_true p438
        replace q438 := eq_true q438
        have p439 : 0 ≤ (x5_1 : Int) := zO s3
        have q439 : x5_1 < (l0.length : Int) := zO s3
        obtain ⟨ad439, e439, hx439_0⟩ := Kd.at_int HR0.out x5_1 p439 q439
        obtain rfl : ad437 = ad439 := (by injection e439)
        replace p439 := eq_true p439
        replace q439 := eq_true q439
        have p440 : 0 ≤ (x5_1 : Int) := zO s3
        have q440 : x5_1 < (l1.length : Int) := zO s3
        obtain ⟨ad440, e440, hx440_0⟩ := Kd.at_int HR1.out x5_1 p440 q440
        obtain rfl : ad438 = ad440 := (by injection e440)
        replace p440 := eq_true p440
        replace q440 := eq_true q440
        go_wp2
        repeat (go_quiet (fail); try go_wp2)
        go_ret
        exact ⟨s7, s16⟩
       rw [if_neg c10] at H
       have c10b0 := dngt c10
       clear c10
       have H' := zM H
       clear H
       have p437 : 0 ≤ (x5_1 : Int) := zO s3
       have q437 : x5_1 < (l0.length : Int) := zO s3
       obtain ⟨ad437, e437, hx437_0⟩ := Kd.at_int HR0.out x5_1 p437 q437
       cases e437
       replace p437 := eq_true p437
       replace q437 := eq_true q437
       have p438 : 0 ≤ (x5_1 : Int) := zO s3
       have q438 : x5_1 < (l1.length : Int) := zO s3
       obtain ⟨ad438, e438, hx438_0⟩ := Kd.at_int HR1.out x5_1 p438 q438
       cases e438
       replace p438 := eq_true p438
       replace q438 := eq_true q438
       have p439 : 0 ≤ (x5_1 : Int) := zO s3
       have q439 : x5_1 < (l0.length : Int) := zO s3
       obtain ⟨ad439, e439, hx439_0⟩ := Kd.at_int HR0.out x5_1 p439 q439
       obtain rfl : ad437 = ad439 := (by injection e439)
       replace p439 := eq_true p439
       replace q439 := eq_true q439
       have p440 : 0 ≤ (x5_1 : Int) := zO s3
       have q440 : x5_1 < (l1.length : Int) := zO s3
       obtain ⟨ad440, e440, hx440_0⟩ := Kd.at_int HR1.out x5_1 p440 q440
       obtain rfl : ad438 = ad440 := (by injection e440)
       replace p440 := eq_true p440
       replace q440 := eq_true q440
       go_wp2
       repeat (go_quiet (fail); try go_wp2)
       go_roundg kj2
       case measure => have := HK1.out; have := HJ2.out; omega
       case rel => exact ⟨(wrap64 (x5_1 + 1)), s7, H', ⟨(by have := HK1.out; have := HJ2.out; omega)⟩, s16⟩
      rw [if_neg c8] at H
      exact absurd H (by simp)
     rw [if_neg c7] at H
     exact absurd H (by simp)
    rw [if_neg c6] at H
    exact absurd H (by simp)
   replace c5 := Bool.eq_false_iff.mpr c5
   subst c5
   have H1 : (if (l0.length : Int) < (l1.length : Int) then (some (-1)) else (if (l0.length : Int) > (l1.length : Int) then (some 1) else (some 0))) = some r := by rw [if_neg (show ¬ (false = true) by decide)] at H; exact H
   clear H
   have H := H1
   clear H1
   by_cases c11 : (l0.length : Int) < (l1.length : Int)
   ·
    rw [if_pos c11] at H
    have c11b0 := zD c11
    have c11b1 : decide (l0.length < l1.length) = true := zD (Int.ofNat_lt.mp c11)
    clear c11
    obtain rfl := Option.some.inj H
    go_wp2
    repeat (go_quiet (fail); try go_wp2)
    go_ret
    exact ⟨s7, s16⟩
   rw [if_neg c11] at H
   have c11b0 := decide_eq_false c11
   have c11b1 : decide (l0.length < l1.length) = false := decide_eq_false (fun h => c11 (Int.ofNat_lt.mpr h))
   clear c11
   by_cases c12 : (l0.length : Int) > (l1.length : Int)
   ·
    rw [if_pos c12] at H
    have c12b0 := dgt c12
    have c12b1 : decide (l1.length < l0.length) = true := zD (Int.ofNat_lt.mp c12)
    clear c12
    obtain rfl := Option.some.inj H
    go_wp2
    repeat (go_quiet (fail); try go_wp2)
    go_ret
    exact ⟨s7, s16⟩
   rw [if_neg c12] at H
   have c12b0 := dngt c12
   have c12b1 : decide (l1.length < l0.length) = false := decide_eq_false (fun h => c12 (Int.ofNat_lt.mpr h))
   clear c12
   obtain rfl := Option.some.inj H
   go_wp2
   repeat (go_quiet (fail); try go_wp2)
   go_ret
   exact ⟨s7, s16⟩

/-! ### gnomonref13_Compare: function 6 -/
def gnomonref13_Compare.f (k : Nat) (l0_0 : List Int) (l0_1 : List Int) (l1_0 : List Int) (l1_1 : List Int) : Option (Int) := (gnomonref13_row.f k l0_0 l1_0).bind fun t443 => (if t443 = 0 then ((gnomonref13_row.f k l0_1 l1_1).bind fun t444 => (some t444)) else (some t443))
theorem gnomonref13_Compare.mono : ∀ a0 a1 a2 a3 k, LeO (gnomonref13_Compare.f k a0 a1 a2 a3) (gnomonref13_Compare.f (k + 1) a0 a1 a2 a3) := by
 intro a0 a1 a2 a3 k
 unfold gnomonref13_Compare.f
 repeat' first | (with_reducible first | exact gnomonref13_row.mono _ _ _ | exact LeO.refl _ | exact LeO.none _ | refine LeO.ite ?_ ?_ | refine LeO.bind ?_ (fun _ => ?_)) | exact LeO.none _ | refine LeO.ite ?_ ?_ | refine LeO.bind ?_ (fun _ => ?_)
set_option maxHeartbeats 8000000 in
set_option maxRecDepth 100000 in
theorem gnomonref13_Compare.calls (k : Nat) (A0_0 : Option Addr) (c0_0 : Nat) (l0_0 : List Int) (A0_1 : Option Addr) (c0_1 : Nat) (l0_1 : List Int) (A1_0 : Option Addr) (c1_0 : Nat) (l1_0 : List Int) (A1_1 : Option Addr) (c1_1 : Nat) (l1_1 : List Int) (r : Int) (w : World) (hr0_0 : Kd.C (Kd.int .i64) w A0_0 l0_0.length l0_0) (hc0_0 : l0_0.length ≤ c0_0) (hr0_1 : Kd.C (Kd.int .i64) w A0_1 l0_1.length l0_1) (hc0_1 : l0_1.length ≤ c0_1) (hr1_0 : Kd.C (Kd.int .i64) w A1_0 l1_0.length l1_0) (hc1_0 : l1_0.length ≤ c1_0) (hr1_1 : Kd.C (Kd.int .i64) w A1_1 l1_1.length l1_1) (hc1_1 : l1_1.length ≤ c1_1) (h : gnomonref13_Compare.f k l0_0 l0_1 l1_0 l1_1 = some r) :
  Calls Tryd.prog 6 #[.agg #[.slice A0_0 l0_0.length c0_0, .slice A0_1 l0_1.length c0_1], .agg #[.slice A1_0 l1_0.length c1_0, .slice A1_1 l1_1.length c1_1]] w fun e w' => e = .returned (.int .i64 r) ∧ Below w.heap.size w w' := by
 have hu29 := Tryd.underlying29
 have HR0_0 := zM hr0_0
 have HC0_0 := zM hc0_0
 clear hr0_0 hc0_0
 have HR0_1 := zM hr0_1
 have HC0_1 := zM hc0_1
 clear hr0_1 hc0_1
 have HR1_0 := zM hr1_0
 have HC1_0 := zM hc1_0
 clear hr1_0 hc1_0
 have HR1_1 := zM hr1_1
 have HC1_1 := zM hc1_1
 clear hr1_1 hc1_1
 have HB := zM (Below.refl w.heap.size w)
 have H : ((gnomonref13_row.f k l0_0 l1_0).bind fun t443 => (if t443 = 0 then ((gnomonref13_row.f k l0_1 l1_1).bind fun t444 => (some t444)) else (some t443))) = some r := h
 clear h
 replace H := Option.bind_eq_some_iff.mp H
 obtain ⟨t443, A30, H⟩ := H
 replace H : (if t443 = 0 then ((gnomonref13_row.f k l0_1 l1_1).bind fun t444 => (some t444)) else (some t443)) = some r := H
 have A3 := zM A30
 clear A30
 by_cases c4 : t443 = 0
 ·
  rw [if_pos c4] at H
  obtain ⟨c4b0, c4b1⟩ := eqb c4
  clear c4
  replace H := Option.bind_eq_some_iff.mp H
  obtain ⟨t444, A50, H⟩ := H
  replace H : (some t444) = some r := H
  have A5 := zM A50
  clear A50
  obtain rfl := Option.some.inj H
  go_enter Tryd.func6, Tryd.ntmps6
  go_wp2_with (first | ((with_reducible refine gate_dst (N := 2) rfl ?_); refine box_ev (N := 2) (cs := #[.slice A0_0 l0_0.length c0_0, .slice A0_1 l0_1.length c0_1]) (t := 29) ?_; intro gb441 hg w6 hbox hb; have BK441 := zM (hbox); have GE441 := zM (box_ge (n := w.heap.size) hg (below_size s8)); replace HB := zM (below_step s8 hb); clear hb hbox hg) | ((with_reducible refine gate_dst (N := 3) rfl ?_); refine box_ev (N := 3) (cs := #[.slice A1_0 l1_0.length c1_0, .slice A1_1 l1_1.length c1_1]) (t := 29) ?_; intro gb442 hg w7 hbox hb; have BK442 := zM (hbox); have GE442 := zM (box_ge (n := w.heap.size) hg (below_size q19_11)); have NB441_442 := zM (box_ne hg (g := gb441) q19_9); have NB442_441 := zM (box_ne' hg (g := gb441) q19_9); replace BK441 := zM (blk_below (g := gb441) q19_9 hb); replace HB := zM (below_step q19_11 hb); clear hb hbox hg; have hnb8 := NB441_442.out; have hnc8 := NB442_441.out; obtain ⟨hcz9_0, hcz9_1, hfz9_0, hfz9_1⟩ := blk2 BK441.out; obtain ⟨hcz10_0, hcz10_1, hfz10_0, hfz10_1⟩ := blk2 BK442.out) | ((with_reducible refine gate_callee (f := 16) rfl ?_); refine goesL_ (some 10) rfl rfl Tryd.func16 (by kernel_rfl) rfl #[.slice A0_0 l0_0.length c0_0, .slice A1_0 l1_0.length c1_0] rfl s0 ?_; (with_reducible refine (gnomonref13_row.calls k _ _ l0_0 _ _ l1_0 t443 _ ?side1 HC0_0.out ?side3 HC1_0.out A3.out).mono ?_); (case side1 => exact s10); (case side3 => exact s14); rintro e w' ⟨rfl, ⟨nd, rfl⟩⟩; refine ⟨_, rfl, ?_⟩) | ((with_reducible refine gate_callee (f := 16) rfl ?_); refine goesL_ (some 18) rfl rfl Tryd.func16 (by kernel_rfl) rfl #[.slice A0_1 l0_1.length c0_1, .slice A1_1 l1_1.length c1_1] rfl s0 ?_; (with_reducible refine (gnomonref13_row.calls k _ _ l0_1 _ _ l1_1 t444 _ ?side1 HC0_1.out ?side3 HC1_1.out A5.out).mono ?_); (case side1 => repeat (first | exact (Kd.C_below HR0_1.out q19_8) | (with_reducible refine Kd.C_alloc ?_ _) | (with_reducible refine Kd.C_drewN ?_ _) | (with_reducible refine Kd.C_drew ?_))); (case side3 => repeat (first | exact (Kd.C_below HR1_1.out q19_8) | (with_reducible refine Kd.C_alloc ?_ _) | (with_reducible refine Kd.C_drewN ?_ _) | (with_reducible refine Kd.C_drew ?_))); rintro e w' ⟨rfl, ⟨nd, rfl⟩⟩; refine ⟨_, rfl, ?_⟩))
  go_ret
  exact ⟨s6, q19_8⟩
 rw [if_neg c4] at H
 obtain ⟨c4b0, c4b1⟩ := neb c4
 obtain rfl := Option.some.inj H
 go_enter Tryd.func6, Tryd.ntmps6
 go_wp2_with (first | ((with_reducible refine gate_dst (N := 2) rfl ?_); refine box_ev (N := 2) (cs := #[.slice A0_0 l0_0.length c0_0, .slice A0_1 l0_1.length c0_1]) (t := 29) ?_; intro gb441 hg w11 hbox hb; have BK441 := zM (hbox); have GE441 := zM (box_ge (n := w.heap.size) hg (below_size s8)); replace HB := zM (below_step s8 hb); clear hb hbox hg) | ((with_reducible refine gate_dst (N := 3) rfl ?_); refine box_ev (N := 3) (cs := #[.slice A1_0 l1_0.length c1_0, .slice A1_1 l1_1.length c1_1]) (t := 29) ?_; intro gb442 hg w12 hbox hb; have BK442 := zM (hbox); have GE442 := zM (box_ge (n := w.heap.size) hg (below_size q19_11)); have NB441_442 := zM (box_ne hg (g := gb441) q19_9); have NB442_441 := zM (box_ne' hg (g := gb441) q19_9); replace BK441 := zM (blk_below (g := gb441) q19_9 hb); replace HB := zM (below_step q19_11 hb); clear hb hbox hg; have hnb13 := NB441_442.out; have hnc13 := NB442_441.out; obtain ⟨hcz14_0, hcz14_1, hfz14_0, hfz14_1⟩ := blk2 BK441.out; obtain ⟨hcz15_0, hcz15_1, hfz15_0, hfz15_1⟩ := blk2 BK442.out) | ((with_reducible refine gate_callee (f := 16) rfl ?_); refine goesL_ (some 10) rfl rfl Tryd.func16 (by kernel_rfl) rfl #[.slice A0_0 l0_0.length c0_0, .slice A1_0 l1_0.length c1_0] rfl s0 ?_; (with_reducible refine (gnomonref13_row.calls k _ _ l0_0 _ _ l1_0 t443 _ ?side1 HC0_0.out ?side3 HC1_0.out A3.out).mono ?_); (case side1 => exact s10); (case side3 => exact s14); rintro e w' ⟨rfl, ⟨nd, rfl⟩⟩; refine ⟨_, rfl, ?_⟩))
 go_ret
 exact ⟨s6, q19_8⟩

/-! ### state_Same: function 7 -/
def state_Same.f (k : Nat) (l0_0 : List Int) (l0_1 : List Int) (l1_0 : List Int) (l1_1 : List Int) : Option (Bool) := (state_Compare.f k l0_0 l0_1 l1_0 l1_1).bind fun t447 => (some (t447 == 0))
theorem state_Same.mono : ∀ a0 a1 a2 a3 k, LeO (state_Same.f k a0 a1 a2 a3) (state_Same.f (k + 1) a0 a1 a2 a3) := by
 intro a0 a1 a2 a3 k
 unfold state_Same.f
 repeat' first | (with_reducible first | exact state_Compare.mono _ _ _ _ _ | exact LeO.refl _ | exact LeO.none _ | refine LeO.ite ?_ ?_ | refine LeO.bind ?_ (fun _ => ?_)) | exact LeO.none _ | refine LeO.ite ?_ ?_ | refine LeO.bind ?_ (fun _ => ?_)
set_option maxHeartbeats 8000000 in
set_option maxRecDepth 100000 in
theorem state_Same.calls (k : Nat) (A0_0 : Option Addr) (c0_0 : Nat) (l0_0 : List Int) (A0_1 : Option Addr) (c0_1 : Nat) (l0_1 : List Int) (A1_0 : Option Addr) (c1_0 : Nat) (l1_0 : List Int) (A1_1 : Option Addr) (c1_1 : Nat) (l1_1 : List Int) (r : Bool) (w : World) (hr0_0 : Kd.C (Kd.int .i64) w A0_0 l0_0.length l0_0) (hc0_0 : l0_0.length ≤ c0_0) (hr0_1 : Kd.C (Kd.int .i64) w A0_1 l0_1.length l0_1) (hc0_1 : l0_1.length ≤ c0_1) (hr1_0 : Kd.C (Kd.int .i64) w A1_0 l1_0.length l1_0) (hc1_0 : l1_0.length ≤ c1_0) (hr1_1 : Kd.C (Kd.int .i64) w A1_1 l1_1.length l1_1) (hc1_1 : l1_1.length ≤ c1_1) (h : state_Same.f k l0_0 l0_1 l1_0 l1_1 = some r) :
  Calls Tryd.prog 7 #[.agg #[.slice A0_0 l0_0.length c0_0, .slice A0_1 l0_1.length c0_1], .agg #[.slice A1_0 l1_0.length c1_0, .slice A1_1 l1_1.length c1_1]] w fun e w' => e = .returned (.bool r) ∧ Below w.heap.size w w' := by
 have hu29 := Tryd.underlying29
 have HR0_0 := zM hr0_0
 have HC0_0 := zM hc0_0
 clear hr0_0 hc0_0
 have HR0_1 := zM hr0_1
 have HC0_1 := zM hc0_1
 clear hr0_1 hc0_1
 have HR1_0 := zM hr1_0
 have HC1_0 := zM hc1_0
 clear hr1_0 hc1_0
 have HR1_1 := zM hr1_1
 have HC1_1 := zM hc1_1
 clear hr1_1 hc1_1
 have HB := zM (Below.refl w.heap.size w)
 have H : ((state_Compare.f k l0_0 l0_1 l1_0 l1_1).bind fun t447 => (some (t447 == 0))) = some r := h
 clear h
 replace H := Option.bind_eq_some_iff.mp H
 obtain ⟨t447, A30, H⟩ := H
 replace H : (some (t447 == 0)) = some r := H
 have A3 := zM A30
 clear A30
 obtain rfl := Option.some.inj H
 go_enter Tryd.func7, Tryd.ntmps7
 go_wp2_with (first | ((with_reducible refine gate_dst (N := 2) rfl ?_); refine box_ev (N := 2) (cs := #[.slice A0_0 l0_0.length c0_0, .slice A0_1 l0_1.length c0_1]) (t := 29) ?_; intro gb445 hg w4 hbox hb; have BK445 := zM (hbox); have GE445 := zM (box_ge (n := w.heap.size) hg (below_size s8)); replace HB := zM (below_step s8 hb); clear hb hbox hg) | ((with_reducible refine gate_dst (N := 3) rfl ?_); refine box_ev (N := 3) (cs := #[.slice A1_0 l1_0.length c1_0, .slice A1_1 l1_1.length c1_1]) (t := 29) ?_; intro gb446 hg w5 hbox hb; have BK446 := zM (hbox); have GE446 := zM (box_ge (n := w.heap.size) hg (below_size q19_23)); have NB445_446 := zM (box_ne hg (g := gb445) q19_18); have NB446_445 := zM (box_ne' hg (g := gb445) q19_18); replace BK445 := zM (blk_below (g := gb445) q19_18 hb); replace HB := zM (below_step q19_23 hb); clear hb hbox hg; have hnb6 := NB445_446.out; have hnc6 := NB446_445.out; obtain ⟨hcz7_0, hcz7_1, hfz7_0, hfz7_1⟩ := blk2 BK445.out; obtain ⟨hcz8_0, hcz8_1, hfz8_0, hfz8_1⟩ := blk2 BK446.out) | ((with_reducible refine gate_callee (f := 4) rfl ?_); refine goesL_ (some 7) rfl rfl Tryd.func4 (by kernel_rfl) rfl #[.agg #[.slice A0_0 l0_0.length c0_0, .slice A0_1 l0_1.length c0_1], .agg #[.slice A1_0 l1_0.length c1_0, .slice A1_1 l1_1.length c1_1]] rfl s0 ?_; (with_reducible refine (state_Compare.calls k _ _ l0_0 _ _ l0_1 _ _ l1_0 _ _ l1_1 t447 _ ?side1 HC0_0.out ?side3 HC0_1.out ?side5 HC1_0.out ?side7 HC1_1.out A3.out).mono ?_); (case side1 => exact s10); (case side3 => exact s11); (case side5 => exact s14); (case side7 => exact s15); rintro e w9 ⟨rfl, hb⟩; refine ⟨_, rfl, ?_⟩; replace BK445 := zM (blk_below (g := gb445) q19_18 hb); replace BK446 := zM (blk_below (g := gb446) (by (with_reducible repeat (first | refine blk_drewN ?_ _ | refine blk_drew ?_ | refine blk_alloc ?_ _)); exact BK446.out) hb); replace HB := zM (below_step q19_19 hb); (try clear hb)))
 go_ret
 exact ⟨s6, q19_19⟩

/-! ### state_Key: function 8 -/
mutual
def state_Key.l0 : Nat → List Int → List Int → Int → Int → List ByteArray → List (S50) → List ByteArray → List (S61) → List Int → List Int → Option (List Int × Int)
 | 0, _, _, _, _, _, _, _, _, _, _ => none
 | k + 1, x7, x20, x21, x22, x449000, x449001, x449002, x449003, x450000, x450001 => if x22 < x21 then (if 0 ≤ x22 then (if x22 < (x20.length : Int) then (if x7.length < 140737488355328 then (state_Key.l0 k (x7 ++ [(rd x20 x22) % 256]) x20 x21 (wrap64 (x22 + 1)) x449000 x449001 x449002 x449003 x450000 x450001) else (none)) else (none)) else (none)) else (state_Key.l1 k x7 x450001 (x450001.length : Int) 0 x449000 x449001 x449002 x449003)
def state_Key.l1 : Nat → List Int → List Int → Int → Int → List ByteArray → List (S50) → List ByteArray → List (S61) → Option (List Int × Int)
 | 0, _, _, _, _, _, _, _, _ => none
 | k + 1, x7, x33, x34, x35, x449000, x449001, x449002, x449003 => if x35 < x34 then (if 0 ≤ x35 then (if x35 < (x33.length : Int) then (if x35 < (x449001.length : Int) then ((some (([((wrap64 ((rd x33 x35) - ((rd_T50 x449001 x35).f1))) % 4294967296) / 16777216, (((wrap64 ((rd x33 x35) - ((rd_T50 x449001 x35).f1))) % 4294967296) / 65536) % 256, (((wrap64 ((rd x33 x35) - ((rd_T50 x449001 x35).f1))) % 4294967296) / 256) % 256, ((wrap64 ((rd x33 x35) - ((rd_T50 x449001 x35).f1))) % 4294967296) % 256] : List Int) : List Int)).bind fun y457 => (if x7.length + y457.length < 140737488355328 then (state_Key.l1 k (x7 ++ y457) x33 x34 (wrap64 (x35 + 1)) x449000 x449001 x449002 x449003) else (none))) else (none)) else (none)) else (none)) else (some (x7, 0))
end
def state_Key.f (k : Nat) (l0_0 : List ByteArray) (l0_1 : List (S50)) (l0_2 : List ByteArray) (l0_3 : List (S61)) (l1_0 : List Int) (l1_1 : List Int) : Option (List Int × Int) := (state_wrong.f k l0_0 l0_1 l0_2 l0_3 l1_0 l1_1).bind fun t450 => (if t450 = 0 then (state_Key.l0 k ([] : List Int) l1_0 (l1_0.length : Int) 0 l0_0 l0_1 l0_2 l0_3 l1_0 l1_1) else (some (([] : List Int), t450)))
theorem state_Key.mono_l : ∀ k, (∀ y0 y1 y2 y3 y4 y5 y6 y7 y8 y9, LeO (state_Key.l0 k y0 y1 y2 y3 y4 y5 y6 y7 y8 y9) (state_Key.l0 (k + 1) y0 y1 y2 y3 y4 y5 y6 y7 y8 y9)) ∧ (∀ y0 y1 y2 y3 y4 y5 y6 y7, LeO (state_Key.l1 k y0 y1 y2 y3 y4 y5 y6 y7) (state_Key.l1 (k + 1) y0 y1 y2 y3 y4 y5 y6 y7))
 | 0 => ⟨fun _ _ _ _ _ _ _ _ _ _ r h => by simp [state_Key.l0] at h, fun _ _ _ _ _ _ _ _ r h => by simp [state_Key.l1] at h⟩
 | k + 1 => by
  obtain ⟨ih0, ih1⟩ := state_Key.mono_l k
  refine ⟨?_, ?_⟩
  all_goals intros
  all_goals first | unfold state_Key.l0 | unfold state_Key.l1
  all_goals repeat' first | (with_reducible first | exact ih0 _ _ _ _ _ _ _ _ _ _ | exact ih1 _ _ _ _ _ _ _ _ | exact state_wrong.mono _ _ _ _ _ _ _ | exact LeO.refl _ | exact LeO.none _ | refine LeO.ite ?_ ?_ | refine LeO.bind ?_ (fun _ => ?_)) | exact LeO.none _ | refine LeO.ite ?_ ?_ | refine LeO.bind ?_ (fun _ => ?_)
theorem state_Key.mono : ∀ a0 a1 a2 a3 a4 a5 k, LeO (state_Key.f k a0 a1 a2 a3 a4 a5) (state_Key.f (k + 1) a0 a1 a2 a3 a4 a5) := by
 intro a0 a1 a2 a3 a4 a5 k
 obtain ⟨ih0, ih1⟩ := state_Key.mono_l k
 unfold state_Key.f
 repeat' first | (with_reducible first | exact ih0 _ _ _ _ _ _ _ _ _ _ | exact ih1 _ _ _ _ _ _ _ _ | exact state_wrong.mono _ _ _ _ _ _ _ | exact LeO.refl _ | exact LeO.none _ | refine LeO.ite ?_ ?_ | refine LeO.bind ?_ (fun _ => ?_)) | exact LeO.none _ | refine LeO.ite ?_ ?_ | refine LeO.bind ?_ (fun _ => ?_)
set_option maxHeartbeats 8000000 in
set_option maxRecDepth 100000 in
theorem state_Key.calls (k : Nat) (A0_0 : Option Addr) (c0_0 : Nat) (l0_0 : List ByteArray) (A0_1 : Option Addr) (c0_1 : Nat) (l0_1 : List (S50)) (A0_2 : Option Addr) (c0_2 : Nat) (l0_2 : List ByteArray) (A0_3 : Option Addr) (c0_3 : Nat) (l0_3 : List (S61)) (A1_0 : Option Addr) (c1_0 : Nat) (l1_0 : List Int) (A1_1 : Option Addr) (c1_1 : Nat) (l1_1 : List Int) (r1 : List Int) (r2 : Int) (w : World) (hG : Glob w) (hr0_0 : Kd.C Kd.string w A0_0 l0_0.length l0_0) (hc0_0 : l0_0.length ≤ c0_0) (hr0_1 : Kd.C k50 w A0_1 l0_1.length l0_1) (hc0_1 : l0_1.length ≤ c0_1) (hr0_2 : Kd.C Kd.string w A0_2 l0_2.length l0_2) (hc0_2 : l0_2.length ≤ c0_2) (hr0_3 : Kd.C k61 w A0_3 l0_3.length l0_3) (hc0_3 : l0_3.length ≤ c0_3) (hr1_0 : Kd.C (Kd.int .i64) w A1_0 l1_0.length l1_0) (hc1_0 : l1_0.length ≤ c1_0) (hr1_1 : Kd.C (Kd.int .i64) w A1_1 l1_1.length l1_1) (hc1_1 : l1_1.length ≤ c1_1) (h : state_Key.f k l0_0 l0_1 l0_2 l0_3 l1_0 l1_1 = some (r1, r2)) :
  Calls Tryd.prog 8 #[.agg #[.slice A0_0 l0_0.length c0_0, .slice A0_1 l0_1.length c0_1, .slice A0_2 l0_2.length c0_2, .slice A0_3 l0_3.length c0_3], .agg #[.slice A1_0 l1_0.length c1_0, .slice A1_1 l1_1.length c1_1]] w fun e w' => ∃ v0_ : Value, e = .returned (.tuple #[v0_, .int .i64 r2]) ∧ Kd.R (Kd.int .u8) 5 w' w.heap.size (fun _ => True) v0_ r1 ∧ Below w.heap.size w w' := by
 have hu26 := Tryd.underlying26
 have hu29 := Tryd.underlying29
 have HR0_0 := zM hr0_0
 have HC0_0 := zM hc0_0
 clear hr0_0 hc0_0
 have HR0_1 := zM hr0_1
 have HC0_1 := zM hc0_1
 clear hr0_1 hc0_1
 have HR0_2 := zM hr0_2
 have HC0_2 := zM hc0_2
 clear hr0_2 hc0_2
 have HR0_3 := zM hr0_3
 have HC0_3 := zM hc0_3
 clear hr0_3 hc0_3
 have HR1_0 := zM hr1_0
 have HC1_0 := zM hc1_0
 clear hr1_0 hc1_0
 have HR1_1 := zM hr1_1
 have HC1_1 := zM hc1_1
 clear hr1_1 hc1_1
 have HGL := zM hG
 clear hG
 have HB := zM (Below.refl w.heap.size w)
 have H : ((state_wrong.f k l0_0 l0_1 l0_2 l0_3 l1_0 l1_1).bind fun t450 => (if t450 = 0 then (state_Key.l0 k ([] : List Int) l1_0 (l1_0.length : Int) 0 l0_0 l0_1 l0_2 l0_3 l1_0 l1_1) else (some (([] : List Int), t450)))) = some (r1, r2) := h
 clear h
 replace H := Option.bind_eq_some_iff.mp H
 obtain ⟨t450, A30, H⟩ := H
 replace H : (if t450 = 0 then (state_Key.l0 k ([] : List Int) l1_0 (l1_0.length : Int) 0 l0_0 l0_1 l0_2 l0_3 l1_0 l1_1) else (some (([] : List Int), t450))) = some (r1, r2) := H
 have A3 := zM A30
 clear A30
 by_cases c4 : t450 = 0
 ·
  rw [if_pos c4] at H
  obtain ⟨c4b0, c4b1⟩ := eqb c4
  clear c4
  have H' := zM H
  clear H
  go_enter Tryd.func8, Tryd.ntmps8
  go_wp2_with (first | ((with_reducible refine gate_dst (N := 2) rfl ?_); refine box_ev (N := 2) (cs := #[.slice A0_0 l0_0.length c0_0, .slice A0_1 l0_1.length c0_1, .slice A0_2 l0_2.length c0_2, .slice A0_3 l0_3.length c0_3]) (t := 26) ?_; intro gb448 hg w5 hbox hb; have BK448 := zM (hbox); have GE448 := zM (box_ge (n := w.heap.size) hg (below_size s8)); replace HB := zM (below_step s8 hb); clear hb hbox hg) | ((with_reducible refine gate_dst (N := 3) rfl ?_); refine box_ev (N := 3) (cs := #[.slice A1_0 l1_0.length c1_0, .slice A1_1 l1_1.length c1_1]) (t := 29) ?_; intro gb449 hg w6 hbox hb; have BK449 := zM (hbox); have GE449 := zM (box_ge (n := w.heap.size) hg (below_size q19_10)); have NB448_449 := zM (box_ne hg (g := gb448) q19_1); have NB449_448 := zM (box_ne' hg (g := gb448) q19_1); replace BK448 := zM (blk_below (g := gb448) q19_1 hb); replace HB := zM (below_step q19_10 hb); clear hb hbox hg; have hnb7 := NB448_449.out; have hnc7 := NB449_448.out; obtain ⟨hcz8_0, hcz8_1, hcz8_2, hcz8_3, hfz8_0, hfz8_1, hfz8_2, hfz8_3⟩ := blk4 BK448.out; obtain ⟨hcz9_0, hcz9_1, hfz9_0, hfz9_1⟩ := blk2 BK449.out) | ((with_reducible refine gate_callee (f := 17) rfl ?_); refine goesL_ (some 15) rfl rfl Tryd.func17 (by kernel_rfl) rfl #[.agg #[.slice A0_0 l0_0.length c0_0, .slice A0_1 l0_1.length c0_1, .slice A0_2 l0_2.length c0_2, .slice A0_3 l0_3.length c0_3], .agg #[.slice A1_0 l1_0.length c1_0, .slice A1_1 l1_1.length c1_1]] rfl s0 ?_; (with_reducible refine (state_wrong.calls k _ _ l0_0 _ _ l0_1 _ _ l0_2 _ _ l0_3 _ _ l1_0 _ _ l1_1 t450 _ ?side13 ?side1 HC0_0.out ?side3 HC0_1.out ?side5 HC0_2.out ?side7 HC0_3.out ?side9 HC1_0.out ?side11 HC1_1.out A3.out).mono ?_); (case side1 => exact s10); (case side3 => exact s11); (case side5 => exact s12); (case side7 => exact s13); (case side9 => exact s14); (case side11 => exact s15); (case side13 => exact s9); rintro e w10 ⟨rfl, hb⟩; refine ⟨_, rfl, ?_⟩; replace BK448 := zM (blk_below (g := gb448) q19_1 hb); replace BK449 := zM (blk_below (g := gb449) q19_4 hb); replace HB := zM (below_step q19_0 hb); (try clear hb); obtain ⟨hcz11_0, hcz11_1, hfz11_0, hfz11_1⟩ := blk2 BK449.out))
  go_loopg [7, 22] k (fun kq v7 v22 w' => ∃ (x7_1 : List Int) (x22_1 : Int), v22 = .int .i64 x22_1 ∧ Aside0 (state_Key.l0 kq x7_1 l1_0 (l1_0.length : Int) x22_1 l0_0 l0_1 l0_2 l0_3 l1_0 l1_1 = some (r1, r2)) ∧ Aside0 (kq ≤ k) ∧ Aside0 (Kd.R (Kd.int .u8) 5 w' w.heap.size (fun _ => True) v7 x7_1) ∧ Aside0 (w'.heap[gb448]? = some (.cells #[(.slice A0_0 l0_0.length c0_0), (.slice A0_1 l0_1.length c0_1), (.slice A0_2 l0_2.length c0_2), (.slice A0_3 l0_3.length c0_3)] 26 (0, 0))) ∧ Aside0 (w'.heap[gb449]? = some (.cells #[(.slice A1_0 l1_0.length c1_0), (.slice A1_1 l1_1.length c1_1)] 29 (0, 0))) ∧ Aside0 (Below w.heap.size w w'))
  case atStart => exact ⟨(([] : List Int)), (0), s7, H', ⟨Nat.le_refl _⟩, ⟨s4⟩, ⟨q19_1⟩, ⟨q19_4⟩, ⟨q19_0⟩⟩
  clear H'
  obtain ⟨x7_1, x22_1, rfl, HA, HK1, HO_7, BK448, BK449, HB⟩ := hrel
  cases gk with
  | zero => exact absurd HA.out (by simp [state_Key.l0])
  | succ k1 =>
   have H := HA.out
   clear HA
   simp only [state_Key.l0] at H
   by_cases c12 : x22_1 < (l1_0.length : Int)
   ·
    rw [if_pos c12] at H
    have c12b0 := zD c12
    clear c12
    by_cases c13 : 0 ≤ x22_1
    ·
     rw [if_pos c13] at H
     have c13b0 := zD c13
     clear c13
     by_cases c14 : x22_1 < (l1_0.length : Int)
     ·
      rw [if_pos c14] at H
      have c14b0 := zD c14
      clear c14
      by_cases c15 : x7_1.length < 140737488355328
      ·
       rw [if_pos c15] at H
       have LMc15 := zM c15
       clear c15
       obtain ⟨y452, hy452⟩ : ∃ y_ : List Int, y_ = (x7_1 ++ [(rd l1_0 x22_1) % 256]) := ⟨_, rfl⟩
       replace H : (state_Key.l0 k1 y452 l1_0 (l1_0.length : Int) (wrap64 (x22_1 + 1)) l0_0 l0_1 l0_2 l0_3 l1_0 l1_1) = some (r1, r2) := by first | (rw [hy452]; with_reducible exact H) | (have H2_ := (Option.bind_some _ _).symm.trans H; rw [hy452]; with_reducible exact H2_) | (have H2_ := (Option.bind_some _ _).symm.trans H; with_reducible exact H2_) | with_reducible exact H | (rw [hy452]; exact H) | exact H
       have Ny452 := zM hy452
       clear hy452
       have H' := zM H
       clear H
       have p451 : 0 ≤ (x22_1 : Int) := zO s3
       have q451 : x22_1 < (l1_0.length : Int) := zO s3
       obtain ⟨ad451, e451, hx451_0⟩ := Kd.at_int HR1_0.out x22_1 p451 q451
       cases e451
       replace hx451_0 := cell_up HB.out hx451_0
       replace p451 := eq_true p451
       replace q451 := eq_true q451
       go_wp2_with (first | ((with_reducible refine gate_builtin (b := .append) (xs := #[.tmp 26, .tmp 29]) rfl ?_); at_builtin; refine Kd.R_append (Kd.int .u8) (w0 := w) w.heap.size rfl (.tmp 26) (.tmp 29) 33 5 (.int .u8 0) 1 rfl Tryd.underlying33 info5 rfl (by decide) (by omega) u7 x7_1 ((rd l1_0 x22_1) % 256) [.int .u8 ((rd l1_0 x22_1) % 256)] (fun _ => True) (fun _ => False) rfl rfl ?aP (fun _ hk => hk.elim) ?aF ?aO ?aB ?aS ?aL ?_; (case aP => exact rfl); (case aB => exact q19_0); (case aF => exact (fun _ _ => trivial)); (case aO => exact s2); (case aS => exact (below_size q19_0)); (case aL => have := LMc15.out; omega); intro v453 w16 ho hb hg hat; rw [← Ny452.out] at ho; have HO454 := zM (ho); replace BK448 := zM (blk_grown (g := gb448) (o := .cells #[.slice A0_0 l0_0.length c0_0, .slice A0_1 l0_1.length c0_1, .slice A0_2 l0_2.length c0_2, .slice A0_3 l0_3.length c0_3] 26 (0, 0)) q19_1 hg (Kd.R_ne HO_7.out BK448.out (by decide))); replace BK449 := zM (blk_grown (g := gb449) (o := .cells #[.slice (some ad451) l1_0.length c1_0, .slice A1_1 l1_1.length c1_1] 29 (0, 0)) q19_4 hg (Kd.R_ne HO_7.out BK449.out (by decide))); replace HB := zM (hb); clear HO_7; clear ho hb hg hat))
       go_roundg k1
       case measure => have := HK1.out; omega
       case rel => exact ⟨(y452), (wrap64 (x22_1 + 1)), s7, H', ⟨(by have := HK1.out; omega)⟩, ⟨(by (with_reducible repeat (first | apply Kd.R_alloc | apply Kd.R_drewN | apply Kd.R_drew)); exact HO454.out)⟩, ⟨q19_1⟩, ⟨q19_4⟩, ⟨q19_0⟩⟩
      rw [if_neg c15] at H
      exact absurd H (by simp)
     rw [if_neg c14] at H
     exact absurd H (by simp)
    rw [if_neg c13] at H
    exact absurd H (by simp)
   rw [if_neg c12] at H
   have c12b0 := decide_eq_false c12
   clear c12
   have H' := zM H
   clear H
   have hnb17 := NB449_448.out
   have hnc17 := NB448_449.out
   obtain ⟨hcz18_0, hcz18_1, hfz18_0, hfz18_1⟩ := blk2 BK449.out
   go_wp2
   go_loopg [7, 35] k1 (fun kq v7 v35 w' => ∃ (x7_2 : List Int) (x35_2 : Int), v35 = .int .i64 x35_2 ∧ Aside0 (state_Key.l1 kq x7_2 l1_1 (l1_1.length : Int) x35_2 l0_0 l0_1 l0_2 l0_3 = some (r1, r2)) ∧ Aside0 (kq ≤ k1) ∧ Aside0 (Kd.R (Kd.int .u8) 5 w' w.heap.size (fun _ => True) v7 x7_2) ∧ Aside0 (w'.heap[gb448]? = some (.cells #[(.slice A0_0 l0_0.length c0_0), (.slice A0_1 l0_1.length c0_1), (.slice A0_2 l0_2.length c0_2), (.slice A0_3 l0_3.length c0_3)] 26 (0, 0))) ∧ Aside0 (w'.heap[gb449]? = some (.cells #[(.slice A1_0 l1_0.length c1_0), (.slice A1_1 l1_1.length c1_1)] 29 (0, 0))) ∧ Aside0 (Below w.heap.size w w'))
   case atStart => exact ⟨(x7_1), (0), s7, H', ⟨Nat.le_refl _⟩, ⟨s2⟩, ⟨q19_1⟩, ⟨q19_4⟩, ⟨q19_0⟩⟩
   clear H'
   obtain ⟨x7_2, x35_2, rfl, HA, HK2, HO_7, BK448, BK449, HB⟩ := hrel
   cases gk with
   | zero => exact absurd HA.out (by simp [state_Key.l1])
   | succ k2 =>
    have H := HA.out
    clear HA
    simp only [state_Key.l1] at H
    by_cases c19 : x35_2 < (l1_1.length : Int)
    ·
     rw [if_pos c19] at H
     have c19b0 := zD c19
     clear c19
     by_cases c20 : 0 ≤ x35_2
     ·
      rw [if_pos c20] at H
      have c20b0 := zD c20
      clear c20
      by_cases c21 : x35_2 < (l1_1.length : Int)
      ·
       rw [if_pos c21] at H
       have c21b0 := zD c21
       clear c21
       by_cases c22 : x35_2 < (l0_1.length : Int)
       ·
        rw [if_pos c22] at H
        have c22b0 := zD c22
        clear c22
        obtain ⟨y457, hy457⟩ : ∃ y_ : List Int, y_ = (([((wrap64 ((rd l1_1 x35_2) - ((rd_T50 l0_1 x35_2).f1))) % 4294967296) / 16777216, (((wrap64 ((rd l1_1 x35_2) - ((rd_T50 l0_1 x35_2).f1))) % 4294967296) / 65536) % 256, (((wrap64 ((rd l1_1 x35_2) - ((rd_T50 l0_1 x35_2).f1))) % 4294967296) / 256) % 256, ((wrap64 ((rd l1_1 x35_2) - ((rd_T50 l0_1 x35_2).f1))) % 4294967296) % 256] : List Int)) := ⟨_, rfl⟩
        replace H : (if x7_2.length + y457.length < 140737488355328 then (state_Key.l1 k2 (x7_2 ++ y457) l1_1 (l1_1.length : Int) (wrap64 (x35_2 + 1)) l0_0 l0_1 l0_2 l0_3) else (none)) = some (r1, r2) := by first | (rw [hy457]; with_reducible exact H) | (have H2_ := (Option.bind_some _ _).symm.trans H; rw [hy457]; with_reducible exact H2_) | (have H2_ := (Option.bind_some _ _).symm.trans H; with_reducible exact H2_) | with_reducible exact H | (rw [hy457]; exact H) | exact H
        have Ny457 := zM hy457
        clear hy457
        by_cases c23 : x7_2.length + y457.length < 140737488355328
        ·
         rw [if_pos c23] at H
         have LMc23 := zM c23
         clear c23
         obtain ⟨y460, hy460⟩ : ∃ y_ : List Int, y_ = (x7_2 ++ y457) := ⟨_, rfl⟩
         replace H : (state_Key.l1 k2 y460 l1_1 (l1_1.length : Int) (wrap64 (x35_2 + 1)) l0_0 l0_1 l0_2 l0_3) = some (r1, r2) := by first | (rw [hy460]; with_reducible exact H) | (have H2_ := (Option.bind_some _ _).symm.trans H; rw [hy460]; with_reducible exact H2_) | (have H2_ := (Option.bind_some _ _).symm.trans H; with_reducible exact H2_) | with_reducible exact H | (rw [hy460]; exact H) | exact H
         have Ny460 := zM hy460
         clear hy460
         have H' := zM H
         clear H
         have p455 : 0 ≤ (x35_2 : Int) := zO s3
         have q455 : x35_2 < (l1_1.length : Int) := zO s3
         obtain ⟨ad455, e455, hx455_0⟩ := Kd.at_int HR1_1.out x35_2 p455 q455
         cases e455
         replace hx455_0 := cell_up HB.out hx455_0
         replace p455 := eq_true p455
         replace q455 := eq_true q455
         have hnb24 := NB448_449.out
         have hnc24 := NB449_448.out
         obtain ⟨hcz25_0, hcz25_1, hcz25_2, hcz25_3, hfz25_0, hfz25_1, hfz25_2, hfz25_3⟩ := blk4 BK448.out
         have p456 : 0 ≤ (x35_2 : Int) := zO s3
         have q456 : x35_2 < (l0_1.length : Int) := zO s3
         obtain ⟨ad456, e456, hx456_0, hx456_1, hx456_2, hx456_3⟩ := at_T50 HR0_1.out x35_2 p456 q456
         cases e456
         replace hx456_0 := cell_up HB.out hx456_0
         replace hx456_1 := cell_up HB.out hx456_1
         replace hx456_2 := cell_up HB.out hx456_2
         replace hx456_3 := cell_up HB.out hx456_3
         replace p456 := eq_true p456
         replace q456 := eq_true q456
         go_wp2_with (first | ((with_reducible refine gate_dst (N := 61) rfl ?_); refine Kd.R_lit (Kd.int .u8) _ 5 ?hg (N := 61) ?hd (xs := ([((wrap64 ((rd l1_1 x35_2) - ((rd_T50 l0_1 x35_2).f1))) % 4294967296) / 16777216, (((wrap64 ((rd l1_1 x35_2) - ((rd_T50 l0_1 x35_2).f1))) % 4294967296) / 65536) % 256, (((wrap64 ((rd l1_1 x35_2) - ((rd_T50 l0_1 x35_2).f1))) % 4294967296) / 256) % 256, ((wrap64 ((rd l1_1 x35_2) - ((rd_T50 l0_1 x35_2).f1))) % 4294967296) % 256] : List Int)) (inner := [.int .u8 (((wrap64 ((rd l1_1 x35_2) - ((rd_T50 l0_1 x35_2).f1))) % 4294967296) / 16777216), .int .u8 ((((wrap64 ((rd l1_1 x35_2) - ((rd_T50 l0_1 x35_2).f1))) % 4294967296) / 65536) % 256), .int .u8 ((((wrap64 ((rd l1_1 x35_2) - ((rd_T50 l0_1 x35_2).f1))) % 4294967296) / 256) % 256), .int .u8 (((wrap64 ((rd l1_1 x35_2) - ((rd_T50 l0_1 x35_2).f1))) % 4294967296) % 256)]) (ok := fun _ => True) (okp := fun _ => True) ?hr ?hp (fun _ hk => hk) trivial (Below.refl _ _) (Nat.le_refl _) (by simp) ?_; (case hd => rfl); (case hg => rfl); (case hr => first | (go_simp; done) | (go_simp; rfl)); (case hp => exact (Reps.one (show Kd.M (Kd.int .u8) _ _ _ (((wrap64 ((rd l1_1 x35_2) - ((rd_T50 l0_1 x35_2).f1))) % 4294967296) / 16777216) [.int .u8 (((wrap64 ((rd l1_1 x35_2) - ((rd_T50 l0_1 x35_2).f1))) % 4294967296) / 16777216)] from rfl) (Reps.one (show Kd.M (Kd.int .u8) _ _ _ ((((wrap64 ((rd l1_1 x35_2) - ((rd_T50 l0_1 x35_2).f1))) % 4294967296) / 65536) % 256) [.int .u8 ((((wrap64 ((rd l1_1 x35_2) - ((rd_T50 l0_1 x35_2).f1))) % 4294967296) / 65536) % 256)] from rfl) (Reps.one (show Kd.M (Kd.int .u8) _ _ _ ((((wrap64 ((rd l1_1 x35_2) - ((rd_T50 l0_1 x35_2).f1))) % 4294967296) / 256) % 256) [.int .u8 ((((wrap64 ((rd l1_1 x35_2) - ((rd_T50 l0_1 x35_2).f1))) % 4294967296) / 256) % 256)] from rfl) (Reps.one (show Kd.M (Kd.int .u8) _ _ _ (((wrap64 ((rd l1_1 x35_2) - ((rd_T50 l0_1 x35_2).f1))) % 4294967296) % 256) [.int .u8 (((wrap64 ((rd l1_1 x35_2) - ((rd_T50 l0_1 x35_2).f1))) % 4294967296) % 256)] from rfl) (Reps.none _ _)))))); intro v458 w26 ho27 hb hg_ hnew_; clear hg_ hnew_; (first | rw [← Ny457.out] at ho27 | (simp only [Int.reduceToNat] at ho27; rw [← Ny457.out] at ho27)); have HO459 := zM (Kd.R_lower (Kd.R_new' ho27 (Kd.R_lt s2)) (below_size q19_0)); replace HO_7 := zM (Kd.R_elder' s2 (Kd.R_base ho27) hb); replace BK448 := zM (blk_below (g := gb448) q19_1 hb); replace BK449 := zM (blk_below (g := gb449) q19_4 hb); replace HB := zM (below_step q19_0 hb); clear hb ho27; obtain ⟨Ao29, co29, eo29⟩ := Kd.R_slice HO459.out; subst eo29) | ((with_reducible refine gate_builtin (b := .append) (xs := #[.tmp 49, .tmp 61]) rfl ?_); at_builtin; refine Kd.R_append_rows (Kd.int .u8) (w0 := w) w.heap.size rfl (.tmp 49) (.tmp 61) 33 5 (.int .u8 0) 1 rfl Tryd.underlying33 info5 rfl (by decide) (by omega) u7 x7_2 y457 _ _ _ (fun k_ => some k_ ≠ (.slice Ao29 y457.length co29 : Value).ownBlock) (fun _ => False) rfl rfl ?aO ?aR (fun _ _ h => h) (fun _ h => h.elim) ?aF ?aB ?aS ?aL ?_; (case aR => repeat (first | exact (Kd.R_reads' HO459.out).2.2 | (with_reducible refine Kd.C_alloc ?_ _) | (with_reducible refine Kd.C_drewN ?_ _) | (with_reducible refine Kd.C_drew ?_))); (case aB => exact q19_0); (case aF => exact (fun k_ hk => Kd.fresh' (Kd.R_lt q19_25) k_ hk)); (case aO => exact (by (with_reducible repeat (first | apply Kd.R_alloc | apply Kd.R_drewN | apply Kd.R_drew)); exact Kd.R_mono HO_7.out (fun _ hk => hk.2))); (case aS => exact (below_size q19_0)); (case aL => have := LMc23.out; omega); intro v461 w28 ho hb hg hat; rw [← Ny460.out] at ho; have HO462 := zM (ho); replace BK448 := zM (blk_grown (g := gb448) (o := .cells #[.slice A0_0 l0_0.length c0_0, .slice (some ad456) l0_1.length c0_1, .slice A0_2 l0_2.length c0_2, .slice A0_3 l0_3.length c0_3] 26 (0, 0)) q19_1 hg (Kd.R_ne HO_7.out BK448.out (by decide))); replace BK449 := zM (blk_grown (g := gb449) (o := .cells #[.slice A1_0 l1_0.length c1_0, .slice (some ad455) l1_1.length c1_1] 29 (0, 0)) q19_4 hg (Kd.R_ne HO_7.out BK449.out (by decide))); replace HO459 := zM (Kd.R_after (ok := (fun _ => True)) q19_25 hg hat); replace HB := zM (hb); clear HO_7; clear ho hb hg hat))
         go_roundg k2
         case measure => have := HK1.out; have := HK2.out; omega
         case rel => exact ⟨(y460), (wrap64 (x35_2 + 1)), s7, H', ⟨(by have := HK1.out; have := HK2.out; omega)⟩, ⟨(by (with_reducible repeat (first | apply Kd.R_alloc | apply Kd.R_drewN | apply Kd.R_drew)); exact Kd.R_mono HO462.out (fun _ hk => trivial))⟩, ⟨q19_1⟩, ⟨q19_4⟩, ⟨q19_0⟩⟩
        rw [if_neg c23] at H
        exact absurd H (by simp)
       rw [if_neg c22] at H
       exact absurd H (by simp)
      rw [if_neg c21] at H
      exact absurd H (by simp)
     rw [if_neg c20] at H
     exact absurd H (by simp)
    rw [if_neg c19] at H
    have c19b0 := decide_eq_false c19
    clear c19
    simp only [Option.some.injEq, Prod.mk.injEq] at H
    obtain ⟨rfl, rfl⟩ := H
    go_wp2
    go_ret2
    exact ⟨_, s6, s2, q19_0⟩
 rw [if_neg c4] at H
 obtain ⟨c4b0, c4b1⟩ := neb c4
 simp only [Option.some.injEq, Prod.mk.injEq] at H
 obtain ⟨rfl, rfl⟩ := H
 go_enter Tryd.func8, Tryd.ntmps8
 go_wp2_with (first | ((with_reducible refine gate_dst (N := 2) rfl ?_); refine box_ev (N := 2) (cs := #[.slice A0_0 l0_0.length c0_0, .slice A0_1 l0_1.length c0_1, .slice A0_2 l0_2.length c0_2, .slice A0_3 l0_3.length c0_3]) (t := 26) ?_; intro gb448 hg w30 hbox hb; have BK448 := zM (hbox); have GE448 := zM (box_ge (n := w.heap.size) hg (below_size s8)); replace HB := zM (below_step s8 hb); clear hb hbox hg) | ((with_reducible refine gate_dst (N := 3) rfl ?_); refine box_ev (N := 3) (cs := #[.slice A1_0 l1_0.length c1_0, .slice A1_1 l1_1.length c1_1]) (t := 29) ?_; intro gb449 hg w31 hbox hb; have BK449 := zM (hbox); have GE449 := zM (box_ge (n := w.heap.size) hg (below_size q19_10)); have NB448_449 := zM (box_ne hg (g := gb448) q19_1); have NB449_448 := zM (box_ne' hg (g := gb448) q19_1); replace BK448 := zM (blk_below (g := gb448) q19_1 hb); replace HB := zM (below_step q19_10 hb); clear hb hbox hg; have hnb32 := NB448_449.out; have hnc32 := NB449_448.out; obtain ⟨hcz33_0, hcz33_1, hcz33_2, hcz33_3, hfz33_0, hfz33_1, hfz33_2, hfz33_3⟩ := blk4 BK448.out; obtain ⟨hcz34_0, hcz34_1, hfz34_0, hfz34_1⟩ := blk2 BK449.out) | ((with_reducible refine gate_callee (f := 17) rfl ?_); refine goesL_ (some 15) rfl rfl Tryd.func17 (by kernel_rfl) rfl #[.agg #[.slice A0_0 l0_0.length c0_0, .slice A0_1 l0_1.length c0_1, .slice A0_2 l0_2.length c0_2, .slice A0_3 l0_3.length c0_3], .agg #[.slice A1_0 l1_0.length c1_0, .slice A1_1 l1_1.length c1_1]] rfl s0 ?_; (with_reducible refine (state_wrong.calls k _ _ l0_0 _ _ l0_1 _ _ l0_2 _ _ l0_3 _ _ l1_0 _ _ l1_1 t450 _ ?side13 ?side1 HC0_0.out ?side3 HC0_1.out ?side5 HC0_2.out ?side7 HC0_3.out ?side9 HC1_0.out ?side11 HC1_1.out A3.out).mono ?_); (case side1 => exact s10); (case side3 => exact s11); (case side5 => exact s12); (case side7 => exact s13); (case side9 => exact s14); (case side11 => exact s15); (case side13 => exact s9); rintro e w35 ⟨rfl, hb⟩; refine ⟨_, rfl, ?_⟩; replace BK448 := zM (blk_below (g := gb448) q19_1 hb); replace BK449 := zM (blk_below (g := gb449) q19_4 hb); replace HB := zM (below_step q19_0 hb); (try clear hb)))
 go_ret2
 exact ⟨_, s6, s4, q19_0⟩

end Go.Proofs.YtpmhfahligjhaaaDoor.POrd
