-- written by wip/tools/xprint.py (over the kit's print.py): not trusted, Lean checks it.
import Derived.Test.YtpmhfahligjhaaaDoorPOrdx0
-- compact
namespace Go.Proofs.YtpmhfahligjhaaaDoor.POrd
open Go.RowKit Go.Proofs.YtpmhfahligjhaaaDoorW.PrintWords Go.Proofs.YtpmhfahligjhaaaDoorW.PrintLast Go.Proofs.YtpmhfahligjhaaaDoorW.PrintMore Go.Proofs.YtpmhfahligjhaaaDoorXW
attribute [local go_sem high] Option.map_some
attribute [local go_sem] max2_int max_two
set_option linter.unusedVariables false
set_option linter.unusedSimpArgs false

theorem q3_0 {p : Prop} (h : p := by (with_reducible repeat (first | refine blk_drewN ?_ _ | refine blk_drew ?_ | refine blk_alloc ?_ _)); exact BK131.out) : p := h
theorem q3_1 {p : Prop} (h : p := by repeat (first | (with_reducible first | exact HB.out | apply below_alloc | apply pw_below_drewN | apply below_drew1 | refine below_set ?_ GE131.out | refine below_set ?_ GE133.out) | exact HB.out)) : p := h
theorem q3_2 {p : Prop} (h : p := by repeat (first | (with_reducible first | exact HB.out | apply below_alloc | apply pw_below_drewN | apply below_drew1 | refine below_set ?_ GE131.out | refine below_set ?_ GE133.out | refine below_set ?_ GE137.out) | exact HB.out)) : p := h
theorem q3_3 {p : Prop} (h : p := by (with_reducible repeat (first | refine blk_drewN ?_ _ | refine blk_drew ?_ | refine blk_alloc ?_ _)); exact BK133.out) : p := h
theorem q3_4 {p : Prop} (h : p := by repeat (first | (with_reducible first | exact HB.out | apply below_alloc | apply pw_below_drewN | apply below_drew1 | refine below_set ?_ GE131.out) | exact HB.out)) : p := h
theorem q3_5 {p : Prop} (h : p := by (with_reducible repeat (first | refine blk_drewN ?_ _ | refine blk_drew ?_ | refine blk_alloc ?_ _)); exact BK137.out) : p := h
theorem q3_9 {p : Prop} (h : p := by repeat (first | (with_reducible first | exact HB.out | apply below_alloc | apply pw_below_drewN | apply below_drew1 | refine below_set ?_ GE131.out | refine below_set ?_ GE133.out | refine below_set ?_ GE137.out | refine below_set ?_ GE139.out) | exact HB.out)) : p := h
theorem q3_10 {p : Prop} (h : p := by have := HJ1.out; have := HK2.out; have := HJ15.out; have := HK4.out; have := HK5.out; first | omega | exact Nat.le_refl _) : p := h
theorem q3_11 {p : Prop} (h : p := by repeat (first | (with_reducible first | exact HB.out | apply below_alloc | apply pw_below_drewN | apply below_drew1 | refine below_set ?_ GE131.out | refine below_set ?_ GE133.out | refine below_set ?_ GE135.out) | exact HB.out)) : p := h
theorem q3_12 {p : Prop} (h : p := by (iterate 7 ((with_reducible repeat (first | refine blk_drewN ?_ _ | refine blk_drew ?_ | refine blk_alloc ?_ _)); refine blk_far ?_ NB133_137.out _)); (with_reducible repeat (first | refine blk_drewN ?_ _ | refine blk_drew ?_ | refine blk_alloc ?_ _)); exact BK133.out) : p := h
theorem q3_13 {p : Prop} (h : p := by (iterate 7 ((with_reducible repeat (first | refine blk_drewN ?_ _ | refine blk_drew ?_ | refine blk_alloc ?_ _)); refine blk_far ?_ NB131_137.out _)); (with_reducible repeat (first | refine blk_drewN ?_ _ | refine blk_drew ?_ | refine blk_alloc ?_ _)); exact BK131.out) : p := h
theorem q3_14 {p : Prop} (h : p := by (with_reducible repeat (first | refine blk_drewN ?_ _ | refine blk_drew ?_ | refine blk_alloc ?_ _)); apply blk_fill7; (with_reducible repeat (first | refine blk_drewN ?_ _ | refine blk_drew ?_ | refine blk_alloc ?_ _)); exact BK137.out) : p := h
theorem q3_15 {p : Prop} (h : p := by (iterate 3 ((with_reducible repeat (first | refine blk_drewN ?_ _ | refine blk_drew ?_ | refine blk_alloc ?_ _)); refine blk_far ?_ NB131_133.out _)); (with_reducible repeat (first | refine blk_drewN ?_ _ | refine blk_drew ?_ | refine blk_alloc ?_ _)); exact BK131.out) : p := h
theorem q3_16 {p : Prop} (h : p := by (with_reducible repeat (first | refine blk_drewN ?_ _ | refine blk_drew ?_ | refine blk_alloc ?_ _)); apply blk_fill3; (with_reducible repeat (first | refine blk_drewN ?_ _ | refine blk_drew ?_ | refine blk_alloc ?_ _)); exact BK133.out) : p := h
theorem q3_18 {p : Prop} (h : p := by have := HJ1.out; have := HK2.out; have := HJ15.out; have := HK4.out; have := HK5.out; have := HJ44.out; have := HK7.out; omega) : p := h
/-! ### net_sizes: function 38 -/
mutual
def net_sizes.j0 : Nat → Bool → List ByteArray → List (S50) → List ByteArray → List (S61) → Option (Int)
 | 0, _, _, _, _, _ => none
 | k + 1, x32, x132000, x132001, x132002, x132003 => if x32 = true then (some 6) else (net_sizes.l0 k x132003 (x132003.length : Int) 0)
def net_sizes.l0 : Nat → List (S61) → Int → Int → Option (Int)
 | 0, _, _, _ => none
 | k + 1, x34, x35, x36 => if x36 < x35 then (if 0 ≤ x36 then (if x36 < (x34.length : Int) then (if (((rd_T61 x34 x36).f1).length : Int) > 64 then (net_sizes.j2 k x34 x35 x36 true ((rd_T61 x34 x36).f0) ((rd_T61 x34 x36).f1) ((rd_T61 x34 x36).f2)) else (net_sizes.j2 k x34 x35 x36 (decide ((((rd_T61 x34 x36).f2).length : Int) > 256)) ((rd_T61 x34 x36).f0) ((rd_T61 x34 x36).f1) ((rd_T61 x34 x36).f2))) else (none)) else (none)) else (some 0)
def net_sizes.j2 : Nat → List (S61) → Int → Int → Bool → ByteArray → List (S57) → List (S90) → Option (Int)
 | 0, _, _, _, _, _, _, _ => none
 | k + 1, x34, x35, x36, x49, x134000, x134001, x134002 => if x49 = true then (some 6) else (net_sizes.l1 k x34 x35 x36 x134001 (x134001.length : Int) 0 x134000 x134001 x134002)
def net_sizes.l1 : Nat → List (S61) → Int → Int → List (S57) → Int → Int → ByteArray → List (S57) → List (S90) → Option (Int)
 | 0, _, _, _, _, _, _, _, _, _ => none
 | k + 1, x34, x35, x36, x51, x52, x53, x134000, x134001, x134002 => if x53 < x52 then (if 0 ≤ x53 then (if x53 < (x51.length : Int) then (if (((rd_T57 x51 x53).f2).length : Int) > 16 then (some 6) else (net_sizes.l1 k x34 x35 x36 x51 x52 (wrap64 (x53 + 1)) x134000 x134001 x134002)) else (none)) else (none)) else (net_sizes.l2 k x34 x35 x36 x134002 (x134002.length : Int) 0)
def net_sizes.l2 : Nat → List (S61) → Int → Int → List (S90) → Int → Int → Option (Int)
 | 0, _, _, _, _, _, _ => none
 | k + 1, x34, x35, x36, x63, x64, x65 => if x65 < x64 then (if 0 ≤ x65 then (if x65 < (x63.length : Int) then (if (((rd_T90 x63 x65).f2).length : Int) > 16 then (net_sizes.j5 k x34 x35 x36 x63 x64 x65 true ((rd_T90 x63 x65).f0) ((rd_T90 x63 x65).f1) ((rd_T90 x63 x65).f2) ((rd_T90 x63 x65).f3) ((rd_T90 x63 x65).f4) ((rd_T90 x63 x65).f5) ((rd_T90 x63 x65).f6)) else (if (((rd_T90 x63 x65).f6).length : Int) > 16 then (net_sizes.j5 k x34 x35 x36 x63 x64 x65 true ((rd_T90 x63 x65).f0) ((rd_T90 x63 x65).f1) ((rd_T90 x63 x65).f2) ((rd_T90 x63 x65).f3) ((rd_T90 x63 x65).f4) ((rd_T90 x63 x65).f5) ((rd_T90 x63 x65).f6)) else (net_sizes.j5 k x34 x35 x36 x63 x64 x65 (decide ((((rd_T90 x63 x65).f3).length : Int) > 64)) ((rd_T90 x63 x65).f0) ((rd_T90 x63 x65).f1) ((rd_T90 x63 x65).f2) ((rd_T90 x63 x65).f3) ((rd_T90 x63 x65).f4) ((rd_T90 x63 x65).f5) ((rd_T90 x63 x65).f6)))) else (none)) else (none)) else (net_sizes.l0 k x34 x35 (wrap64 (x36 + 1)))
def net_sizes.j5 : Nat → List (S61) → Int → Int → List (S90) → Int → Int → Bool → Int → Int → List (S118) → List (S122) → Int → Bool → List (S92) → Option (Int)
 | 0, _, _, _, _, _, _, _, _, _, _, _, _, _, _ => none
 | k + 1, x34, x35, x36, x63, x64, x65, x84, x138000, x138001, x138002, x138003, x138004, x138005, x138006 => if x84 = true then (some 6) else (net_sizes.l3 k x34 x35 x36 x63 x64 x65 x138006 (x138006.length : Int) 0)
def net_sizes.l3 : Nat → List (S61) → Int → Int → List (S90) → Int → Int → List (S92) → Int → Int → Option (Int)
 | 0, _, _, _, _, _, _, _, _, _ => none
 | k + 1, x34, x35, x36, x63, x64, x65, x86, x87, x88 => if x88 < x87 then (if 0 ≤ x88 then (if x88 < (x86.length : Int) then (if (((rd_T92 x86 x88).f3).length : Int) > 64 then (some 6) else (net_sizes.l3 k x34 x35 x36 x63 x64 x65 x86 x87 (wrap64 (x88 + 1)))) else (none)) else (none)) else (net_sizes.l2 k x34 x35 x36 x63 x64 (wrap64 (x65 + 1)))
end
def net_sizes.f (k : Nat) (l0_0 : List ByteArray) (l0_1 : List (S50)) (l0_2 : List ByteArray) (l0_3 : List (S61)) : Option (Int) := if (l0_0.length : Int) > 8 then (net_sizes.j0 k true l0_0 l0_1 l0_2 l0_3) else (if (l0_1.length : Int) > 16 then (net_sizes.j0 k true l0_0 l0_1 l0_2 l0_3) else (if (l0_2.length : Int) > 16 then (net_sizes.j0 k true l0_0 l0_1 l0_2 l0_3) else (net_sizes.j0 k (decide ((l0_3.length : Int) > 8)) l0_0 l0_1 l0_2 l0_3)))
theorem net_sizes.mono_l : ∀ k, (∀ y0 y1 y2 y3 y4, LeO (net_sizes.j0 k y0 y1 y2 y3 y4) (net_sizes.j0 (k + 1) y0 y1 y2 y3 y4)) ∧ (∀ y0 y1 y2, LeO (net_sizes.l0 k y0 y1 y2) (net_sizes.l0 (k + 1) y0 y1 y2)) ∧ (∀ y0 y1 y2 y3 y4 y5 y6, LeO (net_sizes.j2 k y0 y1 y2 y3 y4 y5 y6) (net_sizes.j2 (k + 1) y0 y1 y2 y3 y4 y5 y6)) ∧ (∀ y0 y1 y2 y3 y4 y5 y6 y7 y8, LeO (net_sizes.l1 k y0 y1 y2 y3 y4 y5 y6 y7 y8) (net_sizes.l1 (k + 1) y0 y1 y2 y3 y4 y5 y6 y7 y8)) ∧ (∀ y0 y1 y2 y3 y4 y5, LeO (net_sizes.l2 k y0 y1 y2 y3 y4 y5) (net_sizes.l2 (k + 1) y0 y1 y2 y3 y4 y5)) ∧ (∀ y0 y1 y2 y3 y4 y5 y6 y7 y8 y9 y10 y11 y12 y13, LeO (net_sizes.j5 k y0 y1 y2 y3 y4 y5 y6 y7 y8 y9 y10 y11 y12 y13) (net_sizes.j5 (k + 1) y0 y1 y2 y3 y4 y5 y6 y7 y8 y9 y10 y11 y12 y13)) ∧ (∀ y0 y1 y2 y3 y4 y5 y6 y7 y8, LeO (net_sizes.l3 k y0 y1 y2 y3 y4 y5 y6 y7 y8) (net_sizes.l3 (k + 1) y0 y1 y2 y3 y4 y5 y6 y7 y8))
 | 0 => ⟨fun _ _ _ _ _ r h => by simp [net_sizes.j0] at h, fun _ _ _ r h => by simp [net_sizes.l0] at h, fun _ _ _ _ _ _ _ r h => by simp [net_sizes.j2] at h, fun _ _ _ _ _ _ _ _ _ r h => by simp [net_sizes.l1] at h, fun _ _ _ _ _ _ r h => by simp [net_sizes.l2] at h, fun _ _ _ _ _ _ _ _ _ _ _ _ _ _ r h => by simp [net_sizes.j5] at h, fun _ _ _ _ _ _ _ _ _ r h => by simp [net_sizes.l3] at h⟩
 | k + 1 => by
  obtain ⟨ih0, ih1, ih2, ih3, ih4, ih5, ih6⟩ := net_sizes.mono_l k
  refine ⟨?_, ?_, ?_, ?_, ?_, ?_, ?_⟩
  all_goals intros
  all_goals first | unfold net_sizes.j0 | unfold net_sizes.l0 | unfold net_sizes.j2 | unfold net_sizes.l1 | unfold net_sizes.l2 | unfold net_sizes.j5 | unfold net_sizes.l3
  all_goals repeat' first | (with_reducible first | exact ih0 _ _ _ _ _ | exact ih1 _ _ _ | exact ih2 _ _ _ _ _ _ _ | exact ih3 _ _ _ _ _ _ _ _ _ | exact ih4 _ _ _ _ _ _ | exact ih5 _ _ _ _ _ _ _ _ _ _ _ _ _ _ | exact ih6 _ _ _ _ _ _ _ _ _ | exact LeO.refl _ | exact LeO.none _ | refine LeO.ite ?_ ?_ | refine LeO.bind ?_ (fun _ => ?_)) | exact LeO.none _ | refine LeO.ite ?_ ?_ | refine LeO.bind ?_ (fun _ => ?_)
theorem net_sizes.mono : ∀ a0 a1 a2 a3 k, LeO (net_sizes.f k a0 a1 a2 a3) (net_sizes.f (k + 1) a0 a1 a2 a3) := by
 intro a0 a1 a2 a3 k
 obtain ⟨ih0, ih1, ih2, ih3, ih4, ih5, ih6⟩ := net_sizes.mono_l k
 unfold net_sizes.f
 repeat' first | (with_reducible first | exact ih0 _ _ _ _ _ | exact ih1 _ _ _ | exact ih2 _ _ _ _ _ _ _ | exact ih3 _ _ _ _ _ _ _ _ _ | exact ih4 _ _ _ _ _ _ | exact ih5 _ _ _ _ _ _ _ _ _ _ _ _ _ _ | exact ih6 _ _ _ _ _ _ _ _ _ | exact LeO.refl _ | exact LeO.none _ | refine LeO.ite ?_ ?_ | refine LeO.bind ?_ (fun _ => ?_)) | exact LeO.none _ | refine LeO.ite ?_ ?_ | refine LeO.bind ?_ (fun _ => ?_)
set_option maxHeartbeats 8000000 in
set_option maxRecDepth 100000 in
theorem net_sizes.calls (k : Nat) (A0_0 : Option Addr) (c0_0 : Nat) (l0_0 : List ByteArray) (A0_1 : Option Addr) (c0_1 : Nat) (l0_1 : List (S50)) (A0_2 : Option Addr) (c0_2 : Nat) (l0_2 : List ByteArray) (A0_3 : Option Addr) (c0_3 : Nat) (l0_3 : List (S61)) (r : Int) (w : World) (hr0_0 : Kd.C Kd.string w A0_0 l0_0.length l0_0) (hc0_0 : l0_0.length ≤ c0_0) (hr0_1 : Kd.C k50 w A0_1 l0_1.length l0_1) (hc0_1 : l0_1.length ≤ c0_1) (hr0_2 : Kd.C Kd.string w A0_2 l0_2.length l0_2) (hc0_2 : l0_2.length ≤ c0_2) (hr0_3 : Kd.C k61 w A0_3 l0_3.length l0_3) (hc0_3 : l0_3.length ≤ c0_3) (h : net_sizes.f k l0_0 l0_1 l0_2 l0_3 = some r) :
  Calls Tryd.prog 38 #[.agg #[.slice A0_0 l0_0.length c0_0, .slice A0_1 l0_1.length c0_1, .slice A0_2 l0_2.length c0_2, .slice A0_3 l0_3.length c0_3]] w fun e w' => e = .returned (.int .i64 r) ∧ Below w.heap.size w w' := by
 have hu26 := Tryd.underlying26
 have hu61 := Tryd.underlying61
 have hu57 := Tryd.underlying57
 have hu90 := Tryd.underlying90
 have hu92 := Tryd.underlying92
 have HR0_0 := zM hr0_0
 have HC0_0 := zM hc0_0
 clear hr0_0 hc0_0
 have HR0_1 := zM hr0_1
 have HC0_1 := zM hc0_1
 clear hr0_1 hc0_1
 have HR0_2 := zM hr0_2
 have HC0_2 := zM hc0_2
 clear hr0_2 hc0_2
 have HR0_3 := zM hr0_3
 have HC0_3 := zM hc0_3
 clear hr0_3 hc0_3
 have HB := zM (Below.refl w.heap.size w)
 have H : (if (l0_0.length : Int) > 8 then (net_sizes.j0 k true l0_0 l0_1 l0_2 l0_3) else (if (l0_1.length : Int) > 16 then (net_sizes.j0 k true l0_0 l0_1 l0_2 l0_3) else (if (l0_2.length : Int) > 16 then (net_sizes.j0 k true l0_0 l0_1 l0_2 l0_3) else (net_sizes.j0 k (decide ((l0_3.length : Int) > 8)) l0_0 l0_1 l0_2 l0_3)))) = some r := h
 clear h
 have HC2 := zM H
 clear H
 go_enter Tryd.func38, Tryd.ntmps38
 go_upto_region 1 with (first | ((with_reducible refine gate_dst (N := 1) rfl ?_); (try (refine gate_guard (by rfl) ?_; dsimp only)); refine box_ev (N := 1) (cs := #[.slice A0_0 l0_0.length c0_0, .slice A0_1 l0_1.length c0_1, .slice A0_2 l0_2.length c0_2, .slice A0_3 l0_3.length c0_3]) (t := 26) ?_; intro gb131 hg w3 hbox hb; have BK131 := zM (hbox); have GE131 := zM (box_ge (n := w.heap.size) hg (below_size s8)); replace HB := zM (below_step s8 hb); clear hb hbox hg))
 (try simp only [Act.put, List.setIfInBounds_toArray, List.set_cons_zero, List.set_cons_succ])
 go_cut [32] (fun v32 wc => ∃ (kq : Nat) (x32_1 : Bool), v32 = .bool x32_1 ∧ Aside0 (net_sizes.j0 kq x32_1 l0_0 l0_1 l0_2 l0_3 = some r) ∧ Aside0 (kq ≤ k) ∧ Aside0 (wc.heap[gb131]? = some (.cells #[(.slice A0_0 l0_0.length c0_0), (.slice A0_1 l0_1.length c0_1), (.slice A0_2 l0_2.length c0_2), (.slice A0_3 l0_3.length c0_3)] 26 (0, 0))) ∧ Aside0 (Below w.heap.size w wc))
 case first =>
  have H := HC2.out
  clear HC2
  by_cases c4 : (l0_0.length : Int) > 8
  ·
   rw [if_pos c4] at H
   have c4b0 := dgt c4
   have c4b1 : decide (8 < l0_0.length) = true := zD (by omega)
   clear c4
   (first | rw [c4b0] | (simp only [i64_w, i32_w]; rw [c4b0]) | skip)
   have H' := zM H
   clear H
   obtain ⟨hcz5_0, hcz5_1, hcz5_2, hcz5_3, hfz5_0, hfz5_1, hfz5_2, hfz5_3⟩ := blk4 BK131.out
   go_wp2
   go_meet
   case rel => exact ⟨_, (true), s7, H', ⟨s5⟩, ⟨q3_0⟩, ⟨q3_4⟩⟩
  rw [if_neg c4] at H
  have c4b0 := dngt c4
  have c4b1 : decide (8 < l0_0.length) = false := decide_eq_false (by omega)
  clear c4
  (first | rw [c4b0] | (simp only [i64_w, i32_w]; rw [c4b0]) | skip)
  by_cases c6 : (l0_1.length : Int) > 16
  ·
   rw [if_pos c6] at H
   have c6b0 := dgt c6
   have c6b1 : decide (16 < l0_1.length) = true := zD (by omega)
   clear c6
   have H' := zM H
   clear H
   obtain ⟨hcz7_0, hcz7_1, hcz7_2, hcz7_3, hfz7_0, hfz7_1, hfz7_2, hfz7_3⟩ := blk4 BK131.out
   go_wp2
   go_meet
   case rel => exact ⟨_, (true), s7, H', ⟨s5⟩, ⟨q3_0⟩, ⟨q3_4⟩⟩
  rw [if_neg c6] at H
  have c6b0 := dngt c6
  have c6b1 : decide (16 < l0_1.length) = false := decide_eq_false (by omega)
  clear c6
  by_cases c8 : (l0_2.length : Int) > 16
  ·
   rw [if_pos c8] at H
   have c8b0 := dgt c8
   have c8b1 : decide (16 < l0_2.length) = true := zD (by omega)
   clear c8
   have H' := zM H
   clear H
   obtain ⟨hcz9_0, hcz9_1, hcz9_2, hcz9_3, hfz9_0, hfz9_1, hfz9_2, hfz9_3⟩ := blk4 BK131.out
   go_wp2
   go_meet
   case rel => exact ⟨_, (true), s7, H', ⟨s5⟩, ⟨q3_0⟩, ⟨q3_4⟩⟩
  rw [if_neg c8] at H
  have c8b0 := dngt c8
  have c8b1 : decide (16 < l0_2.length) = false := decide_eq_false (by omega)
  clear c8
  have H' := zM H
  clear H
  obtain ⟨hcz10_0, hcz10_1, hcz10_2, hcz10_3, hfz10_0, hfz10_1, hfz10_2, hfz10_3⟩ := blk4 BK131.out
  go_wp2
  go_meet
  case rel => exact ⟨_, (decide ((l0_3.length : Int) > 8)), s7, H', ⟨s5⟩, ⟨q3_0⟩, ⟨q3_4⟩⟩
 clear HC2
 obtain ⟨kq, x32_1, rfl, HA, HJ1, BK131, HB⟩ := hcut
 cases kq with
 | zero => exact absurd HA.out (by simp [net_sizes.j0])
 | succ kj1 =>
  have H := HA.out
  clear HA
  simp only [net_sizes.j0] at H
  by_cases c11 : x32_1 = true
  ·
   subst c11
   have H1 : (some 6) = some r := by rw [if_pos rfl] at H; exact H
   clear H
   have H := H1
   clear H1
   obtain rfl := Option.some.inj H
   go_wp2
   go_ret
   exact ⟨s6, q3_4⟩
  replace c11 := Bool.eq_false_iff.mpr c11
  subst c11
  have H1 : (net_sizes.l0 kj1 l0_3 (l0_3.length : Int) 0) = some r := by rw [if_neg (show ¬ (false = true) by decide)] at H; exact H
  clear H
  have H := H1
  clear H1
  have H' := zM H
  clear H
  obtain ⟨hcz12_0, hcz12_1, hcz12_2, hcz12_3, hfz12_0, hfz12_1, hfz12_2, hfz12_3⟩ := blk4 BK131.out
  go_wp2
  go_loopg [36] kj1 (fun kq v36 w' => ∃ (x36_2 : Int), v36 = .int .i64 x36_2 ∧ Aside0 (net_sizes.l0 kq l0_3 (l0_3.length : Int) x36_2 = some r) ∧ Aside0 (kq ≤ kj1) ∧ Aside0 (w'.heap[gb131]? = some (.cells #[(.slice A0_0 l0_0.length c0_0), (.slice A0_1 l0_1.length c0_1), (.slice A0_2 l0_2.length c0_2), (.slice A0_3 l0_3.length c0_3)] 26 (0, 0))) ∧ Aside0 (Below w.heap.size w w'))
  case atStart => exact ⟨(0), s7, H', ⟨Nat.le_refl _⟩, ⟨q3_0⟩, ⟨q3_4⟩⟩
  clear H'
  obtain ⟨x36_2, rfl, HA, HK2, BK131, HB⟩ := hrel
  cases gk with
  | zero => exact absurd HA.out (by simp [net_sizes.l0])
  | succ k2 =>
   have H := HA.out
   clear HA
   simp only [net_sizes.l0] at H
   by_cases c13 : x36_2 < (l0_3.length : Int)
   ·
    rw [if_pos c13] at H
    have c13b0 := zD c13
    clear c13
    by_cases c14 : 0 ≤ x36_2
    ·
     rw [if_pos c14] at H
     have c14b0 := zD c14
     clear c14
     by_cases c15 : x36_2 < (l0_3.length : Int)
     ·
      rw [if_pos c15] at H
      have c15b0 := zD c15
      clear c15
      have HC16 := zM H
      clear H
      have p132 : 0 ≤ (x36_2 : Int) := zO s3
      have q132 : x36_2 < (l0_3.length : Int) := zO s3
      obtain ⟨ad132, A132_1, c132_1, A132_2, c132_2, e132, hx132_0, hx132_1, hx132_2, HC132_1, HR132_1, HC132_2, HR132_2⟩ := as_T61 HR0_3.out x36_2 p132 q132
      cases e132
      replace hx132_0 := cell_up HB.out hx132_0
      replace hx132_1 := cell_up HB.out hx132_1
      replace hx132_2 := cell_up HB.out hx132_2
      replace p132 := eq_true p132
      replace q132 := eq_true q132
      go_upto_region 6 with (first | ((with_reducible refine gate_dst (N := 4) rfl ?_); (try (refine gate_guard (by rfl) ?_; dsimp only)); refine box_ev (N := 4) (cs := #[.string (⟨#[]⟩ : ByteArray), .slice none 0 0, .slice none 0 0]) (t := 61) ?_; intro gb133 hg w17 hbox hb; have BK133 := zM (hbox); have GE133 := zM (box_ge (n := w.heap.size) hg (below_size q3_4)); have NB131_133 := zM (box_ne hg (g := gb131) q3_0); have NB133_131 := zM (box_ne' hg (g := gb131) q3_0); replace BK131 := zM (blk_below (g := gb131) q3_0 hb); replace HB := zM (below_step q3_4 hb); clear hb hbox hg; have hnb18 := NB133_131.out; have hnc18 := NB131_133.out; obtain ⟨hcz19_0, hcz19_1, hcz19_2, hfz19_0, hfz19_1, hfz19_2⟩ := blk3 BK133.out))
      (try simp only [Act.put, List.setIfInBounds_toArray, List.set_cons_zero, List.set_cons_succ])
      go_cut [49] (fun v49 wc => ∃ (kq : Nat) (x49_15 : Bool), v49 = .bool x49_15 ∧ Aside0 (net_sizes.j2 kq l0_3 (l0_3.length : Int) x36_2 x49_15 ((rd_T61 l0_3 x36_2).f0) ((rd_T61 l0_3 x36_2).f1) ((rd_T61 l0_3 x36_2).f2) = some r) ∧ Aside0 (kq ≤ k2) ∧ Aside0 (wc.heap[gb131]? = some (.cells #[(.slice A0_0 l0_0.length c0_0), (.slice A0_1 l0_1.length c0_1), (.slice A0_2 l0_2.length c0_2), (.slice (some ad132) l0_3.length c0_3)] 26 (0, 0))) ∧ Aside0 (wc.heap[gb133]? = some (.cells #[.string ((rd_T61 l0_3 x36_2).f0), (.slice A132_1 ((rd_T61 l0_3 x36_2).f1).length c132_1), (.slice A132_2 ((rd_T61 l0_3 x36_2).f2).length c132_2)] 61 (0, 0))) ∧ Aside0 (Below w.heap.size w wc))
      case first =>
       have H := HC16.out
       clear HC16
       by_cases c20 : (((rd_T61 l0_3 x36_2).f1).length : Int) > 64
       ·
        rw [if_pos c20] at H
        have c20b0 := dgt c20
        have c20b1 : decide (64 < ((rd_T61 l0_3 x36_2).f1).length) = true := zD (by omega)
        clear c20
        (first | rw [c20b0] | (simp only [i64_w, i32_w]; rw [c20b0]) | skip)
        have H' := zM H
        clear H
        have hnb21 := NB133_131.out
        have hnc21 := NB131_133.out
        obtain ⟨hcz22_0, hcz22_1, hcz22_2, hfz22_0, hfz22_1, hfz22_2⟩ := blk3 BK133.out
        go_wp2
        go_meet
        case rel => exact ⟨_, (true), s7, H', ⟨(by have := HJ1.out; have := HK2.out; first | omega | exact Nat.le_refl _)⟩, ⟨q3_15⟩, ⟨q3_16⟩, ⟨q3_1⟩⟩
       rw [if_neg c20] at H
       have c20b0 := dngt c20
       have c20b1 : decide (64 < ((rd_T61 l0_3 x36_2).f1).length) = false := decide_eq_false (by omega)
       clear c20
       (first | rw [c20b0] | (simp only [i64_w, i32_w]; rw [c20b0]) | skip)
       have H' := zM H
       clear H
       have hnb23 := NB133_131.out
       have hnc23 := NB131_133.out
       obtain ⟨hcz24_0, hcz24_1, hcz24_2, hfz24_0, hfz24_1, hfz24_2⟩ := blk3 BK133.out
       go_wp2
       go_meet
       case rel => exact ⟨_, (decide ((((rd_T61 l0_3 x36_2).f2).length : Int) > 256)), s7, H', ⟨(by have := HJ1.out; have := HK2.out; first | omega | exact Nat.le_refl _)⟩, ⟨q3_15⟩, ⟨q3_16⟩, ⟨q3_1⟩⟩
      clear HC16
      obtain ⟨kq, x49_15, rfl, HA, HJ15, BK131, BK133, HB⟩ := hcut
      cases kq with
      | zero => exact absurd HA.out (by simp [net_sizes.j2])
      | succ kj15 =>
       have H := HA.out
       clear HA
       simp only [net_sizes.j2] at H
       by_cases c25 : x49_15 = true
       ·
        subst c25
        have H1 : (some 6) = some r := by rw [if_pos rfl] at H; exact H
        clear H
        have H := H1
        clear H1
        obtain rfl := Option.some.inj H
        go_wp2
        go_ret
        exact ⟨s6, q3_1⟩
       replace c25 := Bool.eq_false_iff.mpr c25
       subst c25
       have H1 : (net_sizes.l1 kj15 l0_3 (l0_3.length : Int) x36_2 ((rd_T61 l0_3 x36_2).f1) (((rd_T61 l0_3 x36_2).f1).length : Int) 0 ((rd_T61 l0_3 x36_2).f0) ((rd_T61 l0_3 x36_2).f1) ((rd_T61 l0_3 x36_2).f2)) = some r := by rw [if_neg (show ¬ (false = true) by decide)] at H; exact H
       clear H
       have H := H1
       clear H1
       have H' := zM H
       clear H
       have hnb26 := NB133_131.out
       have hnc26 := NB131_133.out
       obtain ⟨hcz27_0, hcz27_1, hcz27_2, hfz27_0, hfz27_1, hfz27_2⟩ := blk3 BK133.out
       go_wp2
       go_loopg [53] kj15 (fun kq v53 w' => ∃ (x53_4 : Int), v53 = .int .i64 x53_4 ∧ Aside0 (net_sizes.l1 kq l0_3 (l0_3.length : Int) x36_2 ((rd_T61 l0_3 x36_2).f1) (((rd_T61 l0_3 x36_2).f1).length : Int) x53_4 ((rd_T61 l0_3 x36_2).f0) ((rd_T61 l0_3 x36_2).f1) ((rd_T61 l0_3 x36_2).f2) = some r) ∧ Aside0 (kq ≤ kj15) ∧ Aside0 (w'.heap[gb131]? = some (.cells #[(.slice A0_0 l0_0.length c0_0), (.slice A0_1 l0_1.length c0_1), (.slice A0_2 l0_2.length c0_2), (.slice (some ad132) l0_3.length c0_3)] 26 (0, 0))) ∧ Aside0 (w'.heap[gb133]? = some (.cells #[.string ((rd_T61 l0_3 x36_2).f0), (.slice A132_1 ((rd_T61 l0_3 x36_2).f1).length c132_1), (.slice A132_2 ((rd_T61 l0_3 x36_2).f2).length c132_2)] 61 (0, 0))) ∧ Aside0 (Below w.heap.size w w'))
       case atStart => exact ⟨(0), s7, H', ⟨Nat.le_refl _⟩, ⟨q3_0⟩, ⟨q3_3⟩, ⟨q3_1⟩⟩
       clear H'
       obtain ⟨x53_4, rfl, HA, HK4, BK131, BK133, HB⟩ := hrel
       cases gk with
       | zero => exact absurd HA.out (by simp [net_sizes.l1])
       | succ k4 =>
        have H := HA.out
        clear HA
        simp only [net_sizes.l1] at H
        by_cases c28 : x53_4 < (((rd_T61 l0_3 x36_2).f1).length : Int)
        ·
         rw [if_pos c28] at H
         have c28b0 := zD c28
         clear c28
         by_cases c29 : 0 ≤ x53_4
         ·
          rw [if_pos c29] at H
          have c29b0 := zD c29
          clear c29
          by_cases c30 : x53_4 < (((rd_T61 l0_3 x36_2).f1).length : Int)
          ·
           rw [if_pos c30] at H
           have c30b0 := zD c30
           clear c30
           by_cases c31 : (((rd_T57 ((rd_T61 l0_3 x36_2).f1) x53_4).f2).length : Int) > 16
           ·
            rw [if_pos c31] at H
            have c31b0 := dgt c31
            have c31b1 : decide (16 < ((rd_T57 ((rd_T61 l0_3 x36_2).f1) x53_4).f2).length) = true := zD (by omega)
            clear c31
            obtain rfl := Option.some.inj H
            have p134 : 0 ≤ (x53_4 : Int) := zO s3
            have q134 : x53_4 < (((rd_T61 l0_3 x36_2).f1).length : Int) := zO s3
            obtain ⟨ad134, A134_2, c134_2, e134, hx134_0, hx134_1, hx134_2, HC134_2, HR134_2⟩ := as_T57 HR132_1.out x53_4 p134 q134
            cases e134
            replace hx134_0 := cell_up HB.out hx134_0
            replace hx134_1 := cell_up HB.out hx134_1
            replace hx134_2 := cell_up HB.out hx134_2
            replace p134 := eq_true p134
            replace q134 := eq_true q134
            go_wp2_with (first | ((with_reducible refine gate_dst (N := 6) rfl ?_); (try (refine gate_guard (by rfl) ?_; dsimp only)); refine box_ev (N := 6) (cs := #[.string (⟨#[]⟩ : ByteArray), .int .u8 0, .slice none 0 0]) (t := 57) ?_; intro gb135 hg w32 hbox hb; have BK135 := zM (hbox); have GE135 := zM (box_ge (n := w.heap.size) hg (below_size q3_1)); have NB131_135 := zM (box_ne hg (g := gb131) q3_0); have NB135_131 := zM (box_ne' hg (g := gb131) q3_0); have NB133_135 := zM (box_ne hg (g := gb133) q3_3); have NB135_133 := zM (box_ne' hg (g := gb133) q3_3); replace BK131 := zM (blk_below (g := gb131) q3_0 hb); replace BK133 := zM (blk_below (g := gb133) q3_3 hb); replace HB := zM (below_step q3_1 hb); clear hb hbox hg; have hnb33 := NB135_131.out; have hnc33 := NB131_135.out; have hnb34 := NB135_133.out; have hnc34 := NB133_135.out; obtain ⟨hcz35_0, hcz35_1, hcz35_2, hfz35_0, hfz35_1, hfz35_2⟩ := blk3 BK135.out))
            go_ret
            exact ⟨s6, q3_11⟩
           rw [if_neg c31] at H
           have c31b0 := dngt c31
           have c31b1 : decide (16 < ((rd_T57 ((rd_T61 l0_3 x36_2).f1) x53_4).f2).length) = false := decide_eq_false (by omega)
           clear c31
           have H' := zM H
           clear H
           have p134 : 0 ≤ (x53_4 : Int) := zO s3
           have q134 : x53_4 < (((rd_T61 l0_3 x36_2).f1).length : Int) := zO s3
           obtain ⟨ad134, A134_2, c134_2, e134, hx134_0, hx134_1, hx134_2, HC134_2, HR134_2⟩ := as_T57 HR132_1.out x53_4 p134 q134
           cases e134
           replace hx134_0 := cell_up HB.out hx134_0
           replace hx134_1 := cell_up HB.out hx134_1
           replace hx134_2 := cell_up HB.out hx134_2
           replace p134 := eq_true p134
           replace q134 := eq_true q134
           go_wp2_with (first | ((with_reducible refine gate_dst (N := 6) rfl ?_); (try (refine gate_guard (by rfl) ?_; dsimp only)); refine box_ev (N := 6) (cs := #[.string (⟨#[]⟩ : ByteArray), .int .u8 0, .slice none 0 0]) (t := 57) ?_; intro gb135 hg w36 hbox hb; have BK135 := zM (hbox); have GE135 := zM (box_ge (n := w.heap.size) hg (below_size q3_1)); have NB131_135 := zM (box_ne hg (g := gb131) q3_0); have NB135_131 := zM (box_ne' hg (g := gb131) q3_0); have NB133_135 := zM (box_ne hg (g := gb133) q3_3); have NB135_133 := zM (box_ne' hg (g := gb133) q3_3); replace BK131 := zM (blk_below (g := gb131) q3_0 hb); replace BK133 := zM (blk_below (g := gb133) q3_3 hb); replace HB := zM (below_step q3_1 hb); clear hb hbox hg; have hnb37 := NB135_131.out; have hnc37 := NB131_135.out; have hnb38 := NB135_133.out; have hnc38 := NB133_135.out; obtain ⟨hcz39_0, hcz39_1, hcz39_2, hfz39_0, hfz39_1, hfz39_2⟩ := blk3 BK135.out))
           go_roundg k4
           case measure => have := HJ1.out; have := HK2.out; have := HJ15.out; have := HK4.out; omega
           case rel => exact ⟨(wrap64 (x53_4 + 1)), s7, H', ⟨(by have := HJ1.out; have := HK2.out; have := HJ15.out; have := HK4.out; omega)⟩, ⟨(by (iterate 3 ((with_reducible repeat (first | refine blk_drewN ?_ _ | refine blk_drew ?_ | refine blk_alloc ?_ _)); refine blk_far ?_ NB131_135.out _)); (with_reducible repeat (first | refine blk_drewN ?_ _ | refine blk_drew ?_ | refine blk_alloc ?_ _)); exact BK131.out)⟩, ⟨(by (iterate 3 ((with_reducible repeat (first | refine blk_drewN ?_ _ | refine blk_drew ?_ | refine blk_alloc ?_ _)); refine blk_far ?_ NB133_135.out _)); (with_reducible repeat (first | refine blk_drewN ?_ _ | refine blk_drew ?_ | refine blk_alloc ?_ _)); exact BK133.out)⟩, ⟨q3_11⟩⟩
          rw [if_neg c30] at H
          exact absurd H (by simp)
         rw [if_neg c29] at H
         exact absurd H (by simp)
        rw [if_neg c28] at H
        have c28b0 := decide_eq_false c28
        clear c28
        have H' := zM H
        clear H
        have hnb40 := NB133_131.out
        have hnc40 := NB131_133.out
        obtain ⟨hcz41_0, hcz41_1, hcz41_2, hfz41_0, hfz41_1, hfz41_2⟩ := blk3 BK133.out
        go_wp2
        go_loopg [65] k4 (fun kq v65 w' => ∃ (x65_5 : Int), v65 = .int .i64 x65_5 ∧ Aside0 (net_sizes.l2 kq l0_3 (l0_3.length : Int) x36_2 ((rd_T61 l0_3 x36_2).f2) (((rd_T61 l0_3 x36_2).f2).length : Int) x65_5 = some r) ∧ Aside0 (kq ≤ k4) ∧ Aside0 (w'.heap[gb131]? = some (.cells #[(.slice A0_0 l0_0.length c0_0), (.slice A0_1 l0_1.length c0_1), (.slice A0_2 l0_2.length c0_2), (.slice (some ad132) l0_3.length c0_3)] 26 (0, 0))) ∧ Aside0 (w'.heap[gb133]? = some (.cells #[.string ((rd_T61 l0_3 x36_2).f0), (.slice A132_1 ((rd_T61 l0_3 x36_2).f1).length c132_1), (.slice A132_2 ((rd_T61 l0_3 x36_2).f2).length c132_2)] 61 (0, 0))) ∧ Aside0 (Below w.heap.size w w'))
        case atStart => exact ⟨(0), s7, H', ⟨Nat.le_refl _⟩, ⟨q3_0⟩, ⟨q3_3⟩, ⟨q3_1⟩⟩
        clear H'
        obtain ⟨x65_5, rfl, HA, HK5, BK131, BK133, HB⟩ := hrel
        cases gk with
        | zero => exact absurd HA.out (by simp [net_sizes.l2])
        | succ k5 =>
         have H := HA.out
         clear HA
         simp only [net_sizes.l2] at H
         by_cases c42 : x65_5 < (((rd_T61 l0_3 x36_2).f2).length : Int)
         ·
          rw [if_pos c42] at H
          have c42b0 := zD c42
          clear c42
          by_cases c43 : 0 ≤ x65_5
          ·
           rw [if_pos c43] at H
           have c43b0 := zD c43
           clear c43
           by_cases c44 : x65_5 < (((rd_T61 l0_3 x36_2).f2).length : Int)
           ·
            rw [if_pos c44] at H
            have c44b0 := zD c44
            clear c44
            have HC45 := zM H
            clear H
            have p136 : 0 ≤ (x65_5 : Int) := zO s3
            have q136 : x65_5 < (((rd_T61 l0_3 x36_2).f2).length : Int) := zO s3
            obtain ⟨ad136, A136_2, c136_2, A136_3, c136_3, A136_6, c136_6, e136, hx136_0, hx136_1, hx136_2, hx136_3, hx136_4, hx136_5, hx136_6, HC136_2, HR136_2, HC136_3, HR136_3, HC136_6, HR136_6⟩ := as_T90 HR132_2.out x65_5 p136 q136
            cases e136
            replace hx136_0 := cell_up HB.out hx136_0
            replace hx136_1 := cell_up HB.out hx136_1
            replace hx136_2 := cell_up HB.out hx136_2
            replace hx136_3 := cell_up HB.out hx136_3
            replace hx136_4 := cell_up HB.out hx136_4
            replace hx136_5 := cell_up HB.out hx136_5
            replace hx136_6 := cell_up HB.out hx136_6
            replace p136 := eq_true p136
            replace q136 := eq_true q136
            go_upto_region 17 with (first | ((with_reducible refine gate_dst (N := 8) rfl ?_); (try (refine gate_guard (by rfl) ?_; dsimp only)); refine box_ev (N := 8) (cs := #[.int .i64 0, .int .i64 0, .slice none 0 0, .slice none 0 0, .int .i64 0, .bool false, .slice none 0 0]) (t := 90) ?_; intro gb137 hg w46 hbox hb; have BK137 := zM (hbox); have GE137 := zM (box_ge (n := w.heap.size) hg (below_size q3_1)); have NB131_137 := zM (box_ne hg (g := gb131) q3_0); have NB137_131 := zM (box_ne' hg (g := gb131) q3_0); have NB133_137 := zM (box_ne hg (g := gb133) q3_3); have NB137_133 := zM (box_ne' hg (g := gb133) q3_3); replace BK131 := zM (blk_below (g := gb131) q3_0 hb); replace BK133 := zM (blk_below (g := gb133) q3_3 hb); replace HB := zM (below_step q3_1 hb); clear hb hbox hg; have hnb47 := NB137_131.out; have hnc47 := NB131_137.out; have hnb48 := NB137_133.out; have hnc48 := NB133_137.out; obtain ⟨hcz49_0, hcz49_1, hcz49_2, hcz49_3, hcz49_4, hcz49_5, hcz49_6, hfz49_0, hfz49_1, hfz49_2, hfz49_3, hfz49_4, hfz49_5, hfz49_6⟩ := blk7 BK137.out))
            (try simp only [Act.put, List.setIfInBounds_toArray, List.set_cons_zero, List.set_cons_succ])
            go_cut [84] (fun v84 wc => ∃ (kq : Nat) (x84_44 : Bool), v84 = .bool x84_44 ∧ Aside0 (net_sizes.j5 kq l0_3 (l0_3.length : Int) x36_2 ((rd_T61 l0_3 x36_2).f2) (((rd_T61 l0_3 x36_2).f2).length : Int) x65_5 x84_44 ((rd_T90 ((rd_T61 l0_3 x36_2).f2) x65_5).f0) ((rd_T90 ((rd_T61 l0_3 x36_2).f2) x65_5).f1) ((rd_T90 ((rd_T61 l0_3 x36_2).f2) x65_5).f2) ((rd_T90 ((rd_T61 l0_3 x36_2).f2) x65_5).f3) ((rd_T90 ((rd_T61 l0_3 x36_2).f2) x65_5).f4) ((rd_T90 ((rd_T61 l0_3 x36_2).f2) x65_5).f5) ((rd_T90 ((rd_T61 l0_3 x36_2).f2) x65_5).f6) = some r) ∧ Aside0 (kq ≤ k5) ∧ Aside0 (wc.heap[gb131]? = some (.cells #[(.slice A0_0 l0_0.length c0_0), (.slice A0_1 l0_1.length c0_1), (.slice A0_2 l0_2.length c0_2), (.slice (some ad132) l0_3.length c0_3)] 26 (0, 0))) ∧ Aside0 (wc.heap[gb133]? = some (.cells #[.string ((rd_T61 l0_3 x36_2).f0), (.slice A132_1 ((rd_T61 l0_3 x36_2).f1).length c132_1), (.slice (some ad136) ((rd_T61 l0_3 x36_2).f2).length c132_2)] 61 (0, 0))) ∧ Aside0 (wc.heap[gb137]? = some (.cells #[.int .i64 ((rd_T90 ((rd_T61 l0_3 x36_2).f2) x65_5).f0), .int .i64 ((rd_T90 ((rd_T61 l0_3 x36_2).f2) x65_5).f1), (.slice A136_2 ((rd_T90 ((rd_T61 l0_3 x36_2).f2) x65_5).f2).length c136_2), (.slice A136_3 ((rd_T90 ((rd_T61 l0_3 x36_2).f2) x65_5).f3).length c136_3), .int .i64 ((rd_T90 ((rd_T61 l0_3 x36_2).f2) x65_5).f4), .bool ((rd_T90 ((rd_T61 l0_3 x36_2).f2) x65_5).f5), (.slice A136_6 ((rd_T90 ((rd_T61 l0_3 x36_2).f2) x65_5).f6).length c136_6)] 90 (0, 0))) ∧ Aside0 (Below w.heap.size w wc))
            case first =>
             have H := HC45.out
             clear HC45
             by_cases c50 : (((rd_T90 ((rd_T61 l0_3 x36_2).f2) x65_5).f2).length : Int) > 16
             ·
              rw [if_pos c50] at H
              have c50b0 := dgt c50
              have c50b1 : decide (16 < ((rd_T90 ((rd_T61 l0_3 x36_2).f2) x65_5).f2).length) = true := zD (by omega)
              clear c50
              (first | rw [c50b0] | (simp only [i64_w, i32_w]; rw [c50b0]) | skip)
              have H' := zM H
              clear H
              have hnb51 := NB137_131.out
              have hnc51 := NB131_137.out
              have hnb52 := NB137_133.out
              have hnc52 := NB133_137.out
              obtain ⟨hcz53_0, hcz53_1, hcz53_2, hcz53_3, hcz53_4, hcz53_5, hcz53_6, hfz53_0, hfz53_1, hfz53_2, hfz53_3, hfz53_4, hfz53_5, hfz53_6⟩ := blk7 BK137.out
              go_wp2
              go_meet
              case rel => exact ⟨_, (true), s7, H', ⟨q3_10⟩, ⟨q3_13⟩, ⟨q3_12⟩, ⟨q3_14⟩, ⟨q3_2⟩⟩
             rw [if_neg c50] at H
             have c50b0 := dngt c50
             have c50b1 : decide (16 < ((rd_T90 ((rd_T61 l0_3 x36_2).f2) x65_5).f2).length) = false := decide_eq_false (by omega)
             clear c50
             (first | rw [c50b0] | (simp only [i64_w, i32_w]; rw [c50b0]) | skip)
             by_cases c54 : (((rd_T90 ((rd_T61 l0_3 x36_2).f2) x65_5).f6).length : Int) > 16
             ·
              rw [if_pos c54] at H
              have c54b0 := dgt c54
              have c54b1 : decide (16 < ((rd_T90 ((rd_T61 l0_3 x36_2).f2) x65_5).f6).length) = true := zD (by omega)
              clear c54
              have H' := zM H
              clear H
              have hnb55 := NB137_131.out
              have hnc55 := NB131_137.out
              have hnb56 := NB137_133.out
              have hnc56 := NB133_137.out
              obtain ⟨hcz57_0, hcz57_1, hcz57_2, hcz57_3, hcz57_4, hcz57_5, hcz57_6, hfz57_0, hfz57_1, hfz57_2, hfz57_3, hfz57_4, hfz57_5, hfz57_6⟩ := blk7 BK137.out
              go_wp2
              go_meet
              case rel => exact ⟨_, (true), s7, H', ⟨q3_10⟩, ⟨q3_13⟩, ⟨q3_12⟩, ⟨q3_14⟩, ⟨q3_2⟩⟩
             rw [if_neg c54] at H
             have c54b0 := dngt c54
             have c54b1 : decide (16 < ((rd_T90 ((rd_T61 l0_3 x36_2).f2) x65_5).f6).length) = false := decide_eq_false (by omega)
             clear c54
             have H' := zM H
             clear H
             have hnb58 := NB137_131.out
             have hnc58 := NB131_137.out
             have hnb59 := NB137_133.out
             have hnc59 := NB133_137.out
             obtain ⟨hcz60_0, hcz60_1, hcz60_2, hcz60_3, hcz60_4, hcz60_5, hcz60_6, hfz60_0, hfz60_1, hfz60_2, hfz60_3, hfz60_4, hfz60_5, hfz60_6⟩ := blk7 BK137.out
             go_wp2
             go_meet
             case rel => exact ⟨_, (decide ((((rd_T90 ((rd_T61 l0_3 x36_2).f2) x65_5).f3).length : Int) > 64)), s7, H', ⟨q3_10⟩, ⟨q3_13⟩, ⟨q3_12⟩, ⟨q3_14⟩, ⟨q3_2⟩⟩
            clear HC45
            obtain ⟨kq, x84_44, rfl, HA, HJ44, BK131, BK133, BK137, HB⟩ := hcut
            cases kq with
            | zero => exact absurd HA.out (by simp [net_sizes.j5])
            | succ kj44 =>
             have H := HA.out
             clear HA
             simp only [net_sizes.j5] at H
             by_cases c61 : x84_44 = true
             ·
              subst c61
              have H1 : (some 6) = some r := by rw [if_pos rfl] at H; exact H
              clear H
              have H := H1
              clear H1
              obtain rfl := Option.some.inj H
              go_wp2
              go_ret
              exact ⟨s6, q3_2⟩
             replace c61 := Bool.eq_false_iff.mpr c61
             subst c61
             have H1 : (net_sizes.l3 kj44 l0_3 (l0_3.length : Int) x36_2 ((rd_T61 l0_3 x36_2).f2) (((rd_T61 l0_3 x36_2).f2).length : Int) x65_5 ((rd_T90 ((rd_T61 l0_3 x36_2).f2) x65_5).f6) (((rd_T90 ((rd_T61 l0_3 x36_2).f2) x65_5).f6).length : Int) 0) = some r := by rw [if_neg (show ¬ (false = true) by decide)] at H; exact H
             clear H
             have H := H1
             clear H1
             have H' := zM H
             clear H
             have hnb62 := NB137_131.out
             have hnc62 := NB131_137.out
             have hnb63 := NB137_133.out
             have hnc63 := NB133_137.out
             obtain ⟨hcz64_0, hcz64_1, hcz64_2, hcz64_3, hcz64_4, hcz64_5, hcz64_6, hfz64_0, hfz64_1, hfz64_2, hfz64_3, hfz64_4, hfz64_5, hfz64_6⟩ := blk7 BK137.out
             go_wp2
             go_loopg [88] kj44 (fun kq v88 w' => ∃ (x88_7 : Int), v88 = .int .i64 x88_7 ∧ Aside0 (net_sizes.l3 kq l0_3 (l0_3.length : Int) x36_2 ((rd_T61 l0_3 x36_2).f2) (((rd_T61 l0_3 x36_2).f2).length : Int) x65_5 ((rd_T90 ((rd_T61 l0_3 x36_2).f2) x65_5).f6) (((rd_T90 ((rd_T61 l0_3 x36_2).f2) x65_5).f6).length : Int) x88_7 = some r) ∧ Aside0 (kq ≤ kj44) ∧ Aside0 (w'.heap[gb131]? = some (.cells #[(.slice A0_0 l0_0.length c0_0), (.slice A0_1 l0_1.length c0_1), (.slice A0_2 l0_2.length c0_2), (.slice (some ad132) l0_3.length c0_3)] 26 (0, 0))) ∧ Aside0 (w'.heap[gb133]? = some (.cells #[.string ((rd_T61 l0_3 x36_2).f0), (.slice A132_1 ((rd_T61 l0_3 x36_2).f1).length c132_1), (.slice (some ad136) ((rd_T61 l0_3 x36_2).f2).length c132_2)] 61 (0, 0))) ∧ Aside0 (w'.heap[gb137]? = some (.cells #[.int .i64 ((rd_T90 ((rd_T61 l0_3 x36_2).f2) x65_5).f0), .int .i64 ((rd_T90 ((rd_T61 l0_3 x36_2).f2) x65_5).f1), (.slice A136_2 ((rd_T90 ((rd_T61 l0_3 x36_2).f2) x65_5).f2).length c136_2), (.slice A136_3 ((rd_T90 ((rd_T61 l0_3 x36_2).f2) x65_5).f3).length c136_3), .int .i64 ((rd_T90 ((rd_T61 l0_3 x36_2).f2) x65_5).f4), .bool ((rd_T90 ((rd_T61 l0_3 x36_2).f2) x65_5).f5), (.slice A136_6 ((rd_T90 ((rd_T61 l0_3 x36_2).f2) x65_5).f6).length c136_6)] 90 (0, 0))) ∧ Aside0 (Below w.heap.size w w'))
             case atStart => exact ⟨(0), s7, H', ⟨Nat.le_refl _⟩, ⟨q3_0⟩, ⟨q3_3⟩, ⟨q3_5⟩, ⟨q3_2⟩⟩
             clear H'
             obtain ⟨x88_7, rfl, HA, HK7, BK131, BK133, BK137, HB⟩ := hrel
             cases gk with
             | zero => exact absurd HA.out (by simp [net_sizes.l3])
             | succ k7 =>
              have H := HA.out
              clear HA
              simp only [net_sizes.l3] at H
              by_cases c65 : x88_7 < (((rd_T90 ((rd_T61 l0_3 x36_2).f2) x65_5).f6).length : Int)
              ·
               rw [if_pos c65] at H
               have c65b0 := zD c65
               clear c65
               by_cases c66 : 0 ≤ x88_7
               ·
                rw [if_pos c66] at H
                have c66b0 := zD c66
                clear c66
                by_cases c67 : x88_7 < (((rd_T90 ((rd_T61 l0_3 x36_2).f2) x65_5).f6).length : Int)
                ·
                 rw [if_pos c67] at H
                 have c67b0 := zD c67
                 clear c67
                 by_cases c68 : (((rd_T92 ((rd_T90 ((rd_T61 l0_3 x36_2).f2) x65_5).f6) x88_7).f3).length : Int) > 64
                 ·
                  rw [if_pos c68] at H
                  have c68b0 := dgt c68
                  have c68b1 : decide (64 < ((rd_T92 ((rd_T90 ((rd_T61 l0_3 x36_2).f2) x65_5).f6) x88_7).f3).length) = true := zD (by omega)
                  clear c68
                  obtain rfl := Option.some.inj H
                  have p138 : 0 ≤ (x88_7 : Int) := zO s3
                  have q138 : x88_7 < (((rd_T90 ((rd_T61 l0_3 x36_2).f2) x65_5).f6).length : Int) := zO s3
                  obtain ⟨ad138, A138_3, c138_3, e138, hx138_0, hx138_1, hx138_2, hx138_3, HC138_3, HR138_3⟩ := as_T92 HR136_6.out x88_7 p138 q138
                  cases e138
                  replace hx138_0 := cell_up HB.out hx138_0
                  replace hx138_1 := cell_up HB.out hx138_1
                  replace hx138_2 := cell_up HB.out hx138_2
                  replace hx138_3 := cell_up HB.out hx138_3
                  replace p138 := eq_true p138
                  replace q138 := eq_true q138
                  go_wp2_with (first | ((with_reducible refine gate_dst (N := 10) rfl ?_); (try (refine gate_guard (by rfl) ?_; dsimp only)); refine box_ev (N := 10) (cs := #[.int .i64 0, .int .i64 0, .int .i64 0, .slice none 0 0]) (t := 92) ?_; intro gb139 hg w69 hbox hb; have BK139 := zM (hbox); have GE139 := zM (box_ge (n := w.heap.size) hg (below_size q3_2)); have NB131_139 := zM (box_ne hg (g := gb131) q3_0); have NB139_131 := zM (box_ne' hg (g := gb131) q3_0); have NB133_139 := zM (box_ne hg (g := gb133) q3_3); have NB139_133 := zM (box_ne' hg (g := gb133) q3_3); have NB137_139 := zM (box_ne hg (g := gb137) q3_5); have NB139_137 := zM (box_ne' hg (g := gb137) q3_5); replace BK131 := zM (blk_below (g := gb131) q3_0 hb); replace BK133 := zM (blk_below (g := gb133) q3_3 hb); replace BK137 := zM (blk_below (g := gb137) q3_5 hb); replace HB := zM (below_step q3_2 hb); clear hb hbox hg; have hnb70 := NB139_131.out; have hnc70 := NB131_139.out; have hnb71 := NB139_133.out; have hnc71 := NB133_139.out; have hnb72 := NB139_137.out; have hnc72 := NB137_139.out; obtain ⟨hcz73_0, hcz73_1, hcz73_2, hcz73_3, hfz73_0, hfz73_1, hfz73_2, hfz73_3⟩ := blk4 BK139.out))
                  go_ret
                  exact ⟨s6, q3_9⟩
                 rw [if_neg c68] at H
                 have c68b0 := dngt c68
                 have c68b1 : decide (64 < ((rd_T92 ((rd_T90 ((rd_T61 l0_3 x36_2).f2) x65_5).f6) x88_7).f3).length) = false := decide_eq_false (by omega)
                 clear c68
                 have H' := zM H
                 clear H
                 have p138 : 0 ≤ (x88_7 : Int) := zO s3
                 have q138 : x88_7 < (((rd_T90 ((rd_T61 l0_3 x36_2).f2) x65_5).f6).length : Int) := zO s3
                 obtain ⟨ad138, A138_3, c138_3, e138, hx138_0, hx138_1, hx138_2, hx138_3, HC138_3, HR138_3⟩ := as_T92 HR136_6.out x88_7 p138 q138
                 cases e138
                 replace hx138_0 := cell_up HB.out hx138_0
                 replace hx138_1 := cell_up HB.out hx138_1
                 replace hx138_2 := cell_up HB.out hx138_2
                 replace hx138_3 := cell_up HB.out hx138_3
                 replace p138 := eq_true p138
                 replace q138 := eq_true q138
                 go_wp2_with (first | ((with_reducible refine gate_dst (N := 10) rfl ?_); (try (refine gate_guard (by rfl) ?_; dsimp only)); refine box_ev (N := 10) (cs := #[.int .i64 0, .int .i64 0, .int .i64 0, .slice none 0 0]) (t := 92) ?_; intro gb139 hg w74 hbox hb; have BK139 := zM (hbox); have GE139 := zM (box_ge (n := w.heap.size) hg (below_size q3_2)); have NB131_139 := zM (box_ne hg (g := gb131) q3_0); have NB139_131 := zM (box_ne' hg (g := gb131) q3_0); have NB133_139 := zM (box_ne hg (g := gb133) q3_3); have NB139_133 := zM (box_ne' hg (g := gb133) q3_3); have NB137_139 := zM (box_ne hg (g := gb137) q3_5); have NB139_137 := zM (box_ne' hg (g := gb137) q3_5); replace BK131 := zM (blk_below (g := gb131) q3_0 hb); replace BK133 := zM (blk_below (g := gb133) q3_3 hb); replace BK137 := zM (blk_below (g := gb137) q3_5 hb); replace HB := zM (below_step q3_2 hb); clear hb hbox hg; have hnb75 := NB139_131.out; have hnc75 := NB131_139.out; have hnb76 := NB139_133.out; have hnc76 := NB133_139.out; have hnb77 := NB139_137.out; have hnc77 := NB137_139.out; obtain ⟨hcz78_0, hcz78_1, hcz78_2, hcz78_3, hfz78_0, hfz78_1, hfz78_2, hfz78_3⟩ := blk4 BK139.out))
                 go_roundg k7
                 case measure => have := HJ1.out; have := HK2.out; have := HJ15.out; have := HK4.out; have := HK5.out; have := HJ44.out; have := HK7.out; omega
                 case rel => exact ⟨(wrap64 (x88_7 + 1)), s7, H', ⟨q3_18⟩, ⟨(by (iterate 4 ((with_reducible repeat (first | refine blk_drewN ?_ _ | refine blk_drew ?_ | refine blk_alloc ?_ _)); refine blk_far ?_ NB131_139.out _)); (with_reducible repeat (first | refine blk_drewN ?_ _ | refine blk_drew ?_ | refine blk_alloc ?_ _)); exact BK131.out)⟩, ⟨(by (iterate 4 ((with_reducible repeat (first | refine blk_drewN ?_ _ | refine blk_drew ?_ | refine blk_alloc ?_ _)); refine blk_far ?_ NB133_139.out _)); (with_reducible repeat (first | refine blk_drewN ?_ _ | refine blk_drew ?_ | refine blk_alloc ?_ _)); exact BK133.out)⟩, ⟨(by (iterate 4 ((with_reducible repeat (first | refine blk_drewN ?_ _ | refine blk_drew ?_ | refine blk_alloc ?_ _)); refine blk_far ?_ NB137_139.out _)); (with_reducible repeat (first | refine blk_drewN ?_ _ | refine blk_drew ?_ | refine blk_alloc ?_ _)); exact BK137.out)⟩, ⟨q3_9⟩⟩
                rw [if_neg c67] at H
                exact absurd H (by simp)
               rw [if_neg c66] at H
               exact absurd H (by simp)
              rw [if_neg c65] at H
              have c65b0 := decide_eq_false c65
              clear c65
              have H' := zM H
              clear H
              go_wp2
              go_roundg k7
              case measure => have := HJ1.out; have := HK2.out; have := HJ15.out; have := HK4.out; have := HK5.out; have := HJ44.out; have := HK7.out; omega
              case rel => exact ⟨(wrap64 (x65_5 + 1)), s7, H', ⟨q3_18⟩, ⟨q3_0⟩, ⟨q3_3⟩, ⟨q3_2⟩⟩
           rw [if_neg c44] at H
           exact absurd H (by simp)
          rw [if_neg c43] at H
          exact absurd H (by simp)
         rw [if_neg c42] at H
         have c42b0 := decide_eq_false c42
         clear c42
         have H' := zM H
         clear H
         go_wp2
         go_roundg k5
         case measure => have := HJ1.out; have := HK2.out; have := HJ15.out; have := HK4.out; have := HK5.out; omega
         case rel => exact ⟨(wrap64 (x36_2 + 1)), s7, H', ⟨(by have := HJ1.out; have := HK2.out; have := HJ15.out; have := HK4.out; have := HK5.out; omega)⟩, ⟨q3_0⟩, ⟨q3_1⟩⟩
     rw [if_neg c15] at H
     exact absurd H (by simp)
    rw [if_neg c14] at H
    exact absurd H (by simp)
   rw [if_neg c13] at H
   have c13b0 : decide (x36_2 < (l0_3.length : Int)) = false := decide_eq_false c13
   clear c13
   obtain rfl := Option.some.inj H
   go_wp2
   go_ret
   exact ⟨s6, q3_4⟩

end Go.Proofs.YtpmhfahligjhaaaDoor.POrd
