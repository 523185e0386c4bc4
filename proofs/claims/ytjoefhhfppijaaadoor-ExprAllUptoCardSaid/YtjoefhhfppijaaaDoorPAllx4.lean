-- written by wip/tools/xprint.py (over the kit's print.py): not trusted, Lean checks it.
import Derived.Test.YtjoefhhfppijaaaDoorPAllx0
import Derived.Test.YtjoefhhfppijaaaDoorPAllx1
import Derived.Test.YtjoefhhfppijaaaDoorPAllx2
import Derived.Test.YtjoefhhfppijaaaDoorPAllx3
namespace Go.Proofs.YtjoefhhfppijaaaDoor.PAll
open Go.RowKit Go.Proofs.YtjoefhhfppijaaaDoorW.PrintWords Go.Proofs.YtjoefhhfppijaaaDoorW.PrintLast Go.Proofs.YtjoefhhfppijaaaDoorW.PrintMore Go.Proofs.YtjoefhhfppijaaaDoorXW
attribute [local go_sem high] cell_set_map Option.map_some
attribute [local go_sem] max2_int min2_int max_two min_two max_three min_three max_four min_four   -- for this text's walks alone
set_option linter.unusedVariables false
set_option linter.unusedSimpArgs false

theorem q4_0 {p : Prop} (h : p := by repeat (first | (with_reducible first | exact HB.out | apply below_alloc | apply pw_below_drewN | apply below_drew1 | refine below_set ?_ GE143.out | refine below_set ?_ GE145.out | refine below_set ?_ GE150.out) | exact HB.out)) : p := h
theorem q4_1 {p : Prop} (h : p := by (with_reducible repeat (first | refine blk_drewN ?_ _ | refine blk_drew ?_ | refine blk_alloc ?_ _)); exact BK143.out) : p := h
theorem q4_2 {p : Prop} (h : p := by (with_reducible repeat (first | refine blk_drewN ?_ _ | refine blk_drew ?_ | refine blk_alloc ?_ _)); exact BK145.out) : p := h
theorem q4_3 {p : Prop} (h : p := by (with_reducible repeat (first | refine blk_drewN ?_ _ | refine blk_drew ?_ | refine blk_alloc ?_ _)); exact BK150.out) : p := h
theorem q4_4 {p : Prop} (h : p := by repeat (first | exact (Kd.C_below HR0.out HB.out) | (with_reducible refine Kd.C_alloc ?_ _) | (with_reducible refine Kd.C_drewN ?_ _) | (with_reducible refine Kd.C_drew ?_))) : p := h
theorem q4_5 {p : Prop} (h : p := by repeat (first | exact (HGL.out.below HB.out) | (with_reducible refine Glob.alloc ?_ _) | (with_reducible refine Glob.drewN ?_ _) | (with_reducible refine Glob.drew ?_))) : p := h
theorem q4_6 {p : Prop} (h : p := by (try simp only [List.map_toArray, List.map_cons, List.map_nil]); first | done | rfl | (simp only [List.length_drop, List.length_take]; rfl)) : p := h
theorem q4_7 {p : Prop} (h : p := by repeat (first | (with_reducible first | exact HB.out | apply below_alloc | apply pw_below_drewN | apply below_drew1 | refine below_set ?_ GE143.out) | exact HB.out)) : p := h
theorem q4_8 {p : Prop} (h : p := by repeat (first | exact (Kd.C_below HR2.out HB.out) | (with_reducible refine Kd.C_alloc ?_ _) | (with_reducible refine Kd.C_drewN ?_ _) | (with_reducible refine Kd.C_drew ?_))) : p := h
theorem q4_9 {p : Prop} (h : p := by repeat (first | (with_reducible first | exact HB.out | apply below_alloc | apply pw_below_drewN | apply below_drew1) | exact HB.out)) : p := h
theorem q4_10 {p : Prop} (h : p := by repeat (first | (with_reducible first | exact HB.out | apply below_alloc | apply pw_below_drewN | apply below_drew1 | refine below_set ?_ GE143.out | refine below_set ?_ GE145.out) | exact HB.out)) : p := h
theorem q4_11 {p : Prop} (h : p := by (with_reducible repeat (first | refine blk_drewN ?_ _ | refine blk_drew ?_ | refine blk_alloc ?_ _)); refine blk_put (cs := #[.int .i64 t155, .bool t156, .bool false]) ?_ 2 _ rfl; (with_reducible repeat (first | refine blk_drewN ?_ _ | refine blk_drew ?_ | refine blk_alloc ?_ _)); refine blk_put (cs := #[.int .i64 t155, .bool false, .bool false]) ?_ 1 _ rfl; (with_reducible repeat (first | refine blk_drewN ?_ _ | refine blk_drew ?_ | refine blk_alloc ?_ _)); refine blk_put (cs := #[.int .i64 0, .bool false, .bool false]) ?_ 0 _ rfl; (with_reducible repeat (first | refine blk_drewN ?_ _ | refine blk_drew ?_ | refine blk_alloc ?_ _)); exact BK158.out) : p := h
theorem q4_12 {p : Prop} (h : p := by (with_reducible repeat (first | refine blk_drewN ?_ _ | refine blk_drew ?_ | refine blk_alloc ?_ _)); refine blk_put (cs := #[.int .i64 (wrap64 (t147 - t155)), .bool false, .bool x144002_26]) ?_ 2 _ rfl; (with_reducible repeat (first | refine blk_drewN ?_ _ | refine blk_drew ?_ | refine blk_alloc ?_ _)); refine blk_put (cs := #[.int .i64 (wrap64 (t147 - t155)), .bool x144001_26, .bool x144002_26]) ?_ 1 _ rfl; (with_reducible repeat (first | refine blk_drewN ?_ _ | refine blk_drew ?_ | refine blk_alloc ?_ _)); refine blk_put (cs := #[.int .i64 x144000_26, .bool x144001_26, .bool x144002_26]) ?_ 0 _ rfl; (with_reducible repeat (first | refine blk_drewN ?_ _ | refine blk_drew ?_ | refine blk_alloc ?_ _)); refine blk_far ?_ NB143_158.out _; (with_reducible repeat (first | refine blk_drewN ?_ _ | refine blk_drew ?_ | refine blk_alloc ?_ _)); refine blk_far ?_ NB143_158.out _; (with_reducible repeat (first | refine blk_drewN ?_ _ | refine blk_drew ?_ | refine blk_alloc ?_ _)); refine blk_far ?_ NB143_158.out _; (with_reducible repeat (first | refine blk_drewN ?_ _ | refine blk_drew ?_ | refine blk_alloc ?_ _)); exact BK143.out) : p := h
theorem q4_13 {p : Prop} (h : p := by (with_reducible repeat (first | refine blk_drewN ?_ _ | refine blk_drew ?_ | refine blk_alloc ?_ _)); refine blk_put (cs := #[.int .i64 t155, .bool t156, .bool x144002_26]) ?_ 2 _ rfl; (with_reducible repeat (first | refine blk_drewN ?_ _ | refine blk_drew ?_ | refine blk_alloc ?_ _)); refine blk_put (cs := #[.int .i64 t155, .bool x144001_26, .bool x144002_26]) ?_ 1 _ rfl; (with_reducible repeat (first | refine blk_drewN ?_ _ | refine blk_drew ?_ | refine blk_alloc ?_ _)); refine blk_put (cs := #[.int .i64 x144000_26, .bool x144001_26, .bool x144002_26]) ?_ 0 _ rfl; (with_reducible repeat (first | refine blk_drewN ?_ _ | refine blk_drew ?_ | refine blk_alloc ?_ _)); refine blk_far ?_ NB143_158.out _; (with_reducible repeat (first | refine blk_drewN ?_ _ | refine blk_drew ?_ | refine blk_alloc ?_ _)); refine blk_far ?_ NB143_158.out _; (with_reducible repeat (first | refine blk_drewN ?_ _ | refine blk_drew ?_ | refine blk_alloc ?_ _)); refine blk_far ?_ NB143_158.out _; (with_reducible repeat (first | refine blk_drewN ?_ _ | refine blk_drew ?_ | refine blk_alloc ?_ _)); exact BK143.out) : p := h
theorem q4_14 {p : Prop} (h : p := by (with_reducible repeat (first | refine blk_drewN ?_ _ | refine blk_drew ?_ | refine blk_alloc ?_ _)); refine blk_put (cs := #[.int .i64 t147, .bool true, .bool false]) ?_ 2 _ rfl; (with_reducible repeat (first | refine blk_drewN ?_ _ | refine blk_drew ?_ | refine blk_alloc ?_ _)); refine blk_put (cs := #[.int .i64 t147, .bool false, .bool false]) ?_ 1 _ rfl; (with_reducible repeat (first | refine blk_drewN ?_ _ | refine blk_drew ?_ | refine blk_alloc ?_ _)); refine blk_put (cs := #[.int .i64 0, .bool false, .bool false]) ?_ 0 _ rfl; (with_reducible repeat (first | refine blk_drewN ?_ _ | refine blk_drew ?_ | refine blk_alloc ?_ _)); refine blk_far ?_ NB143_150.out _; (with_reducible repeat (first | refine blk_drewN ?_ _ | refine blk_drew ?_ | refine blk_alloc ?_ _)); refine blk_far ?_ NB143_150.out _; (with_reducible repeat (first | refine blk_drewN ?_ _ | refine blk_drew ?_ | refine blk_alloc ?_ _)); refine blk_far ?_ NB143_150.out _; (with_reducible repeat (first | refine blk_drewN ?_ _ | refine blk_drew ?_ | refine blk_alloc ?_ _)); exact BK143.out) : p := h
theorem q4_15 {p : Prop} (h : p := by first | (go_simp; done) | (go_simp; rfl)) : p := h
theorem q4_16 {p : Prop} (h : p := by (with_reducible repeat (first | refine blk_drewN ?_ _ | refine blk_drew ?_ | refine blk_alloc ?_ _)); refine blk_far ?_ NB150_158.out _; (with_reducible repeat (first | refine blk_drewN ?_ _ | refine blk_drew ?_ | refine blk_alloc ?_ _)); refine blk_far ?_ NB150_158.out _; (with_reducible repeat (first | refine blk_drewN ?_ _ | refine blk_drew ?_ | refine blk_alloc ?_ _)); refine blk_far ?_ NB150_158.out _; (with_reducible repeat (first | refine blk_drewN ?_ _ | refine blk_drew ?_ | refine blk_alloc ?_ _)); exact BK150.out) : p := h
theorem q4_17 {p : Prop} (h : p := by (with_reducible repeat (first | refine blk_drewN ?_ _ | refine blk_drew ?_ | refine blk_alloc ?_ _)); refine blk_far ?_ NB145_158.out _; (with_reducible repeat (first | refine blk_drewN ?_ _ | refine blk_drew ?_ | refine blk_alloc ?_ _)); refine blk_far ?_ NB145_158.out _; (with_reducible repeat (first | refine blk_drewN ?_ _ | refine blk_drew ?_ | refine blk_alloc ?_ _)); refine blk_far ?_ NB145_158.out _; (with_reducible repeat (first | refine blk_drewN ?_ _ | refine blk_drew ?_ | refine blk_alloc ?_ _)); exact BK145.out) : p := h
theorem q4_18 {p : Prop} (h : p := by first | (with_reducible assumption) | assumption) : p := h
theorem q4_19 {p : Prop} (h : p := by repeat (first | (with_reducible first | exact HB.out | apply below_alloc | apply pw_below_drewN | apply below_drew1 | refine below_set ?_ GE143.out | refine below_set ?_ GE145.out | refine below_set ?_ GE150.out | refine below_set ?_ GE158.out) | exact HB.out)) : p := h
theorem q4_20 {p : Prop} (h : p := by (with_reducible repeat (first | refine blk_drewN ?_ _ | refine blk_drew ?_ | refine blk_alloc ?_ _)); refine blk_far ?_ NB143_158.out _; (with_reducible repeat (first | refine blk_drewN ?_ _ | refine blk_drew ?_ | refine blk_alloc ?_ _)); refine blk_far ?_ NB143_158.out _; (with_reducible repeat (first | refine blk_drewN ?_ _ | refine blk_drew ?_ | refine blk_alloc ?_ _)); refine blk_far ?_ NB143_158.out _; (with_reducible repeat (first | refine blk_drewN ?_ _ | refine blk_drew ?_ | refine blk_alloc ?_ _)); exact BK143.out) : p := h
/-! ### expr_reckon: function 41 -/
mutual
def expr_reckon.j0 : Nat → List (S96) → Int → List Int → Int → Int → Int → Bool → Bool → Option (Int × Bool × Bool)
 | 0, _, _, _, _, _, _, _, _ => none
 | k + 1, x0, x1, x2, x146000, x146001, x151000, x151001, x151002 => (expr_End.f k x0 (wrap64 (x1 + 1))).bind fun t154 => ((expr_reckon.f k x0 t154 x2).bind fun bt155 => (if bt155.2.2 = true then (some (bt155.1, bt155.2.1, bt155.2.2)) else (if x146000 = 4 then ((expr_plus.f x151000 bt155.1).bind fun bt159 => (some (bt159.1, bt159.2.1, bt159.2.2))) else (if x146000 = 5 then (if ((decide (x151000 < 0)) != (decide (bt155.1 < 0))) = true then (some (wrap64 (x151000 - bt155.1), false, ((decide ((wrap64 (x151000 - bt155.1)) < 0)) != (decide (x151000 < 0))))) else (some (wrap64 (x151000 - bt155.1), false, false))) else (if x146000 = 6 then ((expr_times.f k x151000 bt155.1).bind fun bt162 => (some (bt162.1, bt162.2.1, bt162.2.2))) else (if x146000 = 8 then (some (0, decide (x151000 < bt155.1), false)) else (if x146000 = 9 then (some (0, decide (x151000 ≤ bt155.1), false)) else (if x146000 = 10 then (some (0, (x151000 == bt155.1), false)) else (if x146000 = 11 then (some (0, (x151000 != bt155.1), false)) else (some (bt155.1, bt155.2.1, bt155.2.2)))))))))))
def expr_reckon.f : Nat → List (S96) → Int → List Int → Option (Int × Bool × Bool)
 | 0, _, _, _ => none
 | k + 1, l0, a1, l2 => if 0 ≤ a1 then (if a1 < (l0.length : Int) then (if ((rd_T96 l0 a1).f0) = 1 then (some ((rd_T96 l0 a1).f1, false, false)) else (if ((rd_T96 l0 a1).f0) = 2 then (if 0 ≤ ((rd_T96 l0 a1).f1) then (if ((rd_T96 l0 a1).f1) < (l2.length : Int) then (some (rd l2 ((rd_T96 l0 a1).f1), false, false)) else (none)) else (none)) else (if ((rd_T96 l0 a1).f0) = 7 then (some (0, true, false)) else ((expr_reckon.f k l0 (wrap64 (a1 + 1)) l2).bind fun bt147 => (if bt147.2.2 = true then (some (bt147.1, bt147.2.1, bt147.2.2)) else (if ((rd_T96 l0 a1).f0) = 3 then ((expr_opposite.f bt147.1).bind fun bt151 => (some (bt151.1, bt151.2.1, bt151.2.2))) else (if ((rd_T96 l0 a1).f0) = 12 then (some (0, !bt147.2.1, false)) else (if ((rd_T96 l0 a1).f0) = 13 then (if bt147.2.1 = true then (if ((rd_T96 l0 a1).f0) = 14 then (some (bt147.1, bt147.2.1, bt147.2.2)) else (expr_reckon.j0 k l0 a1 l2 ((rd_T96 l0 a1).f0) ((rd_T96 l0 a1).f1) bt147.1 bt147.2.1 bt147.2.2)) else (some (bt147.1, bt147.2.1, bt147.2.2))) else (if ((rd_T96 l0 a1).f0) = 14 then (if bt147.2.1 = true then (some (bt147.1, bt147.2.1, bt147.2.2)) else (expr_reckon.j0 k l0 a1 l2 ((rd_T96 l0 a1).f0) ((rd_T96 l0 a1).f1) bt147.1 bt147.2.1 bt147.2.2)) else (expr_reckon.j0 k l0 a1 l2 ((rd_T96 l0 a1).f0) ((rd_T96 l0 a1).f1) bt147.1 bt147.2.1 bt147.2.2)))))))))) else (none)) else (none)
end
theorem expr_reckon.mono_l : ∀ k, (∀ y0 y1 y2, LeO (expr_reckon.f k y0 y1 y2) (expr_reckon.f (k + 1) y0 y1 y2)) ∧ (∀ y0 y1 y2 y3 y4 y5 y6 y7, LeO (expr_reckon.j0 k y0 y1 y2 y3 y4 y5 y6 y7) (expr_reckon.j0 (k + 1) y0 y1 y2 y3 y4 y5 y6 y7))
 | 0 => ⟨fun _ _ _ r h => by simp [expr_reckon.f] at h, fun _ _ _ _ _ _ _ _ r h => by simp [expr_reckon.j0] at h⟩
 | k + 1 => by
  obtain ⟨ih0, ih1⟩ := expr_reckon.mono_l k
  refine ⟨?_, ?_⟩
  ·
   intro y0 y1 y2
   unfold expr_reckon.f
   repeat' first
   | (with_reducible exact ih0 _ _ _)
   | (with_reducible exact ih1 _ _ _ _ _ _ _ _)
   | (with_reducible exact expr_End.mono _ _ _)
   | (with_reducible exact expr_times.mono _ _ _)
   | (with_reducible exact LeO.refl _)
   | (with_reducible exact LeO.none _)
   | (with_reducible refine LeO.ite ?_ ?_)
   | (with_reducible refine LeO.bind ?_ (fun _ => ?_))
   | exact ih0 _ _ _
   | exact ih1 _ _ _ _ _ _ _ _
   | exact expr_End.mono _ _ _
   | exact expr_times.mono _ _ _
   | exact LeO.none _
   | refine LeO.ite ?_ ?_
   | refine LeO.bind ?_ (fun _ => ?_)
  ·
   intro y0 y1 y2 y3 y4 y5 y6 y7
   unfold expr_reckon.j0
   repeat' first
   | (with_reducible exact ih0 _ _ _)
   | (with_reducible exact ih1 _ _ _ _ _ _ _ _)
   | (with_reducible exact expr_End.mono _ _ _)
   | (with_reducible exact expr_times.mono _ _ _)
   | (with_reducible exact LeO.refl _)
   | (with_reducible exact LeO.none _)
   | (with_reducible refine LeO.ite ?_ ?_)
   | (with_reducible refine LeO.bind ?_ (fun _ => ?_))
   | exact ih0 _ _ _
   | exact ih1 _ _ _ _ _ _ _ _
   | exact expr_End.mono _ _ _
   | exact expr_times.mono _ _ _
   | exact LeO.none _
   | refine LeO.ite ?_ ?_
   | refine LeO.bind ?_ (fun _ => ?_)
theorem expr_reckon.mono : ∀ a0 a1 a2 k, LeO (expr_reckon.f k a0 a1 a2) (expr_reckon.f (k + 1) a0 a1 a2) := by
 intro a0 a1 a2 k
 obtain ⟨ih0, ih1⟩ := expr_reckon.mono_l k
 exact ih0 a0 a1 a2
set_option maxHeartbeats 8000000 in
set_option maxRecDepth 100000 in
theorem expr_reckon.calls (k : Nat) : ∀ (A0 : Option Addr) (c0 : Nat) (l0 : List (S96)) (a1 : Int) (A2 : Option Addr) (c2 : Nat) (l2 : List Int) (r1 : Int) (r2 : Bool) (r3 : Bool) (w : World) (hG : Glob w) (hr0 : Kd.C k96 w A0 l0.length l0) (hc0 : l0.length ≤ c0) (hr2 : Kd.C (Kd.int .i64) w A2 l2.length l2) (hc2 : l2.length ≤ c2) (h : expr_reckon.f k l0 a1 l2 = some (r1, r2, r3)),
  Calls Tryd.prog 41 #[.slice A0 l0.length c0, .int .i64 a1, .slice A2 l2.length c2] w fun e w' => e = .returned (.agg #[.int .i64 r1, .bool r2, .bool r3]) ∧ Below w.heap.size w w' := by
 induction k using Nat.strongRecOn with
 | _ k ih =>
 intro A0 c0 l0 a1 A2 c2 l2 r1 r2 r3 w hG hr0 hc0 hr2 hc2 h
 cases k with
 | zero => exact absurd h (by simp [expr_reckon.f])
 | succ k =>
 simp only [expr_reckon.f] at h
 have hu92 := Tryd.underlying92
 have hu96 := Tryd.underlying96
 have HR0 := Aside0.mk hr0
 have HC0 := Aside0.mk hc0
 clear hr0 hc0
 have HR2 := Aside0.mk hr2
 have HC2 := Aside0.mk hc2
 clear hr2 hc2
 have HGL := Aside0.mk hG
 clear hG
 have HB := Aside0.mk (Below.refl w.heap.size w)
 have H : (if 0 ≤ a1 then (if a1 < (l0.length : Int) then (if ((rd_T96 l0 a1).f0) = 1 then (some ((rd_T96 l0 a1).f1, false, false)) else (if ((rd_T96 l0 a1).f0) = 2 then (if 0 ≤ ((rd_T96 l0 a1).f1) then (if ((rd_T96 l0 a1).f1) < (l2.length : Int) then (some (rd l2 ((rd_T96 l0 a1).f1), false, false)) else (none)) else (none)) else (if ((rd_T96 l0 a1).f0) = 7 then (some (0, true, false)) else ((expr_reckon.f k l0 (wrap64 (a1 + 1)) l2).bind fun bt147 => (if bt147.2.2 = true then (some (bt147.1, bt147.2.1, bt147.2.2)) else (if ((rd_T96 l0 a1).f0) = 3 then ((expr_opposite.f bt147.1).bind fun bt151 => (some (bt151.1, bt151.2.1, bt151.2.2))) else (if ((rd_T96 l0 a1).f0) = 12 then (some (0, !bt147.2.1, false)) else (if ((rd_T96 l0 a1).f0) = 13 then (if bt147.2.1 = true then (if ((rd_T96 l0 a1).f0) = 14 then (some (bt147.1, bt147.2.1, bt147.2.2)) else (expr_reckon.j0 k l0 a1 l2 ((rd_T96 l0 a1).f0) ((rd_T96 l0 a1).f1) bt147.1 bt147.2.1 bt147.2.2)) else (some (bt147.1, bt147.2.1, bt147.2.2))) else (if ((rd_T96 l0 a1).f0) = 14 then (if bt147.2.1 = true then (some (bt147.1, bt147.2.1, bt147.2.2)) else (expr_reckon.j0 k l0 a1 l2 ((rd_T96 l0 a1).f0) ((rd_T96 l0 a1).f1) bt147.1 bt147.2.1 bt147.2.2)) else (expr_reckon.j0 k l0 a1 l2 ((rd_T96 l0 a1).f0) ((rd_T96 l0 a1).f1) bt147.1 bt147.2.1 bt147.2.2)))))))))) else (none)) else (none)) = some (r1, r2, r3) := h
 clear h
 by_cases c4 : 0 ≤ a1
 ·
  rw [if_pos c4] at H
  have c4b0 : decide (0 ≤ a1) = true := decide_eq_true c4
  clear c4
  by_cases c5 : a1 < (l0.length : Int)
  ·
   rw [if_pos c5] at H
   have c5b0 : decide (a1 < (l0.length : Int)) = true := decide_eq_true c5
   clear c5
   by_cases c6 : ((rd_T96 l0 a1).f0) = 1
   ·
    rw [if_pos c6] at H
    have c6b0 : (((rd_T96 l0 a1).f0) == 1) = true := beq_iff_eq.mpr c6
    have c6b1 : (((rd_T96 l0 a1).f0) != 1) = false := bne_eq_false_iff_eq.mpr c6
    clear c6
    simp only [Option.some.injEq, Prod.mk.injEq] at H
    obtain ⟨rfl, rfl, rfl⟩ := H
    go_enter Tryd.func41, Tryd.ntmps41
    go_wp2_with (first | ((with_reducible refine gate_dst (N := 6) rfl ?_); refine box_event ?hg (N := 6) ?hd (cs := #[.int .i64 0, .bool false, .bool false]) (t := 92) ?hr ?_; (case hd => rfl); (case hg => rfl); (case hr => exact q4_15); intro gb143 hg w7 hbox hb; have n0_ := Aside0.mk (below_step q4_9 hb); have n1_ := Aside0.mk (hbox); have n2_ := Aside0.mk ((by rw [hg]; exact (below_size q4_9) : w.heap.size ≤ gb143)); have n3_ := Aside0.mk ((by rw [hg]; exact (below_size q4_9) : w.heap.size ≤ gb143)); clear HB; have HB := n0_; have BK143 := n1_; have GW143 := n2_; have GE143 := n3_; clear n0_ n1_ n2_ n3_; clear hb hbox hg; have p144 : 0 ≤ (a1 : Int) := of_decide_eq_true q4_18; have q144 : a1 < (l0.length : Int) := of_decide_eq_true q4_18; obtain ⟨ad144, e144, hx144_0, hx144_1⟩ := at_T96 HR0.out a1 p144 q144; cases e144; replace hx144_0 := (HB.out.cell (World.block_lt_of_cell? w _ hx144_0)).trans hx144_0; replace hx144_1 := (HB.out.cell (World.block_lt_of_cell? w _ hx144_1)).trans hx144_1; replace p144 := eq_true p144; replace q144 := eq_true q144) | ((with_reducible refine gate_dst (N := 7) rfl ?_); refine box_event ?hg (N := 7) ?hd (cs := #[.int .u8 0, .int .i64 0]) (t := 96) ?hr ?_; (case hd => rfl); (case hg => rfl); (case hr => exact q4_15); intro gb145 hg w8 hbox hb; have n0_ := Aside0.mk (blk_below (g := gb143) (o := .cells #[.int .i64 0, .bool false, .bool false] 92 (0, 0)) q4_1 hb); have n1_ := Aside0.mk (below_step q4_7 hb); have n2_ := Aside0.mk (hbox); have n3_ := Aside0.mk ((by rw [hg]; exact (below_size q4_7) : w.heap.size ≤ gb145)); have n4_ := Aside0.mk ((by rw [hg]; exact (below_size q4_7) : w.heap.size ≤ gb145)); have n5_ := Aside0.mk ((by rw [hg]; exact Nat.ne_of_lt (blk_lt (g := gb143) (o := .cells #[.int .i64 0, .bool false, .bool false] 92 (0, 0)) q4_1) : gb143 ≠ gb145)); have n6_ := Aside0.mk ((by rw [hg]; exact Nat.ne_of_gt (blk_lt (g := gb143) (o := .cells #[.int .i64 0, .bool false, .bool false] 92 (0, 0)) q4_1) : gb145 ≠ gb143)); clear BK143; clear HB; have BK143 := n0_; have HB := n1_; have BK145 := n2_; have GW145 := n3_; have GE145 := n4_; have NB143_145 := n5_; have NB145_143 := n6_; clear n0_ n1_ n2_ n3_ n4_ n5_ n6_; clear hb hbox hg; have hnb9 := NB145_143.out; have hnc9 := NB143_145.out; have hcz10_0 : w8.cell? ⟨gb145, 0, none⟩ = some (.int .u8 0) := (blk_cell BK145.out 0).trans rfl; have hcz10_1 : w8.cell? ⟨gb145, 1, none⟩ = some (.int .i64 0) := (blk_cell BK145.out 1).trans rfl; have hfz10_0 := blk_frozen BK145.out 0; have hfz10_1 := blk_frozen BK145.out 1; have hcz11_0 : w8.cell? ⟨gb143, 0, none⟩ = some (.int .i64 0) := (blk_cell BK143.out 0).trans rfl; have hcz11_1 : w8.cell? ⟨gb143, 1, none⟩ = some (.bool false) := (blk_cell BK143.out 1).trans rfl; have hcz11_2 : w8.cell? ⟨gb143, 2, none⟩ = some (.bool false) := (blk_cell BK143.out 2).trans rfl; have hfz11_0 := blk_frozen BK143.out 0; have hfz11_1 := blk_frozen BK143.out 1; have hfz11_2 := blk_frozen BK143.out 2))
    refine bodyPost_ret (results_cell_row rfl _ _ gb143 92 #[.int .i64 ((rd_T96 l0 a1).f1), .bool false, .bool false] (0, 0) _ rfl (by (with_reducible repeat (first | refine blk_drewN ?_ _ | refine blk_drew ?_ | refine blk_alloc ?_ _)); refine blk_put (cs := #[.int .i64 ((rd_T96 l0 a1).f1), .bool false, .bool false]) ?_ 2 _ rfl; (with_reducible repeat (first | refine blk_drewN ?_ _ | refine blk_drew ?_ | refine blk_alloc ?_ _)); refine blk_put (cs := #[.int .i64 ((rd_T96 l0 a1).f1), .bool false, .bool false]) ?_ 1 _ rfl; (with_reducible repeat (first | refine blk_drewN ?_ _ | refine blk_drew ?_ | refine blk_alloc ?_ _)); refine blk_put (cs := #[.int .i64 0, .bool false, .bool false]) ?_ 0 _ rfl; (with_reducible repeat (first | refine blk_drewN ?_ _ | refine blk_drew ?_ | refine blk_alloc ?_ _)); refine blk_far ?_ NB143_145.out _; (with_reducible repeat (first | refine blk_drewN ?_ _ | refine blk_drew ?_ | refine blk_alloc ?_ _)); refine blk_far ?_ NB143_145.out _; (with_reducible repeat (first | refine blk_drewN ?_ _ | refine blk_drew ?_ | refine blk_alloc ?_ _)); exact BK143.out) Tryd.underlying92 rfl (by kernel_rfl)) rfl ?_
    exact ⟨by first | rfl | (simp [errW_none, errW_some] <;> rfl) | (simp [*, errW_none, errW_some] <;> rfl), by repeat (first | (with_reducible first | exact HB.out | apply below_alloc | apply pw_below_drewN | apply below_drew1 | refine below_set ?_ GE143.out | refine below_set ?_ GE145.out) | exact HB.out)⟩
   ·
    rw [if_neg c6] at H
    have c6b0 : (((rd_T96 l0 a1).f0) == 1) = false := beq_eq_false_iff_ne.mpr c6
    have c6b1 : (((rd_T96 l0 a1).f0) != 1) = true := bne_iff_ne.mpr c6
    by_cases c12 : ((rd_T96 l0 a1).f0) = 2
    ·
     rw [if_pos c12] at H
     have c12b0 : (((rd_T96 l0 a1).f0) == 2) = true := beq_iff_eq.mpr c12
     have c12b1 : (((rd_T96 l0 a1).f0) != 2) = false := bne_eq_false_iff_eq.mpr c12
     clear c12
     by_cases c13 : 0 ≤ ((rd_T96 l0 a1).f1)
     ·
      rw [if_pos c13] at H
      have c13b0 : decide (0 ≤ ((rd_T96 l0 a1).f1)) = true := decide_eq_true c13
      clear c13
      by_cases c14 : ((rd_T96 l0 a1).f1) < (l2.length : Int)
      ·
       rw [if_pos c14] at H
       have c14b0 : decide (((rd_T96 l0 a1).f1) < (l2.length : Int)) = true := decide_eq_true c14
       clear c14
       simp only [Option.some.injEq, Prod.mk.injEq] at H
       obtain ⟨rfl, rfl, rfl⟩ := H
       go_enter Tryd.func41, Tryd.ntmps41
       go_wp2_with (first | ((with_reducible refine gate_dst (N := 6) rfl ?_); refine box_event ?hg (N := 6) ?hd (cs := #[.int .i64 0, .bool false, .bool false]) (t := 92) ?hr ?_; (case hd => rfl); (case hg => rfl); (case hr => exact q4_15); intro gb143 hg w15 hbox hb; have n0_ := Aside0.mk (below_step q4_9 hb); have n1_ := Aside0.mk (hbox); have n2_ := Aside0.mk ((by rw [hg]; exact (below_size q4_9) : w.heap.size ≤ gb143)); have n3_ := Aside0.mk ((by rw [hg]; exact (below_size q4_9) : w.heap.size ≤ gb143)); clear HB; have HB := n0_; have BK143 := n1_; have GW143 := n2_; have GE143 := n3_; clear n0_ n1_ n2_ n3_; clear hb hbox hg; have p144 : 0 ≤ (a1 : Int) := of_decide_eq_true q4_18; have q144 : a1 < (l0.length : Int) := of_decide_eq_true q4_18; obtain ⟨ad144, e144, hx144_0, hx144_1⟩ := at_T96 HR0.out a1 p144 q144; cases e144; replace hx144_0 := (HB.out.cell (World.block_lt_of_cell? w _ hx144_0)).trans hx144_0; replace hx144_1 := (HB.out.cell (World.block_lt_of_cell? w _ hx144_1)).trans hx144_1; replace p144 := eq_true p144; replace q144 := eq_true q144) | ((with_reducible refine gate_dst (N := 7) rfl ?_); refine box_event ?hg (N := 7) ?hd (cs := #[.int .u8 0, .int .i64 0]) (t := 96) ?hr ?_; (case hd => rfl); (case hg => rfl); (case hr => exact q4_15); intro gb145 hg w16 hbox hb; have n0_ := Aside0.mk (blk_below (g := gb143) (o := .cells #[.int .i64 0, .bool false, .bool false] 92 (0, 0)) q4_1 hb); have n1_ := Aside0.mk (below_step q4_7 hb); have n2_ := Aside0.mk (hbox); have n3_ := Aside0.mk ((by rw [hg]; exact (below_size q4_7) : w.heap.size ≤ gb145)); have n4_ := Aside0.mk ((by rw [hg]; exact (below_size q4_7) : w.heap.size ≤ gb145)); have n5_ := Aside0.mk ((by rw [hg]; exact Nat.ne_of_lt (blk_lt (g := gb143) (o := .cells #[.int .i64 0, .bool false, .bool false] 92 (0, 0)) q4_1) : gb143 ≠ gb145)); have n6_ := Aside0.mk ((by rw [hg]; exact Nat.ne_of_gt (blk_lt (g := gb143) (o := .cells #[.int .i64 0, .bool false, .bool false] 92 (0, 0)) q4_1) : gb145 ≠ gb143)); clear BK143; clear HB; have BK143 := n0_; have HB := n1_; have BK145 := n2_; have GW145 := n3_; have GE145 := n4_; have NB143_145 := n5_; have NB145_143 := n6_; clear n0_ n1_ n2_ n3_ n4_ n5_ n6_; clear hb hbox hg; have hnb17 := NB145_143.out; have hnc17 := NB143_145.out; have hcz18_0 : w16.cell? ⟨gb145, 0, none⟩ = some (.int .u8 0) := (blk_cell BK145.out 0).trans rfl; have hcz18_1 : w16.cell? ⟨gb145, 1, none⟩ = some (.int .i64 0) := (blk_cell BK145.out 1).trans rfl; have hfz18_0 := blk_frozen BK145.out 0; have hfz18_1 := blk_frozen BK145.out 1; have p146 : 0 ≤ (((rd_T96 l0 a1).f1) : Int) := of_decide_eq_true q4_18; have q146 : ((rd_T96 l0 a1).f1) < (l2.length : Int) := of_decide_eq_true q4_18; obtain ⟨ad146, e146, hx146_0⟩ := Kd.at_int HR2.out ((rd_T96 l0 a1).f1) p146 q146; cases e146; have hn146_0 : ad146.block ≠ gb145 := Nat.ne_of_lt (Nat.lt_of_lt_of_le (by have := World.block_lt_of_cell? _ _ hx146_0; first | rwa [add_block] at this | exact this) GW145.out); have hn146_1 : ad146.block ≠ gb145 := Nat.ne_of_lt (Nat.lt_of_lt_of_le (by have := World.block_lt_of_cell? _ _ hx146_0; first | rwa [add_block] at this | exact this) GW145.out); replace hx146_0 := (HB.out.cell (World.block_lt_of_cell? w _ hx146_0)).trans hx146_0; replace hx146_0 := (cell_far (p := ⟨gb145, 0, none⟩) (by first | (rw [add_block]; exact hn146_0) | (show (Addr.add _ _).block ≠ _; rw [add_block]; exact hn146_0) | exact hn146_0) (.int .u8 ((rd_T96 l0 a1).f0))).trans hx146_0; replace hx146_0 := (cell_far (p := ⟨gb145, 1, none⟩) (by first | (rw [add_block]; exact hn146_1) | (show (Addr.add _ _).block ≠ _; rw [add_block]; exact hn146_1) | exact hn146_1) (.int .i64 ((rd_T96 l0 a1).f1))).trans hx146_0; clear hn146_0; clear hn146_1; replace p146 := eq_true p146; replace q146 := eq_true q146; have hcz19_0 : w16.cell? ⟨gb143, 0, none⟩ = some (.int .i64 0) := (blk_cell BK143.out 0).trans rfl; have hcz19_1 : w16.cell? ⟨gb143, 1, none⟩ = some (.bool false) := (blk_cell BK143.out 1).trans rfl; have hcz19_2 : w16.cell? ⟨gb143, 2, none⟩ = some (.bool false) := (blk_cell BK143.out 2).trans rfl; have hfz19_0 := blk_frozen BK143.out 0; have hfz19_1 := blk_frozen BK143.out 1; have hfz19_2 := blk_frozen BK143.out 2))
       refine bodyPost_ret (results_cell_row rfl _ _ gb143 92 #[.int .i64 (rd l2 ((rd_T96 l0 a1).f1)), .bool false, .bool false] (0, 0) _ rfl (by (with_reducible repeat (first | refine blk_drewN ?_ _ | refine blk_drew ?_ | refine blk_alloc ?_ _)); refine blk_put (cs := #[.int .i64 (rd l2 ((rd_T96 l0 a1).f1)), .bool false, .bool false]) ?_ 2 _ rfl; (with_reducible repeat (first | refine blk_drewN ?_ _ | refine blk_drew ?_ | refine blk_alloc ?_ _)); refine blk_put (cs := #[.int .i64 (rd l2 ((rd_T96 l0 a1).f1)), .bool false, .bool false]) ?_ 1 _ rfl; (with_reducible repeat (first | refine blk_drewN ?_ _ | refine blk_drew ?_ | refine blk_alloc ?_ _)); refine blk_put (cs := #[.int .i64 0, .bool false, .bool false]) ?_ 0 _ rfl; (with_reducible repeat (first | refine blk_drewN ?_ _ | refine blk_drew ?_ | refine blk_alloc ?_ _)); refine blk_far ?_ NB143_145.out _; (with_reducible repeat (first | refine blk_drewN ?_ _ | refine blk_drew ?_ | refine blk_alloc ?_ _)); refine blk_far ?_ NB143_145.out _; (with_reducible repeat (first | refine blk_drewN ?_ _ | refine blk_drew ?_ | refine blk_alloc ?_ _)); exact BK143.out) Tryd.underlying92 rfl (by kernel_rfl)) rfl ?_
       exact ⟨by first | rfl | (simp [errW_none, errW_some] <;> rfl) | (simp [*, errW_none, errW_some] <;> rfl), by repeat (first | (with_reducible first | exact HB.out | apply below_alloc | apply pw_below_drewN | apply below_drew1 | refine below_set ?_ GE143.out | refine below_set ?_ GE145.out) | exact HB.out)⟩
      ·
       rw [if_neg c14] at H
       exact absurd H (by simp)
     ·
      rw [if_neg c13] at H
      exact absurd H (by simp)
    ·
     rw [if_neg c12] at H
     have c12b0 : (((rd_T96 l0 a1).f0) == 2) = false := beq_eq_false_iff_ne.mpr c12
     have c12b1 : (((rd_T96 l0 a1).f0) != 2) = true := bne_iff_ne.mpr c12
     by_cases c20 : ((rd_T96 l0 a1).f0) = 7
     ·
      rw [if_pos c20] at H
      have c20b0 : (((rd_T96 l0 a1).f0) == 7) = true := beq_iff_eq.mpr c20
      have c20b1 : (((rd_T96 l0 a1).f0) != 7) = false := bne_eq_false_iff_eq.mpr c20
      clear c20
      simp only [Option.some.injEq, Prod.mk.injEq] at H
      obtain ⟨rfl, rfl, rfl⟩ := H
      go_enter Tryd.func41, Tryd.ntmps41
      go_wp2_with (first | ((with_reducible refine gate_dst (N := 6) rfl ?_); refine box_event ?hg (N := 6) ?hd (cs := #[.int .i64 0, .bool false, .bool false]) (t := 92) ?hr ?_; (case hd => rfl); (case hg => rfl); (case hr => exact q4_15); intro gb143 hg w21 hbox hb; have n0_ := Aside0.mk (below_step q4_9 hb); have n1_ := Aside0.mk (hbox); have n2_ := Aside0.mk ((by rw [hg]; exact (below_size q4_9) : w.heap.size ≤ gb143)); have n3_ := Aside0.mk ((by rw [hg]; exact (below_size q4_9) : w.heap.size ≤ gb143)); clear HB; have HB := n0_; have BK143 := n1_; have GW143 := n2_; have GE143 := n3_; clear n0_ n1_ n2_ n3_; clear hb hbox hg; have p144 : 0 ≤ (a1 : Int) := of_decide_eq_true q4_18; have q144 : a1 < (l0.length : Int) := of_decide_eq_true q4_18; obtain ⟨ad144, e144, hx144_0, hx144_1⟩ := at_T96 HR0.out a1 p144 q144; cases e144; replace hx144_0 := (HB.out.cell (World.block_lt_of_cell? w _ hx144_0)).trans hx144_0; replace hx144_1 := (HB.out.cell (World.block_lt_of_cell? w _ hx144_1)).trans hx144_1; replace p144 := eq_true p144; replace q144 := eq_true q144) | ((with_reducible refine gate_dst (N := 7) rfl ?_); refine box_event ?hg (N := 7) ?hd (cs := #[.int .u8 0, .int .i64 0]) (t := 96) ?hr ?_; (case hd => rfl); (case hg => rfl); (case hr => exact q4_15); intro gb145 hg w22 hbox hb; have n0_ := Aside0.mk (blk_below (g := gb143) (o := .cells #[.int .i64 0, .bool false, .bool false] 92 (0, 0)) q4_1 hb); have n1_ := Aside0.mk (below_step q4_7 hb); have n2_ := Aside0.mk (hbox); have n3_ := Aside0.mk ((by rw [hg]; exact (below_size q4_7) : w.heap.size ≤ gb145)); have n4_ := Aside0.mk ((by rw [hg]; exact (below_size q4_7) : w.heap.size ≤ gb145)); have n5_ := Aside0.mk ((by rw [hg]; exact Nat.ne_of_lt (blk_lt (g := gb143) (o := .cells #[.int .i64 0, .bool false, .bool false] 92 (0, 0)) q4_1) : gb143 ≠ gb145)); have n6_ := Aside0.mk ((by rw [hg]; exact Nat.ne_of_gt (blk_lt (g := gb143) (o := .cells #[.int .i64 0, .bool false, .bool false] 92 (0, 0)) q4_1) : gb145 ≠ gb143)); clear BK143; clear HB; have BK143 := n0_; have HB := n1_; have BK145 := n2_; have GW145 := n3_; have GE145 := n4_; have NB143_145 := n5_; have NB145_143 := n6_; clear n0_ n1_ n2_ n3_ n4_ n5_ n6_; clear hb hbox hg; have hnb23 := NB145_143.out; have hnc23 := NB143_145.out; have hcz24_0 : w22.cell? ⟨gb145, 0, none⟩ = some (.int .u8 0) := (blk_cell BK145.out 0).trans rfl; have hcz24_1 : w22.cell? ⟨gb145, 1, none⟩ = some (.int .i64 0) := (blk_cell BK145.out 1).trans rfl; have hfz24_0 := blk_frozen BK145.out 0; have hfz24_1 := blk_frozen BK145.out 1; have hcz25_0 : w22.cell? ⟨gb143, 0, none⟩ = some (.int .i64 0) := (blk_cell BK143.out 0).trans rfl; have hcz25_1 : w22.cell? ⟨gb143, 1, none⟩ = some (.bool false) := (blk_cell BK143.out 1).trans rfl; have hcz25_2 : w22.cell? ⟨gb143, 2, none⟩ = some (.bool false) := (blk_cell BK143.out 2).trans rfl; have hfz25_0 := blk_frozen BK143.out 0; have hfz25_1 := blk_frozen BK143.out 1; have hfz25_2 := blk_frozen BK143.out 2))
      refine bodyPost_ret (results_cell_row rfl _ _ gb143 92 #[.int .i64 0, .bool true, .bool false] (0, 0) _ rfl (by (with_reducible repeat (first | refine blk_drewN ?_ _ | refine blk_drew ?_ | refine blk_alloc ?_ _)); refine blk_put (cs := #[.int .i64 0, .bool true, .bool false]) ?_ 2 _ rfl; (with_reducible repeat (first | refine blk_drewN ?_ _ | refine blk_drew ?_ | refine blk_alloc ?_ _)); refine blk_put (cs := #[.int .i64 0, .bool false, .bool false]) ?_ 1 _ rfl; (with_reducible repeat (first | refine blk_drewN ?_ _ | refine blk_drew ?_ | refine blk_alloc ?_ _)); refine blk_put (cs := #[.int .i64 0, .bool false, .bool false]) ?_ 0 _ rfl; (with_reducible repeat (first | refine blk_drewN ?_ _ | refine blk_drew ?_ | refine blk_alloc ?_ _)); refine blk_far ?_ NB143_145.out _; (with_reducible repeat (first | refine blk_drewN ?_ _ | refine blk_drew ?_ | refine blk_alloc ?_ _)); refine blk_far ?_ NB143_145.out _; (with_reducible repeat (first | refine blk_drewN ?_ _ | refine blk_drew ?_ | refine blk_alloc ?_ _)); exact BK143.out) Tryd.underlying92 rfl (by kernel_rfl)) rfl ?_
      exact ⟨by first | rfl | (simp [errW_none, errW_some] <;> rfl) | (simp [*, errW_none, errW_some] <;> rfl), by repeat (first | (with_reducible first | exact HB.out | apply below_alloc | apply pw_below_drewN | apply below_drew1 | refine below_set ?_ GE143.out | refine below_set ?_ GE145.out) | exact HB.out)⟩
     ·
      rw [if_neg c20] at H
      have c20b0 : (((rd_T96 l0 a1).f0) == 7) = false := beq_eq_false_iff_ne.mpr c20
      have c20b1 : (((rd_T96 l0 a1).f0) != 7) = true := bne_iff_ne.mpr c20
      replace H := Option.bind_eq_some_iff.mp H
      obtain ⟨⟨t147, t148, t149⟩, A260, H⟩ := H
      replace H : (if t149 = true then (some (t147, t148, t149)) else (if ((rd_T96 l0 a1).f0) = 3 then ((expr_opposite.f t147).bind fun bt151 => (some (bt151.1, bt151.2.1, bt151.2.2))) else (if ((rd_T96 l0 a1).f0) = 12 then (some (0, !t148, false)) else (if ((rd_T96 l0 a1).f0) = 13 then (if t148 = true then (if ((rd_T96 l0 a1).f0) = 14 then (some (t147, t148, t149)) else (expr_reckon.j0 k l0 a1 l2 ((rd_T96 l0 a1).f0) ((rd_T96 l0 a1).f1) t147 t148 t149)) else (some (t147, t148, t149))) else (if ((rd_T96 l0 a1).f0) = 14 then (if t148 = true then (some (t147, t148, t149)) else (expr_reckon.j0 k l0 a1 l2 ((rd_T96 l0 a1).f0) ((rd_T96 l0 a1).f1) t147 t148 t149)) else (expr_reckon.j0 k l0 a1 l2 ((rd_T96 l0 a1).f0) ((rd_T96 l0 a1).f1) t147 t148 t149)))))) = some (r1, r2, r3) := H
      have A26 := Aside0.mk A260
      clear A260
      have HC27 := Aside0.mk H
      clear H
      go_enter Tryd.func41, Tryd.ntmps41
      go_upto_block 1 with (first | ((with_reducible refine gate_dst (N := 6) rfl ?_); refine box_event ?hg (N := 6) ?hd (cs := #[.int .i64 0, .bool false, .bool false]) (t := 92) ?hr ?_; (case hd => rfl); (case hg => rfl); (case hr => exact q4_15); intro gb143 hg w28 hbox hb; have n0_ := Aside0.mk (below_step q4_9 hb); have n1_ := Aside0.mk (hbox); have n2_ := Aside0.mk ((by rw [hg]; exact (below_size q4_9) : w.heap.size ≤ gb143)); have n3_ := Aside0.mk ((by rw [hg]; exact (below_size q4_9) : w.heap.size ≤ gb143)); clear HB; have HB := n0_; have BK143 := n1_; have GW143 := n2_; have GE143 := n3_; clear n0_ n1_ n2_ n3_; clear hb hbox hg; have p144 : 0 ≤ (a1 : Int) := of_decide_eq_true q4_18; have q144 : a1 < (l0.length : Int) := of_decide_eq_true q4_18; obtain ⟨ad144, e144, hx144_0, hx144_1⟩ := at_T96 HR0.out a1 p144 q144; cases e144; replace hx144_0 := (HB.out.cell (World.block_lt_of_cell? w _ hx144_0)).trans hx144_0; replace hx144_1 := (HB.out.cell (World.block_lt_of_cell? w _ hx144_1)).trans hx144_1; replace p144 := eq_true p144; replace q144 := eq_true q144) | ((with_reducible refine gate_dst (N := 7) rfl ?_); refine box_event ?hg (N := 7) ?hd (cs := #[.int .u8 0, .int .i64 0]) (t := 96) ?hr ?_; (case hd => rfl); (case hg => rfl); (case hr => exact q4_15); intro gb145 hg w29 hbox hb; have n0_ := Aside0.mk (blk_below (g := gb143) (o := .cells #[.int .i64 0, .bool false, .bool false] 92 (0, 0)) q4_1 hb); have n1_ := Aside0.mk (below_step q4_7 hb); have n2_ := Aside0.mk (hbox); have n3_ := Aside0.mk ((by rw [hg]; exact (below_size q4_7) : w.heap.size ≤ gb145)); have n4_ := Aside0.mk ((by rw [hg]; exact (below_size q4_7) : w.heap.size ≤ gb145)); have n5_ := Aside0.mk ((by rw [hg]; exact Nat.ne_of_lt (blk_lt (g := gb143) (o := .cells #[.int .i64 0, .bool false, .bool false] 92 (0, 0)) q4_1) : gb143 ≠ gb145)); have n6_ := Aside0.mk ((by rw [hg]; exact Nat.ne_of_gt (blk_lt (g := gb143) (o := .cells #[.int .i64 0, .bool false, .bool false] 92 (0, 0)) q4_1) : gb145 ≠ gb143)); clear BK143; clear HB; have BK143 := n0_; have HB := n1_; have BK145 := n2_; have GW145 := n3_; have GE145 := n4_; have NB143_145 := n5_; have NB145_143 := n6_; clear n0_ n1_ n2_ n3_ n4_ n5_ n6_; clear hb hbox hg; have hnb30 := NB145_143.out; have hnc30 := NB143_145.out; have hcz31_0 : w29.cell? ⟨gb145, 0, none⟩ = some (.int .u8 0) := (blk_cell BK145.out 0).trans rfl; have hcz31_1 : w29.cell? ⟨gb145, 1, none⟩ = some (.int .i64 0) := (blk_cell BK145.out 1).trans rfl; have hfz31_0 := blk_frozen BK145.out 0; have hfz31_1 := blk_frozen BK145.out 1) | ((with_reducible refine gate_callee (f := 41) rfl ?_); refine goesL_ (some 37) rfl rfl Tryd.func41 (by kernel_rfl) rfl #[.slice (some ad144) l0.length c0, .int .i64 (wrap64 (a1 + 1)), .slice A2 l2.length c2] rfl q4_6 ?_; (with_reducible refine (ih k (by omega) _ _ l0 (wrap64 (a1 + 1)) _ _ l2 t147 t148 t149 _ ?side5 ?side1 ?side2 ?side3 ?side4 A26.out).mono ?_); (case side1 => exact Kd.C_below HR0.out q4_10); (case side2 => exact HC0.out); (case side3 => exact Kd.C_below HR2.out q4_10); (case side4 => exact HC2.out); (case side5 => exact HGL.out.below q4_10); rintro e w32 ⟨rfl, hb⟩; refine ⟨_, rfl, ?_⟩; have n0_ := Aside0.mk (blk_below (g := gb143) (o := .cells #[.int .i64 0, .bool false, .bool false] 92 (0, 0)) (by (with_reducible repeat (first | refine blk_drewN ?_ _ | refine blk_drew ?_ | refine blk_alloc ?_ _)); refine blk_far ?_ NB143_145.out _; (with_reducible repeat (first | refine blk_drewN ?_ _ | refine blk_drew ?_ | refine blk_alloc ?_ _)); refine blk_far ?_ NB143_145.out _; (with_reducible repeat (first | refine blk_drewN ?_ _ | refine blk_drew ?_ | refine blk_alloc ?_ _)); exact BK143.out) hb); have n1_ := Aside0.mk (blk_below (g := gb145) (o := .cells #[.int .u8 ((rd_T96 l0 a1).f0), .int .i64 ((rd_T96 l0 a1).f1)] 96 (0, 0)) (by (with_reducible repeat (first | refine blk_drewN ?_ _ | refine blk_drew ?_ | refine blk_alloc ?_ _)); refine blk_put (cs := #[.int .u8 ((rd_T96 l0 a1).f0), .int .i64 0]) ?_ 1 _ rfl; (with_reducible repeat (first | refine blk_drewN ?_ _ | refine blk_drew ?_ | refine blk_alloc ?_ _)); refine blk_put (cs := #[.int .u8 0, .int .i64 0]) ?_ 0 _ rfl; (with_reducible repeat (first | refine blk_drewN ?_ _ | refine blk_drew ?_ | refine blk_alloc ?_ _)); exact BK145.out) hb); have n2_ := Aside0.mk (below_step q4_10 hb); clear BK143; clear BK145; clear HB; have BK143 := n0_; have BK145 := n1_; have HB := n2_; clear n0_ n1_ n2_; (try clear hb); (try clear hb2); (try clear hk); (try clear hi)) | ((with_reducible refine gate_dst (N := 8) rfl ?_); refine box_event ?hg (N := 8) ?hd (cs := #[.int .i64 0, .bool false, .bool false]) (t := 92) ?hr ?_; (case hd => rfl); (case hg => rfl); (case hr => exact q4_15); intro gb150 hg w33 hbox hb; have n0_ := Aside0.mk (blk_below (g := gb143) (o := .cells #[.int .i64 0, .bool false, .bool false] 92 (0, 0)) q4_1 hb); have n1_ := Aside0.mk (blk_below (g := gb145) (o := .cells #[.int .u8 ((rd_T96 l0 a1).f0), .int .i64 ((rd_T96 l0 a1).f1)] 96 (0, 0)) q4_2 hb); have n2_ := Aside0.mk (below_step q4_10 hb); have n3_ := Aside0.mk (hbox); have n4_ := Aside0.mk ((by rw [hg]; exact (below_size q4_10) : w.heap.size ≤ gb150)); have n5_ := Aside0.mk ((by rw [hg]; exact (below_size q4_10) : w.heap.size ≤ gb150)); have n6_ := Aside0.mk ((by rw [hg]; exact Nat.ne_of_lt (blk_lt (g := gb143) (o := .cells #[.int .i64 0, .bool false, .bool false] 92 (0, 0)) q4_1) : gb143 ≠ gb150)); have n7_ := Aside0.mk ((by rw [hg]; exact Nat.ne_of_gt (blk_lt (g := gb143) (o := .cells #[.int .i64 0, .bool false, .bool false] 92 (0, 0)) q4_1) : gb150 ≠ gb143)); have n8_ := Aside0.mk ((by rw [hg]; exact Nat.ne_of_lt (blk_lt (g := gb145) (o := .cells #[.int .u8 ((rd_T96 l0 a1).f0), .int .i64 ((rd_T96 l0 a1).f1)] 96 (0, 0)) q4_2) : gb145 ≠ gb150)); have n9_ := Aside0.mk ((by rw [hg]; exact Nat.ne_of_gt (blk_lt (g := gb145) (o := .cells #[.int .u8 ((rd_T96 l0 a1).f0), .int .i64 ((rd_T96 l0 a1).f1)] 96 (0, 0)) q4_2) : gb150 ≠ gb145)); clear BK143; clear BK145; clear HB; have BK143 := n0_; have BK145 := n1_; have HB := n2_; have BK150 := n3_; have GW150 := n4_; have GE150 := n5_; have NB143_150 := n6_; have NB150_143 := n7_; have NB145_150 := n8_; have NB150_145 := n9_; clear n0_ n1_ n2_ n3_ n4_ n5_ n6_ n7_ n8_ n9_; clear hb hbox hg; have hnb34 := NB150_143.out; have hnc34 := NB143_150.out; have hnb35 := NB150_145.out; have hnc35 := NB145_150.out; have hcz36_0 : w33.cell? ⟨gb150, 0, none⟩ = some (.int .i64 0) := (blk_cell BK150.out 0).trans rfl; have hcz36_1 : w33.cell? ⟨gb150, 1, none⟩ = some (.bool false) := (blk_cell BK150.out 1).trans rfl; have hcz36_2 : w33.cell? ⟨gb150, 2, none⟩ = some (.bool false) := (blk_cell BK150.out 2).trans rfl; have hfz36_0 := blk_frozen BK150.out 0; have hfz36_1 := blk_frozen BK150.out 1; have hfz36_2 := blk_frozen BK150.out 2))
      (try simp only [Act.put, List.setIfInBounds_toArray, List.set_cons_zero, List.set_cons_succ])
      go_cut [] (fun wc => ∃ (kq : Nat) (x144000_26 : Int) (x144001_26 : Bool) (x144002_26 : Bool), Aside0 (expr_reckon.j0 kq l0 a1 l2 ((rd_T96 l0 a1).f0) ((rd_T96 l0 a1).f1) t147 t148 t149 = some (r1, r2, r3)) ∧ Aside0 (kq ≤ k) ∧ Aside0 (wc.heap[gb143]? = some (.cells #[.int .i64 x144000_26, .bool x144001_26, .bool x144002_26] 92 (0, 0))) ∧ Aside0 (wc.heap[gb145]? = some (.cells #[.int .u8 ((rd_T96 l0 a1).f0), .int .i64 ((rd_T96 l0 a1).f1)] 96 (0, 0))) ∧ Aside0 (wc.heap[gb150]? = some (.cells #[.int .i64 t147, .bool t148, .bool t149] 92 (0, 0))) ∧ Aside0 (Below w.heap.size w wc))
      case first =>
       have H := HC27.out
       clear HC27
       by_cases c37 : t149 = true
       ·
        subst c37
        have H1 : (some (t147, t148, true)) = some (r1, r2, r3) := by rw [if_pos rfl] at H; exact H
        clear H
        have H := H1
        clear H1
        simp only [Option.some.injEq, Prod.mk.injEq] at H
        obtain ⟨rfl, rfl, rfl⟩ := H
        have hnb38 := NB150_143.out
        have hnc38 := NB143_150.out
        have hnb39 := NB150_145.out
        have hnc39 := NB145_150.out
        have hcz40_0 : w33.cell? ⟨gb150, 0, none⟩ = some (.int .i64 0) := (blk_cell BK150.out 0).trans rfl
        have hcz40_1 : w33.cell? ⟨gb150, 1, none⟩ = some (.bool false) := (blk_cell BK150.out 1).trans rfl
        have hcz40_2 : w33.cell? ⟨gb150, 2, none⟩ = some (.bool false) := (blk_cell BK150.out 2).trans rfl
        have hfz40_0 := blk_frozen BK150.out 0
        have hfz40_1 := blk_frozen BK150.out 1
        have hfz40_2 := blk_frozen BK150.out 2
        have hnb41 := NB143_145.out
        have hnc41 := NB145_143.out
        have hcz42_0 : w33.cell? ⟨gb143, 0, none⟩ = some (.int .i64 0) := (blk_cell BK143.out 0).trans rfl
        have hcz42_1 : w33.cell? ⟨gb143, 1, none⟩ = some (.bool false) := (blk_cell BK143.out 1).trans rfl
        have hcz42_2 : w33.cell? ⟨gb143, 2, none⟩ = some (.bool false) := (blk_cell BK143.out 2).trans rfl
        have hfz42_0 := blk_frozen BK143.out 0
        have hfz42_1 := blk_frozen BK143.out 1
        have hfz42_2 := blk_frozen BK143.out 2
        go_wp2
        refine bodyPost_ret (results_cell_row rfl _ _ gb143 92 #[.int .i64 t147, .bool t148, .bool true] (0, 0) _ rfl (by (with_reducible repeat (first | refine blk_drewN ?_ _ | refine blk_drew ?_ | refine blk_alloc ?_ _)); refine blk_put (cs := #[.int .i64 t147, .bool t148, .bool false]) ?_ 2 _ rfl; (with_reducible repeat (first | refine blk_drewN ?_ _ | refine blk_drew ?_ | refine blk_alloc ?_ _)); refine blk_put (cs := #[.int .i64 t147, .bool false, .bool false]) ?_ 1 _ rfl; (with_reducible repeat (first | refine blk_drewN ?_ _ | refine blk_drew ?_ | refine blk_alloc ?_ _)); refine blk_put (cs := #[.int .i64 0, .bool false, .bool false]) ?_ 0 _ rfl; (with_reducible repeat (first | refine blk_drewN ?_ _ | refine blk_drew ?_ | refine blk_alloc ?_ _)); refine blk_far ?_ NB143_150.out _; (with_reducible repeat (first | refine blk_drewN ?_ _ | refine blk_drew ?_ | refine blk_alloc ?_ _)); refine blk_far ?_ NB143_150.out _; (with_reducible repeat (first | refine blk_drewN ?_ _ | refine blk_drew ?_ | refine blk_alloc ?_ _)); refine blk_far ?_ NB143_150.out _; (with_reducible repeat (first | refine blk_drewN ?_ _ | refine blk_drew ?_ | refine blk_alloc ?_ _)); exact BK143.out) Tryd.underlying92 rfl (by kernel_rfl)) rfl ?_
        exact ⟨by first | rfl | (simp [errW_none, errW_some] <;> rfl) | (simp [*, errW_none, errW_some] <;> rfl), by repeat (first | (with_reducible first | exact HB.out | apply below_alloc | apply pw_below_drewN | apply below_drew1 | refine below_set ?_ GE143.out | refine below_set ?_ GE145.out | refine below_set ?_ GE150.out) | exact HB.out)⟩
       ·
        replace c37 := Bool.eq_false_iff.mpr c37
        subst c37
        have H1 : (if ((rd_T96 l0 a1).f0) = 3 then ((expr_opposite.f t147).bind fun bt151 => (some (bt151.1, bt151.2.1, bt151.2.2))) else (if ((rd_T96 l0 a1).f0) = 12 then (some (0, !t148, false)) else (if ((rd_T96 l0 a1).f0) = 13 then (if t148 = true then (if ((rd_T96 l0 a1).f0) = 14 then (some (t147, t148, false)) else (expr_reckon.j0 k l0 a1 l2 ((rd_T96 l0 a1).f0) ((rd_T96 l0 a1).f1) t147 t148 false)) else (some (t147, t148, false))) else (if ((rd_T96 l0 a1).f0) = 14 then (if t148 = true then (some (t147, t148, false)) else (expr_reckon.j0 k l0 a1 l2 ((rd_T96 l0 a1).f0) ((rd_T96 l0 a1).f1) t147 t148 false)) else (expr_reckon.j0 k l0 a1 l2 ((rd_T96 l0 a1).f0) ((rd_T96 l0 a1).f1) t147 t148 false))))) = some (r1, r2, r3) := by rw [if_neg (show ¬ (false = true) by decide)] at H; exact H
        clear H
        have H := H1
        clear H1
        by_cases c43 : ((rd_T96 l0 a1).f0) = 3
        ·
         rw [if_pos c43] at H
         have c43b0 : (((rd_T96 l0 a1).f0) == 3) = true := beq_iff_eq.mpr c43
         have c43b1 : (((rd_T96 l0 a1).f0) != 3) = false := bne_eq_false_iff_eq.mpr c43
         clear c43
         (first | rw [c43b0] | (simp only [i64_w, i32_w]; rw [c43b0]) | skip)
         replace H := Option.bind_eq_some_iff.mp H
         obtain ⟨⟨t151, t152, t153⟩, A440, H⟩ := H
         replace H : (some (t151, t152, t153)) = some (r1, r2, r3) := H
         have A44 := Aside0.mk A440
         clear A440
         simp only [Option.some.injEq, Prod.mk.injEq] at H
         obtain ⟨rfl, rfl, rfl⟩ := H
         have hnb45 := NB150_143.out
         have hnc45 := NB143_150.out
         have hnb46 := NB150_145.out
         have hnc46 := NB145_150.out
         have hcz47_0 : w33.cell? ⟨gb150, 0, none⟩ = some (.int .i64 0) := (blk_cell BK150.out 0).trans rfl
         have hcz47_1 : w33.cell? ⟨gb150, 1, none⟩ = some (.bool false) := (blk_cell BK150.out 1).trans rfl
         have hcz47_2 : w33.cell? ⟨gb150, 2, none⟩ = some (.bool false) := (blk_cell BK150.out 2).trans rfl
         have hfz47_0 := blk_frozen BK150.out 0
         have hfz47_1 := blk_frozen BK150.out 1
         have hfz47_2 := blk_frozen BK150.out 2
         have hnb48 := NB145_143.out
         have hnc48 := NB143_145.out
         have hcz49_0 : w33.cell? ⟨gb145, 0, none⟩ = some (.int .u8 ((rd_T96 l0 a1).f0)) := (blk_cell BK145.out 0).trans rfl
         have hcz49_1 : w33.cell? ⟨gb145, 1, none⟩ = some (.int .i64 ((rd_T96 l0 a1).f1)) := (blk_cell BK145.out 1).trans rfl
         have hfz49_0 := blk_frozen BK145.out 0
         have hfz49_1 := blk_frozen BK145.out 1
         go_wp2_with (first | ((with_reducible refine gate_callee (f := 103) rfl ?_); refine goesL_ (some 48) rfl rfl Tryd.func103 (by kernel_rfl) rfl #[.int .i64 t147] rfl q4_6 ?_; (with_reducible refine (expr_opposite.calls t147 t151 t152 t153 _ A44.out).mono ?_); rintro e w50 ⟨rfl, hb⟩; refine ⟨_, rfl, ?_⟩; have n0_ := Aside0.mk (blk_below (g := gb143) (o := .cells #[.int .i64 0, .bool false, .bool false] 92 (0, 0)) (by (with_reducible repeat (first | refine blk_drewN ?_ _ | refine blk_drew ?_ | refine blk_alloc ?_ _)); refine blk_far ?_ NB143_150.out _; (with_reducible repeat (first | refine blk_drewN ?_ _ | refine blk_drew ?_ | refine blk_alloc ?_ _)); refine blk_far ?_ NB143_150.out _; (with_reducible repeat (first | refine blk_drewN ?_ _ | refine blk_drew ?_ | refine blk_alloc ?_ _)); refine blk_far ?_ NB143_150.out _; (with_reducible repeat (first | refine blk_drewN ?_ _ | refine blk_drew ?_ | refine blk_alloc ?_ _)); exact BK143.out) hb); have n1_ := Aside0.mk (blk_below (g := gb145) (o := .cells #[.int .u8 ((rd_T96 l0 a1).f0), .int .i64 ((rd_T96 l0 a1).f1)] 96 (0, 0)) (by (with_reducible repeat (first | refine blk_drewN ?_ _ | refine blk_drew ?_ | refine blk_alloc ?_ _)); refine blk_far ?_ NB145_150.out _; (with_reducible repeat (first | refine blk_drewN ?_ _ | refine blk_drew ?_ | refine blk_alloc ?_ _)); refine blk_far ?_ NB145_150.out _; (with_reducible repeat (first | refine blk_drewN ?_ _ | refine blk_drew ?_ | refine blk_alloc ?_ _)); refine blk_far ?_ NB145_150.out _; (with_reducible repeat (first | refine blk_drewN ?_ _ | refine blk_drew ?_ | refine blk_alloc ?_ _)); exact BK145.out) hb); have n2_ := Aside0.mk (blk_below (g := gb150) (o := .cells #[.int .i64 t147, .bool t148, .bool false] 92 (0, 0)) (by (with_reducible repeat (first | refine blk_drewN ?_ _ | refine blk_drew ?_ | refine blk_alloc ?_ _)); refine blk_put (cs := #[.int .i64 t147, .bool t148, .bool false]) ?_ 2 _ rfl; (with_reducible repeat (first | refine blk_drewN ?_ _ | refine blk_drew ?_ | refine blk_alloc ?_ _)); refine blk_put (cs := #[.int .i64 t147, .bool false, .bool false]) ?_ 1 _ rfl; (with_reducible repeat (first | refine blk_drewN ?_ _ | refine blk_drew ?_ | refine blk_alloc ?_ _)); refine blk_put (cs := #[.int .i64 0, .bool false, .bool false]) ?_ 0 _ rfl; (with_reducible repeat (first | refine blk_drewN ?_ _ | refine blk_drew ?_ | refine blk_alloc ?_ _)); exact BK150.out) hb); have n3_ := Aside0.mk (below_step q4_0 hb); clear BK143; clear BK145; clear BK150; clear HB; have BK143 := n0_; have BK145 := n1_; have BK150 := n2_; have HB := n3_; clear n0_ n1_ n2_ n3_; (try clear hb); (try clear hb2); (try clear hk); (try clear hi); have hcz51_0 : w50.cell? ⟨gb143, 0, none⟩ = some (.int .i64 0) := (blk_cell BK143.out 0).trans rfl; have hcz51_1 : w50.cell? ⟨gb143, 1, none⟩ = some (.bool false) := (blk_cell BK143.out 1).trans rfl; have hcz51_2 : w50.cell? ⟨gb143, 2, none⟩ = some (.bool false) := (blk_cell BK143.out 2).trans rfl; have hfz51_0 := blk_frozen BK143.out 0; have hfz51_1 := blk_frozen BK143.out 1; have hfz51_2 := blk_frozen BK143.out 2))
         refine bodyPost_ret (results_cell_row rfl _ _ gb143 92 #[.int .i64 t151, .bool t152, .bool t153] (0, 0) _ rfl (by (with_reducible repeat (first | refine blk_drewN ?_ _ | refine blk_drew ?_ | refine blk_alloc ?_ _)); refine blk_put (cs := #[.int .i64 t151, .bool t152, .bool false]) ?_ 2 _ rfl; (with_reducible repeat (first | refine blk_drewN ?_ _ | refine blk_drew ?_ | refine blk_alloc ?_ _)); refine blk_put (cs := #[.int .i64 t151, .bool false, .bool false]) ?_ 1 _ rfl; (with_reducible repeat (first | refine blk_drewN ?_ _ | refine blk_drew ?_ | refine blk_alloc ?_ _)); refine blk_put (cs := #[.int .i64 0, .bool false, .bool false]) ?_ 0 _ rfl; (with_reducible repeat (first | refine blk_drewN ?_ _ | refine blk_drew ?_ | refine blk_alloc ?_ _)); exact BK143.out) Tryd.underlying92 rfl (by kernel_rfl)) rfl ?_
         exact ⟨by first | rfl | (simp [errW_none, errW_some] <;> rfl) | (simp [*, errW_none, errW_some] <;> rfl), by repeat (first | (with_reducible first | exact HB.out | apply below_alloc | apply pw_below_drewN | apply below_drew1 | refine below_set ?_ GE143.out | refine below_set ?_ GE145.out | refine below_set ?_ GE150.out) | exact HB.out)⟩
        ·
         rw [if_neg c43] at H
         have c43b0 : (((rd_T96 l0 a1).f0) == 3) = false := beq_eq_false_iff_ne.mpr c43
         have c43b1 : (((rd_T96 l0 a1).f0) != 3) = true := bne_iff_ne.mpr c43
         (first | rw [c43b0] | (simp only [i64_w, i32_w]; rw [c43b0]) | skip)
         by_cases c52 : ((rd_T96 l0 a1).f0) = 12
         ·
          rw [if_pos c52] at H
          have c52b0 : (((rd_T96 l0 a1).f0) == 12) = true := beq_iff_eq.mpr c52
          have c52b1 : (((rd_T96 l0 a1).f0) != 12) = false := bne_eq_false_iff_eq.mpr c52
          clear c52
          simp only [Option.some.injEq, Prod.mk.injEq] at H
          obtain ⟨rfl, rfl, rfl⟩ := H
          have hnb53 := NB150_143.out
          have hnc53 := NB143_150.out
          have hnb54 := NB150_145.out
          have hnc54 := NB145_150.out
          have hcz55_0 : w33.cell? ⟨gb150, 0, none⟩ = some (.int .i64 0) := (blk_cell BK150.out 0).trans rfl
          have hcz55_1 : w33.cell? ⟨gb150, 1, none⟩ = some (.bool false) := (blk_cell BK150.out 1).trans rfl
          have hcz55_2 : w33.cell? ⟨gb150, 2, none⟩ = some (.bool false) := (blk_cell BK150.out 2).trans rfl
          have hfz55_0 := blk_frozen BK150.out 0
          have hfz55_1 := blk_frozen BK150.out 1
          have hfz55_2 := blk_frozen BK150.out 2
          have hnb56 := NB145_143.out
          have hnc56 := NB143_145.out
          have hcz57_0 : w33.cell? ⟨gb145, 0, none⟩ = some (.int .u8 ((rd_T96 l0 a1).f0)) := (blk_cell BK145.out 0).trans rfl
          have hcz57_1 : w33.cell? ⟨gb145, 1, none⟩ = some (.int .i64 ((rd_T96 l0 a1).f1)) := (blk_cell BK145.out 1).trans rfl
          have hfz57_0 := blk_frozen BK145.out 0
          have hfz57_1 := blk_frozen BK145.out 1
          have hcz58_0 : w33.cell? ⟨gb143, 0, none⟩ = some (.int .i64 0) := (blk_cell BK143.out 0).trans rfl
          have hcz58_1 : w33.cell? ⟨gb143, 1, none⟩ = some (.bool false) := (blk_cell BK143.out 1).trans rfl
          have hcz58_2 : w33.cell? ⟨gb143, 2, none⟩ = some (.bool false) := (blk_cell BK143.out 2).trans rfl
          have hfz58_0 := blk_frozen BK143.out 0
          have hfz58_1 := blk_frozen BK143.out 1
          have hfz58_2 := blk_frozen BK143.out 2
          go_wp2
          refine bodyPost_ret (results_cell_row rfl _ _ gb143 92 #[.int .i64 0, .bool (!t148), .bool false] (0, 0) _ rfl (by (with_reducible repeat (first | refine blk_drewN ?_ _ | refine blk_drew ?_ | refine blk_alloc ?_ _)); refine blk_put (cs := #[.int .i64 0, .bool (!t148), .bool false]) ?_ 2 _ rfl; (with_reducible repeat (first | refine blk_drewN ?_ _ | refine blk_drew ?_ | refine blk_alloc ?_ _)); refine blk_put (cs := #[.int .i64 0, .bool false, .bool false]) ?_ 1 _ rfl; (with_reducible repeat (first | refine blk_drewN ?_ _ | refine blk_drew ?_ | refine blk_alloc ?_ _)); refine blk_put (cs := #[.int .i64 0, .bool false, .bool false]) ?_ 0 _ rfl; (with_reducible repeat (first | refine blk_drewN ?_ _ | refine blk_drew ?_ | refine blk_alloc ?_ _)); refine blk_far ?_ NB143_150.out _; (with_reducible repeat (first | refine blk_drewN ?_ _ | refine blk_drew ?_ | refine blk_alloc ?_ _)); refine blk_far ?_ NB143_150.out _; (with_reducible repeat (first | refine blk_drewN ?_ _ | refine blk_drew ?_ | refine blk_alloc ?_ _)); refine blk_far ?_ NB143_150.out _; (with_reducible repeat (first | refine blk_drewN ?_ _ | refine blk_drew ?_ | refine blk_alloc ?_ _)); exact BK143.out) Tryd.underlying92 rfl (by kernel_rfl)) rfl ?_
          exact ⟨by first | rfl | (simp [errW_none, errW_some] <;> rfl) | (simp [*, errW_none, errW_some] <;> rfl), by repeat (first | (with_reducible first | exact HB.out | apply below_alloc | apply pw_below_drewN | apply below_drew1 | refine below_set ?_ GE143.out | refine below_set ?_ GE145.out | refine below_set ?_ GE150.out) | exact HB.out)⟩
         ·
          rw [if_neg c52] at H
          have c52b0 : (((rd_T96 l0 a1).f0) == 12) = false := beq_eq_false_iff_ne.mpr c52
          have c52b1 : (((rd_T96 l0 a1).f0) != 12) = true := bne_iff_ne.mpr c52
          by_cases c59 : ((rd_T96 l0 a1).f0) = 13
          ·
           rw [if_pos c59] at H
           have c59b0 : (((rd_T96 l0 a1).f0) == 13) = true := beq_iff_eq.mpr c59
           have c59b1 : (((rd_T96 l0 a1).f0) != 13) = false := bne_eq_false_iff_eq.mpr c59
           clear c59
           by_cases c60 : t148 = true
           ·
            subst c60
            have H1 : (if ((rd_T96 l0 a1).f0) = 14 then (some (t147, true, false)) else (expr_reckon.j0 k l0 a1 l2 ((rd_T96 l0 a1).f0) ((rd_T96 l0 a1).f1) t147 true false)) = some (r1, r2, r3) := by rw [if_pos rfl] at H; exact H
            clear H
            have H := H1
            clear H1
            by_cases c61 : ((rd_T96 l0 a1).f0) = 14
            ·
             rw [if_pos c61] at H
             have c61b0 : (((rd_T96 l0 a1).f0) == 14) = true := beq_iff_eq.mpr c61
             have c61b1 : (((rd_T96 l0 a1).f0) != 14) = false := bne_eq_false_iff_eq.mpr c61
             clear c61
             simp only [Option.some.injEq, Prod.mk.injEq] at H
             obtain ⟨rfl, rfl, rfl⟩ := H
             have hnb62 := NB150_143.out
             have hnc62 := NB143_150.out
             have hnb63 := NB150_145.out
             have hnc63 := NB145_150.out
             have hcz64_0 : w33.cell? ⟨gb150, 0, none⟩ = some (.int .i64 0) := (blk_cell BK150.out 0).trans rfl
             have hcz64_1 : w33.cell? ⟨gb150, 1, none⟩ = some (.bool false) := (blk_cell BK150.out 1).trans rfl
             have hcz64_2 : w33.cell? ⟨gb150, 2, none⟩ = some (.bool false) := (blk_cell BK150.out 2).trans rfl
             have hfz64_0 := blk_frozen BK150.out 0
             have hfz64_1 := blk_frozen BK150.out 1
             have hfz64_2 := blk_frozen BK150.out 2
             have hnb65 := NB145_143.out
             have hnc65 := NB143_145.out
             have hcz66_0 : w33.cell? ⟨gb145, 0, none⟩ = some (.int .u8 ((rd_T96 l0 a1).f0)) := (blk_cell BK145.out 0).trans rfl
             have hcz66_1 : w33.cell? ⟨gb145, 1, none⟩ = some (.int .i64 ((rd_T96 l0 a1).f1)) := (blk_cell BK145.out 1).trans rfl
             have hfz66_0 := blk_frozen BK145.out 0
             have hfz66_1 := blk_frozen BK145.out 1
             have hcz67_0 : w33.cell? ⟨gb143, 0, none⟩ = some (.int .i64 0) := (blk_cell BK143.out 0).trans rfl
             have hcz67_1 : w33.cell? ⟨gb143, 1, none⟩ = some (.bool false) := (blk_cell BK143.out 1).trans rfl
             have hcz67_2 : w33.cell? ⟨gb143, 2, none⟩ = some (.bool false) := (blk_cell BK143.out 2).trans rfl
             have hfz67_0 := blk_frozen BK143.out 0
             have hfz67_1 := blk_frozen BK143.out 1
             have hfz67_2 := blk_frozen BK143.out 2
             go_wp2
             refine bodyPost_ret (results_cell_row rfl _ _ gb143 92 #[.int .i64 t147, .bool true, .bool false] (0, 0) _ rfl q4_14 Tryd.underlying92 rfl (by kernel_rfl)) rfl ?_
             exact ⟨by first | rfl | (simp [errW_none, errW_some] <;> rfl) | (simp [*, errW_none, errW_some] <;> rfl), by repeat (first | (with_reducible first | exact HB.out | apply below_alloc | apply pw_below_drewN | apply below_drew1 | refine below_set ?_ GE143.out | refine below_set ?_ GE145.out | refine below_set ?_ GE150.out) | exact HB.out)⟩
            ·
             rw [if_neg c61] at H
             have c61b0 : (((rd_T96 l0 a1).f0) == 14) = false := beq_eq_false_iff_ne.mpr c61
             have c61b1 : (((rd_T96 l0 a1).f0) != 14) = true := bne_iff_ne.mpr c61
             have H' := Aside0.mk H
             clear H
             have hnb68 := NB150_143.out
             have hnc68 := NB143_150.out
             have hnb69 := NB150_145.out
             have hnc69 := NB145_150.out
             have hcz70_0 : w33.cell? ⟨gb150, 0, none⟩ = some (.int .i64 0) := (blk_cell BK150.out 0).trans rfl
             have hcz70_1 : w33.cell? ⟨gb150, 1, none⟩ = some (.bool false) := (blk_cell BK150.out 1).trans rfl
             have hcz70_2 : w33.cell? ⟨gb150, 2, none⟩ = some (.bool false) := (blk_cell BK150.out 2).trans rfl
             have hfz70_0 := blk_frozen BK150.out 0
             have hfz70_1 := blk_frozen BK150.out 1
             have hfz70_2 := blk_frozen BK150.out 2
             have hnb71 := NB145_143.out
             have hnc71 := NB143_145.out
             have hcz72_0 : w33.cell? ⟨gb145, 0, none⟩ = some (.int .u8 ((rd_T96 l0 a1).f0)) := (blk_cell BK145.out 0).trans rfl
             have hcz72_1 : w33.cell? ⟨gb145, 1, none⟩ = some (.int .i64 ((rd_T96 l0 a1).f1)) := (blk_cell BK145.out 1).trans rfl
             have hfz72_0 := blk_frozen BK145.out 0
             have hfz72_1 := blk_frozen BK145.out 1
             go_wp2
             go_meet
             case rel => exact ⟨_, (0), (false), (false), H', ⟨by first | omega | exact Nat.le_refl _⟩, ⟨by (with_reducible repeat (first | refine blk_drewN ?_ _ | refine blk_drew ?_ | refine blk_alloc ?_ _)); refine blk_far ?_ NB143_150.out _; (with_reducible repeat (first | refine blk_drewN ?_ _ | refine blk_drew ?_ | refine blk_alloc ?_ _)); refine blk_far ?_ NB143_150.out _; (with_reducible repeat (first | refine blk_drewN ?_ _ | refine blk_drew ?_ | refine blk_alloc ?_ _)); refine blk_far ?_ NB143_150.out _; (with_reducible repeat (first | refine blk_drewN ?_ _ | refine blk_drew ?_ | refine blk_alloc ?_ _)); exact BK143.out⟩, ⟨by (with_reducible repeat (first | refine blk_drewN ?_ _ | refine blk_drew ?_ | refine blk_alloc ?_ _)); refine blk_far ?_ NB145_150.out _; (with_reducible repeat (first | refine blk_drewN ?_ _ | refine blk_drew ?_ | refine blk_alloc ?_ _)); refine blk_far ?_ NB145_150.out _; (with_reducible repeat (first | refine blk_drewN ?_ _ | refine blk_drew ?_ | refine blk_alloc ?_ _)); refine blk_far ?_ NB145_150.out _; (with_reducible repeat (first | refine blk_drewN ?_ _ | refine blk_drew ?_ | refine blk_alloc ?_ _)); exact BK145.out⟩, ⟨by (with_reducible repeat (first | refine blk_drewN ?_ _ | refine blk_drew ?_ | refine blk_alloc ?_ _)); refine blk_put (cs := #[.int .i64 t147, .bool true, .bool false]) ?_ 2 _ rfl; (with_reducible repeat (first | refine blk_drewN ?_ _ | refine blk_drew ?_ | refine blk_alloc ?_ _)); refine blk_put (cs := #[.int .i64 t147, .bool false, .bool false]) ?_ 1 _ rfl; (with_reducible repeat (first | refine blk_drewN ?_ _ | refine blk_drew ?_ | refine blk_alloc ?_ _)); refine blk_put (cs := #[.int .i64 0, .bool false, .bool false]) ?_ 0 _ rfl; (with_reducible repeat (first | refine blk_drewN ?_ _ | refine blk_drew ?_ | refine blk_alloc ?_ _)); exact BK150.out⟩, ⟨by repeat (first | (with_reducible first | exact HB.out | apply below_alloc | apply pw_below_drewN | apply below_drew1 | refine below_set ?_ GE143.out | refine below_set ?_ GE145.out | refine below_set ?_ GE150.out) | exact HB.out)⟩⟩
           ·
            replace c60 := Bool.eq_false_iff.mpr c60
            subst c60
            have H1 : (some (t147, false, false)) = some (r1, r2, r3) := by rw [if_neg (show ¬ (false = true) by decide)] at H; exact H
            clear H
            have H := H1
            clear H1
            simp only [Option.some.injEq, Prod.mk.injEq] at H
            obtain ⟨rfl, rfl, rfl⟩ := H
            have hnb73 := NB150_143.out
            have hnc73 := NB143_150.out
            have hnb74 := NB150_145.out
            have hnc74 := NB145_150.out
            have hcz75_0 : w33.cell? ⟨gb150, 0, none⟩ = some (.int .i64 0) := (blk_cell BK150.out 0).trans rfl
            have hcz75_1 : w33.cell? ⟨gb150, 1, none⟩ = some (.bool false) := (blk_cell BK150.out 1).trans rfl
            have hcz75_2 : w33.cell? ⟨gb150, 2, none⟩ = some (.bool false) := (blk_cell BK150.out 2).trans rfl
            have hfz75_0 := blk_frozen BK150.out 0
            have hfz75_1 := blk_frozen BK150.out 1
            have hfz75_2 := blk_frozen BK150.out 2
            have hnb76 := NB145_143.out
            have hnc76 := NB143_145.out
            have hcz77_0 : w33.cell? ⟨gb145, 0, none⟩ = some (.int .u8 ((rd_T96 l0 a1).f0)) := (blk_cell BK145.out 0).trans rfl
            have hcz77_1 : w33.cell? ⟨gb145, 1, none⟩ = some (.int .i64 ((rd_T96 l0 a1).f1)) := (blk_cell BK145.out 1).trans rfl
            have hfz77_0 := blk_frozen BK145.out 0
            have hfz77_1 := blk_frozen BK145.out 1
            have hcz78_0 : w33.cell? ⟨gb143, 0, none⟩ = some (.int .i64 0) := (blk_cell BK143.out 0).trans rfl
            have hcz78_1 : w33.cell? ⟨gb143, 1, none⟩ = some (.bool false) := (blk_cell BK143.out 1).trans rfl
            have hcz78_2 : w33.cell? ⟨gb143, 2, none⟩ = some (.bool false) := (blk_cell BK143.out 2).trans rfl
            have hfz78_0 := blk_frozen BK143.out 0
            have hfz78_1 := blk_frozen BK143.out 1
            have hfz78_2 := blk_frozen BK143.out 2
            go_wp2
            refine bodyPost_ret (results_cell_row rfl _ _ gb143 92 #[.int .i64 t147, .bool false, .bool false] (0, 0) _ rfl (by (with_reducible repeat (first | refine blk_drewN ?_ _ | refine blk_drew ?_ | refine blk_alloc ?_ _)); refine blk_put (cs := #[.int .i64 t147, .bool false, .bool false]) ?_ 2 _ rfl; (with_reducible repeat (first | refine blk_drewN ?_ _ | refine blk_drew ?_ | refine blk_alloc ?_ _)); refine blk_put (cs := #[.int .i64 t147, .bool false, .bool false]) ?_ 1 _ rfl; (with_reducible repeat (first | refine blk_drewN ?_ _ | refine blk_drew ?_ | refine blk_alloc ?_ _)); refine blk_put (cs := #[.int .i64 0, .bool false, .bool false]) ?_ 0 _ rfl; (with_reducible repeat (first | refine blk_drewN ?_ _ | refine blk_drew ?_ | refine blk_alloc ?_ _)); refine blk_far ?_ NB143_150.out _; (with_reducible repeat (first | refine blk_drewN ?_ _ | refine blk_drew ?_ | refine blk_alloc ?_ _)); refine blk_far ?_ NB143_150.out _; (with_reducible repeat (first | refine blk_drewN ?_ _ | refine blk_drew ?_ | refine blk_alloc ?_ _)); refine blk_far ?_ NB143_150.out _; (with_reducible repeat (first | refine blk_drewN ?_ _ | refine blk_drew ?_ | refine blk_alloc ?_ _)); exact BK143.out) Tryd.underlying92 rfl (by kernel_rfl)) rfl ?_
            exact ⟨by first | rfl | (simp [errW_none, errW_some] <;> rfl) | (simp [*, errW_none, errW_some] <;> rfl), by repeat (first | (with_reducible first | exact HB.out | apply below_alloc | apply pw_below_drewN | apply below_drew1 | refine below_set ?_ GE143.out | refine below_set ?_ GE145.out | refine below_set ?_ GE150.out) | exact HB.out)⟩
          ·
           rw [if_neg c59] at H
           have c59b0 : (((rd_T96 l0 a1).f0) == 13) = false := beq_eq_false_iff_ne.mpr c59
           have c59b1 : (((rd_T96 l0 a1).f0) != 13) = true := bne_iff_ne.mpr c59
           by_cases c79 : ((rd_T96 l0 a1).f0) = 14
           ·
            rw [if_pos c79] at H
            have c79b0 : (((rd_T96 l0 a1).f0) == 14) = true := beq_iff_eq.mpr c79
            have c79b1 : (((rd_T96 l0 a1).f0) != 14) = false := bne_eq_false_iff_eq.mpr c79
            clear c79
            by_cases c80 : t148 = true
            ·
             subst c80
             have H1 : (some (t147, true, false)) = some (r1, r2, r3) := by rw [if_pos rfl] at H; exact H
             clear H
             have H := H1
             clear H1
             simp only [Option.some.injEq, Prod.mk.injEq] at H
             obtain ⟨rfl, rfl, rfl⟩ := H
             have hnb81 := NB150_143.out
             have hnc81 := NB143_150.out
             have hnb82 := NB150_145.out
             have hnc82 := NB145_150.out
             have hcz83_0 : w33.cell? ⟨gb150, 0, none⟩ = some (.int .i64 0) := (blk_cell BK150.out 0).trans rfl
             have hcz83_1 : w33.cell? ⟨gb150, 1, none⟩ = some (.bool false) := (blk_cell BK150.out 1).trans rfl
             have hcz83_2 : w33.cell? ⟨gb150, 2, none⟩ = some (.bool false) := (blk_cell BK150.out 2).trans rfl
             have hfz83_0 := blk_frozen BK150.out 0
             have hfz83_1 := blk_frozen BK150.out 1
             have hfz83_2 := blk_frozen BK150.out 2
             have hnb84 := NB145_143.out
             have hnc84 := NB143_145.out
             have hcz85_0 : w33.cell? ⟨gb145, 0, none⟩ = some (.int .u8 ((rd_T96 l0 a1).f0)) := (blk_cell BK145.out 0).trans rfl
             have hcz85_1 : w33.cell? ⟨gb145, 1, none⟩ = some (.int .i64 ((rd_T96 l0 a1).f1)) := (blk_cell BK145.out 1).trans rfl
             have hfz85_0 := blk_frozen BK145.out 0
             have hfz85_1 := blk_frozen BK145.out 1
             have hcz86_0 : w33.cell? ⟨gb143, 0, none⟩ = some (.int .i64 0) := (blk_cell BK143.out 0).trans rfl
             have hcz86_1 : w33.cell? ⟨gb143, 1, none⟩ = some (.bool false) := (blk_cell BK143.out 1).trans rfl
             have hcz86_2 : w33.cell? ⟨gb143, 2, none⟩ = some (.bool false) := (blk_cell BK143.out 2).trans rfl
             have hfz86_0 := blk_frozen BK143.out 0
             have hfz86_1 := blk_frozen BK143.out 1
             have hfz86_2 := blk_frozen BK143.out 2
             go_wp2
             refine bodyPost_ret (results_cell_row rfl _ _ gb143 92 #[.int .i64 t147, .bool true, .bool false] (0, 0) _ rfl q4_14 Tryd.underlying92 rfl (by kernel_rfl)) rfl ?_
             exact ⟨by first | rfl | (simp [errW_none, errW_some] <;> rfl) | (simp [*, errW_none, errW_some] <;> rfl), by repeat (first | (with_reducible first | exact HB.out | apply below_alloc | apply pw_below_drewN | apply below_drew1 | refine below_set ?_ GE143.out | refine below_set ?_ GE145.out | refine below_set ?_ GE150.out) | exact HB.out)⟩
            ·
             replace c80 := Bool.eq_false_iff.mpr c80
             subst c80
             have H1 : (expr_reckon.j0 k l0 a1 l2 ((rd_T96 l0 a1).f0) ((rd_T96 l0 a1).f1) t147 false false) = some (r1, r2, r3) := by rw [if_neg (show ¬ (false = true) by decide)] at H; exact H
             clear H
             have H := H1
             clear H1
             have H' := Aside0.mk H
             clear H
             have hnb87 := NB150_143.out
             have hnc87 := NB143_150.out
             have hnb88 := NB150_145.out
             have hnc88 := NB145_150.out
             have hcz89_0 : w33.cell? ⟨gb150, 0, none⟩ = some (.int .i64 0) := (blk_cell BK150.out 0).trans rfl
             have hcz89_1 : w33.cell? ⟨gb150, 1, none⟩ = some (.bool false) := (blk_cell BK150.out 1).trans rfl
             have hcz89_2 : w33.cell? ⟨gb150, 2, none⟩ = some (.bool false) := (blk_cell BK150.out 2).trans rfl
             have hfz89_0 := blk_frozen BK150.out 0
             have hfz89_1 := blk_frozen BK150.out 1
             have hfz89_2 := blk_frozen BK150.out 2
             have hnb90 := NB145_143.out
             have hnc90 := NB143_145.out
             have hcz91_0 : w33.cell? ⟨gb145, 0, none⟩ = some (.int .u8 ((rd_T96 l0 a1).f0)) := (blk_cell BK145.out 0).trans rfl
             have hcz91_1 : w33.cell? ⟨gb145, 1, none⟩ = some (.int .i64 ((rd_T96 l0 a1).f1)) := (blk_cell BK145.out 1).trans rfl
             have hfz91_0 := blk_frozen BK145.out 0
             have hfz91_1 := blk_frozen BK145.out 1
             go_wp2
             go_meet
             case rel => exact ⟨_, (0), (false), (false), H', ⟨by first | omega | exact Nat.le_refl _⟩, ⟨by (with_reducible repeat (first | refine blk_drewN ?_ _ | refine blk_drew ?_ | refine blk_alloc ?_ _)); refine blk_far ?_ NB143_150.out _; (with_reducible repeat (first | refine blk_drewN ?_ _ | refine blk_drew ?_ | refine blk_alloc ?_ _)); refine blk_far ?_ NB143_150.out _; (with_reducible repeat (first | refine blk_drewN ?_ _ | refine blk_drew ?_ | refine blk_alloc ?_ _)); refine blk_far ?_ NB143_150.out _; (with_reducible repeat (first | refine blk_drewN ?_ _ | refine blk_drew ?_ | refine blk_alloc ?_ _)); exact BK143.out⟩, ⟨by (with_reducible repeat (first | refine blk_drewN ?_ _ | refine blk_drew ?_ | refine blk_alloc ?_ _)); refine blk_far ?_ NB145_150.out _; (with_reducible repeat (first | refine blk_drewN ?_ _ | refine blk_drew ?_ | refine blk_alloc ?_ _)); refine blk_far ?_ NB145_150.out _; (with_reducible repeat (first | refine blk_drewN ?_ _ | refine blk_drew ?_ | refine blk_alloc ?_ _)); refine blk_far ?_ NB145_150.out _; (with_reducible repeat (first | refine blk_drewN ?_ _ | refine blk_drew ?_ | refine blk_alloc ?_ _)); exact BK145.out⟩, ⟨by (with_reducible repeat (first | refine blk_drewN ?_ _ | refine blk_drew ?_ | refine blk_alloc ?_ _)); refine blk_put (cs := #[.int .i64 t147, .bool false, .bool false]) ?_ 2 _ rfl; (with_reducible repeat (first | refine blk_drewN ?_ _ | refine blk_drew ?_ | refine blk_alloc ?_ _)); refine blk_put (cs := #[.int .i64 t147, .bool false, .bool false]) ?_ 1 _ rfl; (with_reducible repeat (first | refine blk_drewN ?_ _ | refine blk_drew ?_ | refine blk_alloc ?_ _)); refine blk_put (cs := #[.int .i64 0, .bool false, .bool false]) ?_ 0 _ rfl; (with_reducible repeat (first | refine blk_drewN ?_ _ | refine blk_drew ?_ | refine blk_alloc ?_ _)); exact BK150.out⟩, ⟨by repeat (first | (with_reducible first | exact HB.out | apply below_alloc | apply pw_below_drewN | apply below_drew1 | refine below_set ?_ GE143.out | refine below_set ?_ GE145.out | refine below_set ?_ GE150.out) | exact HB.out)⟩⟩
           ·
            rw [if_neg c79] at H
            have c79b0 : (((rd_T96 l0 a1).f0) == 14) = false := beq_eq_false_iff_ne.mpr c79
            have c79b1 : (((rd_T96 l0 a1).f0) != 14) = true := bne_iff_ne.mpr c79
            have H' := Aside0.mk H
            clear H
            have hnb92 := NB150_143.out
            have hnc92 := NB143_150.out
            have hnb93 := NB150_145.out
            have hnc93 := NB145_150.out
            have hcz94_0 : w33.cell? ⟨gb150, 0, none⟩ = some (.int .i64 0) := (blk_cell BK150.out 0).trans rfl
            have hcz94_1 : w33.cell? ⟨gb150, 1, none⟩ = some (.bool false) := (blk_cell BK150.out 1).trans rfl
            have hcz94_2 : w33.cell? ⟨gb150, 2, none⟩ = some (.bool false) := (blk_cell BK150.out 2).trans rfl
            have hfz94_0 := blk_frozen BK150.out 0
            have hfz94_1 := blk_frozen BK150.out 1
            have hfz94_2 := blk_frozen BK150.out 2
            have hnb95 := NB145_143.out
            have hnc95 := NB143_145.out
            have hcz96_0 : w33.cell? ⟨gb145, 0, none⟩ = some (.int .u8 ((rd_T96 l0 a1).f0)) := (blk_cell BK145.out 0).trans rfl
            have hcz96_1 : w33.cell? ⟨gb145, 1, none⟩ = some (.int .i64 ((rd_T96 l0 a1).f1)) := (blk_cell BK145.out 1).trans rfl
            have hfz96_0 := blk_frozen BK145.out 0
            have hfz96_1 := blk_frozen BK145.out 1
            go_wp2
            go_meet
            case rel => exact ⟨_, (0), (false), (false), H', ⟨by first | omega | exact Nat.le_refl _⟩, ⟨by (with_reducible repeat (first | refine blk_drewN ?_ _ | refine blk_drew ?_ | refine blk_alloc ?_ _)); refine blk_far ?_ NB143_150.out _; (with_reducible repeat (first | refine blk_drewN ?_ _ | refine blk_drew ?_ | refine blk_alloc ?_ _)); refine blk_far ?_ NB143_150.out _; (with_reducible repeat (first | refine blk_drewN ?_ _ | refine blk_drew ?_ | refine blk_alloc ?_ _)); refine blk_far ?_ NB143_150.out _; (with_reducible repeat (first | refine blk_drewN ?_ _ | refine blk_drew ?_ | refine blk_alloc ?_ _)); exact BK143.out⟩, ⟨by (with_reducible repeat (first | refine blk_drewN ?_ _ | refine blk_drew ?_ | refine blk_alloc ?_ _)); refine blk_far ?_ NB145_150.out _; (with_reducible repeat (first | refine blk_drewN ?_ _ | refine blk_drew ?_ | refine blk_alloc ?_ _)); refine blk_far ?_ NB145_150.out _; (with_reducible repeat (first | refine blk_drewN ?_ _ | refine blk_drew ?_ | refine blk_alloc ?_ _)); refine blk_far ?_ NB145_150.out _; (with_reducible repeat (first | refine blk_drewN ?_ _ | refine blk_drew ?_ | refine blk_alloc ?_ _)); exact BK145.out⟩, ⟨by (with_reducible repeat (first | refine blk_drewN ?_ _ | refine blk_drew ?_ | refine blk_alloc ?_ _)); refine blk_put (cs := #[.int .i64 t147, .bool t148, .bool false]) ?_ 2 _ rfl; (with_reducible repeat (first | refine blk_drewN ?_ _ | refine blk_drew ?_ | refine blk_alloc ?_ _)); refine blk_put (cs := #[.int .i64 t147, .bool false, .bool false]) ?_ 1 _ rfl; (with_reducible repeat (first | refine blk_drewN ?_ _ | refine blk_drew ?_ | refine blk_alloc ?_ _)); refine blk_put (cs := #[.int .i64 0, .bool false, .bool false]) ?_ 0 _ rfl; (with_reducible repeat (first | refine blk_drewN ?_ _ | refine blk_drew ?_ | refine blk_alloc ?_ _)); exact BK150.out⟩, ⟨by repeat (first | (with_reducible first | exact HB.out | apply below_alloc | apply pw_below_drewN | apply below_drew1 | refine below_set ?_ GE143.out | refine below_set ?_ GE145.out | refine below_set ?_ GE150.out) | exact HB.out)⟩⟩
      case rest =>
       clear HC27
       try clear c1
       try clear p1
       try clear q1
       try clear hx1
       try clear c2
       try clear p2
       try clear c3
       try clear c4
       try clear c4b0
       try clear c5
       try clear c5b0
       try clear c6
       try clear c6b0
       try clear c6b1
       try clear p6
       try clear c7
       try clear c8
       try clear c9
       try clear c10
       try clear c12
       try clear c12b0
       try clear c12b1
       try clear c13
       try clear c13b0
       try clear c14
       try clear c14b0
       try clear p14
       try clear q14
       try clear hx14
       try clear c17
       try clear c20
       try clear c20b0
       try clear c20b1
       try clear c23
       try clear c30
       try clear c34
       try clear c35
       try clear c37
       try clear c38
       try clear c39
       try clear c41
       try clear c43
       try clear c43b0
       try clear c43b1
       try clear c45
       try clear c46
       try clear c48
       try clear c52
       try clear c52b0
       try clear c52b1
       try clear c53
       try clear c54
       try clear c56
       try clear c59
       try clear c59b0
       try clear c59b1
       try clear c60
       try clear c61
       try clear c61b0
       try clear c61b1
       try clear c62
       try clear c63
       try clear p64
       try clear c65
       try clear c68
       try clear c69
       try clear c71
       try clear c73
       try clear c74
       try clear c76
       try clear c79
       try clear c79b0
       try clear c79b1
       try clear c80
       try clear c81
       try clear c82
       try clear c84
       try clear c87
       try clear c88
       try clear c90
       try clear c92
       try clear c93
       try clear c95
       try clear hcz10_0
       try clear hcz10_1
       try clear hcz11_0
       try clear hcz11_1
       try clear hcz11_2
       try clear hcz18_0
       try clear hcz18_1
       try clear hcz19_0
       try clear hcz19_1
       try clear hcz19_2
       try clear hcz24_0
       try clear hcz24_1
       try clear hcz25_0
       try clear hcz25_1
       try clear hcz25_2
       try clear hcz31_0
       try clear hcz31_1
       try clear hcz36_0
       try clear hcz36_1
       try clear hcz36_2
       try clear hcz40_0
       try clear hcz40_1
       try clear hcz40_2
       try clear hcz42_0
       try clear hcz42_1
       try clear hcz42_2
       try clear hcz47_0
       try clear hcz47_1
       try clear hcz47_2
       try clear hcz49_0
       try clear hcz49_1
       try clear hcz51_0
       try clear hcz51_1
       try clear hcz51_2
       try clear hcz55_0
       try clear hcz55_1
       try clear hcz55_2
       try clear hcz57_0
       try clear hcz57_1
       try clear hcz58_0
       try clear hcz58_1
       try clear hcz58_2
       try clear hcz64_0
       try clear hcz64_1
       try clear hcz64_2
       try clear hcz66_0
       try clear hcz66_1
       try clear hcz67_0
       try clear hcz67_1
       try clear hcz67_2
       try clear hcz70_0
       try clear hcz70_1
       try clear hcz70_2
       try clear hcz72_0
       try clear hcz72_1
       try clear hcz75_0
       try clear hcz75_1
       try clear hcz75_2
       try clear hcz77_0
       try clear hcz77_1
       try clear hcz78_0
       try clear hcz78_1
       try clear hcz78_2
       try clear hcz83_0
       try clear hcz83_1
       try clear hcz83_2
       try clear hcz85_0
       try clear hcz85_1
       try clear hcz86_0
       try clear hcz86_1
       try clear hcz86_2
       try clear hcz89_0
       try clear hcz89_1
       try clear hcz89_2
       try clear hcz91_0
       try clear hcz91_1
       try clear hcz94_0
       try clear hcz94_1
       try clear hcz94_2
       try clear hcz96_0
       try clear hcz96_1
       try clear hfz10_0
       try clear hfz10_1
       try clear hfz11_0
       try clear hfz11_1
       try clear hfz11_2
       try clear hfz18_0
       try clear hfz18_1
       try clear hfz19_0
       try clear hfz19_1
       try clear hfz19_2
       try clear hfz24_0
       try clear hfz24_1
       try clear hfz25_0
       try clear hfz25_1
       try clear hfz25_2
       try clear hfz31_0
       try clear hfz31_1
       try clear hfz36_0
       try clear hfz36_1
       try clear hfz36_2
       try clear hfz40_0
       try clear hfz40_1
       try clear hfz40_2
       try clear hfz42_0
       try clear hfz42_1
       try clear hfz42_2
       try clear hfz47_0
       try clear hfz47_1
       try clear hfz47_2
       try clear hfz49_0
       try clear hfz49_1
       try clear hfz51_0
       try clear hfz51_1
       try clear hfz51_2
       try clear hfz55_0
       try clear hfz55_1
       try clear hfz55_2
       try clear hfz57_0
       try clear hfz57_1
       try clear hfz58_0
       try clear hfz58_1
       try clear hfz58_2
       try clear hfz64_0
       try clear hfz64_1
       try clear hfz64_2
       try clear hfz66_0
       try clear hfz66_1
       try clear hfz67_0
       try clear hfz67_1
       try clear hfz67_2
       try clear hfz70_0
       try clear hfz70_1
       try clear hfz70_2
       try clear hfz72_0
       try clear hfz72_1
       try clear hfz75_0
       try clear hfz75_1
       try clear hfz75_2
       try clear hfz77_0
       try clear hfz77_1
       try clear hfz78_0
       try clear hfz78_1
       try clear hfz78_2
       try clear hfz83_0
       try clear hfz83_1
       try clear hfz83_2
       try clear hfz85_0
       try clear hfz85_1
       try clear hfz86_0
       try clear hfz86_1
       try clear hfz86_2
       try clear hfz89_0
       try clear hfz89_1
       try clear hfz89_2
       try clear hfz91_0
       try clear hfz91_1
       try clear hfz94_0
       try clear hfz94_1
       try clear hfz94_2
       try clear hfz96_0
       try clear hfz96_1
       try clear hx144_0
       try clear hx144_1
       try clear hx146_0
       try clear p144
       try clear p146
       try clear q144
       try clear q146
       obtain ⟨kq, x144000_26, x144001_26, x144002_26, HA, HJ26, BK143, BK145, BK150, HB⟩ := hcut
       cases kq with
       | zero => exact absurd HA.out (by simp [expr_reckon.j0])
       | succ kj26 =>
        have H := HA.out
        clear HA
        simp only [expr_reckon.j0] at H
        replace H := Option.bind_eq_some_iff.mp H
        obtain ⟨t154, A970, H⟩ := H
        replace H : ((expr_reckon.f kj26 l0 t154 l2).bind fun bt155 => (if bt155.2.2 = true then (some (bt155.1, bt155.2.1, bt155.2.2)) else (if ((rd_T96 l0 a1).f0) = 4 then ((expr_plus.f t147 bt155.1).bind fun bt159 => (some (bt159.1, bt159.2.1, bt159.2.2))) else (if ((rd_T96 l0 a1).f0) = 5 then (if ((decide (t147 < 0)) != (decide (bt155.1 < 0))) = true then (some (wrap64 (t147 - bt155.1), false, ((decide ((wrap64 (t147 - bt155.1)) < 0)) != (decide (t147 < 0))))) else (some (wrap64 (t147 - bt155.1), false, false))) else (if ((rd_T96 l0 a1).f0) = 6 then ((expr_times.f kj26 t147 bt155.1).bind fun bt162 => (some (bt162.1, bt162.2.1, bt162.2.2))) else (if ((rd_T96 l0 a1).f0) = 8 then (some (0, decide (t147 < bt155.1), false)) else (if ((rd_T96 l0 a1).f0) = 9 then (some (0, decide (t147 ≤ bt155.1), false)) else (if ((rd_T96 l0 a1).f0) = 10 then (some (0, (t147 == bt155.1), false)) else (if ((rd_T96 l0 a1).f0) = 11 then (some (0, (t147 != bt155.1), false)) else (some (bt155.1, bt155.2.1, bt155.2.2))))))))))) = some (r1, r2, r3) := H
        have A97 := Aside0.mk A970
        clear A970
        replace H := Option.bind_eq_some_iff.mp H
        obtain ⟨⟨t155, t156, t157⟩, A980, H⟩ := H
        replace H : (if t157 = true then (some (t155, t156, t157)) else (if ((rd_T96 l0 a1).f0) = 4 then ((expr_plus.f t147 t155).bind fun bt159 => (some (bt159.1, bt159.2.1, bt159.2.2))) else (if ((rd_T96 l0 a1).f0) = 5 then (if ((decide (t147 < 0)) != (decide (t155 < 0))) = true then (some (wrap64 (t147 - t155), false, ((decide ((wrap64 (t147 - t155)) < 0)) != (decide (t147 < 0))))) else (some (wrap64 (t147 - t155), false, false))) else (if ((rd_T96 l0 a1).f0) = 6 then ((expr_times.f kj26 t147 t155).bind fun bt162 => (some (bt162.1, bt162.2.1, bt162.2.2))) else (if ((rd_T96 l0 a1).f0) = 8 then (some (0, decide (t147 < t155), false)) else (if ((rd_T96 l0 a1).f0) = 9 then (some (0, decide (t147 ≤ t155), false)) else (if ((rd_T96 l0 a1).f0) = 10 then (some (0, (t147 == t155), false)) else (if ((rd_T96 l0 a1).f0) = 11 then (some (0, (t147 != t155), false)) else (some (t155, t156, t157)))))))))) = some (r1, r2, r3) := H
        have A98 := Aside0.mk A980
        clear A980
        by_cases c99 : t157 = true
        ·
         subst c99
         have H1 : (some (t155, t156, true)) = some (r1, r2, r3) := by rw [if_pos rfl] at H; exact H
         clear H
         have H := H1
         clear H1
         simp only [Option.some.injEq, Prod.mk.injEq] at H
         obtain ⟨rfl, rfl, rfl⟩ := H
         go_wp2_with (first | ((with_reducible refine gate_callee (f := 101) rfl ?_); refine goesL_ (some 80) rfl rfl Tryd.func101 (by kernel_rfl) rfl #[.slice (some ad144) l0.length c0, .int .i64 (wrap64 (a1 + 1))] rfl q4_6 ?_; (with_reducible refine (expr_End.calls kj26 _ _ l0 (wrap64 (a1 + 1)) t154 _ ?side3 ?side1 ?side2 A97.out).mono ?_); (case side1 => exact q4_4); (case side2 => exact HC0.out); (case side3 => exact q4_5); rintro e w100 ⟨rfl, hb⟩; refine ⟨_, rfl, ?_⟩; have n0_ := Aside0.mk (blk_below (g := gb143) (o := .cells #[.int .i64 x144000_26, .bool x144001_26, .bool x144002_26] 92 (0, 0)) q4_1 hb); have n1_ := Aside0.mk (blk_below (g := gb145) (o := .cells #[.int .u8 ((rd_T96 l0 a1).f0), .int .i64 ((rd_T96 l0 a1).f1)] 96 (0, 0)) q4_2 hb); have n2_ := Aside0.mk (blk_below (g := gb150) (o := .cells #[.int .i64 t147, .bool t148, .bool t149] 92 (0, 0)) q4_3 hb); have n3_ := Aside0.mk (below_step q4_0 hb); clear BK143; clear BK145; clear BK150; clear HB; have BK143 := n0_; have BK145 := n1_; have BK150 := n2_; have HB := n3_; clear n0_ n1_ n2_ n3_; (try clear hb); (try clear hb2); (try clear hk); (try clear hi)) | ((with_reducible refine gate_callee (f := 41) rfl ?_); refine goesL_ (some 82) rfl rfl Tryd.func41 (by kernel_rfl) rfl #[.slice (some ad144) l0.length c0, .int .i64 t154, .slice A2 l2.length c2] rfl q4_6 ?_; (with_reducible refine (ih kj26 (by have := HJ26.out; omega) _ _ l0 t154 _ _ l2 t155 t156 true _ ?side5 ?side1 ?side2 ?side3 ?side4 A98.out).mono ?_); (case side1 => exact q4_4); (case side2 => exact HC0.out); (case side3 => exact q4_8); (case side4 => exact HC2.out); (case side5 => exact q4_5); rintro e w101 ⟨rfl, hb⟩; refine ⟨_, rfl, ?_⟩; have n0_ := Aside0.mk (blk_below (g := gb143) (o := .cells #[.int .i64 x144000_26, .bool x144001_26, .bool x144002_26] 92 (0, 0)) q4_1 hb); have n1_ := Aside0.mk (blk_below (g := gb145) (o := .cells #[.int .u8 ((rd_T96 l0 a1).f0), .int .i64 ((rd_T96 l0 a1).f1)] 96 (0, 0)) q4_2 hb); have n2_ := Aside0.mk (blk_below (g := gb150) (o := .cells #[.int .i64 t147, .bool t148, .bool t149] 92 (0, 0)) q4_3 hb); have n3_ := Aside0.mk (below_step q4_0 hb); clear BK143; clear BK145; clear BK150; clear HB; have BK143 := n0_; have BK145 := n1_; have BK150 := n2_; have HB := n3_; clear n0_ n1_ n2_ n3_; (try clear hb); (try clear hb2); (try clear hk); (try clear hi)) | ((with_reducible refine gate_dst (N := 9) rfl ?_); refine box_event ?hg (N := 9) ?hd (cs := #[.int .i64 0, .bool false, .bool false]) (t := 92) ?hr ?_; (case hd => rfl); (case hg => rfl); (case hr => exact q4_15); intro gb158 hg w102 hbox hb; have n0_ := Aside0.mk (blk_below (g := gb143) (o := .cells #[.int .i64 x144000_26, .bool x144001_26, .bool x144002_26] 92 (0, 0)) q4_1 hb); have n1_ := Aside0.mk (blk_below (g := gb145) (o := .cells #[.int .u8 ((rd_T96 l0 a1).f0), .int .i64 ((rd_T96 l0 a1).f1)] 96 (0, 0)) q4_2 hb); have n2_ := Aside0.mk (blk_below (g := gb150) (o := .cells #[.int .i64 t147, .bool t148, .bool t149] 92 (0, 0)) q4_3 hb); have n3_ := Aside0.mk (below_step q4_0 hb); have n4_ := Aside0.mk (hbox); have n5_ := Aside0.mk ((by rw [hg]; exact (below_size q4_0) : w.heap.size ≤ gb158)); have n6_ := Aside0.mk ((by rw [hg]; exact (below_size q4_0) : w.heap.size ≤ gb158)); have n7_ := Aside0.mk ((by rw [hg]; exact Nat.ne_of_lt (blk_lt (g := gb143) (o := .cells #[.int .i64 x144000_26, .bool x144001_26, .bool x144002_26] 92 (0, 0)) q4_1) : gb143 ≠ gb158)); have n8_ := Aside0.mk ((by rw [hg]; exact Nat.ne_of_gt (blk_lt (g := gb143) (o := .cells #[.int .i64 x144000_26, .bool x144001_26, .bool x144002_26] 92 (0, 0)) q4_1) : gb158 ≠ gb143)); have n9_ := Aside0.mk ((by rw [hg]; exact Nat.ne_of_lt (blk_lt (g := gb145) (o := .cells #[.int .u8 ((rd_T96 l0 a1).f0), .int .i64 ((rd_T96 l0 a1).f1)] 96 (0, 0)) q4_2) : gb145 ≠ gb158)); have n10_ := Aside0.mk ((by rw [hg]; exact Nat.ne_of_gt (blk_lt (g := gb145) (o := .cells #[.int .u8 ((rd_T96 l0 a1).f0), .int .i64 ((rd_T96 l0 a1).f1)] 96 (0, 0)) q4_2) : gb158 ≠ gb145)); have n11_ := Aside0.mk ((by rw [hg]; exact Nat.ne_of_lt (blk_lt (g := gb150) (o := .cells #[.int .i64 t147, .bool t148, .bool t149] 92 (0, 0)) q4_3) : gb150 ≠ gb158)); have n12_ := Aside0.mk ((by rw [hg]; exact Nat.ne_of_gt (blk_lt (g := gb150) (o := .cells #[.int .i64 t147, .bool t148, .bool t149] 92 (0, 0)) q4_3) : gb158 ≠ gb150)); clear BK143; clear BK145; clear BK150; clear HB; have BK143 := n0_; have BK145 := n1_; have BK150 := n2_; have HB := n3_; have BK158 := n4_; have GW158 := n5_; have GE158 := n6_; have NB143_158 := n7_; have NB158_143 := n8_; have NB145_158 := n9_; have NB158_145 := n10_; have NB150_158 := n11_; have NB158_150 := n12_; clear n0_ n1_ n2_ n3_ n4_ n5_ n6_ n7_ n8_ n9_ n10_ n11_ n12_; clear hb hbox hg; have hnb103 := NB158_143.out; have hnc103 := NB143_158.out; have hnb104 := NB158_145.out; have hnc104 := NB145_158.out; have hnb105 := NB158_150.out; have hnc105 := NB150_158.out; have hcz106_0 : w102.cell? ⟨gb158, 0, none⟩ = some (.int .i64 0) := (blk_cell BK158.out 0).trans rfl; have hcz106_1 : w102.cell? ⟨gb158, 1, none⟩ = some (.bool false) := (blk_cell BK158.out 1).trans rfl; have hcz106_2 : w102.cell? ⟨gb158, 2, none⟩ = some (.bool false) := (blk_cell BK158.out 2).trans rfl; have hfz106_0 := blk_frozen BK158.out 0; have hfz106_1 := blk_frozen BK158.out 1; have hfz106_2 := blk_frozen BK158.out 2; have hnb107 := NB143_145.out; have hnc107 := NB145_143.out; have hnb108 := NB143_150.out; have hnc108 := NB150_143.out; have hcz109_0 : w102.cell? ⟨gb143, 0, none⟩ = some (.int .i64 x144000_26) := (blk_cell BK143.out 0).trans rfl; have hcz109_1 : w102.cell? ⟨gb143, 1, none⟩ = some (.bool x144001_26) := (blk_cell BK143.out 1).trans rfl; have hcz109_2 : w102.cell? ⟨gb143, 2, none⟩ = some (.bool x144002_26) := (blk_cell BK143.out 2).trans rfl; have hfz109_0 := blk_frozen BK143.out 0; have hfz109_1 := blk_frozen BK143.out 1; have hfz109_2 := blk_frozen BK143.out 2))
         refine bodyPost_ret (results_cell_row rfl _ _ gb143 92 #[.int .i64 t155, .bool t156, .bool true] (0, 0) _ rfl q4_13 Tryd.underlying92 rfl (by kernel_rfl)) rfl ?_
         exact ⟨by first | rfl | (simp [errW_none, errW_some] <;> rfl) | (simp [*, errW_none, errW_some] <;> rfl), by repeat (first | (with_reducible first | exact HB.out | apply below_alloc | apply pw_below_drewN | apply below_drew1 | refine below_set ?_ GE143.out | refine below_set ?_ GE145.out | refine below_set ?_ GE150.out | refine below_set ?_ GE158.out) | exact HB.out)⟩
        ·
         replace c99 := Bool.eq_false_iff.mpr c99
         subst c99
         have H1 : (if ((rd_T96 l0 a1).f0) = 4 then ((expr_plus.f t147 t155).bind fun bt159 => (some (bt159.1, bt159.2.1, bt159.2.2))) else (if ((rd_T96 l0 a1).f0) = 5 then (if ((decide (t147 < 0)) != (decide (t155 < 0))) = true then (some (wrap64 (t147 - t155), false, ((decide ((wrap64 (t147 - t155)) < 0)) != (decide (t147 < 0))))) else (some (wrap64 (t147 - t155), false, false))) else (if ((rd_T96 l0 a1).f0) = 6 then ((expr_times.f kj26 t147 t155).bind fun bt162 => (some (bt162.1, bt162.2.1, bt162.2.2))) else (if ((rd_T96 l0 a1).f0) = 8 then (some (0, decide (t147 < t155), false)) else (if ((rd_T96 l0 a1).f0) = 9 then (some (0, decide (t147 ≤ t155), false)) else (if ((rd_T96 l0 a1).f0) = 10 then (some (0, (t147 == t155), false)) else (if ((rd_T96 l0 a1).f0) = 11 then (some (0, (t147 != t155), false)) else (some (t155, t156, false))))))))) = some (r1, r2, r3) := by rw [if_neg (show ¬ (false = true) by decide)] at H; exact H
         clear H
         have H := H1
         clear H1
         by_cases c110 : ((rd_T96 l0 a1).f0) = 4
         ·
          rw [if_pos c110] at H
          have c110b0 : (((rd_T96 l0 a1).f0) == 4) = true := beq_iff_eq.mpr c110
          have c110b1 : (((rd_T96 l0 a1).f0) != 4) = false := bne_eq_false_iff_eq.mpr c110
          clear c110
          replace H := Option.bind_eq_some_iff.mp H
          obtain ⟨⟨t159, t160, t161⟩, A1110, H⟩ := H
          replace H : (some (t159, t160, t161)) = some (r1, r2, r3) := H
          have A111 := Aside0.mk A1110
          clear A1110
          simp only [Option.some.injEq, Prod.mk.injEq] at H
          obtain ⟨rfl, rfl, rfl⟩ := H
          go_wp2_with (first | ((with_reducible refine gate_callee (f := 101) rfl ?_); refine goesL_ (some 80) rfl rfl Tryd.func101 (by kernel_rfl) rfl #[.slice (some ad144) l0.length c0, .int .i64 (wrap64 (a1 + 1))] rfl q4_6 ?_; (with_reducible refine (expr_End.calls kj26 _ _ l0 (wrap64 (a1 + 1)) t154 _ ?side3 ?side1 ?side2 A97.out).mono ?_); (case side1 => exact q4_4); (case side2 => exact HC0.out); (case side3 => exact q4_5); rintro e w112 ⟨rfl, hb⟩; refine ⟨_, rfl, ?_⟩; have n0_ := Aside0.mk (blk_below (g := gb143) (o := .cells #[.int .i64 x144000_26, .bool x144001_26, .bool x144002_26] 92 (0, 0)) q4_1 hb); have n1_ := Aside0.mk (blk_below (g := gb145) (o := .cells #[.int .u8 ((rd_T96 l0 a1).f0), .int .i64 ((rd_T96 l0 a1).f1)] 96 (0, 0)) q4_2 hb); have n2_ := Aside0.mk (blk_below (g := gb150) (o := .cells #[.int .i64 t147, .bool t148, .bool t149] 92 (0, 0)) q4_3 hb); have n3_ := Aside0.mk (below_step q4_0 hb); clear BK143; clear BK145; clear BK150; clear HB; have BK143 := n0_; have BK145 := n1_; have BK150 := n2_; have HB := n3_; clear n0_ n1_ n2_ n3_; (try clear hb); (try clear hb2); (try clear hk); (try clear hi)) | ((with_reducible refine gate_callee (f := 41) rfl ?_); refine goesL_ (some 82) rfl rfl Tryd.func41 (by kernel_rfl) rfl #[.slice (some ad144) l0.length c0, .int .i64 t154, .slice A2 l2.length c2] rfl q4_6 ?_; (with_reducible refine (ih kj26 (by have := HJ26.out; omega) _ _ l0 t154 _ _ l2 t155 t156 false _ ?side5 ?side1 ?side2 ?side3 ?side4 A98.out).mono ?_); (case side1 => exact q4_4); (case side2 => exact HC0.out); (case side3 => exact q4_8); (case side4 => exact HC2.out); (case side5 => exact q4_5); rintro e w113 ⟨rfl, hb⟩; refine ⟨_, rfl, ?_⟩; have n0_ := Aside0.mk (blk_below (g := gb143) (o := .cells #[.int .i64 x144000_26, .bool x144001_26, .bool x144002_26] 92 (0, 0)) q4_1 hb); have n1_ := Aside0.mk (blk_below (g := gb145) (o := .cells #[.int .u8 ((rd_T96 l0 a1).f0), .int .i64 ((rd_T96 l0 a1).f1)] 96 (0, 0)) q4_2 hb); have n2_ := Aside0.mk (blk_below (g := gb150) (o := .cells #[.int .i64 t147, .bool t148, .bool t149] 92 (0, 0)) q4_3 hb); have n3_ := Aside0.mk (below_step q4_0 hb); clear BK143; clear BK145; clear BK150; clear HB; have BK143 := n0_; have BK145 := n1_; have BK150 := n2_; have HB := n3_; clear n0_ n1_ n2_ n3_; (try clear hb); (try clear hb2); (try clear hk); (try clear hi)) | ((with_reducible refine gate_dst (N := 9) rfl ?_); refine box_event ?hg (N := 9) ?hd (cs := #[.int .i64 0, .bool false, .bool false]) (t := 92) ?hr ?_; (case hd => rfl); (case hg => rfl); (case hr => exact q4_15); intro gb158 hg w114 hbox hb; have n0_ := Aside0.mk (blk_below (g := gb143) (o := .cells #[.int .i64 x144000_26, .bool x144001_26, .bool x144002_26] 92 (0, 0)) q4_1 hb); have n1_ := Aside0.mk (blk_below (g := gb145) (o := .cells #[.int .u8 ((rd_T96 l0 a1).f0), .int .i64 ((rd_T96 l0 a1).f1)] 96 (0, 0)) q4_2 hb); have n2_ := Aside0.mk (blk_below (g := gb150) (o := .cells #[.int .i64 t147, .bool t148, .bool t149] 92 (0, 0)) q4_3 hb); have n3_ := Aside0.mk (below_step q4_0 hb); have n4_ := Aside0.mk (hbox); have n5_ := Aside0.mk ((by rw [hg]; exact (below_size q4_0) : w.heap.size ≤ gb158)); have n6_ := Aside0.mk ((by rw [hg]; exact (below_size q4_0) : w.heap.size ≤ gb158)); have n7_ := Aside0.mk ((by rw [hg]; exact Nat.ne_of_lt (blk_lt (g := gb143) (o := .cells #[.int .i64 x144000_26, .bool x144001_26, .bool x144002_26] 92 (0, 0)) q4_1) : gb143 ≠ gb158)); have n8_ := Aside0.mk ((by rw [hg]; exact Nat.ne_of_gt (blk_lt (g := gb143) (o := .cells #[.int .i64 x144000_26, .bool x144001_26, .bool x144002_26] 92 (0, 0)) q4_1) : gb158 ≠ gb143)); have n9_ := Aside0.mk ((by rw [hg]; exact Nat.ne_of_lt (blk_lt (g := gb145) (o := .cells #[.int .u8 ((rd_T96 l0 a1).f0), .int .i64 ((rd_T96 l0 a1).f1)] 96 (0, 0)) q4_2) : gb145 ≠ gb158)); have n10_ := Aside0.mk ((by rw [hg]; exact Nat.ne_of_gt (blk_lt (g := gb145) (o := .cells #[.int .u8 ((rd_T96 l0 a1).f0), .int .i64 ((rd_T96 l0 a1).f1)] 96 (0, 0)) q4_2) : gb158 ≠ gb145)); have n11_ := Aside0.mk ((by rw [hg]; exact Nat.ne_of_lt (blk_lt (g := gb150) (o := .cells #[.int .i64 t147, .bool t148, .bool t149] 92 (0, 0)) q4_3) : gb150 ≠ gb158)); have n12_ := Aside0.mk ((by rw [hg]; exact Nat.ne_of_gt (blk_lt (g := gb150) (o := .cells #[.int .i64 t147, .bool t148, .bool t149] 92 (0, 0)) q4_3) : gb158 ≠ gb150)); clear BK143; clear BK145; clear BK150; clear HB; have BK143 := n0_; have BK145 := n1_; have BK150 := n2_; have HB := n3_; have BK158 := n4_; have GW158 := n5_; have GE158 := n6_; have NB143_158 := n7_; have NB158_143 := n8_; have NB145_158 := n9_; have NB158_145 := n10_; have NB150_158 := n11_; have NB158_150 := n12_; clear n0_ n1_ n2_ n3_ n4_ n5_ n6_ n7_ n8_ n9_ n10_ n11_ n12_; clear hb hbox hg; have hnb115 := NB158_143.out; have hnc115 := NB143_158.out; have hnb116 := NB158_145.out; have hnc116 := NB145_158.out; have hnb117 := NB158_150.out; have hnc117 := NB150_158.out; have hcz118_0 : w114.cell? ⟨gb158, 0, none⟩ = some (.int .i64 0) := (blk_cell BK158.out 0).trans rfl; have hcz118_1 : w114.cell? ⟨gb158, 1, none⟩ = some (.bool false) := (blk_cell BK158.out 1).trans rfl; have hcz118_2 : w114.cell? ⟨gb158, 2, none⟩ = some (.bool false) := (blk_cell BK158.out 2).trans rfl; have hfz118_0 := blk_frozen BK158.out 0; have hfz118_1 := blk_frozen BK158.out 1; have hfz118_2 := blk_frozen BK158.out 2; have hnb119 := NB145_143.out; have hnc119 := NB143_145.out; have hnb120 := NB145_150.out; have hnc120 := NB150_145.out; have hcz121_0 : w114.cell? ⟨gb145, 0, none⟩ = some (.int .u8 ((rd_T96 l0 a1).f0)) := (blk_cell BK145.out 0).trans rfl; have hcz121_1 : w114.cell? ⟨gb145, 1, none⟩ = some (.int .i64 ((rd_T96 l0 a1).f1)) := (blk_cell BK145.out 1).trans rfl; have hfz121_0 := blk_frozen BK145.out 0; have hfz121_1 := blk_frozen BK145.out 1; have hnb122 := NB150_143.out; have hnc122 := NB143_150.out; have hcz123_0 : w114.cell? ⟨gb150, 0, none⟩ = some (.int .i64 t147) := (blk_cell BK150.out 0).trans rfl; have hcz123_1 : w114.cell? ⟨gb150, 1, none⟩ = some (.bool t148) := (blk_cell BK150.out 1).trans rfl; have hcz123_2 : w114.cell? ⟨gb150, 2, none⟩ = some (.bool t149) := (blk_cell BK150.out 2).trans rfl; have hfz123_0 := blk_frozen BK150.out 0; have hfz123_1 := blk_frozen BK150.out 1; have hfz123_2 := blk_frozen BK150.out 2) | ((with_reducible refine gate_callee (f := 104) rfl ?_); refine goesL_ (some 94) rfl rfl Tryd.func104 (by kernel_rfl) rfl #[.int .i64 t147, .int .i64 t155] rfl q4_6 ?_; (with_reducible refine (expr_plus.calls t147 t155 t159 t160 t161 _ A111.out).mono ?_); rintro e w124 ⟨rfl, hb⟩; refine ⟨_, rfl, ?_⟩; have n0_ := Aside0.mk (blk_below (g := gb143) (o := .cells #[.int .i64 x144000_26, .bool x144001_26, .bool x144002_26] 92 (0, 0)) q4_20 hb); have n1_ := Aside0.mk (blk_below (g := gb145) (o := .cells #[.int .u8 ((rd_T96 l0 a1).f0), .int .i64 ((rd_T96 l0 a1).f1)] 96 (0, 0)) q4_17 hb); have n2_ := Aside0.mk (blk_below (g := gb150) (o := .cells #[.int .i64 t147, .bool t148, .bool t149] 92 (0, 0)) q4_16 hb); have n3_ := Aside0.mk (blk_below (g := gb158) (o := .cells #[.int .i64 t155, .bool t156, .bool false] 92 (0, 0)) q4_11 hb); have n4_ := Aside0.mk (below_step q4_19 hb); clear BK143; clear BK145; clear BK150; clear BK158; clear HB; have BK143 := n0_; have BK145 := n1_; have BK150 := n2_; have BK158 := n3_; have HB := n4_; clear n0_ n1_ n2_ n3_ n4_; (try clear hb); (try clear hb2); (try clear hk); (try clear hi); have hcz125_0 : w124.cell? ⟨gb143, 0, none⟩ = some (.int .i64 x144000_26) := (blk_cell BK143.out 0).trans rfl; have hcz125_1 : w124.cell? ⟨gb143, 1, none⟩ = some (.bool x144001_26) := (blk_cell BK143.out 1).trans rfl; have hcz125_2 : w124.cell? ⟨gb143, 2, none⟩ = some (.bool x144002_26) := (blk_cell BK143.out 2).trans rfl; have hfz125_0 := blk_frozen BK143.out 0; have hfz125_1 := blk_frozen BK143.out 1; have hfz125_2 := blk_frozen BK143.out 2))
          refine bodyPost_ret (results_cell_row rfl _ _ gb143 92 #[.int .i64 t159, .bool t160, .bool t161] (0, 0) _ rfl (by (with_reducible repeat (first | refine blk_drewN ?_ _ | refine blk_drew ?_ | refine blk_alloc ?_ _)); refine blk_put (cs := #[.int .i64 t159, .bool t160, .bool x144002_26]) ?_ 2 _ rfl; (with_reducible repeat (first | refine blk_drewN ?_ _ | refine blk_drew ?_ | refine blk_alloc ?_ _)); refine blk_put (cs := #[.int .i64 t159, .bool x144001_26, .bool x144002_26]) ?_ 1 _ rfl; (with_reducible repeat (first | refine blk_drewN ?_ _ | refine blk_drew ?_ | refine blk_alloc ?_ _)); refine blk_put (cs := #[.int .i64 x144000_26, .bool x144001_26, .bool x144002_26]) ?_ 0 _ rfl; (with_reducible repeat (first | refine blk_drewN ?_ _ | refine blk_drew ?_ | refine blk_alloc ?_ _)); exact BK143.out) Tryd.underlying92 rfl (by kernel_rfl)) rfl ?_
          exact ⟨by first | rfl | (simp [errW_none, errW_some] <;> rfl) | (simp [*, errW_none, errW_some] <;> rfl), by repeat (first | (with_reducible first | exact HB.out | apply below_alloc | apply pw_below_drewN | apply below_drew1 | refine below_set ?_ GE143.out | refine below_set ?_ GE145.out | refine below_set ?_ GE150.out | refine below_set ?_ GE158.out) | exact HB.out)⟩
         ·
          rw [if_neg c110] at H
          have c110b0 : (((rd_T96 l0 a1).f0) == 4) = false := beq_eq_false_iff_ne.mpr c110
          have c110b1 : (((rd_T96 l0 a1).f0) != 4) = true := bne_iff_ne.mpr c110
          by_cases c126 : ((rd_T96 l0 a1).f0) = 5
          ·
           rw [if_pos c126] at H
           have c126b0 : (((rd_T96 l0 a1).f0) == 5) = true := beq_iff_eq.mpr c126
           have c126b1 : (((rd_T96 l0 a1).f0) != 5) = false := bne_eq_false_iff_eq.mpr c126
           clear c126
           by_cases c127 : ((decide (t147 < 0)) != (decide (t155 < 0))) = true
           ·
            rw [if_pos c127] at H
            have c127b0 : ((decide (t147 < 0)) != (decide (t155 < 0))) = true := c127
            (try (have c127b1 : decide ((decide (t147 < 0)) = (decide (t155 < 0))) = false := by simpa using c127))
            (try (have c127b2 : ((decide (t147 < 0)) == (decide (t155 < 0))) = false := by simpa using c127))
            (try (have c127b3 : ¬ ((decide (t147 < 0)) = (decide (t155 < 0))) := by simpa using c127))
            clear c127
            simp only [Option.some.injEq, Prod.mk.injEq] at H
            obtain ⟨rfl, rfl, rfl⟩ := H
            go_wp2_with (first | ((with_reducible refine gate_callee (f := 101) rfl ?_); refine goesL_ (some 80) rfl rfl Tryd.func101 (by kernel_rfl) rfl #[.slice (some ad144) l0.length c0, .int .i64 (wrap64 (a1 + 1))] rfl q4_6 ?_; (with_reducible refine (expr_End.calls kj26 _ _ l0 (wrap64 (a1 + 1)) t154 _ ?side3 ?side1 ?side2 A97.out).mono ?_); (case side1 => exact q4_4); (case side2 => exact HC0.out); (case side3 => exact q4_5); rintro e w128 ⟨rfl, hb⟩; refine ⟨_, rfl, ?_⟩; have n0_ := Aside0.mk (blk_below (g := gb143) (o := .cells #[.int .i64 x144000_26, .bool x144001_26, .bool x144002_26] 92 (0, 0)) q4_1 hb); have n1_ := Aside0.mk (blk_below (g := gb145) (o := .cells #[.int .u8 ((rd_T96 l0 a1).f0), .int .i64 ((rd_T96 l0 a1).f1)] 96 (0, 0)) q4_2 hb); have n2_ := Aside0.mk (blk_below (g := gb150) (o := .cells #[.int .i64 t147, .bool t148, .bool t149] 92 (0, 0)) q4_3 hb); have n3_ := Aside0.mk (below_step q4_0 hb); clear BK143; clear BK145; clear BK150; clear HB; have BK143 := n0_; have BK145 := n1_; have BK150 := n2_; have HB := n3_; clear n0_ n1_ n2_ n3_; (try clear hb); (try clear hb2); (try clear hk); (try clear hi)) | ((with_reducible refine gate_callee (f := 41) rfl ?_); refine goesL_ (some 82) rfl rfl Tryd.func41 (by kernel_rfl) rfl #[.slice (some ad144) l0.length c0, .int .i64 t154, .slice A2 l2.length c2] rfl q4_6 ?_; (with_reducible refine (ih kj26 (by have := HJ26.out; omega) _ _ l0 t154 _ _ l2 t155 t156 false _ ?side5 ?side1 ?side2 ?side3 ?side4 A98.out).mono ?_); (case side1 => exact q4_4); (case side2 => exact HC0.out); (case side3 => exact q4_8); (case side4 => exact HC2.out); (case side5 => exact q4_5); rintro e w129 ⟨rfl, hb⟩; refine ⟨_, rfl, ?_⟩; have n0_ := Aside0.mk (blk_below (g := gb143) (o := .cells #[.int .i64 x144000_26, .bool x144001_26, .bool x144002_26] 92 (0, 0)) q4_1 hb); have n1_ := Aside0.mk (blk_below (g := gb145) (o := .cells #[.int .u8 ((rd_T96 l0 a1).f0), .int .i64 ((rd_T96 l0 a1).f1)] 96 (0, 0)) q4_2 hb); have n2_ := Aside0.mk (blk_below (g := gb150) (o := .cells #[.int .i64 t147, .bool t148, .bool t149] 92 (0, 0)) q4_3 hb); have n3_ := Aside0.mk (below_step q4_0 hb); clear BK143; clear BK145; clear BK150; clear HB; have BK143 := n0_; have BK145 := n1_; have BK150 := n2_; have HB := n3_; clear n0_ n1_ n2_ n3_; (try clear hb); (try clear hb2); (try clear hk); (try clear hi)) | ((with_reducible refine gate_dst (N := 9) rfl ?_); refine box_event ?hg (N := 9) ?hd (cs := #[.int .i64 0, .bool false, .bool false]) (t := 92) ?hr ?_; (case hd => rfl); (case hg => rfl); (case hr => exact q4_15); intro gb158 hg w130 hbox hb; have n0_ := Aside0.mk (blk_below (g := gb143) (o := .cells #[.int .i64 x144000_26, .bool x144001_26, .bool x144002_26] 92 (0, 0)) q4_1 hb); have n1_ := Aside0.mk (blk_below (g := gb145) (o := .cells #[.int .u8 ((rd_T96 l0 a1).f0), .int .i64 ((rd_T96 l0 a1).f1)] 96 (0, 0)) q4_2 hb); have n2_ := Aside0.mk (blk_below (g := gb150) (o := .cells #[.int .i64 t147, .bool t148, .bool t149] 92 (0, 0)) q4_3 hb); have n3_ := Aside0.mk (below_step q4_0 hb); have n4_ := Aside0.mk (hbox); have n5_ := Aside0.mk ((by rw [hg]; exact (below_size q4_0) : w.heap.size ≤ gb158)); have n6_ := Aside0.mk ((by rw [hg]; exact (below_size q4_0) : w.heap.size ≤ gb158)); have n7_ := Aside0.mk ((by rw [hg]; exact Nat.ne_of_lt (blk_lt (g := gb143) (o := .cells #[.int .i64 x144000_26, .bool x144001_26, .bool x144002_26] 92 (0, 0)) q4_1) : gb143 ≠ gb158)); have n8_ := Aside0.mk ((by rw [hg]; exact Nat.ne_of_gt (blk_lt (g := gb143) (o := .cells #[.int .i64 x144000_26, .bool x144001_26, .bool x144002_26] 92 (0, 0)) q4_1) : gb158 ≠ gb143)); have n9_ := Aside0.mk ((by rw [hg]; exact Nat.ne_of_lt (blk_lt (g := gb145) (o := .cells #[.int .u8 ((rd_T96 l0 a1).f0), .int .i64 ((rd_T96 l0 a1).f1)] 96 (0, 0)) q4_2) : gb145 ≠ gb158)); have n10_ := Aside0.mk ((by rw [hg]; exact Nat.ne_of_gt (blk_lt (g := gb145) (o := .cells #[.int .u8 ((rd_T96 l0 a1).f0), .int .i64 ((rd_T96 l0 a1).f1)] 96 (0, 0)) q4_2) : gb158 ≠ gb145)); have n11_ := Aside0.mk ((by rw [hg]; exact Nat.ne_of_lt (blk_lt (g := gb150) (o := .cells #[.int .i64 t147, .bool t148, .bool t149] 92 (0, 0)) q4_3) : gb150 ≠ gb158)); have n12_ := Aside0.mk ((by rw [hg]; exact Nat.ne_of_gt (blk_lt (g := gb150) (o := .cells #[.int .i64 t147, .bool t148, .bool t149] 92 (0, 0)) q4_3) : gb158 ≠ gb150)); clear BK143; clear BK145; clear BK150; clear HB; have BK143 := n0_; have BK145 := n1_; have BK150 := n2_; have HB := n3_; have BK158 := n4_; have GW158 := n5_; have GE158 := n6_; have NB143_158 := n7_; have NB158_143 := n8_; have NB145_158 := n9_; have NB158_145 := n10_; have NB150_158 := n11_; have NB158_150 := n12_; clear n0_ n1_ n2_ n3_ n4_ n5_ n6_ n7_ n8_ n9_ n10_ n11_ n12_; clear hb hbox hg; have hnb131 := NB158_143.out; have hnc131 := NB143_158.out; have hnb132 := NB158_145.out; have hnc132 := NB145_158.out; have hnb133 := NB158_150.out; have hnc133 := NB150_158.out; have hcz134_0 : w130.cell? ⟨gb158, 0, none⟩ = some (.int .i64 0) := (blk_cell BK158.out 0).trans rfl; have hcz134_1 : w130.cell? ⟨gb158, 1, none⟩ = some (.bool false) := (blk_cell BK158.out 1).trans rfl; have hcz134_2 : w130.cell? ⟨gb158, 2, none⟩ = some (.bool false) := (blk_cell BK158.out 2).trans rfl; have hfz134_0 := blk_frozen BK158.out 0; have hfz134_1 := blk_frozen BK158.out 1; have hfz134_2 := blk_frozen BK158.out 2; have hnb135 := NB145_143.out; have hnc135 := NB143_145.out; have hnb136 := NB145_150.out; have hnc136 := NB150_145.out; have hcz137_0 : w130.cell? ⟨gb145, 0, none⟩ = some (.int .u8 ((rd_T96 l0 a1).f0)) := (blk_cell BK145.out 0).trans rfl; have hcz137_1 : w130.cell? ⟨gb145, 1, none⟩ = some (.int .i64 ((rd_T96 l0 a1).f1)) := (blk_cell BK145.out 1).trans rfl; have hfz137_0 := blk_frozen BK145.out 0; have hfz137_1 := blk_frozen BK145.out 1; have hnb138 := NB150_143.out; have hnc138 := NB143_150.out; have hcz139_0 : w130.cell? ⟨gb150, 0, none⟩ = some (.int .i64 t147) := (blk_cell BK150.out 0).trans rfl; have hcz139_1 : w130.cell? ⟨gb150, 1, none⟩ = some (.bool t148) := (blk_cell BK150.out 1).trans rfl; have hcz139_2 : w130.cell? ⟨gb150, 2, none⟩ = some (.bool t149) := (blk_cell BK150.out 2).trans rfl; have hfz139_0 := blk_frozen BK150.out 0; have hfz139_1 := blk_frozen BK150.out 1; have hfz139_2 := blk_frozen BK150.out 2; have hcz140_0 : w130.cell? ⟨gb143, 0, none⟩ = some (.int .i64 x144000_26) := (blk_cell BK143.out 0).trans rfl; have hcz140_1 : w130.cell? ⟨gb143, 1, none⟩ = some (.bool x144001_26) := (blk_cell BK143.out 1).trans rfl; have hcz140_2 : w130.cell? ⟨gb143, 2, none⟩ = some (.bool x144002_26) := (blk_cell BK143.out 2).trans rfl; have hfz140_0 := blk_frozen BK143.out 0; have hfz140_1 := blk_frozen BK143.out 1; have hfz140_2 := blk_frozen BK143.out 2))
            refine bodyPost_ret (results_cell_row rfl _ _ gb143 92 #[.int .i64 (wrap64 (t147 - t155)), .bool false, .bool ((decide ((wrap64 (t147 - t155)) < 0)) != (decide (t147 < 0)))] (0, 0) _ rfl q4_12 Tryd.underlying92 rfl (by kernel_rfl)) rfl ?_
            exact ⟨by first | rfl | (simp [errW_none, errW_some] <;> rfl) | (simp [*, errW_none, errW_some] <;> rfl), by repeat (first | (with_reducible first | exact HB.out | apply below_alloc | apply pw_below_drewN | apply below_drew1 | refine below_set ?_ GE143.out | refine below_set ?_ GE145.out | refine below_set ?_ GE150.out | refine below_set ?_ GE158.out) | exact HB.out)⟩
           ·
            rw [if_neg c127] at H
            have c127b0 : ((decide (t147 < 0)) != (decide (t155 < 0))) = false := by simpa using c127
            (try (have c127b1 : decide ((decide (t147 < 0)) = (decide (t155 < 0))) = true := by simpa using c127))
            (try (have c127b2 : ((decide (t147 < 0)) == (decide (t155 < 0))) = true := by simpa using c127))
            clear c127
            simp only [Option.some.injEq, Prod.mk.injEq] at H
            obtain ⟨rfl, rfl, rfl⟩ := H
            go_wp2_with (first | ((with_reducible refine gate_callee (f := 101) rfl ?_); refine goesL_ (some 80) rfl rfl Tryd.func101 (by kernel_rfl) rfl #[.slice (some ad144) l0.length c0, .int .i64 (wrap64 (a1 + 1))] rfl q4_6 ?_; (with_reducible refine (expr_End.calls kj26 _ _ l0 (wrap64 (a1 + 1)) t154 _ ?side3 ?side1 ?side2 A97.out).mono ?_); (case side1 => exact q4_4); (case side2 => exact HC0.out); (case side3 => exact q4_5); rintro e w141 ⟨rfl, hb⟩; refine ⟨_, rfl, ?_⟩; have n0_ := Aside0.mk (blk_below (g := gb143) (o := .cells #[.int .i64 x144000_26, .bool x144001_26, .bool x144002_26] 92 (0, 0)) q4_1 hb); have n1_ := Aside0.mk (blk_below (g := gb145) (o := .cells #[.int .u8 ((rd_T96 l0 a1).f0), .int .i64 ((rd_T96 l0 a1).f1)] 96 (0, 0)) q4_2 hb); have n2_ := Aside0.mk (blk_below (g := gb150) (o := .cells #[.int .i64 t147, .bool t148, .bool t149] 92 (0, 0)) q4_3 hb); have n3_ := Aside0.mk (below_step q4_0 hb); clear BK143; clear BK145; clear BK150; clear HB; have BK143 := n0_; have BK145 := n1_; have BK150 := n2_; have HB := n3_; clear n0_ n1_ n2_ n3_; (try clear hb); (try clear hb2); (try clear hk); (try clear hi)) | ((with_reducible refine gate_callee (f := 41) rfl ?_); refine goesL_ (some 82) rfl rfl Tryd.func41 (by kernel_rfl) rfl #[.slice (some ad144) l0.length c0, .int .i64 t154, .slice A2 l2.length c2] rfl q4_6 ?_; (with_reducible refine (ih kj26 (by have := HJ26.out; omega) _ _ l0 t154 _ _ l2 t155 t156 false _ ?side5 ?side1 ?side2 ?side3 ?side4 A98.out).mono ?_); (case side1 => exact q4_4); (case side2 => exact HC0.out); (case side3 => exact q4_8); (case side4 => exact HC2.out); (case side5 => exact q4_5); rintro e w142 ⟨rfl, hb⟩; refine ⟨_, rfl, ?_⟩; have n0_ := Aside0.mk (blk_below (g := gb143) (o := .cells #[.int .i64 x144000_26, .bool x144001_26, .bool x144002_26] 92 (0, 0)) q4_1 hb); have n1_ := Aside0.mk (blk_below (g := gb145) (o := .cells #[.int .u8 ((rd_T96 l0 a1).f0), .int .i64 ((rd_T96 l0 a1).f1)] 96 (0, 0)) q4_2 hb); have n2_ := Aside0.mk (blk_below (g := gb150) (o := .cells #[.int .i64 t147, .bool t148, .bool t149] 92 (0, 0)) q4_3 hb); have n3_ := Aside0.mk (below_step q4_0 hb); clear BK143; clear BK145; clear BK150; clear HB; have BK143 := n0_; have BK145 := n1_; have BK150 := n2_; have HB := n3_; clear n0_ n1_ n2_ n3_; (try clear hb); (try clear hb2); (try clear hk); (try clear hi)) | ((with_reducible refine gate_dst (N := 9) rfl ?_); refine box_event ?hg (N := 9) ?hd (cs := #[.int .i64 0, .bool false, .bool false]) (t := 92) ?hr ?_; (case hd => rfl); (case hg => rfl); (case hr => exact q4_15); intro gb158 hg w143 hbox hb; have n0_ := Aside0.mk (blk_below (g := gb143) (o := .cells #[.int .i64 x144000_26, .bool x144001_26, .bool x144002_26] 92 (0, 0)) q4_1 hb); have n1_ := Aside0.mk (blk_below (g := gb145) (o := .cells #[.int .u8 ((rd_T96 l0 a1).f0), .int .i64 ((rd_T96 l0 a1).f1)] 96 (0, 0)) q4_2 hb); have n2_ := Aside0.mk (blk_below (g := gb150) (o := .cells #[.int .i64 t147, .bool t148, .bool t149] 92 (0, 0)) q4_3 hb); have n3_ := Aside0.mk (below_step q4_0 hb); have n4_ := Aside0.mk (hbox); have n5_ := Aside0.mk ((by rw [hg]; exact (below_size q4_0) : w.heap.size ≤ gb158)); have n6_ := Aside0.mk ((by rw [hg]; exact (below_size q4_0) : w.heap.size ≤ gb158)); have n7_ := Aside0.mk ((by rw [hg]; exact Nat.ne_of_lt (blk_lt (g := gb143) (o := .cells #[.int .i64 x144000_26, .bool x144001_26, .bool x144002_26] 92 (0, 0)) q4_1) : gb143 ≠ gb158)); have n8_ := Aside0.mk ((by rw [hg]; exact Nat.ne_of_gt (blk_lt (g := gb143) (o := .cells #[.int .i64 x144000_26, .bool x144001_26, .bool x144002_26] 92 (0, 0)) q4_1) : gb158 ≠ gb143)); have n9_ := Aside0.mk ((by rw [hg]; exact Nat.ne_of_lt (blk_lt (g := gb145) (o := .cells #[.int .u8 ((rd_T96 l0 a1).f0), .int .i64 ((rd_T96 l0 a1).f1)] 96 (0, 0)) q4_2) : gb145 ≠ gb158)); have n10_ := Aside0.mk ((by rw [hg]; exact Nat.ne_of_gt (blk_lt (g := gb145) (o := .cells #[.int .u8 ((rd_T96 l0 a1).f0), .int .i64 ((rd_T96 l0 a1).f1)] 96 (0, 0)) q4_2) : gb158 ≠ gb145)); have n11_ := Aside0.mk ((by rw [hg]; exact Nat.ne_of_lt (blk_lt (g := gb150) (o := .cells #[.int .i64 t147, .bool t148, .bool t149] 92 (0, 0)) q4_3) : gb150 ≠ gb158)); have n12_ := Aside0.mk ((by rw [hg]; exact Nat.ne_of_gt (blk_lt (g := gb150) (o := .cells #[.int .i64 t147, .bool t148, .bool t149] 92 (0, 0)) q4_3) : gb158 ≠ gb150)); clear BK143; clear BK145; clear BK150; clear HB; have BK143 := n0_; have BK145 := n1_; have BK150 := n2_; have HB := n3_; have BK158 := n4_; have GW158 := n5_; have GE158 := n6_; have NB143_158 := n7_; have NB158_143 := n8_; have NB145_158 := n9_; have NB158_145 := n10_; have NB150_158 := n11_; have NB158_150 := n12_; clear n0_ n1_ n2_ n3_ n4_ n5_ n6_ n7_ n8_ n9_ n10_ n11_ n12_; clear hb hbox hg; have hnb144 := NB158_143.out; have hnc144 := NB143_158.out; have hnb145 := NB158_145.out; have hnc145 := NB145_158.out; have hnb146 := NB158_150.out; have hnc146 := NB150_158.out; have hcz147_0 : w143.cell? ⟨gb158, 0, none⟩ = some (.int .i64 0) := (blk_cell BK158.out 0).trans rfl; have hcz147_1 : w143.cell? ⟨gb158, 1, none⟩ = some (.bool false) := (blk_cell BK158.out 1).trans rfl; have hcz147_2 : w143.cell? ⟨gb158, 2, none⟩ = some (.bool false) := (blk_cell BK158.out 2).trans rfl; have hfz147_0 := blk_frozen BK158.out 0; have hfz147_1 := blk_frozen BK158.out 1; have hfz147_2 := blk_frozen BK158.out 2; have hnb148 := NB145_143.out; have hnc148 := NB143_145.out; have hnb149 := NB145_150.out; have hnc149 := NB150_145.out; have hcz150_0 : w143.cell? ⟨gb145, 0, none⟩ = some (.int .u8 ((rd_T96 l0 a1).f0)) := (blk_cell BK145.out 0).trans rfl; have hcz150_1 : w143.cell? ⟨gb145, 1, none⟩ = some (.int .i64 ((rd_T96 l0 a1).f1)) := (blk_cell BK145.out 1).trans rfl; have hfz150_0 := blk_frozen BK145.out 0; have hfz150_1 := blk_frozen BK145.out 1; have hnb151 := NB150_143.out; have hnc151 := NB143_150.out; have hcz152_0 : w143.cell? ⟨gb150, 0, none⟩ = some (.int .i64 t147) := (blk_cell BK150.out 0).trans rfl; have hcz152_1 : w143.cell? ⟨gb150, 1, none⟩ = some (.bool t148) := (blk_cell BK150.out 1).trans rfl; have hcz152_2 : w143.cell? ⟨gb150, 2, none⟩ = some (.bool t149) := (blk_cell BK150.out 2).trans rfl; have hfz152_0 := blk_frozen BK150.out 0; have hfz152_1 := blk_frozen BK150.out 1; have hfz152_2 := blk_frozen BK150.out 2; have hcz153_0 : w143.cell? ⟨gb143, 0, none⟩ = some (.int .i64 x144000_26) := (blk_cell BK143.out 0).trans rfl; have hcz153_1 : w143.cell? ⟨gb143, 1, none⟩ = some (.bool x144001_26) := (blk_cell BK143.out 1).trans rfl; have hcz153_2 : w143.cell? ⟨gb143, 2, none⟩ = some (.bool x144002_26) := (blk_cell BK143.out 2).trans rfl; have hfz153_0 := blk_frozen BK143.out 0; have hfz153_1 := blk_frozen BK143.out 1; have hfz153_2 := blk_frozen BK143.out 2))
            refine bodyPost_ret (results_cell_row rfl _ _ gb143 92 #[.int .i64 (wrap64 (t147 - t155)), .bool false, .bool false] (0, 0) _ rfl q4_12 Tryd.underlying92 rfl (by kernel_rfl)) rfl ?_
            exact ⟨by first | rfl | (simp [errW_none, errW_some] <;> rfl) | (simp [*, errW_none, errW_some] <;> rfl), by repeat (first | (with_reducible first | exact HB.out | apply below_alloc | apply pw_below_drewN | apply below_drew1 | refine below_set ?_ GE143.out | refine below_set ?_ GE145.out | refine below_set ?_ GE150.out | refine below_set ?_ GE158.out) | exact HB.out)⟩
          ·
           rw [if_neg c126] at H
           have c126b0 : (((rd_T96 l0 a1).f0) == 5) = false := beq_eq_false_iff_ne.mpr c126
           have c126b1 : (((rd_T96 l0 a1).f0) != 5) = true := bne_iff_ne.mpr c126
           by_cases c154 : ((rd_T96 l0 a1).f0) = 6
           ·
            rw [if_pos c154] at H
            have c154b0 : (((rd_T96 l0 a1).f0) == 6) = true := beq_iff_eq.mpr c154
            have c154b1 : (((rd_T96 l0 a1).f0) != 6) = false := bne_eq_false_iff_eq.mpr c154
            clear c154
            replace H := Option.bind_eq_some_iff.mp H
            obtain ⟨⟨t162, t163, t164⟩, A1550, H⟩ := H
            replace H : (some (t162, t163, t164)) = some (r1, r2, r3) := H
            have A155 := Aside0.mk A1550
            clear A1550
            simp only [Option.some.injEq, Prod.mk.injEq] at H
            obtain ⟨rfl, rfl, rfl⟩ := H
            go_wp2_with (first | ((with_reducible refine gate_callee (f := 101) rfl ?_); refine goesL_ (some 80) rfl rfl Tryd.func101 (by kernel_rfl) rfl #[.slice (some ad144) l0.length c0, .int .i64 (wrap64 (a1 + 1))] rfl q4_6 ?_; (with_reducible refine (expr_End.calls kj26 _ _ l0 (wrap64 (a1 + 1)) t154 _ ?side3 ?side1 ?side2 A97.out).mono ?_); (case side1 => exact q4_4); (case side2 => exact HC0.out); (case side3 => exact q4_5); rintro e w156 ⟨rfl, hb⟩; refine ⟨_, rfl, ?_⟩; have n0_ := Aside0.mk (blk_below (g := gb143) (o := .cells #[.int .i64 x144000_26, .bool x144001_26, .bool x144002_26] 92 (0, 0)) q4_1 hb); have n1_ := Aside0.mk (blk_below (g := gb145) (o := .cells #[.int .u8 ((rd_T96 l0 a1).f0), .int .i64 ((rd_T96 l0 a1).f1)] 96 (0, 0)) q4_2 hb); have n2_ := Aside0.mk (blk_below (g := gb150) (o := .cells #[.int .i64 t147, .bool t148, .bool t149] 92 (0, 0)) q4_3 hb); have n3_ := Aside0.mk (below_step q4_0 hb); clear BK143; clear BK145; clear BK150; clear HB; have BK143 := n0_; have BK145 := n1_; have BK150 := n2_; have HB := n3_; clear n0_ n1_ n2_ n3_; (try clear hb); (try clear hb2); (try clear hk); (try clear hi)) | ((with_reducible refine gate_callee (f := 41) rfl ?_); refine goesL_ (some 82) rfl rfl Tryd.func41 (by kernel_rfl) rfl #[.slice (some ad144) l0.length c0, .int .i64 t154, .slice A2 l2.length c2] rfl q4_6 ?_; (with_reducible refine (ih kj26 (by have := HJ26.out; omega) _ _ l0 t154 _ _ l2 t155 t156 false _ ?side5 ?side1 ?side2 ?side3 ?side4 A98.out).mono ?_); (case side1 => exact q4_4); (case side2 => exact HC0.out); (case side3 => exact q4_8); (case side4 => exact HC2.out); (case side5 => exact q4_5); rintro e w157 ⟨rfl, hb⟩; refine ⟨_, rfl, ?_⟩; have n0_ := Aside0.mk (blk_below (g := gb143) (o := .cells #[.int .i64 x144000_26, .bool x144001_26, .bool x144002_26] 92 (0, 0)) q4_1 hb); have n1_ := Aside0.mk (blk_below (g := gb145) (o := .cells #[.int .u8 ((rd_T96 l0 a1).f0), .int .i64 ((rd_T96 l0 a1).f1)] 96 (0, 0)) q4_2 hb); have n2_ := Aside0.mk (blk_below (g := gb150) (o := .cells #[.int .i64 t147, .bool t148, .bool t149] 92 (0, 0)) q4_3 hb); have n3_ := Aside0.mk (below_step q4_0 hb); clear BK143; clear BK145; clear BK150; clear HB; have BK143 := n0_; have BK145 := n1_; have BK150 := n2_; have HB := n3_; clear n0_ n1_ n2_ n3_; (try clear hb); (try clear hb2); (try clear hk); (try clear hi)) | ((with_reducible refine gate_dst (N := 9) rfl ?_); refine box_event ?hg (N := 9) ?hd (cs := #[.int .i64 0, .bool false, .bool false]) (t := 92) ?hr ?_; (case hd => rfl); (case hg => rfl); (case hr => exact q4_15); intro gb158 hg w158 hbox hb; have n0_ := Aside0.mk (blk_below (g := gb143) (o := .cells #[.int .i64 x144000_26, .bool x144001_26, .bool x144002_26] 92 (0, 0)) q4_1 hb); have n1_ := Aside0.mk (blk_below (g := gb145) (o := .cells #[.int .u8 ((rd_T96 l0 a1).f0), .int .i64 ((rd_T96 l0 a1).f1)] 96 (0, 0)) q4_2 hb); have n2_ := Aside0.mk (blk_below (g := gb150) (o := .cells #[.int .i64 t147, .bool t148, .bool t149] 92 (0, 0)) q4_3 hb); have n3_ := Aside0.mk (below_step q4_0 hb); have n4_ := Aside0.mk (hbox); have n5_ := Aside0.mk ((by rw [hg]; exact (below_size q4_0) : w.heap.size ≤ gb158)); have n6_ := Aside0.mk ((by rw [hg]; exact (below_size q4_0) : w.heap.size ≤ gb158)); have n7_ := Aside0.mk ((by rw [hg]; exact Nat.ne_of_lt (blk_lt (g := gb143) (o := .cells #[.int .i64 x144000_26, .bool x144001_26, .bool x144002_26] 92 (0, 0)) q4_1) : gb143 ≠ gb158)); have n8_ := Aside0.mk ((by rw [hg]; exact Nat.ne_of_gt (blk_lt (g := gb143) (o := .cells #[.int .i64 x144000_26, .bool x144001_26, .bool x144002_26] 92 (0, 0)) q4_1) : gb158 ≠ gb143)); have n9_ := Aside0.mk ((by rw [hg]; exact Nat.ne_of_lt (blk_lt (g := gb145) (o := .cells #[.int .u8 ((rd_T96 l0 a1).f0), .int .i64 ((rd_T96 l0 a1).f1)] 96 (0, 0)) q4_2) : gb145 ≠ gb158)); have n10_ := Aside0.mk ((by rw [hg]; exact Nat.ne_of_gt (blk_lt (g := gb145) (o := .cells #[.int .u8 ((rd_T96 l0 a1).f0), .int .i64 ((rd_T96 l0 a1).f1)] 96 (0, 0)) q4_2) : gb158 ≠ gb145)); have n11_ := Aside0.mk ((by rw [hg]; exact Nat.ne_of_lt (blk_lt (g := gb150) (o := .cells #[.int .i64 t147, .bool t148, .bool t149] 92 (0, 0)) q4_3) : gb150 ≠ gb158)); have n12_ := Aside0.mk ((by rw [hg]; exact Nat.ne_of_gt (blk_lt (g := gb150) (o := .cells #[.int .i64 t147, .bool t148, .bool t149] 92 (0, 0)) q4_3) : gb158 ≠ gb150)); clear BK143; clear BK145; clear BK150; clear HB; have BK143 := n0_; have BK145 := n1_; have BK150 := n2_; have HB := n3_; have BK158 := n4_; have GW158 := n5_; have GE158 := n6_; have NB143_158 := n7_; have NB158_143 := n8_; have NB145_158 := n9_; have NB158_145 := n10_; have NB150_158 := n11_; have NB158_150 := n12_; clear n0_ n1_ n2_ n3_ n4_ n5_ n6_ n7_ n8_ n9_ n10_ n11_ n12_; clear hb hbox hg; have hnb159 := NB158_143.out; have hnc159 := NB143_158.out; have hnb160 := NB158_145.out; have hnc160 := NB145_158.out; have hnb161 := NB158_150.out; have hnc161 := NB150_158.out; have hcz162_0 : w158.cell? ⟨gb158, 0, none⟩ = some (.int .i64 0) := (blk_cell BK158.out 0).trans rfl; have hcz162_1 : w158.cell? ⟨gb158, 1, none⟩ = some (.bool false) := (blk_cell BK158.out 1).trans rfl; have hcz162_2 : w158.cell? ⟨gb158, 2, none⟩ = some (.bool false) := (blk_cell BK158.out 2).trans rfl; have hfz162_0 := blk_frozen BK158.out 0; have hfz162_1 := blk_frozen BK158.out 1; have hfz162_2 := blk_frozen BK158.out 2; have hnb163 := NB145_143.out; have hnc163 := NB143_145.out; have hnb164 := NB145_150.out; have hnc164 := NB150_145.out; have hcz165_0 : w158.cell? ⟨gb145, 0, none⟩ = some (.int .u8 ((rd_T96 l0 a1).f0)) := (blk_cell BK145.out 0).trans rfl; have hcz165_1 : w158.cell? ⟨gb145, 1, none⟩ = some (.int .i64 ((rd_T96 l0 a1).f1)) := (blk_cell BK145.out 1).trans rfl; have hfz165_0 := blk_frozen BK145.out 0; have hfz165_1 := blk_frozen BK145.out 1; have hnb166 := NB150_143.out; have hnc166 := NB143_150.out; have hcz167_0 : w158.cell? ⟨gb150, 0, none⟩ = some (.int .i64 t147) := (blk_cell BK150.out 0).trans rfl; have hcz167_1 : w158.cell? ⟨gb150, 1, none⟩ = some (.bool t148) := (blk_cell BK150.out 1).trans rfl; have hcz167_2 : w158.cell? ⟨gb150, 2, none⟩ = some (.bool t149) := (blk_cell BK150.out 2).trans rfl; have hfz167_0 := blk_frozen BK150.out 0; have hfz167_1 := blk_frozen BK150.out 1; have hfz167_2 := blk_frozen BK150.out 2) | ((with_reducible refine gate_callee (f := 105) rfl ?_); refine goesL_ (some 125) rfl rfl Tryd.func105 (by kernel_rfl) rfl #[.int .i64 t147, .int .i64 t155] rfl q4_6 ?_; (with_reducible refine (expr_times.calls kj26 t147 t155 t162 t163 t164 _ A155.out).mono ?_); rintro e w168 ⟨rfl, hb⟩; refine ⟨_, rfl, ?_⟩; have n0_ := Aside0.mk (blk_below (g := gb143) (o := .cells #[.int .i64 x144000_26, .bool x144001_26, .bool x144002_26] 92 (0, 0)) q4_20 hb); have n1_ := Aside0.mk (blk_below (g := gb145) (o := .cells #[.int .u8 ((rd_T96 l0 a1).f0), .int .i64 ((rd_T96 l0 a1).f1)] 96 (0, 0)) q4_17 hb); have n2_ := Aside0.mk (blk_below (g := gb150) (o := .cells #[.int .i64 t147, .bool t148, .bool t149] 92 (0, 0)) q4_16 hb); have n3_ := Aside0.mk (blk_below (g := gb158) (o := .cells #[.int .i64 t155, .bool t156, .bool false] 92 (0, 0)) q4_11 hb); have n4_ := Aside0.mk (below_step q4_19 hb); clear BK143; clear BK145; clear BK150; clear BK158; clear HB; have BK143 := n0_; have BK145 := n1_; have BK150 := n2_; have BK158 := n3_; have HB := n4_; clear n0_ n1_ n2_ n3_ n4_; (try clear hb); (try clear hb2); (try clear hk); (try clear hi); have hcz169_0 : w168.cell? ⟨gb143, 0, none⟩ = some (.int .i64 x144000_26) := (blk_cell BK143.out 0).trans rfl; have hcz169_1 : w168.cell? ⟨gb143, 1, none⟩ = some (.bool x144001_26) := (blk_cell BK143.out 1).trans rfl; have hcz169_2 : w168.cell? ⟨gb143, 2, none⟩ = some (.bool x144002_26) := (blk_cell BK143.out 2).trans rfl; have hfz169_0 := blk_frozen BK143.out 0; have hfz169_1 := blk_frozen BK143.out 1; have hfz169_2 := blk_frozen BK143.out 2))
            refine bodyPost_ret (results_cell_row rfl _ _ gb143 92 #[.int .i64 t162, .bool t163, .bool t164] (0, 0) _ rfl (by (with_reducible repeat (first | refine blk_drewN ?_ _ | refine blk_drew ?_ | refine blk_alloc ?_ _)); refine blk_put (cs := #[.int .i64 t162, .bool t163, .bool x144002_26]) ?_ 2 _ rfl; (with_reducible repeat (first | refine blk_drewN ?_ _ | refine blk_drew ?_ | refine blk_alloc ?_ _)); refine blk_put (cs := #[.int .i64 t162, .bool x144001_26, .bool x144002_26]) ?_ 1 _ rfl; (with_reducible repeat (first | refine blk_drewN ?_ _ | refine blk_drew ?_ | refine blk_alloc ?_ _)); refine blk_put (cs := #[.int .i64 x144000_26, .bool x144001_26, .bool x144002_26]) ?_ 0 _ rfl; (with_reducible repeat (first | refine blk_drewN ?_ _ | refine blk_drew ?_ | refine blk_alloc ?_ _)); exact BK143.out) Tryd.underlying92 rfl (by kernel_rfl)) rfl ?_
            exact ⟨by first | rfl | (simp [errW_none, errW_some] <;> rfl) | (simp [*, errW_none, errW_some] <;> rfl), by repeat (first | (with_reducible first | exact HB.out | apply below_alloc | apply pw_below_drewN | apply below_drew1 | refine below_set ?_ GE143.out | refine below_set ?_ GE145.out | refine below_set ?_ GE150.out | refine below_set ?_ GE158.out) | exact HB.out)⟩
           ·
            rw [if_neg c154] at H
            have c154b0 : (((rd_T96 l0 a1).f0) == 6) = false := beq_eq_false_iff_ne.mpr c154
            have c154b1 : (((rd_T96 l0 a1).f0) != 6) = true := bne_iff_ne.mpr c154
            by_cases c170 : ((rd_T96 l0 a1).f0) = 8
            ·
             rw [if_pos c170] at H
             have c170b0 : (((rd_T96 l0 a1).f0) == 8) = true := beq_iff_eq.mpr c170
             have c170b1 : (((rd_T96 l0 a1).f0) != 8) = false := bne_eq_false_iff_eq.mpr c170
             clear c170
             simp only [Option.some.injEq, Prod.mk.injEq] at H
             obtain ⟨rfl, rfl, rfl⟩ := H
             go_wp2_with (first | ((with_reducible refine gate_callee (f := 101) rfl ?_); refine goesL_ (some 80) rfl rfl Tryd.func101 (by kernel_rfl) rfl #[.slice (some ad144) l0.length c0, .int .i64 (wrap64 (a1 + 1))] rfl q4_6 ?_; (with_reducible refine (expr_End.calls kj26 _ _ l0 (wrap64 (a1 + 1)) t154 _ ?side3 ?side1 ?side2 A97.out).mono ?_); (case side1 => exact q4_4); (case side2 => exact HC0.out); (case side3 => exact q4_5); rintro e w171 ⟨rfl, hb⟩; refine ⟨_, rfl, ?_⟩; have n0_ := Aside0.mk (blk_below (g := gb143) (o := .cells #[.int .i64 x144000_26, .bool x144001_26, .bool x144002_26] 92 (0, 0)) q4_1 hb); have n1_ := Aside0.mk (blk_below (g := gb145) (o := .cells #[.int .u8 ((rd_T96 l0 a1).f0), .int .i64 ((rd_T96 l0 a1).f1)] 96 (0, 0)) q4_2 hb); have n2_ := Aside0.mk (blk_below (g := gb150) (o := .cells #[.int .i64 t147, .bool t148, .bool t149] 92 (0, 0)) q4_3 hb); have n3_ := Aside0.mk (below_step q4_0 hb); clear BK143; clear BK145; clear BK150; clear HB; have BK143 := n0_; have BK145 := n1_; have BK150 := n2_; have HB := n3_; clear n0_ n1_ n2_ n3_; (try clear hb); (try clear hb2); (try clear hk); (try clear hi)) | ((with_reducible refine gate_callee (f := 41) rfl ?_); refine goesL_ (some 82) rfl rfl Tryd.func41 (by kernel_rfl) rfl #[.slice (some ad144) l0.length c0, .int .i64 t154, .slice A2 l2.length c2] rfl q4_6 ?_; (with_reducible refine (ih kj26 (by have := HJ26.out; omega) _ _ l0 t154 _ _ l2 t155 t156 false _ ?side5 ?side1 ?side2 ?side3 ?side4 A98.out).mono ?_); (case side1 => exact q4_4); (case side2 => exact HC0.out); (case side3 => exact q4_8); (case side4 => exact HC2.out); (case side5 => exact q4_5); rintro e w172 ⟨rfl, hb⟩; refine ⟨_, rfl, ?_⟩; have n0_ := Aside0.mk (blk_below (g := gb143) (o := .cells #[.int .i64 x144000_26, .bool x144001_26, .bool x144002_26] 92 (0, 0)) q4_1 hb); have n1_ := Aside0.mk (blk_below (g := gb145) (o := .cells #[.int .u8 ((rd_T96 l0 a1).f0), .int .i64 ((rd_T96 l0 a1).f1)] 96 (0, 0)) q4_2 hb); have n2_ := Aside0.mk (blk_below (g := gb150) (o := .cells #[.int .i64 t147, .bool t148, .bool t149] 92 (0, 0)) q4_3 hb); have n3_ := Aside0.mk (below_step q4_0 hb); clear BK143; clear BK145; clear BK150; clear HB; have BK143 := n0_; have BK145 := n1_; have BK150 := n2_; have HB := n3_; clear n0_ n1_ n2_ n3_; (try clear hb); (try clear hb2); (try clear hk); (try clear hi)) | ((with_reducible refine gate_dst (N := 9) rfl ?_); refine box_event ?hg (N := 9) ?hd (cs := #[.int .i64 0, .bool false, .bool false]) (t := 92) ?hr ?_; (case hd => rfl); (case hg => rfl); (case hr => exact q4_15); intro gb158 hg w173 hbox hb; have n0_ := Aside0.mk (blk_below (g := gb143) (o := .cells #[.int .i64 x144000_26, .bool x144001_26, .bool x144002_26] 92 (0, 0)) q4_1 hb); have n1_ := Aside0.mk (blk_below (g := gb145) (o := .cells #[.int .u8 ((rd_T96 l0 a1).f0), .int .i64 ((rd_T96 l0 a1).f1)] 96 (0, 0)) q4_2 hb); have n2_ := Aside0.mk (blk_below (g := gb150) (o := .cells #[.int .i64 t147, .bool t148, .bool t149] 92 (0, 0)) q4_3 hb); have n3_ := Aside0.mk (below_step q4_0 hb); have n4_ := Aside0.mk (hbox); have n5_ := Aside0.mk ((by rw [hg]; exact (below_size q4_0) : w.heap.size ≤ gb158)); have n6_ := Aside0.mk ((by rw [hg]; exact (below_size q4_0) : w.heap.size ≤ gb158)); have n7_ := Aside0.mk ((by rw [hg]; exact Nat.ne_of_lt (blk_lt (g := gb143) (o := .cells #[.int .i64 x144000_26, .bool x144001_26, .bool x144002_26] 92 (0, 0)) q4_1) : gb143 ≠ gb158)); have n8_ := Aside0.mk ((by rw [hg]; exact Nat.ne_of_gt (blk_lt (g := gb143) (o := .cells #[.int .i64 x144000_26, .bool x144001_26, .bool x144002_26] 92 (0, 0)) q4_1) : gb158 ≠ gb143)); have n9_ := Aside0.mk ((by rw [hg]; exact Nat.ne_of_lt (blk_lt (g := gb145) (o := .cells #[.int .u8 ((rd_T96 l0 a1).f0), .int .i64 ((rd_T96 l0 a1).f1)] 96 (0, 0)) q4_2) : gb145 ≠ gb158)); have n10_ := Aside0.mk ((by rw [hg]; exact Nat.ne_of_gt (blk_lt (g := gb145) (o := .cells #[.int .u8 ((rd_T96 l0 a1).f0), .int .i64 ((rd_T96 l0 a1).f1)] 96 (0, 0)) q4_2) : gb158 ≠ gb145)); have n11_ := Aside0.mk ((by rw [hg]; exact Nat.ne_of_lt (blk_lt (g := gb150) (o := .cells #[.int .i64 t147, .bool t148, .bool t149] 92 (0, 0)) q4_3) : gb150 ≠ gb158)); have n12_ := Aside0.mk ((by rw [hg]; exact Nat.ne_of_gt (blk_lt (g := gb150) (o := .cells #[.int .i64 t147, .bool t148, .bool t149] 92 (0, 0)) q4_3) : gb158 ≠ gb150)); clear BK143; clear BK145; clear BK150; clear HB; have BK143 := n0_; have BK145 := n1_; have BK150 := n2_; have HB := n3_; have BK158 := n4_; have GW158 := n5_; have GE158 := n6_; have NB143_158 := n7_; have NB158_143 := n8_; have NB145_158 := n9_; have NB158_145 := n10_; have NB150_158 := n11_; have NB158_150 := n12_; clear n0_ n1_ n2_ n3_ n4_ n5_ n6_ n7_ n8_ n9_ n10_ n11_ n12_; clear hb hbox hg; have hnb174 := NB158_143.out; have hnc174 := NB143_158.out; have hnb175 := NB158_145.out; have hnc175 := NB145_158.out; have hnb176 := NB158_150.out; have hnc176 := NB150_158.out; have hcz177_0 : w173.cell? ⟨gb158, 0, none⟩ = some (.int .i64 0) := (blk_cell BK158.out 0).trans rfl; have hcz177_1 : w173.cell? ⟨gb158, 1, none⟩ = some (.bool false) := (blk_cell BK158.out 1).trans rfl; have hcz177_2 : w173.cell? ⟨gb158, 2, none⟩ = some (.bool false) := (blk_cell BK158.out 2).trans rfl; have hfz177_0 := blk_frozen BK158.out 0; have hfz177_1 := blk_frozen BK158.out 1; have hfz177_2 := blk_frozen BK158.out 2; have hnb178 := NB145_143.out; have hnc178 := NB143_145.out; have hnb179 := NB145_150.out; have hnc179 := NB150_145.out; have hcz180_0 : w173.cell? ⟨gb145, 0, none⟩ = some (.int .u8 ((rd_T96 l0 a1).f0)) := (blk_cell BK145.out 0).trans rfl; have hcz180_1 : w173.cell? ⟨gb145, 1, none⟩ = some (.int .i64 ((rd_T96 l0 a1).f1)) := (blk_cell BK145.out 1).trans rfl; have hfz180_0 := blk_frozen BK145.out 0; have hfz180_1 := blk_frozen BK145.out 1; have hnb181 := NB150_143.out; have hnc181 := NB143_150.out; have hcz182_0 : w173.cell? ⟨gb150, 0, none⟩ = some (.int .i64 t147) := (blk_cell BK150.out 0).trans rfl; have hcz182_1 : w173.cell? ⟨gb150, 1, none⟩ = some (.bool t148) := (blk_cell BK150.out 1).trans rfl; have hcz182_2 : w173.cell? ⟨gb150, 2, none⟩ = some (.bool t149) := (blk_cell BK150.out 2).trans rfl; have hfz182_0 := blk_frozen BK150.out 0; have hfz182_1 := blk_frozen BK150.out 1; have hfz182_2 := blk_frozen BK150.out 2; have hcz183_0 : w173.cell? ⟨gb143, 0, none⟩ = some (.int .i64 x144000_26) := (blk_cell BK143.out 0).trans rfl; have hcz183_1 : w173.cell? ⟨gb143, 1, none⟩ = some (.bool x144001_26) := (blk_cell BK143.out 1).trans rfl; have hcz183_2 : w173.cell? ⟨gb143, 2, none⟩ = some (.bool x144002_26) := (blk_cell BK143.out 2).trans rfl; have hfz183_0 := blk_frozen BK143.out 0; have hfz183_1 := blk_frozen BK143.out 1; have hfz183_2 := blk_frozen BK143.out 2))
             refine bodyPost_ret (results_cell_row rfl _ _ gb143 92 #[.int .i64 0, .bool (decide (t147 < t155)), .bool false] (0, 0) _ rfl (by (with_reducible repeat (first | refine blk_drewN ?_ _ | refine blk_drew ?_ | refine blk_alloc ?_ _)); refine blk_put (cs := #[.int .i64 0, .bool (decide (t147 < t155)), .bool x144002_26]) ?_ 2 _ rfl; (with_reducible repeat (first | refine blk_drewN ?_ _ | refine blk_drew ?_ | refine blk_alloc ?_ _)); refine blk_put (cs := #[.int .i64 0, .bool x144001_26, .bool x144002_26]) ?_ 1 _ rfl; (with_reducible repeat (first | refine blk_drewN ?_ _ | refine blk_drew ?_ | refine blk_alloc ?_ _)); refine blk_put (cs := #[.int .i64 x144000_26, .bool x144001_26, .bool x144002_26]) ?_ 0 _ rfl; (with_reducible repeat (first | refine blk_drewN ?_ _ | refine blk_drew ?_ | refine blk_alloc ?_ _)); refine blk_far ?_ NB143_158.out _; (with_reducible repeat (first | refine blk_drewN ?_ _ | refine blk_drew ?_ | refine blk_alloc ?_ _)); refine blk_far ?_ NB143_158.out _; (with_reducible repeat (first | refine blk_drewN ?_ _ | refine blk_drew ?_ | refine blk_alloc ?_ _)); refine blk_far ?_ NB143_158.out _; (with_reducible repeat (first | refine blk_drewN ?_ _ | refine blk_drew ?_ | refine blk_alloc ?_ _)); exact BK143.out) Tryd.underlying92 rfl (by kernel_rfl)) rfl ?_
             exact ⟨by first | rfl | (simp [errW_none, errW_some] <;> rfl) | (simp [*, errW_none, errW_some] <;> rfl), by repeat (first | (with_reducible first | exact HB.out | apply below_alloc | apply pw_below_drewN | apply below_drew1 | refine below_set ?_ GE143.out | refine below_set ?_ GE145.out | refine below_set ?_ GE150.out | refine below_set ?_ GE158.out) | exact HB.out)⟩
            ·
             rw [if_neg c170] at H
             have c170b0 : (((rd_T96 l0 a1).f0) == 8) = false := beq_eq_false_iff_ne.mpr c170
             have c170b1 : (((rd_T96 l0 a1).f0) != 8) = true := bne_iff_ne.mpr c170
             by_cases c184 : ((rd_T96 l0 a1).f0) = 9
             ·
              rw [if_pos c184] at H
              have c184b0 : (((rd_T96 l0 a1).f0) == 9) = true := beq_iff_eq.mpr c184
              have c184b1 : (((rd_T96 l0 a1).f0) != 9) = false := bne_eq_false_iff_eq.mpr c184
              clear c184
              simp only [Option.some.injEq, Prod.mk.injEq] at H
              obtain ⟨rfl, rfl, rfl⟩ := H
              go_wp2_with (first | ((with_reducible refine gate_callee (f := 101) rfl ?_); refine goesL_ (some 80) rfl rfl Tryd.func101 (by kernel_rfl) rfl #[.slice (some ad144) l0.length c0, .int .i64 (wrap64 (a1 + 1))] rfl q4_6 ?_; (with_reducible refine (expr_End.calls kj26 _ _ l0 (wrap64 (a1 + 1)) t154 _ ?side3 ?side1 ?side2 A97.out).mono ?_); (case side1 => exact q4_4); (case side2 => exact HC0.out); (case side3 => exact q4_5); rintro e w185 ⟨rfl, hb⟩; refine ⟨_, rfl, ?_⟩; have n0_ := Aside0.mk (blk_below (g := gb143) (o := .cells #[.int .i64 x144000_26, .bool x144001_26, .bool x144002_26] 92 (0, 0)) q4_1 hb); have n1_ := Aside0.mk (blk_below (g := gb145) (o := .cells #[.int .u8 ((rd_T96 l0 a1).f0), .int .i64 ((rd_T96 l0 a1).f1)] 96 (0, 0)) q4_2 hb); have n2_ := Aside0.mk (blk_below (g := gb150) (o := .cells #[.int .i64 t147, .bool t148, .bool t149] 92 (0, 0)) q4_3 hb); have n3_ := Aside0.mk (below_step q4_0 hb); clear BK143; clear BK145; clear BK150; clear HB; have BK143 := n0_; have BK145 := n1_; have BK150 := n2_; have HB := n3_; clear n0_ n1_ n2_ n3_; (try clear hb); (try clear hb2); (try clear hk); (try clear hi)) | ((with_reducible refine gate_callee (f := 41) rfl ?_); refine goesL_ (some 82) rfl rfl Tryd.func41 (by kernel_rfl) rfl #[.slice (some ad144) l0.length c0, .int .i64 t154, .slice A2 l2.length c2] rfl q4_6 ?_; (with_reducible refine (ih kj26 (by have := HJ26.out; omega) _ _ l0 t154 _ _ l2 t155 t156 false _ ?side5 ?side1 ?side2 ?side3 ?side4 A98.out).mono ?_); (case side1 => exact q4_4); (case side2 => exact HC0.out); (case side3 => exact q4_8); (case side4 => exact HC2.out); (case side5 => exact q4_5); rintro e w186 ⟨rfl, hb⟩; refine ⟨_, rfl, ?_⟩; have n0_ := Aside0.mk (blk_below (g := gb143) (o := .cells #[.int .i64 x144000_26, .bool x144001_26, .bool x144002_26] 92 (0, 0)) q4_1 hb); have n1_ := Aside0.mk (blk_below (g := gb145) (o := .cells #[.int .u8 ((rd_T96 l0 a1).f0), .int .i64 ((rd_T96 l0 a1).f1)] 96 (0, 0)) q4_2 hb); have n2_ := Aside0.mk (blk_below (g := gb150) (o := .cells #[.int .i64 t147, .bool t148, .bool t149] 92 (0, 0)) q4_3 hb); have n3_ := Aside0.mk (below_step q4_0 hb); clear BK143; clear BK145; clear BK150; clear HB; have BK143 := n0_; have BK145 := n1_; have BK150 := n2_; have HB := n3_; clear n0_ n1_ n2_ n3_; (try clear hb); (try clear hb2); (try clear hk); (try clear hi)) | ((with_reducible refine gate_dst (N := 9) rfl ?_); refine box_event ?hg (N := 9) ?hd (cs := #[.int .i64 0, .bool false, .bool false]) (t := 92) ?hr ?_; (case hd => rfl); (case hg => rfl); (case hr => exact q4_15); intro gb158 hg w187 hbox hb; have n0_ := Aside0.mk (blk_below (g := gb143) (o := .cells #[.int .i64 x144000_26, .bool x144001_26, .bool x144002_26] 92 (0, 0)) q4_1 hb); have n1_ := Aside0.mk (blk_below (g := gb145) (o := .cells #[.int .u8 ((rd_T96 l0 a1).f0), .int .i64 ((rd_T96 l0 a1).f1)] 96 (0, 0)) q4_2 hb); have n2_ := Aside0.mk (blk_below (g := gb150) (o := .cells #[.int .i64 t147, .bool t148, .bool t149] 92 (0, 0)) q4_3 hb); have n3_ := Aside0.mk (below_step q4_0 hb); have n4_ := Aside0.mk (hbox); have n5_ := Aside0.mk ((by rw [hg]; exact (below_size q4_0) : w.heap.size ≤ gb158)); have n6_ := Aside0.mk ((by rw [hg]; exact (below_size q4_0) : w.heap.size ≤ gb158)); have n7_ := Aside0.mk ((by rw [hg]; exact Nat.ne_of_lt (blk_lt (g := gb143) (o := .cells #[.int .i64 x144000_26, .bool x144001_26, .bool x144002_26] 92 (0, 0)) q4_1) : gb143 ≠ gb158)); have n8_ := Aside0.mk ((by rw [hg]; exact Nat.ne_of_gt (blk_lt (g := gb143) (o := .cells #[.int .i64 x144000_26, .bool x144001_26, .bool x144002_26] 92 (0, 0)) q4_1) : gb158 ≠ gb143)); have n9_ := Aside0.mk ((by rw [hg]; exact Nat.ne_of_lt (blk_lt (g := gb145) (o := .cells #[.int .u8 ((rd_T96 l0 a1).f0), .int .i64 ((rd_T96 l0 a1).f1)] 96 (0, 0)) q4_2) : gb145 ≠ gb158)); have n10_ := Aside0.mk ((by rw [hg]; exact Nat.ne_of_gt (blk_lt (g := gb145) (o := .cells #[.int .u8 ((rd_T96 l0 a1).f0), .int .i64 ((rd_T96 l0 a1).f1)] 96 (0, 0)) q4_2) : gb158 ≠ gb145)); have n11_ := Aside0.mk ((by rw [hg]; exact Nat.ne_of_lt (blk_lt (g := gb150) (o := .cells #[.int .i64 t147, .bool t148, .bool t149] 92 (0, 0)) q4_3) : gb150 ≠ gb158)); have n12_ := Aside0.mk ((by rw [hg]; exact Nat.ne_of_gt (blk_lt (g := gb150) (o := .cells #[.int .i64 t147, .bool t148, .bool t149] 92 (0, 0)) q4_3) : gb158 ≠ gb150)); clear BK143; clear BK145; clear BK150; clear HB; have BK143 := n0_; have BK145 := n1_; have BK150 := n2_; have HB := n3_; have BK158 := n4_; have GW158 := n5_; have GE158 := n6_; have NB143_158 := n7_; have NB158_143 := n8_; have NB145_158 := n9_; have NB158_145 := n10_; have NB150_158 := n11_; have NB158_150 := n12_; clear n0_ n1_ n2_ n3_ n4_ n5_ n6_ n7_ n8_ n9_ n10_ n11_ n12_; clear hb hbox hg; have hnb188 := NB158_143.out; have hnc188 := NB143_158.out; have hnb189 := NB158_145.out; have hnc189 := NB145_158.out; have hnb190 := NB158_150.out; have hnc190 := NB150_158.out; have hcz191_0 : w187.cell? ⟨gb158, 0, none⟩ = some (.int .i64 0) := (blk_cell BK158.out 0).trans rfl; have hcz191_1 : w187.cell? ⟨gb158, 1, none⟩ = some (.bool false) := (blk_cell BK158.out 1).trans rfl; have hcz191_2 : w187.cell? ⟨gb158, 2, none⟩ = some (.bool false) := (blk_cell BK158.out 2).trans rfl; have hfz191_0 := blk_frozen BK158.out 0; have hfz191_1 := blk_frozen BK158.out 1; have hfz191_2 := blk_frozen BK158.out 2; have hnb192 := NB145_143.out; have hnc192 := NB143_145.out; have hnb193 := NB145_150.out; have hnc193 := NB150_145.out; have hcz194_0 : w187.cell? ⟨gb145, 0, none⟩ = some (.int .u8 ((rd_T96 l0 a1).f0)) := (blk_cell BK145.out 0).trans rfl; have hcz194_1 : w187.cell? ⟨gb145, 1, none⟩ = some (.int .i64 ((rd_T96 l0 a1).f1)) := (blk_cell BK145.out 1).trans rfl; have hfz194_0 := blk_frozen BK145.out 0; have hfz194_1 := blk_frozen BK145.out 1; have hnb195 := NB150_143.out; have hnc195 := NB143_150.out; have hcz196_0 : w187.cell? ⟨gb150, 0, none⟩ = some (.int .i64 t147) := (blk_cell BK150.out 0).trans rfl; have hcz196_1 : w187.cell? ⟨gb150, 1, none⟩ = some (.bool t148) := (blk_cell BK150.out 1).trans rfl; have hcz196_2 : w187.cell? ⟨gb150, 2, none⟩ = some (.bool t149) := (blk_cell BK150.out 2).trans rfl; have hfz196_0 := blk_frozen BK150.out 0; have hfz196_1 := blk_frozen BK150.out 1; have hfz196_2 := blk_frozen BK150.out 2; have hcz197_0 : w187.cell? ⟨gb143, 0, none⟩ = some (.int .i64 x144000_26) := (blk_cell BK143.out 0).trans rfl; have hcz197_1 : w187.cell? ⟨gb143, 1, none⟩ = some (.bool x144001_26) := (blk_cell BK143.out 1).trans rfl; have hcz197_2 : w187.cell? ⟨gb143, 2, none⟩ = some (.bool x144002_26) := (blk_cell BK143.out 2).trans rfl; have hfz197_0 := blk_frozen BK143.out 0; have hfz197_1 := blk_frozen BK143.out 1; have hfz197_2 := blk_frozen BK143.out 2))
              refine bodyPost_ret (results_cell_row rfl _ _ gb143 92 #[.int .i64 0, .bool (decide (t147 ≤ t155)), .bool false] (0, 0) _ rfl (by (with_reducible repeat (first | refine blk_drewN ?_ _ | refine blk_drew ?_ | refine blk_alloc ?_ _)); refine blk_put (cs := #[.int .i64 0, .bool (decide (t147 ≤ t155)), .bool x144002_26]) ?_ 2 _ rfl; (with_reducible repeat (first | refine blk_drewN ?_ _ | refine blk_drew ?_ | refine blk_alloc ?_ _)); refine blk_put (cs := #[.int .i64 0, .bool x144001_26, .bool x144002_26]) ?_ 1 _ rfl; (with_reducible repeat (first | refine blk_drewN ?_ _ | refine blk_drew ?_ | refine blk_alloc ?_ _)); refine blk_put (cs := #[.int .i64 x144000_26, .bool x144001_26, .bool x144002_26]) ?_ 0 _ rfl; (with_reducible repeat (first | refine blk_drewN ?_ _ | refine blk_drew ?_ | refine blk_alloc ?_ _)); refine blk_far ?_ NB143_158.out _; (with_reducible repeat (first | refine blk_drewN ?_ _ | refine blk_drew ?_ | refine blk_alloc ?_ _)); refine blk_far ?_ NB143_158.out _; (with_reducible repeat (first | refine blk_drewN ?_ _ | refine blk_drew ?_ | refine blk_alloc ?_ _)); refine blk_far ?_ NB143_158.out _; (with_reducible repeat (first | refine blk_drewN ?_ _ | refine blk_drew ?_ | refine blk_alloc ?_ _)); exact BK143.out) Tryd.underlying92 rfl (by kernel_rfl)) rfl ?_
              exact ⟨by first | rfl | (simp [errW_none, errW_some] <;> rfl) | (simp [*, errW_none, errW_some] <;> rfl), by repeat (first | (with_reducible first | exact HB.out | apply below_alloc | apply pw_below_drewN | apply below_drew1 | refine below_set ?_ GE143.out | refine below_set ?_ GE145.out | refine below_set ?_ GE150.out | refine below_set ?_ GE158.out) | exact HB.out)⟩
             ·
              rw [if_neg c184] at H
              have c184b0 : (((rd_T96 l0 a1).f0) == 9) = false := beq_eq_false_iff_ne.mpr c184
              have c184b1 : (((rd_T96 l0 a1).f0) != 9) = true := bne_iff_ne.mpr c184
              by_cases c198 : ((rd_T96 l0 a1).f0) = 10
              ·
               rw [if_pos c198] at H
               have c198b0 : (((rd_T96 l0 a1).f0) == 10) = true := beq_iff_eq.mpr c198
               have c198b1 : (((rd_T96 l0 a1).f0) != 10) = false := bne_eq_false_iff_eq.mpr c198
               clear c198
               simp only [Option.some.injEq, Prod.mk.injEq] at H
               obtain ⟨rfl, rfl, rfl⟩ := H
               go_wp2_with (first | ((with_reducible refine gate_callee (f := 101) rfl ?_); refine goesL_ (some 80) rfl rfl Tryd.func101 (by kernel_rfl) rfl #[.slice (some ad144) l0.length c0, .int .i64 (wrap64 (a1 + 1))] rfl q4_6 ?_; (with_reducible refine (expr_End.calls kj26 _ _ l0 (wrap64 (a1 + 1)) t154 _ ?side3 ?side1 ?side2 A97.out).mono ?_); (case side1 => exact q4_4); (case side2 => exact HC0.out); (case side3 => exact q4_5); rintro e w199 ⟨rfl, hb⟩; refine ⟨_, rfl, ?_⟩; have n0_ := Aside0.mk (blk_below (g := gb143) (o := .cells #[.int .i64 x144000_26, .bool x144001_26, .bool x144002_26] 92 (0, 0)) q4_1 hb); have n1_ := Aside0.mk (blk_below (g := gb145) (o := .cells #[.int .u8 ((rd_T96 l0 a1).f0), .int .i64 ((rd_T96 l0 a1).f1)] 96 (0, 0)) q4_2 hb); have n2_ := Aside0.mk (blk_below (g := gb150) (o := .cells #[.int .i64 t147, .bool t148, .bool t149] 92 (0, 0)) q4_3 hb); have n3_ := Aside0.mk (below_step q4_0 hb); clear BK143; clear BK145; clear BK150; clear HB; have BK143 := n0_; have BK145 := n1_; have BK150 := n2_; have HB := n3_; clear n0_ n1_ n2_ n3_; (try clear hb); (try clear hb2); (try clear hk); (try clear hi)) | ((with_reducible refine gate_callee (f := 41) rfl ?_); refine goesL_ (some 82) rfl rfl Tryd.func41 (by kernel_rfl) rfl #[.slice (some ad144) l0.length c0, .int .i64 t154, .slice A2 l2.length c2] rfl q4_6 ?_; (with_reducible refine (ih kj26 (by have := HJ26.out; omega) _ _ l0 t154 _ _ l2 t155 t156 false _ ?side5 ?side1 ?side2 ?side3 ?side4 A98.out).mono ?_); (case side1 => exact q4_4); (case side2 => exact HC0.out); (case side3 => exact q4_8); (case side4 => exact HC2.out); (case side5 => exact q4_5); rintro e w200 ⟨rfl, hb⟩; refine ⟨_, rfl, ?_⟩; have n0_ := Aside0.mk (blk_below (g := gb143) (o := .cells #[.int .i64 x144000_26, .bool x144001_26, .bool x144002_26] 92 (0, 0)) q4_1 hb); have n1_ := Aside0.mk (blk_below (g := gb145) (o := .cells #[.int .u8 ((rd_T96 l0 a1).f0), .int .i64 ((rd_T96 l0 a1).f1)] 96 (0, 0)) q4_2 hb); have n2_ := Aside0.mk (blk_below (g := gb150) (o := .cells #[.int .i64 t147, .bool t148, .bool t149] 92 (0, 0)) q4_3 hb); have n3_ := Aside0.mk (below_step q4_0 hb); clear BK143; clear BK145; clear BK150; clear HB; have BK143 := n0_; have BK145 := n1_; have BK150 := n2_; have HB := n3_; clear n0_ n1_ n2_ n3_; (try clear hb); (try clear hb2); (try clear hk); (try clear hi)) | ((with_reducible refine gate_dst (N := 9) rfl ?_); refine box_event ?hg (N := 9) ?hd (cs := #[.int .i64 0, .bool false, .bool false]) (t := 92) ?hr ?_; (case hd => rfl); (case hg => rfl); (case hr => exact q4_15); intro gb158 hg w201 hbox hb; have n0_ := Aside0.mk (blk_below (g := gb143) (o := .cells #[.int .i64 x144000_26, .bool x144001_26, .bool x144002_26] 92 (0, 0)) q4_1 hb); have n1_ := Aside0.mk (blk_below (g := gb145) (o := .cells #[.int .u8 ((rd_T96 l0 a1).f0), .int .i64 ((rd_T96 l0 a1).f1)] 96 (0, 0)) q4_2 hb); have n2_ := Aside0.mk (blk_below (g := gb150) (o := .cells #[.int .i64 t147, .bool t148, .bool t149] 92 (0, 0)) q4_3 hb); have n3_ := Aside0.mk (below_step q4_0 hb); have n4_ := Aside0.mk (hbox); have n5_ := Aside0.mk ((by rw [hg]; exact (below_size q4_0) : w.heap.size ≤ gb158)); have n6_ := Aside0.mk ((by rw [hg]; exact (below_size q4_0) : w.heap.size ≤ gb158)); have n7_ := Aside0.mk ((by rw [hg]; exact Nat.ne_of_lt (blk_lt (g := gb143) (o := .cells #[.int .i64 x144000_26, .bool x144001_26, .bool x144002_26] 92 (0, 0)) q4_1) : gb143 ≠ gb158)); have n8_ := Aside0.mk ((by rw [hg]; exact Nat.ne_of_gt (blk_lt (g := gb143) (o := .cells #[.int .i64 x144000_26, .bool x144001_26, .bool x144002_26] 92 (0, 0)) q4_1) : gb158 ≠ gb143)); have n9_ := Aside0.mk ((by rw [hg]; exact Nat.ne_of_lt (blk_lt (g := gb145) (o := .cells #[.int .u8 ((rd_T96 l0 a1).f0), .int .i64 ((rd_T96 l0 a1).f1)] 96 (0, 0)) q4_2) : gb145 ≠ gb158)); have n10_ := Aside0.mk ((by rw [hg]; exact Nat.ne_of_gt (blk_lt (g := gb145) (o := .cells #[.int .u8 ((rd_T96 l0 a1).f0), .int .i64 ((rd_T96 l0 a1).f1)] 96 (0, 0)) q4_2) : gb158 ≠ gb145)); have n11_ := Aside0.mk ((by rw [hg]; exact Nat.ne_of_lt (blk_lt (g := gb150) (o := .cells #[.int .i64 t147, .bool t148, .bool t149] 92 (0, 0)) q4_3) : gb150 ≠ gb158)); have n12_ := Aside0.mk ((by rw [hg]; exact Nat.ne_of_gt (blk_lt (g := gb150) (o := .cells #[.int .i64 t147, .bool t148, .bool t149] 92 (0, 0)) q4_3) : gb158 ≠ gb150)); clear BK143; clear BK145; clear BK150; clear HB; have BK143 := n0_; have BK145 := n1_; have BK150 := n2_; have HB := n3_; have BK158 := n4_; have GW158 := n5_; have GE158 := n6_; have NB143_158 := n7_; have NB158_143 := n8_; have NB145_158 := n9_; have NB158_145 := n10_; have NB150_158 := n11_; have NB158_150 := n12_; clear n0_ n1_ n2_ n3_ n4_ n5_ n6_ n7_ n8_ n9_ n10_ n11_ n12_; clear hb hbox hg; have hnb202 := NB158_143.out; have hnc202 := NB143_158.out; have hnb203 := NB158_145.out; have hnc203 := NB145_158.out; have hnb204 := NB158_150.out; have hnc204 := NB150_158.out; have hcz205_0 : w201.cell? ⟨gb158, 0, none⟩ = some (.int .i64 0) := (blk_cell BK158.out 0).trans rfl; have hcz205_1 : w201.cell? ⟨gb158, 1, none⟩ = some (.bool false) := (blk_cell BK158.out 1).trans rfl; have hcz205_2 : w201.cell? ⟨gb158, 2, none⟩ = some (.bool false) := (blk_cell BK158.out 2).trans rfl; have hfz205_0 := blk_frozen BK158.out 0; have hfz205_1 := blk_frozen BK158.out 1; have hfz205_2 := blk_frozen BK158.out 2; have hnb206 := NB145_143.out; have hnc206 := NB143_145.out; have hnb207 := NB145_150.out; have hnc207 := NB150_145.out; have hcz208_0 : w201.cell? ⟨gb145, 0, none⟩ = some (.int .u8 ((rd_T96 l0 a1).f0)) := (blk_cell BK145.out 0).trans rfl; have hcz208_1 : w201.cell? ⟨gb145, 1, none⟩ = some (.int .i64 ((rd_T96 l0 a1).f1)) := (blk_cell BK145.out 1).trans rfl; have hfz208_0 := blk_frozen BK145.out 0; have hfz208_1 := blk_frozen BK145.out 1; have hnb209 := NB150_143.out; have hnc209 := NB143_150.out; have hcz210_0 : w201.cell? ⟨gb150, 0, none⟩ = some (.int .i64 t147) := (blk_cell BK150.out 0).trans rfl; have hcz210_1 : w201.cell? ⟨gb150, 1, none⟩ = some (.bool t148) := (blk_cell BK150.out 1).trans rfl; have hcz210_2 : w201.cell? ⟨gb150, 2, none⟩ = some (.bool t149) := (blk_cell BK150.out 2).trans rfl; have hfz210_0 := blk_frozen BK150.out 0; have hfz210_1 := blk_frozen BK150.out 1; have hfz210_2 := blk_frozen BK150.out 2; have hcz211_0 : w201.cell? ⟨gb143, 0, none⟩ = some (.int .i64 x144000_26) := (blk_cell BK143.out 0).trans rfl; have hcz211_1 : w201.cell? ⟨gb143, 1, none⟩ = some (.bool x144001_26) := (blk_cell BK143.out 1).trans rfl; have hcz211_2 : w201.cell? ⟨gb143, 2, none⟩ = some (.bool x144002_26) := (blk_cell BK143.out 2).trans rfl; have hfz211_0 := blk_frozen BK143.out 0; have hfz211_1 := blk_frozen BK143.out 1; have hfz211_2 := blk_frozen BK143.out 2))
               refine bodyPost_ret (results_cell_row rfl _ _ gb143 92 #[.int .i64 0, .bool (t147 == t155), .bool false] (0, 0) _ rfl (by (with_reducible repeat (first | refine blk_drewN ?_ _ | refine blk_drew ?_ | refine blk_alloc ?_ _)); refine blk_put (cs := #[.int .i64 0, .bool (t147 == t155), .bool x144002_26]) ?_ 2 _ rfl; (with_reducible repeat (first | refine blk_drewN ?_ _ | refine blk_drew ?_ | refine blk_alloc ?_ _)); refine blk_put (cs := #[.int .i64 0, .bool x144001_26, .bool x144002_26]) ?_ 1 _ rfl; (with_reducible repeat (first | refine blk_drewN ?_ _ | refine blk_drew ?_ | refine blk_alloc ?_ _)); refine blk_put (cs := #[.int .i64 x144000_26, .bool x144001_26, .bool x144002_26]) ?_ 0 _ rfl; (with_reducible repeat (first | refine blk_drewN ?_ _ | refine blk_drew ?_ | refine blk_alloc ?_ _)); refine blk_far ?_ NB143_158.out _; (with_reducible repeat (first | refine blk_drewN ?_ _ | refine blk_drew ?_ | refine blk_alloc ?_ _)); refine blk_far ?_ NB143_158.out _; (with_reducible repeat (first | refine blk_drewN ?_ _ | refine blk_drew ?_ | refine blk_alloc ?_ _)); refine blk_far ?_ NB143_158.out _; (with_reducible repeat (first | refine blk_drewN ?_ _ | refine blk_drew ?_ | refine blk_alloc ?_ _)); exact BK143.out) Tryd.underlying92 rfl (by kernel_rfl)) rfl ?_
               exact ⟨by first | rfl | (simp [errW_none, errW_some] <;> rfl) | (simp [*, errW_none, errW_some] <;> rfl), by repeat (first | (with_reducible first | exact HB.out | apply below_alloc | apply pw_below_drewN | apply below_drew1 | refine below_set ?_ GE143.out | refine below_set ?_ GE145.out | refine below_set ?_ GE150.out | refine below_set ?_ GE158.out) | exact HB.out)⟩
              ·
               rw [if_neg c198] at H
               have c198b0 : (((rd_T96 l0 a1).f0) == 10) = false := beq_eq_false_iff_ne.mpr c198
               have c198b1 : (((rd_T96 l0 a1).f0) != 10) = true := bne_iff_ne.mpr c198
               by_cases c212 : ((rd_T96 l0 a1).f0) = 11
               ·
                rw [if_pos c212] at H
                have c212b0 : (((rd_T96 l0 a1).f0) == 11) = true := beq_iff_eq.mpr c212
                have c212b1 : (((rd_T96 l0 a1).f0) != 11) = false := bne_eq_false_iff_eq.mpr c212
                clear c212
                simp only [Option.some.injEq, Prod.mk.injEq] at H
                obtain ⟨rfl, rfl, rfl⟩ := H
                go_wp2_with (first | ((with_reducible refine gate_callee (f := 101) rfl ?_); refine goesL_ (some 80) rfl rfl Tryd.func101 (by kernel_rfl) rfl #[.slice (some ad144) l0.length c0, .int .i64 (wrap64 (a1 + 1))] rfl q4_6 ?_; (with_reducible refine (expr_End.calls kj26 _ _ l0 (wrap64 (a1 + 1)) t154 _ ?side3 ?side1 ?side2 A97.out).mono ?_); (case side1 => exact q4_4); (case side2 => exact HC0.out); (case side3 => exact q4_5); rintro e w213 ⟨rfl, hb⟩; refine ⟨_, rfl, ?_⟩; have n0_ := Aside0.mk (blk_below (g := gb143) (o := .cells #[.int .i64 x144000_26, .bool x144001_26, .bool x144002_26] 92 (0, 0)) q4_1 hb); have n1_ := Aside0.mk (blk_below (g := gb145) (o := .cells #[.int .u8 ((rd_T96 l0 a1).f0), .int .i64 ((rd_T96 l0 a1).f1)] 96 (0, 0)) q4_2 hb); have n2_ := Aside0.mk (blk_below (g := gb150) (o := .cells #[.int .i64 t147, .bool t148, .bool t149] 92 (0, 0)) q4_3 hb); have n3_ := Aside0.mk (below_step q4_0 hb); clear BK143; clear BK145; clear BK150; clear HB; have BK143 := n0_; have BK145 := n1_; have BK150 := n2_; have HB := n3_; clear n0_ n1_ n2_ n3_; (try clear hb); (try clear hb2); (try clear hk); (try clear hi)) | ((with_reducible refine gate_callee (f := 41) rfl ?_); refine goesL_ (some 82) rfl rfl Tryd.func41 (by kernel_rfl) rfl #[.slice (some ad144) l0.length c0, .int .i64 t154, .slice A2 l2.length c2] rfl q4_6 ?_; (with_reducible refine (ih kj26 (by have := HJ26.out; omega) _ _ l0 t154 _ _ l2 t155 t156 false _ ?side5 ?side1 ?side2 ?side3 ?side4 A98.out).mono ?_); (case side1 => exact q4_4); (case side2 => exact HC0.out); (case side3 => exact q4_8); (case side4 => exact HC2.out); (case side5 => exact q4_5); rintro e w214 ⟨rfl, hb⟩; refine ⟨_, rfl, ?_⟩; have n0_ := Aside0.mk (blk_below (g := gb143) (o := .cells #[.int .i64 x144000_26, .bool x144001_26, .bool x144002_26] 92 (0, 0)) q4_1 hb); have n1_ := Aside0.mk (blk_below (g := gb145) (o := .cells #[.int .u8 ((rd_T96 l0 a1).f0), .int .i64 ((rd_T96 l0 a1).f1)] 96 (0, 0)) q4_2 hb); have n2_ := Aside0.mk (blk_below (g := gb150) (o := .cells #[.int .i64 t147, .bool t148, .bool t149] 92 (0, 0)) q4_3 hb); have n3_ := Aside0.mk (below_step q4_0 hb); clear BK143; clear BK145; clear BK150; clear HB; have BK143 := n0_; have BK145 := n1_; have BK150 := n2_; have HB := n3_; clear n0_ n1_ n2_ n3_; (try clear hb); (try clear hb2); (try clear hk); (try clear hi)) | ((with_reducible refine gate_dst (N := 9) rfl ?_); refine box_event ?hg (N := 9) ?hd (cs := #[.int .i64 0, .bool false, .bool false]) (t := 92) ?hr ?_; (case hd => rfl); (case hg => rfl); (case hr => exact q4_15); intro gb158 hg w215 hbox hb; have n0_ := Aside0.mk (blk_below (g := gb143) (o := .cells #[.int .i64 x144000_26, .bool x144001_26, .bool x144002_26] 92 (0, 0)) q4_1 hb); have n1_ := Aside0.mk (blk_below (g := gb145) (o := .cells #[.int .u8 ((rd_T96 l0 a1).f0), .int .i64 ((rd_T96 l0 a1).f1)] 96 (0, 0)) q4_2 hb); have n2_ := Aside0.mk (blk_below (g := gb150) (o := .cells #[.int .i64 t147, .bool t148, .bool t149] 92 (0, 0)) q4_3 hb); have n3_ := Aside0.mk (below_step q4_0 hb); have n4_ := Aside0.mk (hbox); have n5_ := Aside0.mk ((by rw [hg]; exact (below_size q4_0) : w.heap.size ≤ gb158)); have n6_ := Aside0.mk ((by rw [hg]; exact (below_size q4_0) : w.heap.size ≤ gb158)); have n7_ := Aside0.mk ((by rw [hg]; exact Nat.ne_of_lt (blk_lt (g := gb143) (o := .cells #[.int .i64 x144000_26, .bool x144001_26, .bool x144002_26] 92 (0, 0)) q4_1) : gb143 ≠ gb158)); have n8_ := Aside0.mk ((by rw [hg]; exact Nat.ne_of_gt (blk_lt (g := gb143) (o := .cells #[.int .i64 x144000_26, .bool x144001_26, .bool x144002_26] 92 (0, 0)) q4_1) : gb158 ≠ gb143)); have n9_ := Aside0.mk ((by rw [hg]; exact Nat.ne_of_lt (blk_lt (g := gb145) (o := .cells #[.int .u8 ((rd_T96 l0 a1).f0), .int .i64 ((rd_T96 l0 a1).f1)] 96 (0, 0)) q4_2) : gb145 ≠ gb158)); have n10_ := Aside0.mk ((by rw [hg]; exact Nat.ne_of_gt (blk_lt (g := gb145) (o := .cells #[.int .u8 ((rd_T96 l0 a1).f0), .int .i64 ((rd_T96 l0 a1).f1)] 96 (0, 0)) q4_2) : gb158 ≠ gb145)); have n11_ := Aside0.mk ((by rw [hg]; exact Nat.ne_of_lt (blk_lt (g := gb150) (o := .cells #[.int .i64 t147, .bool t148, .bool t149] 92 (0, 0)) q4_3) : gb150 ≠ gb158)); have n12_ := Aside0.mk ((by rw [hg]; exact Nat.ne_of_gt (blk_lt (g := gb150) (o := .cells #[.int .i64 t147, .bool t148, .bool t149] 92 (0, 0)) q4_3) : gb158 ≠ gb150)); clear BK143; clear BK145; clear BK150; clear HB; have BK143 := n0_; have BK145 := n1_; have BK150 := n2_; have HB := n3_; have BK158 := n4_; have GW158 := n5_; have GE158 := n6_; have NB143_158 := n7_; have NB158_143 := n8_; have NB145_158 := n9_; have NB158_145 := n10_; have NB150_158 := n11_; have NB158_150 := n12_; clear n0_ n1_ n2_ n3_ n4_ n5_ n6_ n7_ n8_ n9_ n10_ n11_ n12_; clear hb hbox hg; have hnb216 := NB158_143.out; have hnc216 := NB143_158.out; have hnb217 := NB158_145.out; have hnc217 := NB145_158.out; have hnb218 := NB158_150.out; have hnc218 := NB150_158.out; have hcz219_0 : w215.cell? ⟨gb158, 0, none⟩ = some (.int .i64 0) := (blk_cell BK158.out 0).trans rfl; have hcz219_1 : w215.cell? ⟨gb158, 1, none⟩ = some (.bool false) := (blk_cell BK158.out 1).trans rfl; have hcz219_2 : w215.cell? ⟨gb158, 2, none⟩ = some (.bool false) := (blk_cell BK158.out 2).trans rfl; have hfz219_0 := blk_frozen BK158.out 0; have hfz219_1 := blk_frozen BK158.out 1; have hfz219_2 := blk_frozen BK158.out 2; have hnb220 := NB145_143.out; have hnc220 := NB143_145.out; have hnb221 := NB145_150.out; have hnc221 := NB150_145.out; have hcz222_0 : w215.cell? ⟨gb145, 0, none⟩ = some (.int .u8 ((rd_T96 l0 a1).f0)) := (blk_cell BK145.out 0).trans rfl; have hcz222_1 : w215.cell? ⟨gb145, 1, none⟩ = some (.int .i64 ((rd_T96 l0 a1).f1)) := (blk_cell BK145.out 1).trans rfl; have hfz222_0 := blk_frozen BK145.out 0; have hfz222_1 := blk_frozen BK145.out 1; have hnb223 := NB150_143.out; have hnc223 := NB143_150.out; have hcz224_0 : w215.cell? ⟨gb150, 0, none⟩ = some (.int .i64 t147) := (blk_cell BK150.out 0).trans rfl; have hcz224_1 : w215.cell? ⟨gb150, 1, none⟩ = some (.bool t148) := (blk_cell BK150.out 1).trans rfl; have hcz224_2 : w215.cell? ⟨gb150, 2, none⟩ = some (.bool t149) := (blk_cell BK150.out 2).trans rfl; have hfz224_0 := blk_frozen BK150.out 0; have hfz224_1 := blk_frozen BK150.out 1; have hfz224_2 := blk_frozen BK150.out 2; have hcz225_0 : w215.cell? ⟨gb143, 0, none⟩ = some (.int .i64 x144000_26) := (blk_cell BK143.out 0).trans rfl; have hcz225_1 : w215.cell? ⟨gb143, 1, none⟩ = some (.bool x144001_26) := (blk_cell BK143.out 1).trans rfl; have hcz225_2 : w215.cell? ⟨gb143, 2, none⟩ = some (.bool x144002_26) := (blk_cell BK143.out 2).trans rfl; have hfz225_0 := blk_frozen BK143.out 0; have hfz225_1 := blk_frozen BK143.out 1; have hfz225_2 := blk_frozen BK143.out 2))
                refine bodyPost_ret (results_cell_row rfl _ _ gb143 92 #[.int .i64 0, .bool (t147 != t155), .bool false] (0, 0) _ rfl (by (with_reducible repeat (first | refine blk_drewN ?_ _ | refine blk_drew ?_ | refine blk_alloc ?_ _)); refine blk_put (cs := #[.int .i64 0, .bool (t147 != t155), .bool x144002_26]) ?_ 2 _ rfl; (with_reducible repeat (first | refine blk_drewN ?_ _ | refine blk_drew ?_ | refine blk_alloc ?_ _)); refine blk_put (cs := #[.int .i64 0, .bool x144001_26, .bool x144002_26]) ?_ 1 _ rfl; (with_reducible repeat (first | refine blk_drewN ?_ _ | refine blk_drew ?_ | refine blk_alloc ?_ _)); refine blk_put (cs := #[.int .i64 x144000_26, .bool x144001_26, .bool x144002_26]) ?_ 0 _ rfl; (with_reducible repeat (first | refine blk_drewN ?_ _ | refine blk_drew ?_ | refine blk_alloc ?_ _)); refine blk_far ?_ NB143_158.out _; (with_reducible repeat (first | refine blk_drewN ?_ _ | refine blk_drew ?_ | refine blk_alloc ?_ _)); refine blk_far ?_ NB143_158.out _; (with_reducible repeat (first | refine blk_drewN ?_ _ | refine blk_drew ?_ | refine blk_alloc ?_ _)); refine blk_far ?_ NB143_158.out _; (with_reducible repeat (first | refine blk_drewN ?_ _ | refine blk_drew ?_ | refine blk_alloc ?_ _)); exact BK143.out) Tryd.underlying92 rfl (by kernel_rfl)) rfl ?_
                exact ⟨by first | rfl | (simp [errW_none, errW_some] <;> rfl) | (simp [*, errW_none, errW_some] <;> rfl), by repeat (first | (with_reducible first | exact HB.out | apply below_alloc | apply pw_below_drewN | apply below_drew1 | refine below_set ?_ GE143.out | refine below_set ?_ GE145.out | refine below_set ?_ GE150.out | refine below_set ?_ GE158.out) | exact HB.out)⟩
               ·
                rw [if_neg c212] at H
                have c212b0 : (((rd_T96 l0 a1).f0) == 11) = false := beq_eq_false_iff_ne.mpr c212
                have c212b1 : (((rd_T96 l0 a1).f0) != 11) = true := bne_iff_ne.mpr c212
                simp only [Option.some.injEq, Prod.mk.injEq] at H
                obtain ⟨rfl, rfl, rfl⟩ := H
                go_wp2_with (first | ((with_reducible refine gate_callee (f := 101) rfl ?_); refine goesL_ (some 80) rfl rfl Tryd.func101 (by kernel_rfl) rfl #[.slice (some ad144) l0.length c0, .int .i64 (wrap64 (a1 + 1))] rfl q4_6 ?_; (with_reducible refine (expr_End.calls kj26 _ _ l0 (wrap64 (a1 + 1)) t154 _ ?side3 ?side1 ?side2 A97.out).mono ?_); (case side1 => exact q4_4); (case side2 => exact HC0.out); (case side3 => exact q4_5); rintro e w226 ⟨rfl, hb⟩; refine ⟨_, rfl, ?_⟩; have n0_ := Aside0.mk (blk_below (g := gb143) (o := .cells #[.int .i64 x144000_26, .bool x144001_26, .bool x144002_26] 92 (0, 0)) q4_1 hb); have n1_ := Aside0.mk (blk_below (g := gb145) (o := .cells #[.int .u8 ((rd_T96 l0 a1).f0), .int .i64 ((rd_T96 l0 a1).f1)] 96 (0, 0)) q4_2 hb); have n2_ := Aside0.mk (blk_below (g := gb150) (o := .cells #[.int .i64 t147, .bool t148, .bool t149] 92 (0, 0)) q4_3 hb); have n3_ := Aside0.mk (below_step q4_0 hb); clear BK143; clear BK145; clear BK150; clear HB; have BK143 := n0_; have BK145 := n1_; have BK150 := n2_; have HB := n3_; clear n0_ n1_ n2_ n3_; (try clear hb); (try clear hb2); (try clear hk); (try clear hi)) | ((with_reducible refine gate_callee (f := 41) rfl ?_); refine goesL_ (some 82) rfl rfl Tryd.func41 (by kernel_rfl) rfl #[.slice (some ad144) l0.length c0, .int .i64 t154, .slice A2 l2.length c2] rfl q4_6 ?_; (with_reducible refine (ih kj26 (by have := HJ26.out; omega) _ _ l0 t154 _ _ l2 t155 t156 false _ ?side5 ?side1 ?side2 ?side3 ?side4 A98.out).mono ?_); (case side1 => exact q4_4); (case side2 => exact HC0.out); (case side3 => exact q4_8); (case side4 => exact HC2.out); (case side5 => exact q4_5); rintro e w227 ⟨rfl, hb⟩; refine ⟨_, rfl, ?_⟩; have n0_ := Aside0.mk (blk_below (g := gb143) (o := .cells #[.int .i64 x144000_26, .bool x144001_26, .bool x144002_26] 92 (0, 0)) q4_1 hb); have n1_ := Aside0.mk (blk_below (g := gb145) (o := .cells #[.int .u8 ((rd_T96 l0 a1).f0), .int .i64 ((rd_T96 l0 a1).f1)] 96 (0, 0)) q4_2 hb); have n2_ := Aside0.mk (blk_below (g := gb150) (o := .cells #[.int .i64 t147, .bool t148, .bool t149] 92 (0, 0)) q4_3 hb); have n3_ := Aside0.mk (below_step q4_0 hb); clear BK143; clear BK145; clear BK150; clear HB; have BK143 := n0_; have BK145 := n1_; have BK150 := n2_; have HB := n3_; clear n0_ n1_ n2_ n3_; (try clear hb); (try clear hb2); (try clear hk); (try clear hi)) | ((with_reducible refine gate_dst (N := 9) rfl ?_); refine box_event ?hg (N := 9) ?hd (cs := #[.int .i64 0, .bool false, .bool false]) (t := 92) ?hr ?_; (case hd => rfl); (case hg => rfl); (case hr => exact q4_15); intro gb158 hg w228 hbox hb; have n0_ := Aside0.mk (blk_below (g := gb143) (o := .cells #[.int .i64 x144000_26, .bool x144001_26, .bool x144002_26] 92 (0, 0)) q4_1 hb); have n1_ := Aside0.mk (blk_below (g := gb145) (o := .cells #[.int .u8 ((rd_T96 l0 a1).f0), .int .i64 ((rd_T96 l0 a1).f1)] 96 (0, 0)) q4_2 hb); have n2_ := Aside0.mk (blk_below (g := gb150) (o := .cells #[.int .i64 t147, .bool t148, .bool t149] 92 (0, 0)) q4_3 hb); have n3_ := Aside0.mk (below_step q4_0 hb); have n4_ := Aside0.mk (hbox); have n5_ := Aside0.mk ((by rw [hg]; exact (below_size q4_0) : w.heap.size ≤ gb158)); have n6_ := Aside0.mk ((by rw [hg]; exact (below_size q4_0) : w.heap.size ≤ gb158)); have n7_ := Aside0.mk ((by rw [hg]; exact Nat.ne_of_lt (blk_lt (g := gb143) (o := .cells #[.int .i64 x144000_26, .bool x144001_26, .bool x144002_26] 92 (0, 0)) q4_1) : gb143 ≠ gb158)); have n8_ := Aside0.mk ((by rw [hg]; exact Nat.ne_of_gt (blk_lt (g := gb143) (o := .cells #[.int .i64 x144000_26, .bool x144001_26, .bool x144002_26] 92 (0, 0)) q4_1) : gb158 ≠ gb143)); have n9_ := Aside0.mk ((by rw [hg]; exact Nat.ne_of_lt (blk_lt (g := gb145) (o := .cells #[.int .u8 ((rd_T96 l0 a1).f0), .int .i64 ((rd_T96 l0 a1).f1)] 96 (0, 0)) q4_2) : gb145 ≠ gb158)); have n10_ := Aside0.mk ((by rw [hg]; exact Nat.ne_of_gt (blk_lt (g := gb145) (o := .cells #[.int .u8 ((rd_T96 l0 a1).f0), .int .i64 ((rd_T96 l0 a1).f1)] 96 (0, 0)) q4_2) : gb158 ≠ gb145)); have n11_ := Aside0.mk ((by rw [hg]; exact Nat.ne_of_lt (blk_lt (g := gb150) (o := .cells #[.int .i64 t147, .bool t148, .bool t149] 92 (0, 0)) q4_3) : gb150 ≠ gb158)); have n12_ := Aside0.mk ((by rw [hg]; exact Nat.ne_of_gt (blk_lt (g := gb150) (o := .cells #[.int .i64 t147, .bool t148, .bool t149] 92 (0, 0)) q4_3) : gb158 ≠ gb150)); clear BK143; clear BK145; clear BK150; clear HB; have BK143 := n0_; have BK145 := n1_; have BK150 := n2_; have HB := n3_; have BK158 := n4_; have GW158 := n5_; have GE158 := n6_; have NB143_158 := n7_; have NB158_143 := n8_; have NB145_158 := n9_; have NB158_145 := n10_; have NB150_158 := n11_; have NB158_150 := n12_; clear n0_ n1_ n2_ n3_ n4_ n5_ n6_ n7_ n8_ n9_ n10_ n11_ n12_; clear hb hbox hg; have hnb229 := NB158_143.out; have hnc229 := NB143_158.out; have hnb230 := NB158_145.out; have hnc230 := NB145_158.out; have hnb231 := NB158_150.out; have hnc231 := NB150_158.out; have hcz232_0 : w228.cell? ⟨gb158, 0, none⟩ = some (.int .i64 0) := (blk_cell BK158.out 0).trans rfl; have hcz232_1 : w228.cell? ⟨gb158, 1, none⟩ = some (.bool false) := (blk_cell BK158.out 1).trans rfl; have hcz232_2 : w228.cell? ⟨gb158, 2, none⟩ = some (.bool false) := (blk_cell BK158.out 2).trans rfl; have hfz232_0 := blk_frozen BK158.out 0; have hfz232_1 := blk_frozen BK158.out 1; have hfz232_2 := blk_frozen BK158.out 2; have hnb233 := NB145_143.out; have hnc233 := NB143_145.out; have hnb234 := NB145_150.out; have hnc234 := NB150_145.out; have hcz235_0 : w228.cell? ⟨gb145, 0, none⟩ = some (.int .u8 ((rd_T96 l0 a1).f0)) := (blk_cell BK145.out 0).trans rfl; have hcz235_1 : w228.cell? ⟨gb145, 1, none⟩ = some (.int .i64 ((rd_T96 l0 a1).f1)) := (blk_cell BK145.out 1).trans rfl; have hfz235_0 := blk_frozen BK145.out 0; have hfz235_1 := blk_frozen BK145.out 1; have hnb236 := NB143_150.out; have hnc236 := NB150_143.out; have hcz237_0 : w228.cell? ⟨gb143, 0, none⟩ = some (.int .i64 x144000_26) := (blk_cell BK143.out 0).trans rfl; have hcz237_1 : w228.cell? ⟨gb143, 1, none⟩ = some (.bool x144001_26) := (blk_cell BK143.out 1).trans rfl; have hcz237_2 : w228.cell? ⟨gb143, 2, none⟩ = some (.bool x144002_26) := (blk_cell BK143.out 2).trans rfl; have hfz237_0 := blk_frozen BK143.out 0; have hfz237_1 := blk_frozen BK143.out 1; have hfz237_2 := blk_frozen BK143.out 2))
                refine bodyPost_ret (results_cell_row rfl _ _ gb143 92 #[.int .i64 t155, .bool t156, .bool false] (0, 0) _ rfl q4_13 Tryd.underlying92 rfl (by kernel_rfl)) rfl ?_
                exact ⟨by first | rfl | (simp [errW_none, errW_some] <;> rfl) | (simp [*, errW_none, errW_some] <;> rfl), by repeat (first | (with_reducible first | exact HB.out | apply below_alloc | apply pw_below_drewN | apply below_drew1 | refine below_set ?_ GE143.out | refine below_set ?_ GE145.out | refine below_set ?_ GE150.out | refine below_set ?_ GE158.out) | exact HB.out)⟩
  ·
   rw [if_neg c5] at H
   exact absurd H (by simp)
 ·
  rw [if_neg c4] at H
  exact absurd H (by simp)

end Go.Proofs.YtjoefhhfppijaaaDoor.PAll
