-- written by wip/tools/xprint.py (over the kit's print.py): not trusted, Lean checks it.
import Derived.Test.YtpmhfahligjhaaaDoorPOrdx0
import Derived.Test.YtpmhfahligjhaaaDoorPOrdx9
import Derived.Test.YtpmhfahligjhaaaDoorPOrdx11
-- compact
namespace Go.Proofs.YtpmhfahligjhaaaDoor.POrd
open Go.RowKit Go.Proofs.YtpmhfahligjhaaaDoorW.PrintWords Go.Proofs.YtpmhfahligjhaaaDoorW.PrintLast Go.Proofs.YtpmhfahligjhaaaDoorW.PrintMore Go.Proofs.YtpmhfahligjhaaaDoorXW
attribute [local go_sem high] Option.map_some
attribute [local go_sem] max2_int max_two
set_option linter.unusedVariables false
set_option linter.unusedSimpArgs false

theorem q12_0 {p : Prop} (h : p := by (with_reducible repeat (first | apply Kd.V_alloc | apply Kd.V_drewN | apply Kd.V_drew)); exact (Kd.V_mono (Kd.V_far (p := ⟨gb300, 3, none⟩) (Kd.V_far (p := ⟨gb300, 2, none⟩) (Kd.V_far (p := ⟨gb300, 1, none⟩) (Kd.V_far (p := ⟨gb300, 0, none⟩) (Kd.V_mono HL299_3.out (fun k_ hk => (⟨hk, hk.2⟩ : _ ∧ k_ ≠ gb300))) (fun _ hk => hk.2) (.int .i64 ((rd_T92 t296 x36_2).f0))) (fun _ hk => hk.2) (.int .i64 ((rd_T92 t296 x36_2).f1))) (fun _ hk => hk.2) (.int .i64 ((rd_T92 t296 x36_2).f2))) (fun _ hk => hk.2) (.slice A299_3 ((rd_T92 t296 x36_2).f3).length c299_3)) (fun _ h_ => h_.1))) : p := h
theorem q12_1 {p : Prop} (h : p := by (with_reducible repeat (first | refine blk_drewN ?_ _ | refine blk_drew ?_ | refine blk_alloc ?_ _)); exact BK290.out) : p := h
theorem q12_2 {p : Prop} (h : p := by repeat (first | (with_reducible first | exact HB.out | apply below_alloc | apply pw_below_drewN | apply below_drew1 | refine below_set ?_ GE290.out | refine below_set ?_ GE292.out | refine below_set ?_ GE294.out) | exact HB.out)) : p := h
theorem q12_3 {p : Prop} (h : p := by repeat (first | (with_reducible first | exact HB.out | apply below_alloc | apply pw_below_drewN | apply below_drew1 | refine below_set ?_ GE290.out) | exact HB.out)) : p := h
theorem q12_4 {p : Prop} (h : p := by repeat (first | (with_reducible first | exact HB.out | apply below_alloc | apply pw_below_drewN | apply below_drew1 | refine below_set ?_ GE290.out | refine below_set ?_ GE300.out) | exact HB.out)) : p := h
theorem q12_5 {p : Prop} (h : p := by repeat (first | (with_reducible exact HR299_3.out) | (with_reducible refine Kd.C_alloc ?_ _) | (with_reducible refine Kd.C_drewN ?_ _) | (with_reducible refine Kd.C_drew ?_) | exact HR299_3.out)) : p := h
theorem q12_6 {p : Prop} (h : p := by repeat (first | (with_reducible first | exact HB.out | apply below_alloc | apply pw_below_drewN | apply below_drew1 | refine below_set ?_ GE287.out) | exact HB.out)) : p := h
theorem q12_7 {p : Prop} (h : p := by (with_reducible repeat (first | apply Kd.V_alloc | apply Kd.V_drewN | apply Kd.V_drew)); exact (Kd.V_mono (Kd.V_far (p := ⟨gb300, 3, none⟩) (Kd.V_far (p := ⟨gb300, 2, none⟩) (Kd.V_far (p := ⟨gb300, 1, none⟩) (Kd.V_far (p := ⟨gb300, 0, none⟩) (Kd.V_mono HO_34.out (fun k_ hk => (⟨hk, hk.2⟩ : _ ∧ k_ ≠ gb300))) (fun _ hk => hk.2) (.int .i64 ((rd_T92 t296 x36_2).f0))) (fun _ hk => hk.2) (.int .i64 ((rd_T92 t296 x36_2).f1))) (fun _ hk => hk.2) (.int .i64 ((rd_T92 t296 x36_2).f2))) (fun _ hk => hk.2) (.slice A299_3 ((rd_T92 t296 x36_2).f3).length c299_3)) (fun _ h_ => h_.1))) : p := h
theorem q12_10 {p : Prop} (h : p := by repeat (first | (with_reducible first | exact HB.out | apply below_alloc | apply pw_below_drewN | apply below_drew1 | refine below_set ?_ GE290.out | refine below_set ?_ GE292.out) | exact HB.out)) : p := h
theorem q12_12 {p : Prop} (h : p := by (iterate 4 ((with_reducible repeat (first | refine blk_drewN ?_ _ | refine blk_drew ?_ | refine blk_alloc ?_ _)); refine blk_far ?_ NB290_300.out _)); (with_reducible repeat (first | refine blk_drewN ?_ _ | refine blk_drew ?_ | refine blk_alloc ?_ _)); exact BK290.out) : p := h
theorem q12_14 {p : Prop} (h : p := by (with_reducible repeat (first | apply Kd.V_alloc | apply Kd.V_drewN | apply Kd.V_drew)); exact HL299_3.out) : p := h
theorem q12_15 {p : Prop} (h : p := by (with_reducible repeat (first | apply Kd.V_alloc | apply Kd.V_drewN | apply Kd.V_drew)); exact HO_34.out) : p := h
theorem q12_16 {p : Prop} (h : p := by repeat (first | exact (Kd.C_below HR1.out HB.out) | (with_reducible refine Kd.C_alloc ?_ _) | (with_reducible refine Kd.C_drewN ?_ _) | (with_reducible refine Kd.C_drew ?_))) : p := h
theorem q12_17 {p : Prop} (h : p := by (with_reducible repeat (first | refine blk_drewN ?_ _ | refine blk_drew ?_ | refine blk_alloc ?_ _)); exact BK292.out) : p := h
theorem q12_18 {p : Prop} (h : p := by (with_reducible repeat (first | refine blk_drewN ?_ _ | refine blk_drew ?_ | refine blk_alloc ?_ _)); apply blk_fill4; (with_reducible repeat (first | refine blk_drewN ?_ _ | refine blk_drew ?_ | refine blk_alloc ?_ _)); exact BK300.out) : p := h
theorem q12_19 {p : Prop} (h : p := by first | exact q299 | exact zO s3 | (have e_ := (Kd.V_reads' HO_34.out).1; omega)) : p := h
theorem q12_20 {p : Prop} (h : p := by (with_reducible repeat (first | refine blk_drewN ?_ _ | refine blk_drew ?_ | refine blk_alloc ?_ _)); exact BK287.out) : p := h
theorem q12_21 {p : Prop} (h : p := by repeat (first | exact ((Kd.V_reads' q12_0).2.2) | (with_reducible refine Kd.C_alloc ?_ _) | (with_reducible refine Kd.C_drewN ?_ _) | (with_reducible refine Kd.C_drew ?_))) : p := h
theorem q12_23 {p : Prop} (h : p := by (iterate 7 ((with_reducible repeat (first | refine blk_drewN ?_ _ | refine blk_drew ?_ | refine blk_alloc ?_ _)); refine blk_far ?_ NB290_294.out _)); (with_reducible repeat (first | refine blk_drewN ?_ _ | refine blk_drew ?_ | refine blk_alloc ?_ _)); exact BK290.out) : p := h
theorem q12_24 {p : Prop} (h : p := by (iterate 7 ((with_reducible repeat (first | refine blk_drewN ?_ _ | refine blk_drew ?_ | refine blk_alloc ?_ _)); refine blk_far ?_ NB292_294.out _)); (with_reducible repeat (first | refine blk_drewN ?_ _ | refine blk_drew ?_ | refine blk_alloc ?_ _)); exact BK292.out) : p := h
theorem q12_25 {p : Prop} (h : p := by (with_reducible repeat (first | refine blk_drewN ?_ _ | refine blk_drew ?_ | refine blk_alloc ?_ _)); apply blk_fill7; (with_reducible repeat (first | refine blk_drewN ?_ _ | refine blk_drew ?_ | refine blk_alloc ?_ _)); exact BK294.out) : p := h
theorem q12_27 {p : Prop} (h : p := by repeat (first | exact q12_5 | (with_reducible refine Kd.C_alloc ?_ _) | (with_reducible refine Kd.C_drewN ?_ _) | (with_reducible refine Kd.C_drew ?_))) : p := h
theorem q12_28 {p : Prop} (h : p := by (with_reducible repeat (first | refine blk_drewN ?_ _ | refine blk_drew ?_ | refine blk_alloc ?_ _)); exact BK300.out) : p := h
theorem q12_29 {p : Prop} (h : p := by have := HK1.out; have := HK2.out; omega) : p := h
/-! ### net_truth: function 60 -/
def net_truth.f (k : Nat) (l0_0 : List ByteArray) (l0_1 : List (S50)) (l0_2 : List ByteArray) (l0_3 : List (S61)) (l1 : List (S122)) : Option (Int) := if (l1.length : Int) > 0 then ((expr_Right.f k l1 (l0_1.length : Int)).bind fun t288 => (if t288 = 0 then ((expr_IsTruth.f l1).bind fun t289 => (if t289 = true then (some 0) else (some 121))) else (some 121))) else (some 0)
theorem net_truth.mono : ∀ a0 a1 a2 a3 a4 k, LeO (net_truth.f k a0 a1 a2 a3 a4) (net_truth.f (k + 1) a0 a1 a2 a3 a4) := by
 intro a0 a1 a2 a3 a4 k
 unfold net_truth.f
 repeat' first | (with_reducible first | exact expr_Right.mono _ _ _ | exact LeO.refl _ | exact LeO.none _ | refine LeO.ite ?_ ?_ | refine LeO.bind ?_ (fun _ => ?_)) | exact LeO.none _ | refine LeO.ite ?_ ?_ | refine LeO.bind ?_ (fun _ => ?_)
set_option maxHeartbeats 8000000 in
set_option maxRecDepth 100000 in
theorem net_truth.calls (k : Nat) (A0_0 : Option Addr) (c0_0 : Nat) (l0_0 : List ByteArray) (A0_1 : Option Addr) (c0_1 : Nat) (l0_1 : List (S50)) (A0_2 : Option Addr) (c0_2 : Nat) (l0_2 : List ByteArray) (A0_3 : Option Addr) (c0_3 : Nat) (l0_3 : List (S61)) (A1 : Option Addr) (c1 : Nat) (l1 : List (S122)) (r : Int) (w : World) (hG : Glob w) (hr0_0 : Kd.C Kd.string w A0_0 l0_0.length l0_0) (hc0_0 : l0_0.length ≤ c0_0) (hr0_1 : Kd.C k50 w A0_1 l0_1.length l0_1) (hc0_1 : l0_1.length ≤ c0_1) (hr0_2 : Kd.C Kd.string w A0_2 l0_2.length l0_2) (hc0_2 : l0_2.length ≤ c0_2) (hr0_3 : Kd.C k61 w A0_3 l0_3.length l0_3) (hc0_3 : l0_3.length ≤ c0_3) (hr1 : Kd.C k122 w A1 l1.length l1) (hc1 : l1.length ≤ c1) (h : net_truth.f k l0_0 l0_1 l0_2 l0_3 l1 = some r) :
  Calls Tryd.prog 60 #[.agg #[.slice A0_0 l0_0.length c0_0, .slice A0_1 l0_1.length c0_1, .slice A0_2 l0_2.length c0_2, .slice A0_3 l0_3.length c0_3], .slice A1 l1.length c1] w fun e w' => e = .returned (.int .i64 r) ∧ Below w.heap.size w w' := by
 have hu26 := Tryd.underlying26
 have HR0_0 := zM hr0_0
 have HC0_0 := zM hc0_0
 clear hr0_0 hc0_0
 have HR0_1 := zM hr0_1
 have HC0_1 := zM hc0_1
 clear hr0_1 hc0_1
 have HR0_2 := zM hr0_2
 have HC0_2 := zM hc0_2
 clear hr0_2 hc0_2
 have HR0_3 := zM hr0_3
 have HC0_3 := zM hc0_3
 clear hr0_3 hc0_3
 have HR1 := zM hr1
 have HC1 := zM hc1
 clear hr1 hc1
 have HGL := zM hG
 clear hG
 have HB := zM (Below.refl w.heap.size w)
 have H : (if (l1.length : Int) > 0 then ((expr_Right.f k l1 (l0_1.length : Int)).bind fun t288 => (if t288 = 0 then ((expr_IsTruth.f l1).bind fun t289 => (if t289 = true then (some 0) else (some 121))) else (some 121))) else (some 0)) = some r := h
 clear h
 by_cases c3 : (l1.length : Int) > 0
 ·
  rw [if_pos c3] at H
  have c3b0 := dgt c3
  have c3b1 : decide (0 < l1.length) = true := zD (by omega)
  clear c3
  replace H := Option.bind_eq_some_iff.mp H
  obtain ⟨t288, A40, H⟩ := H
  replace H : (if t288 = 0 then ((expr_IsTruth.f l1).bind fun t289 => (if t289 = true then (some 0) else (some 121))) else (some 121)) = some r := H
  have A4 := zM A40
  clear A40
  by_cases c5 : t288 = 0
  ·
   rw [if_pos c5] at H
   obtain ⟨c5b0, c5b1⟩ := eqb c5
   clear c5
   replace H := Option.bind_eq_some_iff.mp H
   obtain ⟨t289, A60, H⟩ := H
   replace H : (if t289 = true then (some 0) else (some 121)) = some r := H
   have A6 := zM A60
   clear A60
   by_cases c7 : t289 = true
   ·
    subst c7
    have H1 : (some 0) = some r := by rw [if_pos rfl] at H; exact H
    clear H
    have H := H1
    clear H1
    obtain rfl := Option.some.inj H
    go_enter Tryd.func60, Tryd.ntmps60
    go_wp2_with (first | ((with_reducible refine gate_dst (N := 2) rfl ?_); (try (refine gate_guard (by rfl) ?_; dsimp only)); refine box_ev (N := 2) (cs := #[.slice A0_0 l0_0.length c0_0, .slice A0_1 l0_1.length c0_1, .slice A0_2 l0_2.length c0_2, .slice A0_3 l0_3.length c0_3]) (t := 26) ?_; intro gb287 hg w8 hbox hb; have BK287 := zM (hbox); have GE287 := zM (box_ge (n := w.heap.size) hg (below_size s8)); replace HB := zM (below_step s8 hb); clear hb hbox hg; obtain ⟨hcz9_0, hcz9_1, hcz9_2, hcz9_3, hfz9_0, hfz9_1, hfz9_2, hfz9_3⟩ := blk4 BK287.out) | (go_at_call 61; (with_reducible refine (expr_Right.calls k _ _ l1 (l0_1.length : Int) t288 _ ?side3 ?side1 HC1.out A4.out).mono ?_); (case side1 => exact q12_16); (case side3 => exact s9); rintro e w10 ⟨rfl, hb⟩; replace BK287 := zM (blk_below (g := gb287) q12_20 hb); replace HB := zM (below_step q12_6 hb); (try clear hb)) | (go_at_call 62; (with_reducible refine (expr_IsTruth.calls _ _ l1 true _ ?side3 ?side1 HC1.out A6.out).mono ?_); (case side1 => exact q12_16); (case side3 => exact s9); rintro e w11 ⟨rfl, hb⟩; replace BK287 := zM (blk_below (g := gb287) q12_20 hb); replace HB := zM (below_step q12_6 hb); (try clear hb)))
    go_ret
    exact ⟨s6, q12_6⟩
   replace c7 := Bool.eq_false_iff.mpr c7
   subst c7
   have H1 : (some 121) = some r := by rw [if_neg (show ¬ (false = true) by decide)] at H; exact H
   clear H
   have H := H1
   clear H1
   obtain rfl := Option.some.inj H
   go_enter Tryd.func60, Tryd.ntmps60
   go_wp2_with (first | ((with_reducible refine gate_dst (N := 2) rfl ?_); (try (refine gate_guard (by rfl) ?_; dsimp only)); refine box_ev (N := 2) (cs := #[.slice A0_0 l0_0.length c0_0, .slice A0_1 l0_1.length c0_1, .slice A0_2 l0_2.length c0_2, .slice A0_3 l0_3.length c0_3]) (t := 26) ?_; intro gb287 hg w12 hbox hb; have BK287 := zM (hbox); have GE287 := zM (box_ge (n := w.heap.size) hg (below_size s8)); replace HB := zM (below_step s8 hb); clear hb hbox hg; obtain ⟨hcz13_0, hcz13_1, hcz13_2, hcz13_3, hfz13_0, hfz13_1, hfz13_2, hfz13_3⟩ := blk4 BK287.out) | (go_at_call 61; (with_reducible refine (expr_Right.calls k _ _ l1 (l0_1.length : Int) t288 _ ?side3 ?side1 HC1.out A4.out).mono ?_); (case side1 => exact q12_16); (case side3 => exact s9); rintro e w14 ⟨rfl, hb⟩; replace BK287 := zM (blk_below (g := gb287) q12_20 hb); replace HB := zM (below_step q12_6 hb); (try clear hb)) | (go_at_call 62; (with_reducible refine (expr_IsTruth.calls _ _ l1 false _ ?side3 ?side1 HC1.out A6.out).mono ?_); (case side1 => exact q12_16); (case side3 => exact s9); rintro e w15 ⟨rfl, hb⟩; replace BK287 := zM (blk_below (g := gb287) q12_20 hb); replace HB := zM (below_step q12_6 hb); (try clear hb)))
   go_ret
   exact ⟨s6, q12_6⟩
  rw [if_neg c5] at H
  obtain ⟨c5b0, c5b1⟩ := neb c5
  obtain rfl := Option.some.inj H
  go_enter Tryd.func60, Tryd.ntmps60
  go_wp2_with (first | ((with_reducible refine gate_dst (N := 2) rfl ?_); (try (refine gate_guard (by rfl) ?_; dsimp only)); refine box_ev (N := 2) (cs := #[.slice A0_0 l0_0.length c0_0, .slice A0_1 l0_1.length c0_1, .slice A0_2 l0_2.length c0_2, .slice A0_3 l0_3.length c0_3]) (t := 26) ?_; intro gb287 hg w16 hbox hb; have BK287 := zM (hbox); have GE287 := zM (box_ge (n := w.heap.size) hg (below_size s8)); replace HB := zM (below_step s8 hb); clear hb hbox hg; obtain ⟨hcz17_0, hcz17_1, hcz17_2, hcz17_3, hfz17_0, hfz17_1, hfz17_2, hfz17_3⟩ := blk4 BK287.out) | (go_at_call 61; (with_reducible refine (expr_Right.calls k _ _ l1 (l0_1.length : Int) t288 _ ?side3 ?side1 HC1.out A4.out).mono ?_); (case side1 => exact q12_16); (case side3 => exact s9); rintro e w18 ⟨rfl, hb⟩; replace BK287 := zM (blk_below (g := gb287) q12_20 hb); replace HB := zM (below_step q12_6 hb); (try clear hb)))
  go_ret
  exact ⟨s6, q12_6⟩
 rw [if_neg c3] at H
 have c3b0 := dngt c3
 have c3b1 : decide (0 < l1.length) = false := decide_eq_false (by omega)
 clear c3
 obtain rfl := Option.some.inj H
 go_enter Tryd.func60, Tryd.ntmps60
 go_wp2_with (first | ((with_reducible refine gate_dst (N := 2) rfl ?_); (try (refine gate_guard (by rfl) ?_; dsimp only)); refine box_ev (N := 2) (cs := #[.slice A0_0 l0_0.length c0_0, .slice A0_1 l0_1.length c0_1, .slice A0_2 l0_2.length c0_2, .slice A0_3 l0_3.length c0_3]) (t := 26) ?_; intro gb287 hg w19 hbox hb; have BK287 := zM (hbox); have GE287 := zM (box_ge (n := w.heap.size) hg (below_size s8)); replace HB := zM (below_step s8 hb); clear hb hbox hg))
 go_ret
 exact ⟨s6, q12_6⟩

/-! ### net_tests: function 45 -/
mutual
def net_tests.l0 : Nat → List (S61) → Int → Int → List ByteArray → List (S50) → List ByteArray → List (S61) → Option (Int)
 | 0, _, _, _, _, _, _, _ => none
 | k + 1, x11, x12, x13, x291000, x291001, x291002, x291003 => if x13 < x12 then (if 0 ≤ x13 then (if x13 < (x11.length : Int) then (net_tests.l1 k x11 x12 x13 ((rd_T61 x11 x13).f2) (((rd_T61 x11 x13).f2).length : Int) 0 x291000 x291001 x291002 x291003) else (none)) else (none)) else ((net_sets.f k x291000 x291001 x291002 x291003).bind fun t296 => (net_tests.l2 k t296 (t296.length : Int) 0 x291000 x291001 x291002 x291003))
def net_tests.l1 : Nat → List (S61) → Int → Int → List (S90) → Int → Int → List ByteArray → List (S50) → List ByteArray → List (S61) → Option (Int)
 | 0, _, _, _, _, _, _, _, _, _, _ => none
 | k + 1, x11, x12, x13, x18, x19, x20, x291000, x291001, x291002, x291003 => if x20 < x19 then (if 0 ≤ x20 then (if x20 < (x18.length : Int) then ((net_truth.f k x291000 x291001 x291002 x291003 ((rd_T90 x18 x20).f3)).bind fun t295 => (if t295 = 0 then (net_tests.l1 k x11 x12 x13 x18 x19 (wrap64 (x20 + 1)) x291000 x291001 x291002 x291003) else (some t295))) else (none)) else (none)) else (net_tests.l0 k x11 x12 (wrap64 (x13 + 1)) x291000 x291001 x291002 x291003)
def net_tests.l2 : Nat → List (S92) → Int → Int → List ByteArray → List (S50) → List ByteArray → List (S61) → Option (Int)
 | 0, _, _, _, _, _, _, _ => none
 | k + 1, x34, x35, x36, x291000, x291001, x291002, x291003 => if x36 < x35 then (if 0 ≤ x36 then (if x36 < (x34.length : Int) then (if ((rd_T92 x34 x36).f0) = 0 then (if ((rd_T92 x34 x36).f2) < 0 then (some 121) else (if ((rd_T92 x34 x36).f2) ≥ (x291001.length : Int) then (some 121) else ((expr_Right.f k ((rd_T92 x34 x36).f3) (x291001.length : Int)).bind fun t301 => (if t301 = 0 then ((expr_IsTruth.f ((rd_T92 x34 x36).f3)).bind fun t302 => (if t302 = true then (some 121) else (net_tests.l2 k x34 x35 (wrap64 (x36 + 1)) x291000 x291001 x291002 x291003))) else (some 121))))) else (net_tests.l2 k x34 x35 (wrap64 (x36 + 1)) x291000 x291001 x291002 x291003)) else (none)) else (none)) else (some 0)
end
def net_tests.f (k : Nat) (l0_0 : List ByteArray) (l0_1 : List (S50)) (l0_2 : List ByteArray) (l0_3 : List (S61)) : Option (Int) := net_tests.l0 k l0_3 (l0_3.length : Int) 0 l0_0 l0_1 l0_2 l0_3
theorem net_tests.mono_l : ∀ k, (∀ y0 y1 y2 y3 y4 y5 y6, LeO (net_tests.l0 k y0 y1 y2 y3 y4 y5 y6) (net_tests.l0 (k + 1) y0 y1 y2 y3 y4 y5 y6)) ∧ (∀ y0 y1 y2 y3 y4 y5 y6 y7 y8 y9, LeO (net_tests.l1 k y0 y1 y2 y3 y4 y5 y6 y7 y8 y9) (net_tests.l1 (k + 1) y0 y1 y2 y3 y4 y5 y6 y7 y8 y9)) ∧ (∀ y0 y1 y2 y3 y4 y5 y6, LeO (net_tests.l2 k y0 y1 y2 y3 y4 y5 y6) (net_tests.l2 (k + 1) y0 y1 y2 y3 y4 y5 y6))
 | 0 => ⟨fun _ _ _ _ _ _ _ r h => by simp [net_tests.l0] at h, fun _ _ _ _ _ _ _ _ _ _ r h => by simp [net_tests.l1] at h, fun _ _ _ _ _ _ _ r h => by simp [net_tests.l2] at h⟩
 | k + 1 => by
  obtain ⟨ih0, ih1, ih2⟩ := net_tests.mono_l k
  refine ⟨?_, ?_, ?_⟩
  all_goals intros
  all_goals first | unfold net_tests.l0 | unfold net_tests.l1 | unfold net_tests.l2
  all_goals repeat' first | (with_reducible first | exact ih0 _ _ _ _ _ _ _ | exact ih1 _ _ _ _ _ _ _ _ _ _ | exact ih2 _ _ _ _ _ _ _ | exact expr_Right.mono _ _ _ | exact net_sets.mono _ _ _ _ _ | exact net_truth.mono _ _ _ _ _ _ | exact LeO.refl _ | exact LeO.none _ | refine LeO.ite ?_ ?_ | refine LeO.bind ?_ (fun _ => ?_)) | exact LeO.none _ | refine LeO.ite ?_ ?_ | refine LeO.bind ?_ (fun _ => ?_)
theorem net_tests.mono : ∀ a0 a1 a2 a3 k, LeO (net_tests.f k a0 a1 a2 a3) (net_tests.f (k + 1) a0 a1 a2 a3) := by
 intro a0 a1 a2 a3 k
 obtain ⟨ih0, ih1, ih2⟩ := net_tests.mono_l k
 unfold net_tests.f
 repeat' first | (with_reducible first | exact ih0 _ _ _ _ _ _ _ | exact ih1 _ _ _ _ _ _ _ _ _ _ | exact ih2 _ _ _ _ _ _ _ | exact expr_Right.mono _ _ _ | exact net_sets.mono _ _ _ _ _ | exact net_truth.mono _ _ _ _ _ _ | exact LeO.refl _ | exact LeO.none _ | refine LeO.ite ?_ ?_ | refine LeO.bind ?_ (fun _ => ?_)) | exact LeO.none _ | refine LeO.ite ?_ ?_ | refine LeO.bind ?_ (fun _ => ?_)
set_option maxHeartbeats 8000000 in
set_option maxRecDepth 100000 in
theorem net_tests.calls (k : Nat) (A0_0 : Option Addr) (c0_0 : Nat) (l0_0 : List ByteArray) (A0_1 : Option Addr) (c0_1 : Nat) (l0_1 : List (S50)) (A0_2 : Option Addr) (c0_2 : Nat) (l0_2 : List ByteArray) (A0_3 : Option Addr) (c0_3 : Nat) (l0_3 : List (S61)) (r : Int) (w : World) (hG : Glob w) (hr0_0 : Kd.C Kd.string w A0_0 l0_0.length l0_0) (hc0_0 : l0_0.length ≤ c0_0) (hr0_1 : Kd.C k50 w A0_1 l0_1.length l0_1) (hc0_1 : l0_1.length ≤ c0_1) (hr0_2 : Kd.C Kd.string w A0_2 l0_2.length l0_2) (hc0_2 : l0_2.length ≤ c0_2) (hr0_3 : Kd.C k61 w A0_3 l0_3.length l0_3) (hc0_3 : l0_3.length ≤ c0_3) (h : net_tests.f k l0_0 l0_1 l0_2 l0_3 = some r) :
  Calls Tryd.prog 45 #[.agg #[.slice A0_0 l0_0.length c0_0, .slice A0_1 l0_1.length c0_1, .slice A0_2 l0_2.length c0_2, .slice A0_3 l0_3.length c0_3]] w fun e w' => e = .returned (.int .i64 r) ∧ Below w.heap.size w w' := by
 have hu26 := Tryd.underlying26
 have hu61 := Tryd.underlying61
 have hu90 := Tryd.underlying90
 have hu92 := Tryd.underlying92
 have HR0_0 := zM hr0_0
 have HC0_0 := zM hc0_0
 clear hr0_0 hc0_0
 have HR0_1 := zM hr0_1
 have HC0_1 := zM hc0_1
 clear hr0_1 hc0_1
 have HR0_2 := zM hr0_2
 have HC0_2 := zM hc0_2
 clear hr0_2 hc0_2
 have HR0_3 := zM hr0_3
 have HC0_3 := zM hc0_3
 clear hr0_3 hc0_3
 have HGL := zM hG
 clear hG
 have HB := zM (Below.refl w.heap.size w)
 have H : (net_tests.l0 k l0_3 (l0_3.length : Int) 0 l0_0 l0_1 l0_2 l0_3) = some r := h
 clear h
 have H' := zM H
 clear H
 go_enter Tryd.func45, Tryd.ntmps45
 go_wp2_with (first | ((with_reducible refine gate_dst (N := 1) rfl ?_); (try (refine gate_guard (by rfl) ?_; dsimp only)); refine box_ev (N := 1) (cs := #[.slice A0_0 l0_0.length c0_0, .slice A0_1 l0_1.length c0_1, .slice A0_2 l0_2.length c0_2, .slice A0_3 l0_3.length c0_3]) (t := 26) ?_; intro gb290 hg w2 hbox hb; have BK290 := zM (hbox); have GE290 := zM (box_ge (n := w.heap.size) hg (below_size s8)); replace HB := zM (below_step s8 hb); clear hb hbox hg; obtain ⟨hcz3_0, hcz3_1, hcz3_2, hcz3_3, hfz3_0, hfz3_1, hfz3_2, hfz3_3⟩ := blk4 BK290.out))
 go_loopg [13] k (fun kq v13 w' => ∃ (x13_1 : Int), v13 = .int .i64 x13_1 ∧ Aside0 (net_tests.l0 kq l0_3 (l0_3.length : Int) x13_1 l0_0 l0_1 l0_2 l0_3 = some r) ∧ Aside0 (kq ≤ k) ∧ Aside0 (w'.heap[gb290]? = some (.cells #[(.slice A0_0 l0_0.length c0_0), (.slice A0_1 l0_1.length c0_1), (.slice A0_2 l0_2.length c0_2), (.slice A0_3 l0_3.length c0_3)] 26 (0, 0))) ∧ Aside0 (Below w.heap.size w w'))
 case atStart => exact ⟨(0), s7, H', ⟨Nat.le_refl _⟩, ⟨q12_1⟩, ⟨q12_3⟩⟩
 clear H'
 obtain ⟨x13_1, rfl, HA, HK1, BK290, HB⟩ := hrel
 cases gk with
 | zero => exact absurd HA.out (by simp [net_tests.l0])
 | succ k1 =>
  have H := HA.out
  clear HA
  simp only [net_tests.l0] at H
  by_cases c4 : x13_1 < (l0_3.length : Int)
  ·
   rw [if_pos c4] at H
   have c4b0 := zD c4
   clear c4
   by_cases c5 : 0 ≤ x13_1
   ·
    rw [if_pos c5] at H
    have c5b0 := zD c5
    clear c5
    by_cases c6 : x13_1 < (l0_3.length : Int)
    ·
     rw [if_pos c6] at H
     have c6b0 := zD c6
     clear c6
     have H' := zM H
     clear H
     have p291 : 0 ≤ (x13_1 : Int) := zO s3
     have q291 : x13_1 < (l0_3.length : Int) := zO s3
     obtain ⟨ad291, A291_1, c291_1, A291_2, c291_2, e291, hx291_0, hx291_1, hx291_2, HC291_1, HR291_1, HC291_2, HR291_2⟩ := as_T61 HR0_3.out x13_1 p291 q291
     cases e291
     replace hx291_0 := cell_up HB.out hx291_0
     replace hx291_1 := cell_up HB.out hx291_1
     replace hx291_2 := cell_up HB.out hx291_2
     replace p291 := eq_true p291
     replace q291 := eq_true q291
     go_wp2_with (first | ((with_reducible refine gate_dst (N := 4) rfl ?_); (try (refine gate_guard (by rfl) ?_; dsimp only)); refine box_ev (N := 4) (cs := #[.string (⟨#[]⟩ : ByteArray), .slice none 0 0, .slice none 0 0]) (t := 61) ?_; intro gb292 hg w7 hbox hb; have BK292 := zM (hbox); have GE292 := zM (box_ge (n := w.heap.size) hg (below_size q12_3)); have NB290_292 := zM (box_ne hg (g := gb290) q12_1); have NB292_290 := zM (box_ne' hg (g := gb290) q12_1); replace BK290 := zM (blk_below (g := gb290) q12_1 hb); replace HB := zM (below_step q12_3 hb); clear hb hbox hg; have hnb8 := NB292_290.out; have hnc8 := NB290_292.out; obtain ⟨hcz9_0, hcz9_1, hcz9_2, hfz9_0, hfz9_1, hfz9_2⟩ := blk3 BK292.out))
     go_loopg [20] k1 (fun kq v20 w' => ∃ (x20_2 : Int), v20 = .int .i64 x20_2 ∧ Aside0 (net_tests.l1 kq l0_3 (l0_3.length : Int) x13_1 ((rd_T61 l0_3 x13_1).f2) (((rd_T61 l0_3 x13_1).f2).length : Int) x20_2 l0_0 l0_1 l0_2 l0_3 = some r) ∧ Aside0 (kq ≤ k1) ∧ Aside0 (w'.heap[gb290]? = some (.cells #[(.slice A0_0 l0_0.length c0_0), (.slice A0_1 l0_1.length c0_1), (.slice A0_2 l0_2.length c0_2), (.slice (some ad291) l0_3.length c0_3)] 26 (0, 0))) ∧ Aside0 (w'.heap[gb292]? = some (.cells #[.string ((rd_T61 l0_3 x13_1).f0), (.slice A291_1 ((rd_T61 l0_3 x13_1).f1).length c291_1), (.slice A291_2 ((rd_T61 l0_3 x13_1).f2).length c291_2)] 61 (0, 0))) ∧ Aside0 (Below w.heap.size w w'))
     case atStart => exact ⟨(0), s7, H', ⟨Nat.le_refl _⟩, ⟨(by (iterate 3 ((with_reducible repeat (first | refine blk_drewN ?_ _ | refine blk_drew ?_ | refine blk_alloc ?_ _)); refine blk_far ?_ NB290_292.out _)); (with_reducible repeat (first | refine blk_drewN ?_ _ | refine blk_drew ?_ | refine blk_alloc ?_ _)); exact BK290.out)⟩, ⟨(by (with_reducible repeat (first | refine blk_drewN ?_ _ | refine blk_drew ?_ | refine blk_alloc ?_ _)); apply blk_fill3; (with_reducible repeat (first | refine blk_drewN ?_ _ | refine blk_drew ?_ | refine blk_alloc ?_ _)); exact BK292.out)⟩, ⟨q12_10⟩⟩
     clear H'
     obtain ⟨x20_2, rfl, HA, HK2, BK290, BK292, HB⟩ := hrel
     cases gk with
     | zero => exact absurd HA.out (by simp [net_tests.l1])
     | succ k2 =>
      have H := HA.out
      clear HA
      simp only [net_tests.l1] at H
      by_cases c10 : x20_2 < (((rd_T61 l0_3 x13_1).f2).length : Int)
      ·
       rw [if_pos c10] at H
       have c10b0 := zD c10
       clear c10
       by_cases c11 : 0 ≤ x20_2
       ·
        rw [if_pos c11] at H
        have c11b0 := zD c11
        clear c11
        by_cases c12 : x20_2 < (((rd_T61 l0_3 x13_1).f2).length : Int)
        ·
         rw [if_pos c12] at H
         have c12b0 := zD c12
         clear c12
         replace H := Option.bind_eq_some_iff.mp H
         obtain ⟨t295, A130, H⟩ := H
         replace H : (if t295 = 0 then (net_tests.l1 k2 l0_3 (l0_3.length : Int) x13_1 ((rd_T61 l0_3 x13_1).f2) (((rd_T61 l0_3 x13_1).f2).length : Int) (wrap64 (x20_2 + 1)) l0_0 l0_1 l0_2 l0_3) else (some t295)) = some r := H
         have A13 := zM A130
         clear A130
         by_cases c14 : t295 = 0
         ·
          rw [if_pos c14] at H
          obtain ⟨c14b0, c14b1⟩ := eqb c14
          clear c14
          have H' := zM H
          clear H
          have p293 : 0 ≤ (x20_2 : Int) := zO s3
          have q293 : x20_2 < (((rd_T61 l0_3 x13_1).f2).length : Int) := zO s3
          obtain ⟨ad293, A293_2, c293_2, A293_3, c293_3, A293_6, c293_6, e293, hx293_0, hx293_1, hx293_2, hx293_3, hx293_4, hx293_5, hx293_6, HC293_2, HR293_2, HC293_3, HR293_3, HC293_6, HR293_6⟩ := as_T90 HR291_2.out x20_2 p293 q293
          cases e293
          replace hx293_0 := cell_up HB.out hx293_0
          replace hx293_1 := cell_up HB.out hx293_1
          replace hx293_2 := cell_up HB.out hx293_2
          replace hx293_3 := cell_up HB.out hx293_3
          replace hx293_4 := cell_up HB.out hx293_4
          replace hx293_5 := cell_up HB.out hx293_5
          replace hx293_6 := cell_up HB.out hx293_6
          replace p293 := eq_true p293
          replace q293 := eq_true q293
          go_wp2_with (first | ((with_reducible refine gate_dst (N := 6) rfl ?_); (try (refine gate_guard (by rfl) ?_; dsimp only)); refine box_ev (N := 6) (cs := #[.int .i64 0, .int .i64 0, .slice none 0 0, .slice none 0 0, .int .i64 0, .bool false, .slice none 0 0]) (t := 90) ?_; intro gb294 hg w15 hbox hb; have BK294 := zM (hbox); have GE294 := zM (box_ge (n := w.heap.size) hg (below_size q12_10)); have NB290_294 := zM (box_ne hg (g := gb290) q12_1); have NB294_290 := zM (box_ne' hg (g := gb290) q12_1); have NB292_294 := zM (box_ne hg (g := gb292) q12_17); have NB294_292 := zM (box_ne' hg (g := gb292) q12_17); replace BK290 := zM (blk_below (g := gb290) q12_1 hb); replace BK292 := zM (blk_below (g := gb292) q12_17 hb); replace HB := zM (below_step q12_10 hb); clear hb hbox hg; have hnb16 := NB294_290.out; have hnc16 := NB290_294.out; have hnb17 := NB294_292.out; have hnc17 := NB292_294.out; obtain ⟨hcz18_0, hcz18_1, hcz18_2, hcz18_3, hcz18_4, hcz18_5, hcz18_6, hfz18_0, hfz18_1, hfz18_2, hfz18_3, hfz18_4, hfz18_5, hfz18_6⟩ := blk7 BK294.out; have hnb19 := NB290_292.out; have hnc19 := NB292_290.out; obtain ⟨hcz20_0, hcz20_1, hcz20_2, hcz20_3, hfz20_0, hfz20_1, hfz20_2, hfz20_3⟩ := blk4 BK290.out) | ((with_reducible refine gate_callee (f := 60) rfl ?_); refine goesL_ (some 27) rfl rfl Tryd.func60 (by kernel_rfl) rfl #[.agg #[.slice A0_0 l0_0.length c0_0, .slice A0_1 l0_1.length c0_1, .slice A0_2 l0_2.length c0_2, .slice (some ad291) l0_3.length c0_3], .slice A293_3 ((rd_T90 ((rd_T61 l0_3 x13_1).f2) x20_2).f3).length c293_3] rfl s0 ?_; (with_reducible refine (net_truth.calls k2 _ _ l0_0 _ _ l0_1 _ _ l0_2 _ _ l0_3 _ _ ((rd_T90 ((rd_T61 l0_3 x13_1).f2) x20_2).f3) t295 _ ?side11 ?side1 HC0_0.out ?side3 HC0_1.out ?side5 HC0_2.out ?side7 HC0_3.out ?side9 HC293_3.out A13.out).mono ?_); (case side1 => exact Kd.C_below HR0_0.out q12_2); (case side3 => exact Kd.C_below HR0_1.out q12_2); (case side5 => exact Kd.C_below HR0_2.out q12_2); (case side7 => exact Kd.C_below HR0_3.out q12_2); (case side9 => exact Kd.C_below HR293_3.out q12_2); (case side11 => exact HGL.out.below q12_2); rintro e w21 ⟨rfl, hb⟩; refine ⟨_, rfl, ?_⟩; replace BK290 := zM (blk_below (g := gb290) (o := .cells #[.slice A0_0 l0_0.length c0_0, .slice A0_1 l0_1.length c0_1, .slice A0_2 l0_2.length c0_2, .slice (some ad291) l0_3.length c0_3] 26 (0, 0)) q12_23 hb); replace BK292 := zM (blk_below (g := gb292) (o := .cells #[.string ((rd_T61 l0_3 x13_1).f0), .slice A291_1 ((rd_T61 l0_3 x13_1).f1).length c291_1, .slice (some ad293) ((rd_T61 l0_3 x13_1).f2).length c291_2] 61 (0, 0)) q12_24 hb); replace BK294 := zM (blk_below (g := gb294) (o := .cells #[.int .i64 ((rd_T90 ((rd_T61 l0_3 x13_1).f2) x20_2).f0), .int .i64 ((rd_T90 ((rd_T61 l0_3 x13_1).f2) x20_2).f1), .slice A293_2 ((rd_T90 ((rd_T61 l0_3 x13_1).f2) x20_2).f2).length c293_2, .slice A293_3 ((rd_T90 ((rd_T61 l0_3 x13_1).f2) x20_2).f3).length c293_3, .int .i64 ((rd_T90 ((rd_T61 l0_3 x13_1).f2) x20_2).f4), .bool ((rd_T90 ((rd_T61 l0_3 x13_1).f2) x20_2).f5), .slice A293_6 ((rd_T90 ((rd_T61 l0_3 x13_1).f2) x20_2).f6).length c293_6] 90 (0, 0)) q12_25 hb); replace HB := zM (below_step q12_2 hb); (try clear hb)))
          go_roundg k2
          case measure => have := HK1.out; have := HK2.out; omega
          case rel => exact ⟨(wrap64 (x20_2 + 1)), s7, H', ⟨q12_29⟩, ⟨q12_1⟩, ⟨q12_17⟩, ⟨q12_2⟩⟩
         rw [if_neg c14] at H
         obtain ⟨c14b0, c14b1⟩ := neb c14
         obtain rfl := Option.some.inj H
         have p293 : 0 ≤ (x20_2 : Int) := zO s3
         have q293 : x20_2 < (((rd_T61 l0_3 x13_1).f2).length : Int) := zO s3
         obtain ⟨ad293, A293_2, c293_2, A293_3, c293_3, A293_6, c293_6, e293, hx293_0, hx293_1, hx293_2, hx293_3, hx293_4, hx293_5, hx293_6, HC293_2, HR293_2, HC293_3, HR293_3, HC293_6, HR293_6⟩ := as_T90 HR291_2.out x20_2 p293 q293
         cases e293
         replace hx293_0 := cell_up HB.out hx293_0
         replace hx293_1 := cell_up HB.out hx293_1
         replace hx293_2 := cell_up HB.out hx293_2
         replace hx293_3 := cell_up HB.out hx293_3
         replace hx293_4 := cell_up HB.out hx293_4
         replace hx293_5 := cell_up HB.out hx293_5
         replace hx293_6 := cell_up HB.out hx293_6
         replace p293 := eq_true p293
         replace q293 := eq_true q293
         go_wp2_with (first | ((with_reducible refine gate_dst (N := 6) rfl ?_); (try (refine gate_guard (by rfl) ?_; dsimp only)); refine box_ev (N := 6) (cs := #[.int .i64 0, .int .i64 0, .slice none 0 0, .slice none 0 0, .int .i64 0, .bool false, .slice none 0 0]) (t := 90) ?_; intro gb294 hg w22 hbox hb; have BK294 := zM (hbox); have GE294 := zM (box_ge (n := w.heap.size) hg (below_size q12_10)); have NB290_294 := zM (box_ne hg (g := gb290) q12_1); have NB294_290 := zM (box_ne' hg (g := gb290) q12_1); have NB292_294 := zM (box_ne hg (g := gb292) q12_17); have NB294_292 := zM (box_ne' hg (g := gb292) q12_17); replace BK290 := zM (blk_below (g := gb290) q12_1 hb); replace BK292 := zM (blk_below (g := gb292) q12_17 hb); replace HB := zM (below_step q12_10 hb); clear hb hbox hg; have hnb23 := NB294_290.out; have hnc23 := NB290_294.out; have hnb24 := NB294_292.out; have hnc24 := NB292_294.out; obtain ⟨hcz25_0, hcz25_1, hcz25_2, hcz25_3, hcz25_4, hcz25_5, hcz25_6, hfz25_0, hfz25_1, hfz25_2, hfz25_3, hfz25_4, hfz25_5, hfz25_6⟩ := blk7 BK294.out; have hnb26 := NB290_292.out; have hnc26 := NB292_290.out; obtain ⟨hcz27_0, hcz27_1, hcz27_2, hcz27_3, hfz27_0, hfz27_1, hfz27_2, hfz27_3⟩ := blk4 BK290.out) | ((with_reducible refine gate_callee (f := 60) rfl ?_); refine goesL_ (some 27) rfl rfl Tryd.func60 (by kernel_rfl) rfl #[.agg #[.slice A0_0 l0_0.length c0_0, .slice A0_1 l0_1.length c0_1, .slice A0_2 l0_2.length c0_2, .slice (some ad291) l0_3.length c0_3], .slice A293_3 ((rd_T90 ((rd_T61 l0_3 x13_1).f2) x20_2).f3).length c293_3] rfl s0 ?_; (with_reducible refine (net_truth.calls k2 _ _ l0_0 _ _ l0_1 _ _ l0_2 _ _ l0_3 _ _ ((rd_T90 ((rd_T61 l0_3 x13_1).f2) x20_2).f3) t295 _ ?side11 ?side1 HC0_0.out ?side3 HC0_1.out ?side5 HC0_2.out ?side7 HC0_3.out ?side9 HC293_3.out A13.out).mono ?_); (case side1 => exact Kd.C_below HR0_0.out q12_2); (case side3 => exact Kd.C_below HR0_1.out q12_2); (case side5 => exact Kd.C_below HR0_2.out q12_2); (case side7 => exact Kd.C_below HR0_3.out q12_2); (case side9 => exact Kd.C_below HR293_3.out q12_2); (case side11 => exact HGL.out.below q12_2); rintro e w28 ⟨rfl, hb⟩; refine ⟨_, rfl, ?_⟩; replace BK290 := zM (blk_below (g := gb290) (o := .cells #[.slice A0_0 l0_0.length c0_0, .slice A0_1 l0_1.length c0_1, .slice A0_2 l0_2.length c0_2, .slice (some ad291) l0_3.length c0_3] 26 (0, 0)) q12_23 hb); replace BK292 := zM (blk_below (g := gb292) (o := .cells #[.string ((rd_T61 l0_3 x13_1).f0), .slice A291_1 ((rd_T61 l0_3 x13_1).f1).length c291_1, .slice (some ad293) ((rd_T61 l0_3 x13_1).f2).length c291_2] 61 (0, 0)) q12_24 hb); replace BK294 := zM (blk_below (g := gb294) (o := .cells #[.int .i64 ((rd_T90 ((rd_T61 l0_3 x13_1).f2) x20_2).f0), .int .i64 ((rd_T90 ((rd_T61 l0_3 x13_1).f2) x20_2).f1), .slice A293_2 ((rd_T90 ((rd_T61 l0_3 x13_1).f2) x20_2).f2).length c293_2, .slice A293_3 ((rd_T90 ((rd_T61 l0_3 x13_1).f2) x20_2).f3).length c293_3, .int .i64 ((rd_T90 ((rd_T61 l0_3 x13_1).f2) x20_2).f4), .bool ((rd_T90 ((rd_T61 l0_3 x13_1).f2) x20_2).f5), .slice A293_6 ((rd_T90 ((rd_T61 l0_3 x13_1).f2) x20_2).f6).length c293_6] 90 (0, 0)) q12_25 hb); replace HB := zM (below_step q12_2 hb); (try clear hb)))
         go_ret
         exact ⟨s6, q12_2⟩
        rw [if_neg c12] at H
        exact absurd H (by simp)
       rw [if_neg c11] at H
       exact absurd H (by simp)
      rw [if_neg c10] at H
      have c10b0 := decide_eq_false c10
      clear c10
      have H' := zM H
      clear H
      go_wp2
      go_roundg k2
      case measure => have := HK1.out; have := HK2.out; omega
      case rel => exact ⟨(wrap64 (x13_1 + 1)), s7, H', ⟨q12_29⟩, ⟨q12_1⟩, ⟨q12_10⟩⟩
    rw [if_neg c6] at H
    exact absurd H (by simp)
   rw [if_neg c5] at H
   exact absurd H (by simp)
  rw [if_neg c4] at H
  have c4b0 := decide_eq_false c4
  clear c4
  replace H := Option.bind_eq_some_iff.mp H
  obtain ⟨t296, A290, H⟩ := H
  replace H : (net_tests.l2 k1 t296 (t296.length : Int) 0 l0_0 l0_1 l0_2 l0_3) = some r := H
  have A29 := zM A290
  clear A290
  have H' := zM H
  clear H
  obtain ⟨hcz30_0, hcz30_1, hcz30_2, hcz30_3, hfz30_0, hfz30_1, hfz30_2, hfz30_3⟩ := blk4 BK290.out
  go_wp2_with (first | ((with_reducible refine gate_callee (f := 57) rfl ?_); refine goesL_ (some 34) rfl rfl Tryd.func57 (by kernel_rfl) rfl #[.agg #[.slice A0_0 l0_0.length c0_0, .slice A0_1 l0_1.length c0_1, .slice A0_2 l0_2.length c0_2, .slice A0_3 l0_3.length c0_3]] rfl s0 ?_; (with_reducible refine (net_sets.calls k1 _ _ l0_0 _ _ l0_1 _ _ l0_2 _ _ l0_3 t296 w _ ?sideB ?side1 HC0_0.out ?side3 HC0_1.out ?side5 HC0_2.out ?side7 HC0_3.out A29.out).mono ?_); (case sideB => exact q12_3); (case side1 => exact HR0_0.out); (case side3 => exact HR0_1.out); (case side5 => exact HR0_2.out); (case side7 => exact HR0_3.out); rintro e w31 ⟨v297, rfl, ho0, hb⟩; refine ⟨_, rfl, ?_⟩; have HO298 := zM (Kd.V_lower (Kd.V_mono (ok' := fun k_ => k_ ≠ gb290) ho0 (fun k_ hk_ => Or.elim hk_ (fun hk_ => (Nat.ne_of_lt (Nat.lt_of_lt_of_le hk_ GE290.out))) (fun hk_ => (Kd.freshB (g := gb290) (o := .cells #[.slice A0_0 l0_0.length c0_0, .slice A0_1 l0_1.length c0_1, .slice A0_2 l0_2.length c0_2, .slice A0_3 l0_3.length c0_3] 26 (0, 0)) q12_1 k_ hk_)))) (below_size q12_3)); replace BK290 := zM (blk_below (g := gb290) q12_1 hb); replace HB := zM (below_step q12_3 hb); (try clear hb); (try clear ho0); obtain ⟨Ao32, co32, eo32⟩ := Kd.V_slice HO298.out; subst eo32))
  go_loopg [36] k1 (fun kq v36 w' => ∃ (x36_2 : Int), v36 = .int .i64 x36_2 ∧ Aside0 (net_tests.l2 kq t296 (t296.length : Int) x36_2 l0_0 l0_1 l0_2 l0_3 = some r) ∧ Aside0 (kq ≤ k1) ∧ Aside0 (Kd.V k92 92 w' w.heap.size (fun k_ => k_ ≠ gb290) (.slice Ao32 t296.length co32) t296) ∧ Aside0 (w'.heap[gb290]? = some (.cells #[(.slice A0_0 l0_0.length c0_0), (.slice A0_1 l0_1.length c0_1), (.slice A0_2 l0_2.length c0_2), (.slice A0_3 l0_3.length c0_3)] 26 (0, 0))) ∧ Aside0 (Below w.heap.size w w'))
  case atStart => exact ⟨(0), s7, H', ⟨Nat.le_refl _⟩, ⟨(by (with_reducible repeat (first | apply Kd.V_alloc | apply Kd.V_drewN | apply Kd.V_drew)); exact HO298.out)⟩, ⟨q12_1⟩, ⟨q12_3⟩⟩
  clear H'
  obtain ⟨x36_2, rfl, HA, HK2, HO_34, BK290, HB⟩ := hrel
  cases gk with
  | zero => exact absurd HA.out (by simp [net_tests.l2])
  | succ k2 =>
   have H := HA.out
   clear HA
   simp only [net_tests.l2] at H
   by_cases c33 : x36_2 < (t296.length : Int)
   ·
    rw [if_pos c33] at H
    have c33b0 := zD c33
    clear c33
    by_cases c34 : 0 ≤ x36_2
    ·
     rw [if_pos c34] at H
     have c34b0 := zD c34
     clear c34
     by_cases c35 : x36_2 < (t296.length : Int)
     ·
      rw [if_pos c35] at H
      have c35b0 := zD c35
      clear c35
      by_cases c36 : ((rd_T92 t296 x36_2).f0) = 0
      ·
       rw [if_pos c36] at H
       obtain ⟨c36b0, c36b1⟩ := eqb c36
       clear c36
       by_cases c37 : ((rd_T92 t296 x36_2).f2) < 0
       ·
        rw [if_pos c37] at H
        have c37b0 := zD c37
        clear c37
        obtain rfl := Option.some.inj H
        have p299 : 0 ≤ (x36_2 : Int) := zO s3
        have q299 : x36_2 < (t296.length : Int) := zO s3
        obtain ⟨ad299, A299_3, c299_3, e299, hx299_0, hx299_1, hx299_2, hx299_3, HC299_3, HR299_3⟩ := as_T92 (Kd.V_reads' HO_34.out).2.2 x36_2 p299 q299
        cases e299
        obtain ⟨ce299, hce299, hMe299, hcc299⟩ := Kd.V_get HO_34.out z92 x36_2 p299 q12_19
        obtain ⟨ua299_3, uc299_3, rfl, ul299_3, ge299_3⟩ := k92_openF hMe299
        have hv299_3 := hcc299 3 _ rfl
        rw [add_field _ _ 3 (by omega)] at hv299_3
        replace hv299_3 := Option.some.inj (hv299_3.symm.trans hx299_3)
        injection hv299_3 with hva_ hvn_ hvc_
        rw [hva_] at ge299_3
        rw [hvc_] at ul299_3
        have HL299_3 := zM (show Kd.V k122 122 _ w.heap.size _ _ ((rd_T92 t296 x36_2).f3) from Kd.V_mk ul299_3 ge299_3)
        clear hva_ hvn_ hvc_ ge299_3 ul299_3
        clear hcc299 hce299
        replace p299 := eq_true p299
        replace q299 := eq_true q299
        go_wp2_with (first | ((with_reducible refine gate_dst (N := 9) rfl ?_); (try (refine gate_guard (by rfl) ?_; dsimp only)); refine box_ev (N := 9) (cs := #[.int .i64 0, .int .i64 0, .int .i64 0, .slice none 0 0]) (t := 92) ?_; intro gb300 hg w38 hbox hb; have BK300 := zM (hbox); have GE300 := zM (box_ge (n := w.heap.size) hg (below_size q12_3)); have NB290_300 := zM (box_ne hg (g := gb290) q12_1); have NB300_290 := zM (box_ne' hg (g := gb290) q12_1); replace HO_34 := zM (Kd.V_below (Kd.V_elderB q12_15 gb300 (Nat.le_of_eq hg.symm)) hb); replace HL299_3 := zM (Kd.V_below (Kd.V_elderB q12_14 gb300 (Nat.le_of_eq hg.symm)) hb); replace BK290 := zM (blk_below (g := gb290) q12_1 hb); replace HR299_3 := zM (Kd.C_below q12_5 hb); replace HB := zM (below_step q12_3 hb); clear hb hbox hg; have hnb39 := NB300_290.out; have hnc39 := NB290_300.out; obtain ⟨hcz40_0, hcz40_1, hcz40_2, hcz40_3, hfz40_0, hfz40_1, hfz40_2, hfz40_3⟩ := blk4 BK300.out))
        go_ret
        exact ⟨s6, q12_4⟩
       rw [if_neg c37] at H
       have c37b0 := decide_eq_false c37
       clear c37
       by_cases c41 : ((rd_T92 t296 x36_2).f2) ≥ (l0_1.length : Int)
       ·
        rw [if_pos c41] at H
        have c41b0 := dge c41
        clear c41
        obtain rfl := Option.some.inj H
        have p299 : 0 ≤ (x36_2 : Int) := zO s3
        have q299 : x36_2 < (t296.length : Int) := zO s3
        obtain ⟨ad299, A299_3, c299_3, e299, hx299_0, hx299_1, hx299_2, hx299_3, HC299_3, HR299_3⟩ := as_T92 (Kd.V_reads' HO_34.out).2.2 x36_2 p299 q299
        cases e299
        obtain ⟨ce299, hce299, hMe299, hcc299⟩ := Kd.V_get HO_34.out z92 x36_2 p299 q12_19
        obtain ⟨ua299_3, uc299_3, rfl, ul299_3, ge299_3⟩ := k92_openF hMe299
        have hv299_3 := hcc299 3 _ rfl
        rw [add_field _ _ 3 (by omega)] at hv299_3
        replace hv299_3 := Option.some.inj (hv299_3.symm.trans hx299_3)
        injection hv299_3 with hva_ hvn_ hvc_
        rw [hva_] at ge299_3
        rw [hvc_] at ul299_3
        have HL299_3 := zM (show Kd.V k122 122 _ w.heap.size _ _ ((rd_T92 t296 x36_2).f3) from Kd.V_mk ul299_3 ge299_3)
        clear hva_ hvn_ hvc_ ge299_3 ul299_3
        clear hcc299 hce299
        replace p299 := eq_true p299
        replace q299 := eq_true q299
        go_wp2_with (first | ((with_reducible refine gate_dst (N := 9) rfl ?_); (try (refine gate_guard (by rfl) ?_; dsimp only)); refine box_ev (N := 9) (cs := #[.int .i64 0, .int .i64 0, .int .i64 0, .slice none 0 0]) (t := 92) ?_; intro gb300 hg w42 hbox hb; have BK300 := zM (hbox); have GE300 := zM (box_ge (n := w.heap.size) hg (below_size q12_3)); have NB290_300 := zM (box_ne hg (g := gb290) q12_1); have NB300_290 := zM (box_ne' hg (g := gb290) q12_1); replace HO_34 := zM (Kd.V_below (Kd.V_elderB q12_15 gb300 (Nat.le_of_eq hg.symm)) hb); replace HL299_3 := zM (Kd.V_below (Kd.V_elderB q12_14 gb300 (Nat.le_of_eq hg.symm)) hb); replace BK290 := zM (blk_below (g := gb290) q12_1 hb); replace HR299_3 := zM (Kd.C_below q12_5 hb); replace HB := zM (below_step q12_3 hb); clear hb hbox hg; have hnb43 := NB300_290.out; have hnc43 := NB290_300.out; obtain ⟨hcz44_0, hcz44_1, hcz44_2, hcz44_3, hfz44_0, hfz44_1, hfz44_2, hfz44_3⟩ := blk4 BK300.out; obtain ⟨hcz45_0, hcz45_1, hcz45_2, hcz45_3, hfz45_0, hfz45_1, hfz45_2, hfz45_3⟩ := blk4 BK290.out))
        go_ret
        exact ⟨s6, q12_4⟩
       rw [if_neg c41] at H
       have c41b0 := dnge c41
       clear c41
       replace H := Option.bind_eq_some_iff.mp H
       obtain ⟨t301, A460, H⟩ := H
       replace H : (if t301 = 0 then ((expr_IsTruth.f ((rd_T92 t296 x36_2).f3)).bind fun t302 => (if t302 = true then (some 121) else (net_tests.l2 k2 t296 (t296.length : Int) (wrap64 (x36_2 + 1)) l0_0 l0_1 l0_2 l0_3))) else (some 121)) = some r := H
       have A46 := zM A460
       clear A460
       by_cases c47 : t301 = 0
       ·
        rw [if_pos c47] at H
        obtain ⟨c47b0, c47b1⟩ := eqb c47
        clear c47
        replace H := Option.bind_eq_some_iff.mp H
        obtain ⟨t302, A480, H⟩ := H
        replace H : (if t302 = true then (some 121) else (net_tests.l2 k2 t296 (t296.length : Int) (wrap64 (x36_2 + 1)) l0_0 l0_1 l0_2 l0_3)) = some r := H
        have A48 := zM A480
        clear A480
        by_cases c49 : t302 = true
        ·
         subst c49
         have H1 : (some 121) = some r := by rw [if_pos rfl] at H; exact H
         clear H
         have H := H1
         clear H1
         obtain rfl := Option.some.inj H
         have p299 : 0 ≤ (x36_2 : Int) := zO s3
         have q299 : x36_2 < (t296.length : Int) := zO s3
         obtain ⟨ad299, A299_3, c299_3, e299, hx299_0, hx299_1, hx299_2, hx299_3, HC299_3, HR299_3⟩ := as_T92 (Kd.V_reads' HO_34.out).2.2 x36_2 p299 q299
         cases e299
         obtain ⟨ce299, hce299, hMe299, hcc299⟩ := Kd.V_get HO_34.out z92 x36_2 p299 q12_19
         obtain ⟨ua299_3, uc299_3, rfl, ul299_3, ge299_3⟩ := k92_openF hMe299
         have hv299_3 := hcc299 3 _ rfl
         rw [add_field _ _ 3 (by omega)] at hv299_3
         replace hv299_3 := Option.some.inj (hv299_3.symm.trans hx299_3)
         injection hv299_3 with hva_ hvn_ hvc_
         rw [hva_] at ge299_3
         rw [hvc_] at ul299_3
         have HL299_3 := zM (show Kd.V k122 122 _ w.heap.size _ _ ((rd_T92 t296 x36_2).f3) from Kd.V_mk ul299_3 ge299_3)
         clear hva_ hvn_ hvc_ ge299_3 ul299_3
         clear hcc299 hce299
         replace p299 := eq_true p299
         replace q299 := eq_true q299
         go_wp2_with (first | ((with_reducible refine gate_dst (N := 9) rfl ?_); (try (refine gate_guard (by rfl) ?_; dsimp only)); refine box_ev (N := 9) (cs := #[.int .i64 0, .int .i64 0, .int .i64 0, .slice none 0 0]) (t := 92) ?_; intro gb300 hg w50 hbox hb; have BK300 := zM (hbox); have GE300 := zM (box_ge (n := w.heap.size) hg (below_size q12_3)); have NB290_300 := zM (box_ne hg (g := gb290) q12_1); have NB300_290 := zM (box_ne' hg (g := gb290) q12_1); replace HO_34 := zM (Kd.V_below (Kd.V_elderB q12_15 gb300 (Nat.le_of_eq hg.symm)) hb); replace HL299_3 := zM (Kd.V_below (Kd.V_elderB q12_14 gb300 (Nat.le_of_eq hg.symm)) hb); replace BK290 := zM (blk_below (g := gb290) q12_1 hb); replace HR299_3 := zM (Kd.C_below q12_5 hb); replace HB := zM (below_step q12_3 hb); clear hb hbox hg; have hnb51 := NB300_290.out; have hnc51 := NB290_300.out; obtain ⟨hcz52_0, hcz52_1, hcz52_2, hcz52_3, hfz52_0, hfz52_1, hfz52_2, hfz52_3⟩ := blk4 BK300.out; obtain ⟨hcz53_0, hcz53_1, hcz53_2, hcz53_3, hfz53_0, hfz53_1, hfz53_2, hfz53_3⟩ := blk4 BK290.out) | (go_at_call 61; (with_reducible refine (expr_Right.calls k2 _ _ ((rd_T92 t296 x36_2).f3) (l0_1.length : Int) t301 _ ?side3 ?side1 HC299_3.out A46.out).mono ?_); (case side1 => exact q12_21); (case side3 => exact HGL.out.below q12_4); rintro e w54 ⟨rfl, hb⟩; replace HO_34 := zM (Kd.V_below q12_7 hb); replace BK290 := zM (blk_below (g := gb290) (o := .cells #[.slice A0_0 l0_0.length c0_0, .slice A0_1 l0_1.length c0_1, .slice A0_2 l0_2.length c0_2, .slice A0_3 l0_3.length c0_3] 26 (0, 0)) q12_12 hb); replace HR299_3 := zM (Kd.C_below ((Kd.V_reads' q12_0).2.2) hb); replace HL299_3 := zM (Kd.V_below q12_0 hb); replace BK300 := zM (blk_below (g := gb300) (o := .cells #[.int .i64 ((rd_T92 t296 x36_2).f0), .int .i64 ((rd_T92 t296 x36_2).f1), .int .i64 ((rd_T92 t296 x36_2).f2), .slice A299_3 ((rd_T92 t296 x36_2).f3).length c299_3] 92 (0, 0)) q12_18 hb); replace HB := zM (below_step q12_4 hb); (try clear hb); obtain ⟨hcz55_0, hcz55_1, hcz55_2, hcz55_3, hfz55_0, hfz55_1, hfz55_2, hfz55_3⟩ := blk4 BK300.out) | (go_at_call 62; (with_reducible refine (expr_IsTruth.calls _ _ ((rd_T92 t296 x36_2).f3) true _ ?side3 ?side1 HC299_3.out A48.out).mono ?_); (case side1 => exact q12_27); (case side3 => exact s9); rintro e w56 ⟨rfl, hb⟩; replace HO_34 := zM (Kd.V_below q12_15 hb); replace HL299_3 := zM (Kd.V_below q12_14 hb); replace BK290 := zM (blk_below (g := gb290) q12_1 hb); replace HR299_3 := zM (Kd.C_below q12_5 hb); replace BK300 := zM (blk_below (g := gb300) q12_28 hb); replace HB := zM (below_step q12_4 hb); (try clear hb)))
         go_ret
         exact ⟨s6, q12_4⟩
        replace c49 := Bool.eq_false_iff.mpr c49
        subst c49
        have H1 : (net_tests.l2 k2 t296 (t296.length : Int) (wrap64 (x36_2 + 1)) l0_0 l0_1 l0_2 l0_3) = some r := by rw [if_neg (show ¬ (false = true) by decide)] at H; exact H
        clear H
        have H := H1
        clear H1
        have H' := zM H
        clear H
        have p299 : 0 ≤ (x36_2 : Int) := zO s3
        have q299 : x36_2 < (t296.length : Int) := zO s3
        obtain ⟨ad299, A299_3, c299_3, e299, hx299_0, hx299_1, hx299_2, hx299_3, HC299_3, HR299_3⟩ := as_T92 (Kd.V_reads' HO_34.out).2.2 x36_2 p299 q299
        cases e299
        obtain ⟨ce299, hce299, hMe299, hcc299⟩ := Kd.V_get HO_34.out z92 x36_2 p299 q12_19
        obtain ⟨ua299_3, uc299_3, rfl, ul299_3, ge299_3⟩ := k92_openF hMe299
        have hv299_3 := hcc299 3 _ rfl
        rw [add_field _ _ 3 (by omega)] at hv299_3
        replace hv299_3 := Option.some.inj (hv299_3.symm.trans hx299_3)
        injection hv299_3 with hva_ hvn_ hvc_
        rw [hva_] at ge299_3
        rw [hvc_] at ul299_3
        have HL299_3 := zM (show Kd.V k122 122 _ w.heap.size _ _ ((rd_T92 t296 x36_2).f3) from Kd.V_mk ul299_3 ge299_3)
        clear hva_ hvn_ hvc_ ge299_3 ul299_3
        clear hcc299 hce299
        replace p299 := eq_true p299
        replace q299 := eq_true q299
        go_wp2_with (first | ((with_reducible refine gate_dst (N := 9) rfl ?_); (try (refine gate_guard (by rfl) ?_; dsimp only)); refine box_ev (N := 9) (cs := #[.int .i64 0, .int .i64 0, .int .i64 0, .slice none 0 0]) (t := 92) ?_; intro gb300 hg w57 hbox hb; have BK300 := zM (hbox); have GE300 := zM (box_ge (n := w.heap.size) hg (below_size q12_3)); have NB290_300 := zM (box_ne hg (g := gb290) q12_1); have NB300_290 := zM (box_ne' hg (g := gb290) q12_1); replace HO_34 := zM (Kd.V_below (Kd.V_elderB q12_15 gb300 (Nat.le_of_eq hg.symm)) hb); replace HL299_3 := zM (Kd.V_below (Kd.V_elderB q12_14 gb300 (Nat.le_of_eq hg.symm)) hb); replace BK290 := zM (blk_below (g := gb290) q12_1 hb); replace HR299_3 := zM (Kd.C_below q12_5 hb); replace HB := zM (below_step q12_3 hb); clear hb hbox hg; have hnb58 := NB300_290.out; have hnc58 := NB290_300.out; obtain ⟨hcz59_0, hcz59_1, hcz59_2, hcz59_3, hfz59_0, hfz59_1, hfz59_2, hfz59_3⟩ := blk4 BK300.out; obtain ⟨hcz60_0, hcz60_1, hcz60_2, hcz60_3, hfz60_0, hfz60_1, hfz60_2, hfz60_3⟩ := blk4 BK290.out) | (go_at_call 61; (with_reducible refine (expr_Right.calls k2 _ _ ((rd_T92 t296 x36_2).f3) (l0_1.length : Int) t301 _ ?side3 ?side1 HC299_3.out A46.out).mono ?_); (case side1 => exact q12_21); (case side3 => exact HGL.out.below q12_4); rintro e w61 ⟨rfl, hb⟩; replace HO_34 := zM (Kd.V_below q12_7 hb); replace BK290 := zM (blk_below (g := gb290) (o := .cells #[.slice A0_0 l0_0.length c0_0, .slice A0_1 l0_1.length c0_1, .slice A0_2 l0_2.length c0_2, .slice A0_3 l0_3.length c0_3] 26 (0, 0)) q12_12 hb); replace HR299_3 := zM (Kd.C_below ((Kd.V_reads' q12_0).2.2) hb); replace HL299_3 := zM (Kd.V_below q12_0 hb); replace BK300 := zM (blk_below (g := gb300) (o := .cells #[.int .i64 ((rd_T92 t296 x36_2).f0), .int .i64 ((rd_T92 t296 x36_2).f1), .int .i64 ((rd_T92 t296 x36_2).f2), .slice A299_3 ((rd_T92 t296 x36_2).f3).length c299_3] 92 (0, 0)) q12_18 hb); replace HB := zM (below_step q12_4 hb); (try clear hb); obtain ⟨hcz62_0, hcz62_1, hcz62_2, hcz62_3, hfz62_0, hfz62_1, hfz62_2, hfz62_3⟩ := blk4 BK300.out) | (go_at_call 62; (with_reducible refine (expr_IsTruth.calls _ _ ((rd_T92 t296 x36_2).f3) false _ ?side3 ?side1 HC299_3.out A48.out).mono ?_); (case side1 => exact q12_27); (case side3 => exact s9); rintro e w63 ⟨rfl, hb⟩; replace HO_34 := zM (Kd.V_below q12_15 hb); replace HL299_3 := zM (Kd.V_below q12_14 hb); replace BK290 := zM (blk_below (g := gb290) q12_1 hb); replace HR299_3 := zM (Kd.C_below q12_5 hb); replace BK300 := zM (blk_below (g := gb300) q12_28 hb); replace HB := zM (below_step q12_4 hb); (try clear hb)))
        go_roundg k2
        case measure => have := HK1.out; have := HK2.out; omega
        case rel => exact ⟨(wrap64 (x36_2 + 1)), s7, H', ⟨q12_29⟩, ⟨(by (with_reducible repeat (first | apply Kd.V_alloc | apply Kd.V_drewN | apply Kd.V_drew)); exact Kd.V_mono HO_34.out (fun _ hk => hk.1))⟩, ⟨q12_1⟩, ⟨q12_4⟩⟩
       rw [if_neg c47] at H
       obtain ⟨c47b0, c47b1⟩ := neb c47
       obtain rfl := Option.some.inj H
       have p299 : 0 ≤ (x36_2 : Int) := zO s3
       have q299 : x36_2 < (t296.length : Int) := zO s3
       obtain ⟨ad299, A299_3, c299_3, e299, hx299_0, hx299_1, hx299_2, hx299_3, HC299_3, HR299_3⟩ := as_T92 (Kd.V_reads' HO_34.out).2.2 x36_2 p299 q299
       cases e299
       obtain ⟨ce299, hce299, hMe299, hcc299⟩ := Kd.V_get HO_34.out z92 x36_2 p299 q12_19
       obtain ⟨ua299_3, uc299_3, rfl, ul299_3, ge299_3⟩ := k92_openF hMe299
       have hv299_3 := hcc299 3 _ rfl
       rw [add_field _ _ 3 (by omega)] at hv299_3
       replace hv299_3 := Option.some.inj (hv299_3.symm.trans hx299_3)
       injection hv299_3 with hva_ hvn_ hvc_
       rw [hva_] at ge299_3
       rw [hvc_] at ul299_3
       have HL299_3 := zM (show Kd.V k122 122 _ w.heap.size _ _ ((rd_T92 t296 x36_2).f3) from Kd.V_mk ul299_3 ge299_3)
       clear hva_ hvn_ hvc_ ge299_3 ul299_3
       clear hcc299 hce299
       replace p299 := eq_true p299
       replace q299 := eq_true q299
       go_wp2_with (first | ((with_reducible refine gate_dst (N := 9) rfl ?_); (try (refine gate_guard (by rfl) ?_; dsimp only)); refine box_ev (N := 9) (cs := #[.int .i64 0, .int .i64 0, .int .i64 0, .slice none 0 0]) (t := 92) ?_; intro gb300 hg w64 hbox hb; have BK300 := zM (hbox); have GE300 := zM (box_ge (n := w.heap.size) hg (below_size q12_3)); have NB290_300 := zM (box_ne hg (g := gb290) q12_1); have NB300_290 := zM (box_ne' hg (g := gb290) q12_1); replace HO_34 := zM (Kd.V_below (Kd.V_elderB q12_15 gb300 (Nat.le_of_eq hg.symm)) hb); replace HL299_3 := zM (Kd.V_below (Kd.V_elderB q12_14 gb300 (Nat.le_of_eq hg.symm)) hb); replace BK290 := zM (blk_below (g := gb290) q12_1 hb); replace HR299_3 := zM (Kd.C_below q12_5 hb); replace HB := zM (below_step q12_3 hb); clear hb hbox hg; have hnb65 := NB300_290.out; have hnc65 := NB290_300.out; obtain ⟨hcz66_0, hcz66_1, hcz66_2, hcz66_3, hfz66_0, hfz66_1, hfz66_2, hfz66_3⟩ := blk4 BK300.out; obtain ⟨hcz67_0, hcz67_1, hcz67_2, hcz67_3, hfz67_0, hfz67_1, hfz67_2, hfz67_3⟩ := blk4 BK290.out) | (go_at_call 61; (with_reducible refine (expr_Right.calls k2 _ _ ((rd_T92 t296 x36_2).f3) (l0_1.length : Int) t301 _ ?side3 ?side1 HC299_3.out A46.out).mono ?_); (case side1 => exact q12_21); (case side3 => exact HGL.out.below q12_4); rintro e w68 ⟨rfl, hb⟩; replace HO_34 := zM (Kd.V_below q12_7 hb); replace BK290 := zM (blk_below (g := gb290) (o := .cells #[.slice A0_0 l0_0.length c0_0, .slice A0_1 l0_1.length c0_1, .slice A0_2 l0_2.length c0_2, .slice A0_3 l0_3.length c0_3] 26 (0, 0)) q12_12 hb); replace HR299_3 := zM (Kd.C_below ((Kd.V_reads' q12_0).2.2) hb); replace HL299_3 := zM (Kd.V_below q12_0 hb); replace BK300 := zM (blk_below (g := gb300) (o := .cells #[.int .i64 ((rd_T92 t296 x36_2).f0), .int .i64 ((rd_T92 t296 x36_2).f1), .int .i64 ((rd_T92 t296 x36_2).f2), .slice A299_3 ((rd_T92 t296 x36_2).f3).length c299_3] 92 (0, 0)) q12_18 hb); replace HB := zM (below_step q12_4 hb); (try clear hb)))
       go_ret
       exact ⟨s6, q12_4⟩
      rw [if_neg c36] at H
      obtain ⟨c36b0, c36b1⟩ := neb c36
      have H' := zM H
      clear H
      have p299 : 0 ≤ (x36_2 : Int) := zO s3
      have q299 : x36_2 < (t296.length : Int) := zO s3
      obtain ⟨ad299, A299_3, c299_3, e299, hx299_0, hx299_1, hx299_2, hx299_3, HC299_3, HR299_3⟩ := as_T92 (Kd.V_reads' HO_34.out).2.2 x36_2 p299 q299
      cases e299
      obtain ⟨ce299, hce299, hMe299, hcc299⟩ := Kd.V_get HO_34.out z92 x36_2 p299 q12_19
      obtain ⟨ua299_3, uc299_3, rfl, ul299_3, ge299_3⟩ := k92_openF hMe299
      have hv299_3 := hcc299 3 _ rfl
      rw [add_field _ _ 3 (by omega)] at hv299_3
      replace hv299_3 := Option.some.inj (hv299_3.symm.trans hx299_3)
      injection hv299_3 with hva_ hvn_ hvc_
      rw [hva_] at ge299_3
      rw [hvc_] at ul299_3
      have HL299_3 := zM (show Kd.V k122 122 _ w.heap.size _ _ ((rd_T92 t296 x36_2).f3) from Kd.V_mk ul299_3 ge299_3)
      clear hva_ hvn_ hvc_ ge299_3 ul299_3
      clear hcc299 hce299
      replace p299 := eq_true p299
      replace q299 := eq_true q299
      go_wp2_with (first | ((with_reducible refine gate_dst (N := 9) rfl ?_); (try (refine gate_guard (by rfl) ?_; dsimp only)); refine box_ev (N := 9) (cs := #[.int .i64 0, .int .i64 0, .int .i64 0, .slice none 0 0]) (t := 92) ?_; intro gb300 hg w69 hbox hb; have BK300 := zM (hbox); have GE300 := zM (box_ge (n := w.heap.size) hg (below_size q12_3)); have NB290_300 := zM (box_ne hg (g := gb290) q12_1); have NB300_290 := zM (box_ne' hg (g := gb290) q12_1); replace HO_34 := zM (Kd.V_below (Kd.V_elderB q12_15 gb300 (Nat.le_of_eq hg.symm)) hb); replace HL299_3 := zM (Kd.V_below (Kd.V_elderB q12_14 gb300 (Nat.le_of_eq hg.symm)) hb); replace BK290 := zM (blk_below (g := gb290) q12_1 hb); replace HR299_3 := zM (Kd.C_below q12_5 hb); replace HB := zM (below_step q12_3 hb); clear hb hbox hg; have hnb70 := NB300_290.out; have hnc70 := NB290_300.out; obtain ⟨hcz71_0, hcz71_1, hcz71_2, hcz71_3, hfz71_0, hfz71_1, hfz71_2, hfz71_3⟩ := blk4 BK300.out))
      go_roundg k2
      case measure => have := HK1.out; have := HK2.out; omega
      case rel => exact ⟨(wrap64 (x36_2 + 1)), s7, H', ⟨q12_29⟩, ⟨(by (with_reducible repeat (first | apply Kd.V_alloc | apply Kd.V_drewN | apply Kd.V_drew)); exact Kd.V_mono (Kd.V_far (p := ⟨gb300, 3, none⟩) (Kd.V_far (p := ⟨gb300, 2, none⟩) (Kd.V_far (p := ⟨gb300, 1, none⟩) (Kd.V_far (p := ⟨gb300, 0, none⟩) (Kd.V_mono HO_34.out (fun k_ hk => (⟨hk, hk.2⟩ : _ ∧ k_ ≠ gb300))) (fun _ hk => hk.2) (.int .i64 ((rd_T92 t296 x36_2).f0))) (fun _ hk => hk.2) (.int .i64 ((rd_T92 t296 x36_2).f1))) (fun _ hk => hk.2) (.int .i64 ((rd_T92 t296 x36_2).f2))) (fun _ hk => hk.2) (.slice A299_3 ((rd_T92 t296 x36_2).f3).length c299_3)) (fun _ hk => hk.1.1))⟩, ⟨q12_12⟩, ⟨q12_4⟩⟩
     rw [if_neg c35] at H
     exact absurd H (by simp)
    rw [if_neg c34] at H
    exact absurd H (by simp)
   rw [if_neg c33] at H
   have c33b0 := decide_eq_false c33
   clear c33
   obtain rfl := Option.some.inj H
   go_wp2
   go_ret
   exact ⟨s6, q12_3⟩

end Go.Proofs.YtpmhfahligjhaaaDoor.POrd
