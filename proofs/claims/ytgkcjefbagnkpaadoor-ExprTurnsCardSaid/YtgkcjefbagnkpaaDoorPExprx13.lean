-- written by wip/tools/xprint.py (over the kit's print.py): not trusted, Lean checks it.
import Derived.Test.YtgkcjefbagnkpaaDoorPExprx0
import Derived.Test.YtgkcjefbagnkpaaDoorPExprx3
import Derived.Test.YtgkcjefbagnkpaaDoorPExprx5
import Derived.Test.YtgkcjefbagnkpaaDoorPExprx8
import Derived.Test.YtgkcjefbagnkpaaDoorPExprx10
import Derived.Test.YtgkcjefbagnkpaaDoorPExprx11
import Derived.Test.YtgkcjefbagnkpaaDoorPExprx12
namespace Go.Proofs.YtgkcjefbagnkpaaDoor.PExpr
open Go.RowKit Go.Proofs.YtgkcjefbagnkpaaDoorW.PrintWords Go.Proofs.YtgkcjefbagnkpaaDoorW.PrintLast Go.Proofs.YtgkcjefbagnkpaaDoorW.PrintMore Go.Proofs.YtgkcjefbagnkpaaDoorXW
attribute [local go_sem high] cell_set_map Option.map_some
attribute [local go_sem] max2_int min2_int max_two min_two max_three min_three max_four min_four   -- for this text's walks alone
set_option linter.unusedVariables false
set_option linter.unusedSimpArgs false

theorem q13_0 {p : Prop} (h : p := by repeat (first | exact (HGL.out.below HB.out) | (with_reducible refine Glob.alloc ?_ _) | (with_reducible refine Glob.drewN ?_ _) | (with_reducible refine Glob.drew ?_))) : p := h
theorem q13_1 {p : Prop} (h : p := by repeat (first | (with_reducible first | exact HB.out | apply below_alloc | apply pw_below_drewN | apply below_drew1) | exact HB.out)) : p := h
theorem q13_2 {p : Prop} (h : p := by repeat (first | exact (Kd.C_below HR2.out HB.out) | (with_reducible refine Kd.C_alloc ?_ _) | (with_reducible refine Kd.C_drewN ?_ _) | (with_reducible refine Kd.C_drew ?_))) : p := h
theorem q13_3 {p : Prop} (h : p := by repeat (first | exact (Kd.C_below HR0.out HB.out) | (with_reducible refine Kd.C_alloc ?_ _) | (with_reducible refine Kd.C_drewN ?_ _) | (with_reducible refine Kd.C_drew ?_))) : p := h
theorem q13_4 {p : Prop} (h : p := by repeat (first | exact (Kd.C_below HR1.out HB.out) | (with_reducible refine Kd.C_alloc ?_ _) | (with_reducible refine Kd.C_drewN ?_ _) | (with_reducible refine Kd.C_drew ?_))) : p := h
theorem q13_5 {p : Prop} (h : p := by first | (with_reducible assumption) | assumption) : p := h
theorem q13_6 {p : Prop} (h : p := by (try simp only [List.map_toArray, List.map_cons, List.map_nil]); first | done | rfl | (simp only [List.length_drop, List.length_take]; rfl)) : p := h
theorem q13_7 {p : Prop} (h : p := by first | rfl | (simp; done) | (simp [*]; done)) : p := h
theorem q13_8 {p : Prop} (h : p := by repeat (first | exact (HGL.out.below q13_1) | (with_reducible refine Glob.alloc ?_ _) | (with_reducible refine Glob.drewN ?_ _) | (with_reducible refine Glob.drew ?_))) : p := h
/-! ### gnomonlaw08_ExprUnlike: function 13 -/
mutual
def gnomonlaw08_ExprUnlike.l0 : Nat → List (S68) → List (S68) → List ByteArray → Int → Option (Bool)
 | 0, _, _, _, _ => none
 | k + 1, x0, x1, x2, x7 => if x7 < (x2.length : Int) then (if 0 ≤ x7 then ((gnomonlaw08_isName.f k (rdOf ByteArray.empty x2 x7)).bind fun t262 => (if t262 = true then (gnomonlaw08_ExprUnlike.l1 k x0 x1 x2 x7 0) else ((gnomonlaw08_live.f k).bind fun t263 => (some t263)))) else (none)) else ((expr_Print.f k x0 x2).bind fun bt267 => ((expr_Print.f k x1 x2).bind fun bt269 => ((gnomonlaw08_live.f k).bind fun t271 => (if t271 = true then (if bt267.2 = 0 then (if bt269.2 = 0 then ((expr_Same.f k x0 x1).bind fun t272 => (some ((bt267.1.toList == bt269.1.toList) == t272))) else (some true)) else (some true)) else (some false)))))
def gnomonlaw08_ExprUnlike.l1 : Nat → List (S68) → List (S68) → List ByteArray → Int → Int → Option (Bool)
 | 0, _, _, _, _, _ => none
 | k + 1, x0, x1, x2, x7, x8 => if x8 < x7 then (if 0 ≤ x8 then (if x8 < (x2.length : Int) then (if 0 ≤ x7 then (if x7 < (x2.length : Int) then (if (rdOf ByteArray.empty x2 x8).toList = (rdOf ByteArray.empty x2 x7).toList then ((gnomonlaw08_live.f k).bind fun t266 => (some t266)) else (gnomonlaw08_ExprUnlike.l1 k x0 x1 x2 x7 (wrap64 (x8 + 1)))) else (none)) else (none)) else (none)) else (none)) else (gnomonlaw08_ExprUnlike.l0 k x0 x1 x2 (wrap64 (x7 + 1)))
end
def gnomonlaw08_ExprUnlike.f (k : Nat) (l0 : List (S68)) (l1 : List (S68)) (l2 : List ByteArray) : Option (Bool) := gnomonlaw08_ExprUnlike.l0 k l0 l1 l2 0
theorem gnomonlaw08_ExprUnlike.mono_l : ∀ k, (∀ y0 y1 y2 y3, LeO (gnomonlaw08_ExprUnlike.l0 k y0 y1 y2 y3) (gnomonlaw08_ExprUnlike.l0 (k + 1) y0 y1 y2 y3)) ∧ (∀ y0 y1 y2 y3 y4, LeO (gnomonlaw08_ExprUnlike.l1 k y0 y1 y2 y3 y4) (gnomonlaw08_ExprUnlike.l1 (k + 1) y0 y1 y2 y3 y4))
 | 0 => ⟨fun _ _ _ _ r h => by simp [gnomonlaw08_ExprUnlike.l0] at h, fun _ _ _ _ _ r h => by simp [gnomonlaw08_ExprUnlike.l1] at h⟩
 | k + 1 => by
  obtain ⟨ih0, ih1⟩ := gnomonlaw08_ExprUnlike.mono_l k
  refine ⟨?_, ?_⟩
  ·
   intro y0 y1 y2 y3
   unfold gnomonlaw08_ExprUnlike.l0
   repeat' first
   | (with_reducible exact ih0 _ _ _ _)
   | (with_reducible exact ih1 _ _ _ _ _)
   | (with_reducible exact expr_Print.mono _ _ _)
   | (with_reducible exact expr_Same.mono _ _ _)
   | (with_reducible exact gnomonlaw08_isName.mono _ _)
   | (with_reducible exact gnomonlaw08_live.mono _)
   | (with_reducible exact LeO.refl _)
   | (with_reducible exact LeO.none _)
   | (with_reducible refine LeO.ite ?_ ?_)
   | (with_reducible refine LeO.bind ?_ (fun _ => ?_))
   | exact ih0 _ _ _ _
   | exact ih1 _ _ _ _ _
   | exact expr_Print.mono _ _ _
   | exact expr_Same.mono _ _ _
   | exact gnomonlaw08_isName.mono _ _
   | exact gnomonlaw08_live.mono _
   | exact LeO.none _
   | refine LeO.ite ?_ ?_
   | refine LeO.bind ?_ (fun _ => ?_)
  ·
   intro y0 y1 y2 y3 y4
   unfold gnomonlaw08_ExprUnlike.l1
   repeat' first
   | (with_reducible exact ih0 _ _ _ _)
   | (with_reducible exact ih1 _ _ _ _ _)
   | (with_reducible exact expr_Print.mono _ _ _)
   | (with_reducible exact expr_Same.mono _ _ _)
   | (with_reducible exact gnomonlaw08_isName.mono _ _)
   | (with_reducible exact gnomonlaw08_live.mono _)
   | (with_reducible exact LeO.refl _)
   | (with_reducible exact LeO.none _)
   | (with_reducible refine LeO.ite ?_ ?_)
   | (with_reducible refine LeO.bind ?_ (fun _ => ?_))
   | exact ih0 _ _ _ _
   | exact ih1 _ _ _ _ _
   | exact expr_Print.mono _ _ _
   | exact expr_Same.mono _ _ _
   | exact gnomonlaw08_isName.mono _ _
   | exact gnomonlaw08_live.mono _
   | exact LeO.none _
   | refine LeO.ite ?_ ?_
   | refine LeO.bind ?_ (fun _ => ?_)
theorem gnomonlaw08_ExprUnlike.mono : ∀ a0 a1 a2 k, LeO (gnomonlaw08_ExprUnlike.f k a0 a1 a2) (gnomonlaw08_ExprUnlike.f (k + 1) a0 a1 a2) := by
 intro a0 a1 a2 k
 obtain ⟨ih0, ih1⟩ := gnomonlaw08_ExprUnlike.mono_l k
 unfold gnomonlaw08_ExprUnlike.f
 repeat' first
   | (with_reducible exact ih0 _ _ _ _)
   | (with_reducible exact ih1 _ _ _ _ _)
   | (with_reducible exact expr_Print.mono _ _ _)
   | (with_reducible exact expr_Same.mono _ _ _)
   | (with_reducible exact gnomonlaw08_isName.mono _ _)
   | (with_reducible exact gnomonlaw08_live.mono _)
   | (with_reducible exact LeO.refl _)
   | (with_reducible exact LeO.none _)
   | (with_reducible refine LeO.ite ?_ ?_)
   | (with_reducible refine LeO.bind ?_ (fun _ => ?_))
   | exact ih0 _ _ _ _
   | exact ih1 _ _ _ _ _
   | exact expr_Print.mono _ _ _
   | exact expr_Same.mono _ _ _
   | exact gnomonlaw08_isName.mono _ _
   | exact gnomonlaw08_live.mono _
   | exact LeO.none _
   | refine LeO.ite ?_ ?_
   | refine LeO.bind ?_ (fun _ => ?_)
set_option maxHeartbeats 8000000 in
set_option maxRecDepth 100000 in
theorem gnomonlaw08_ExprUnlike.calls (k : Nat) (A0 : Option Addr) (c0 : Nat) (l0 : List (S68)) (A1 : Option Addr) (c1 : Nat) (l1 : List (S68)) (A2 : Option Addr) (c2 : Nat) (l2 : List ByteArray) (r : Bool) (w : World) (hG : Glob w) (hr0 : Kd.C k68 w A0 l0.length l0) (hc0 : l0.length ≤ c0) (hr1 : Kd.C k68 w A1 l1.length l1) (hc1 : l1.length ≤ c1) (hr2 : Kd.C Kd.string w A2 l2.length l2) (hc2 : l2.length ≤ c2) (h : gnomonlaw08_ExprUnlike.f k l0 l1 l2 = some r) :
  Calls Tryd.prog 13 #[.slice A0 l0.length c0, .slice A1 l1.length c1, .slice A2 l2.length c2] w fun e w' => e = .returned (.bool r) ∧ Below w.heap.size w w' := by
 have HR0 := Aside0.mk hr0
 have HC0 := Aside0.mk hc0
 clear hr0 hc0
 have HR1 := Aside0.mk hr1
 have HC1 := Aside0.mk hc1
 clear hr1 hc1
 have HR2 := Aside0.mk hr2
 have HC2 := Aside0.mk hc2
 clear hr2 hc2
 have HGL := Aside0.mk hG
 clear hG
 have HB := Aside0.mk (Below.refl w.heap.size w)
 have H : (gnomonlaw08_ExprUnlike.l0 k l0 l1 l2 0) = some r := h
 clear h
 have H' := Aside0.mk H
 clear H
 go_enter Tryd.func13, Tryd.ntmps13
 go_wp2
 repeat (go_quiet (fail); try go_wp2)
 go_loopg [7] k (fun kq v7 w' => ∃ (x7_1 : Int), v7 = .int .i64 x7_1 ∧ Aside0 (gnomonlaw08_ExprUnlike.l0 kq l0 l1 l2 x7_1 = some r) ∧ Aside0 (kq ≤ k) ∧ Aside0 (Below w.heap.size w w'))
 case atStart => exact ⟨(0), q13_7, H', ⟨Nat.le_refl _⟩, ⟨by repeat (first | (with_reducible first | exact HB.out | apply below_alloc | apply pw_below_drewN | apply below_drew1) | exact HB.out)⟩⟩
 case round =>
  clear H'
  try clear c1
  try clear c2
  try clear p2
  obtain ⟨x7_1, rfl, HA, HK1, HB⟩ := hrel
  cases gk with
  | zero => exact absurd HA.out (by simp [gnomonlaw08_ExprUnlike.l0])
  | succ k1 =>
   have H := HA.out
   clear HA
   simp only [gnomonlaw08_ExprUnlike.l0] at H
   by_cases c4 : x7_1 < (l2.length : Int)
   ·
    rw [if_pos c4] at H
    have c4b0 : decide (x7_1 < (l2.length : Int)) = true := decide_eq_true c4
    clear c4
    by_cases c5 : 0 ≤ x7_1
    ·
     rw [if_pos c5] at H
     have c5b0 : decide (0 ≤ x7_1) = true := decide_eq_true c5
     clear c5
     replace H := Option.bind_eq_some_iff.mp H
     obtain ⟨t262, A60, H⟩ := H
     replace H : (if t262 = true then (gnomonlaw08_ExprUnlike.l1 k1 l0 l1 l2 x7_1 0) else ((gnomonlaw08_live.f k1).bind fun t263 => (some t263))) = some r := H
     have A6 := Aside0.mk A60
     clear A60
     by_cases c7 : t262 = true
     ·
      subst c7
      have H1 : (gnomonlaw08_ExprUnlike.l1 k1 l0 l1 l2 x7_1 0) = some r := by rw [if_pos rfl] at H; exact H
      clear H
      have H := H1
      clear H1
      have H' := Aside0.mk H
      clear H
      have p261 : 0 ≤ (x7_1 : Int) := of_decide_eq_true q13_5
      have q261 : x7_1 < (l2.length : Int) := of_decide_eq_true q13_5
      obtain ⟨ad261, e261, hx261_0⟩ := Kd.at_string HR2.out x7_1 p261 q261
      cases e261
      replace hx261_0 := (HB.out.cell (World.block_lt_of_cell? w _ hx261_0)).trans hx261_0
      replace p261 := eq_true p261
      replace q261 := eq_true q261
      go_wp2_with (first | (go_at_call 40; (with_reducible refine (gnomonlaw08_isName.calls k1 (rdOf ByteArray.empty l2 x7_1) true _ A6.out).mono ?_); rintro e w' ⟨rfl, ⟨nd, rfl⟩⟩; (try first | exact ⟨rfl, _, World.drewN_drewN _ _ _⟩ | exact ⟨rfl, _, Eq.trans (World.drewN_drewN _ _ _) (congrArg (World.drewN _) (Nat.add_assoc _ _ _))⟩)))
      repeat (go_quiet (first | (go_at_call 40; (with_reducible refine (gnomonlaw08_isName.calls k1 (rdOf ByteArray.empty l2 x7_1) true _ A6.out).mono ?_); rintro e w' ⟨rfl, ⟨nd, rfl⟩⟩; (try first | exact ⟨rfl, _, World.drewN_drewN _ _ _⟩ | exact ⟨rfl, _, Eq.trans (World.drewN_drewN _ _ _) (congrArg (World.drewN _) (Nat.add_assoc _ _ _))⟩))); try go_wp2_with (first | (go_at_call 40; (with_reducible refine (gnomonlaw08_isName.calls k1 (rdOf ByteArray.empty l2 x7_1) true _ A6.out).mono ?_); rintro e w' ⟨rfl, ⟨nd, rfl⟩⟩; (try first | exact ⟨rfl, _, World.drewN_drewN _ _ _⟩ | exact ⟨rfl, _, Eq.trans (World.drewN_drewN _ _ _) (congrArg (World.drewN _) (Nat.add_assoc _ _ _))⟩))))
      go_loopg [8] k1 (fun kq v8 w' => ∃ (x8_2 : Int), v8 = .int .i64 x8_2 ∧ Aside0 (gnomonlaw08_ExprUnlike.l1 kq l0 l1 l2 x7_1 x8_2 = some r) ∧ Aside0 (kq ≤ k1) ∧ Aside0 (Below w.heap.size w w'))
      case atStart => exact ⟨(0), q13_7, H', ⟨Nat.le_refl _⟩, ⟨by repeat (first | (with_reducible first | exact HB.out | apply below_alloc | apply pw_below_drewN | apply below_drew1) | exact HB.out)⟩⟩
      case round =>
       clear H'
       try clear c1
       try clear c2
       try clear p2
       try clear q2
       try clear hx2
       try clear c4
       try clear c4b0
       try clear c5
       try clear c5b0
       try clear c7
       try clear hx261_0
       try clear p2
       try clear p261
       try clear q261
       obtain ⟨x8_2, rfl, HA, HK2, HB⟩ := hrel
       cases gk with
       | zero => exact absurd HA.out (by simp [gnomonlaw08_ExprUnlike.l1])
       | succ k2 =>
        have H := HA.out
        clear HA
        simp only [gnomonlaw08_ExprUnlike.l1] at H
        by_cases c8 : x8_2 < x7_1
        ·
         rw [if_pos c8] at H
         have c8b0 : decide (x8_2 < x7_1) = true := decide_eq_true c8
         clear c8
         by_cases c9 : 0 ≤ x8_2
         ·
          rw [if_pos c9] at H
          have c9b0 : decide (0 ≤ x8_2) = true := decide_eq_true c9
          clear c9
          by_cases c10 : x8_2 < (l2.length : Int)
          ·
           rw [if_pos c10] at H
           have c10b0 : decide (x8_2 < (l2.length : Int)) = true := decide_eq_true c10
           clear c10
           by_cases c11 : 0 ≤ x7_1
           ·
            rw [if_pos c11] at H
            have c11b0 : decide (0 ≤ x7_1) = true := decide_eq_true c11
            clear c11
            by_cases c12 : x7_1 < (l2.length : Int)
            ·
             rw [if_pos c12] at H
             have c12b0 : decide (x7_1 < (l2.length : Int)) = true := decide_eq_true c12
             clear c12
             by_cases c13 : (rdOf ByteArray.empty l2 x8_2).toList = (rdOf ByteArray.empty l2 x7_1).toList
             ·
              rw [if_pos c13] at H
              have c13b0 : ((rdOf ByteArray.empty l2 x8_2).toList == (rdOf ByteArray.empty l2 x7_1).toList) = true := beq_iff_eq.mpr c13
              have c13b1 : ((rdOf ByteArray.empty l2 x8_2).toList != (rdOf ByteArray.empty l2 x7_1).toList) = false := bne_eq_false_iff_eq.mpr c13
              clear c13
              replace H := Option.bind_eq_some_iff.mp H
              obtain ⟨t266, A140, H⟩ := H
              replace H : (some t266) = some r := H
              have A14 := Aside0.mk A140
              clear A140
              obtain rfl := Option.some.inj H
              have p264 : 0 ≤ (x8_2 : Int) := of_decide_eq_true q13_5
              have q264 : x8_2 < (l2.length : Int) := of_decide_eq_true q13_5
              obtain ⟨ad264, e264, hx264_0⟩ := Kd.at_string HR2.out x8_2 p264 q264
              obtain rfl : ad261 = ad264 := (by injection e264)
              replace hx264_0 := (HB.out.cell (World.block_lt_of_cell? w _ hx264_0)).trans hx264_0
              replace p264 := eq_true p264
              replace q264 := eq_true q264
              have p265 : 0 ≤ (x7_1 : Int) := of_decide_eq_true q13_5
              have q265 : x7_1 < (l2.length : Int) := of_decide_eq_true q13_5
              obtain ⟨ad265, e265, hx265_0⟩ := Kd.at_string HR2.out x7_1 p265 q265
              obtain rfl : ad261 = ad265 := (by injection e265)
              replace hx265_0 := (HB.out.cell (World.block_lt_of_cell? w _ hx265_0)).trans hx265_0
              replace p265 := eq_true p265
              replace q265 := eq_true q265
              go_wp2_with (first | (go_at_call 29; (with_reducible refine (gnomonlaw08_live.calls k2  t266 _ ?side1 A14.out).mono ?_); (case side1 => exact q13_0); rintro e w15 ⟨rfl, hb⟩; have n0_ := Aside0.mk (below_step q13_1 hb); clear HB; have HB := n0_; clear n0_; (try clear hb); (try clear hb2); (try clear hk); (try clear hi)))
              repeat (go_quiet (first | (go_at_call 29; (with_reducible refine (gnomonlaw08_live.calls k2  t266 _ ?side1 A14.out).mono ?_); (case side1 => exact q13_0); rintro e w15 ⟨rfl, hb⟩; have n0_ := Aside0.mk (below_step q13_1 hb); clear HB; have HB := n0_; clear n0_; (try clear hb); (try clear hb2); (try clear hk); (try clear hi))); try go_wp2_with (first | (go_at_call 29; (with_reducible refine (gnomonlaw08_live.calls k2  t266 _ ?side1 A14.out).mono ?_); (case side1 => exact q13_0); rintro e w15 ⟨rfl, hb⟩; have n0_ := Aside0.mk (below_step q13_1 hb); clear HB; have HB := n0_; clear n0_; (try clear hb); (try clear hb2); (try clear hk); (try clear hi))))
              go_ret
              exact ⟨by first | rfl | (simp [errW_none, errW_some] <;> rfl) | (simp [*, errW_none, errW_some] <;> rfl), by repeat (first | (with_reducible first | exact HB.out | apply below_alloc | apply pw_below_drewN | apply below_drew1) | exact HB.out)⟩
             ·
              rw [if_neg c13] at H
              have c13b0 : ((rdOf ByteArray.empty l2 x8_2).toList == (rdOf ByteArray.empty l2 x7_1).toList) = false := beq_eq_false_iff_ne.mpr c13
              have c13b1 : ((rdOf ByteArray.empty l2 x8_2).toList != (rdOf ByteArray.empty l2 x7_1).toList) = true := bne_iff_ne.mpr c13
              have H' := Aside0.mk H
              clear H
              have p264 : 0 ≤ (x8_2 : Int) := of_decide_eq_true q13_5
              have q264 : x8_2 < (l2.length : Int) := of_decide_eq_true q13_5
              obtain ⟨ad264, e264, hx264_0⟩ := Kd.at_string HR2.out x8_2 p264 q264
              obtain rfl : ad261 = ad264 := (by injection e264)
              replace hx264_0 := (HB.out.cell (World.block_lt_of_cell? w _ hx264_0)).trans hx264_0
              replace p264 := eq_true p264
              replace q264 := eq_true q264
              have p265 : 0 ≤ (x7_1 : Int) := of_decide_eq_true q13_5
              have q265 : x7_1 < (l2.length : Int) := of_decide_eq_true q13_5
              obtain ⟨ad265, e265, hx265_0⟩ := Kd.at_string HR2.out x7_1 p265 q265
              obtain rfl : ad261 = ad265 := (by injection e265)
              replace hx265_0 := (HB.out.cell (World.block_lt_of_cell? w _ hx265_0)).trans hx265_0
              replace p265 := eq_true p265
              replace q265 := eq_true q265
              go_wp2
              repeat (go_quiet (fail); try go_wp2)
              go_roundg k2
              case measure => have := HK1.out; have := HK2.out; omega
              case rel => exact ⟨(wrap64 (x8_2 + 1)), q13_7, H', ⟨by have := HK1.out; have := HK2.out; omega⟩, ⟨by repeat (first | (with_reducible first | exact HB.out | apply below_alloc | apply pw_below_drewN | apply below_drew1) | exact HB.out)⟩⟩
            ·
             rw [if_neg c12] at H
             exact absurd H (by simp)
           ·
            rw [if_neg c11] at H
            exact absurd H (by simp)
          ·
           rw [if_neg c10] at H
           exact absurd H (by simp)
         ·
          rw [if_neg c9] at H
          exact absurd H (by simp)
        ·
         rw [if_neg c8] at H
         have c8b0 : decide (x8_2 < x7_1) = false := decide_eq_false c8
         clear c8
         have H' := Aside0.mk H
         clear H
         go_wp2
         repeat (go_quiet (fail); try go_wp2)
         go_roundg k2
         case measure => have := HK1.out; have := HK2.out; omega
         case rel => exact ⟨(wrap64 (x7_1 + 1)), q13_7, H', ⟨by have := HK1.out; have := HK2.out; omega⟩, ⟨by repeat (first | (with_reducible first | exact HB.out | apply below_alloc | apply pw_below_drewN | apply below_drew1) | exact HB.out)⟩⟩
     ·
      replace c7 := Bool.eq_false_iff.mpr c7
      subst c7
      have H1 : ((gnomonlaw08_live.f k1).bind fun t263 => (some t263)) = some r := by rw [if_neg (show ¬ (false = true) by decide)] at H; exact H
      clear H
      have H := H1
      clear H1
      replace H := Option.bind_eq_some_iff.mp H
      obtain ⟨t263, A160, H⟩ := H
      replace H : (some t263) = some r := H
      have A16 := Aside0.mk A160
      clear A160
      obtain rfl := Option.some.inj H
      have p261 : 0 ≤ (x7_1 : Int) := of_decide_eq_true q13_5
      have q261 : x7_1 < (l2.length : Int) := of_decide_eq_true q13_5
      obtain ⟨ad261, e261, hx261_0⟩ := Kd.at_string HR2.out x7_1 p261 q261
      cases e261
      replace hx261_0 := (HB.out.cell (World.block_lt_of_cell? w _ hx261_0)).trans hx261_0
      replace p261 := eq_true p261
      replace q261 := eq_true q261
      go_wp2_with (first | (go_at_call 40; (with_reducible refine (gnomonlaw08_isName.calls k1 (rdOf ByteArray.empty l2 x7_1) false _ A6.out).mono ?_); rintro e w' ⟨rfl, ⟨nd, rfl⟩⟩; (try first | exact ⟨rfl, _, World.drewN_drewN _ _ _⟩ | exact ⟨rfl, _, Eq.trans (World.drewN_drewN _ _ _) (congrArg (World.drewN _) (Nat.add_assoc _ _ _))⟩)) | (go_at_call 29; (with_reducible refine (gnomonlaw08_live.calls k1  t263 _ ?side1 A16.out).mono ?_); (case side1 => exact q13_8); rintro e w17 ⟨rfl, hb⟩; have n0_ := Aside0.mk (below_step q13_1 hb); clear HB; have HB := n0_; clear n0_; (try clear hb); (try clear hb2); (try clear hk); (try clear hi)))
      repeat (go_quiet (first | (go_at_call 40; (with_reducible refine (gnomonlaw08_isName.calls k1 (rdOf ByteArray.empty l2 x7_1) false _ A6.out).mono ?_); rintro e w' ⟨rfl, ⟨nd, rfl⟩⟩; (try first | exact ⟨rfl, _, World.drewN_drewN _ _ _⟩ | exact ⟨rfl, _, Eq.trans (World.drewN_drewN _ _ _) (congrArg (World.drewN _) (Nat.add_assoc _ _ _))⟩)) | (go_at_call 29; (with_reducible refine (gnomonlaw08_live.calls k1  t263 _ ?side1 A16.out).mono ?_); (case side1 => exact q13_8); rintro e w17 ⟨rfl, hb⟩; have n0_ := Aside0.mk (below_step q13_1 hb); clear HB; have HB := n0_; clear n0_; (try clear hb); (try clear hb2); (try clear hk); (try clear hi))); try go_wp2_with (first | (go_at_call 40; (with_reducible refine (gnomonlaw08_isName.calls k1 (rdOf ByteArray.empty l2 x7_1) false _ A6.out).mono ?_); rintro e w' ⟨rfl, ⟨nd, rfl⟩⟩; (try first | exact ⟨rfl, _, World.drewN_drewN _ _ _⟩ | exact ⟨rfl, _, Eq.trans (World.drewN_drewN _ _ _) (congrArg (World.drewN _) (Nat.add_assoc _ _ _))⟩)) | (go_at_call 29; (with_reducible refine (gnomonlaw08_live.calls k1  t263 _ ?side1 A16.out).mono ?_); (case side1 => exact q13_8); rintro e w17 ⟨rfl, hb⟩; have n0_ := Aside0.mk (below_step q13_1 hb); clear HB; have HB := n0_; clear n0_; (try clear hb); (try clear hb2); (try clear hk); (try clear hi))))
      go_ret
      exact ⟨by first | rfl | (simp [errW_none, errW_some] <;> rfl) | (simp [*, errW_none, errW_some] <;> rfl), by repeat (first | (with_reducible first | exact HB.out | apply below_alloc | apply pw_below_drewN | apply below_drew1) | exact HB.out)⟩
    ·
     rw [if_neg c5] at H
     exact absurd H (by simp)
   ·
    rw [if_neg c4] at H
    have c4b0 : decide (x7_1 < (l2.length : Int)) = false := decide_eq_false c4
    clear c4
    replace H := Option.bind_eq_some_iff.mp H
    obtain ⟨⟨t267, t268⟩, A180, H⟩ := H
    replace H : ((expr_Print.f k1 l1 l2).bind fun bt269 => ((gnomonlaw08_live.f k1).bind fun t271 => (if t271 = true then (if t268 = 0 then (if bt269.2 = 0 then ((expr_Same.f k1 l0 l1).bind fun t272 => (some ((t267.toList == bt269.1.toList) == t272))) else (some true)) else (some true)) else (some false)))) = some r := H
    have A18 := Aside0.mk A180
    clear A180
    replace H := Option.bind_eq_some_iff.mp H
    obtain ⟨⟨t269, t270⟩, A190, H⟩ := H
    replace H : ((gnomonlaw08_live.f k1).bind fun t271 => (if t271 = true then (if t268 = 0 then (if t270 = 0 then ((expr_Same.f k1 l0 l1).bind fun t272 => (some ((t267.toList == t269.toList) == t272))) else (some true)) else (some true)) else (some false))) = some r := H
    have A19 := Aside0.mk A190
    clear A190
    replace H := Option.bind_eq_some_iff.mp H
    obtain ⟨t271, A200, H⟩ := H
    replace H : (if t271 = true then (if t268 = 0 then (if t270 = 0 then ((expr_Same.f k1 l0 l1).bind fun t272 => (some ((t267.toList == t269.toList) == t272))) else (some true)) else (some true)) else (some false)) = some r := H
    have A20 := Aside0.mk A200
    clear A200
    by_cases c21 : t271 = true
    ·
     subst c21
     have H1 : (if t268 = 0 then (if t270 = 0 then ((expr_Same.f k1 l0 l1).bind fun t272 => (some ((t267.toList == t269.toList) == t272))) else (some true)) else (some true)) = some r := by rw [if_pos rfl] at H; exact H
     clear H
     have H := H1
     clear H1
     by_cases c22 : t268 = 0
     ·
      rw [if_pos c22] at H
      have c22b0 : (t268 == 0) = true := beq_iff_eq.mpr c22
      have c22b1 : (t268 != 0) = false := bne_eq_false_iff_eq.mpr c22
      clear c22
      by_cases c23 : t270 = 0
      ·
       rw [if_pos c23] at H
       have c23b0 : (t270 == 0) = true := beq_iff_eq.mpr c23
       have c23b1 : (t270 != 0) = false := bne_eq_false_iff_eq.mpr c23
       clear c23
       replace H := Option.bind_eq_some_iff.mp H
       obtain ⟨t272, A240, H⟩ := H
       replace H : (some ((t267.toList == t269.toList) == t272)) = some r := H
       have A24 := Aside0.mk A240
       clear A240
       obtain rfl := Option.some.inj H
       go_wp2_with (first | (go_at_call 27; (with_reducible refine (expr_Print.calls k1 _ _ l0 _ _ l2 t267 t268 _ ?side5 ?side1 ?side2 ?side3 ?side4 A18.out).mono ?_); (case side1 => exact q13_3); (case side2 => exact HC0.out); (case side3 => exact q13_2); (case side4 => exact HC2.out); (case side5 => exact q13_0); rintro e w25 ⟨rfl, hb⟩; have n0_ := Aside0.mk (below_step q13_1 hb); clear HB; have HB := n0_; clear n0_; (try clear hb); (try clear hb2); (try clear hk); (try clear hi)) | (go_at_call 27; (with_reducible refine (expr_Print.calls k1 _ _ l1 _ _ l2 t269 t270 _ ?side5 ?side1 ?side2 ?side3 ?side4 A19.out).mono ?_); (case side1 => exact q13_4); (case side2 => exact HC1.out); (case side3 => exact q13_2); (case side4 => exact HC2.out); (case side5 => exact q13_0); rintro e w26 ⟨rfl, hb⟩; have n0_ := Aside0.mk (below_step q13_1 hb); clear HB; have HB := n0_; clear n0_; (try clear hb); (try clear hb2); (try clear hk); (try clear hi)) | (go_at_call 29; (with_reducible refine (gnomonlaw08_live.calls k1  true _ ?side1 A20.out).mono ?_); (case side1 => exact q13_0); rintro e w27 ⟨rfl, hb⟩; have n0_ := Aside0.mk (below_step q13_1 hb); clear HB; have HB := n0_; clear n0_; (try clear hb); (try clear hb2); (try clear hk); (try clear hi)) | (go_at_call 38; (with_reducible refine (expr_Same.calls k1 _ _ l0 _ _ l1 t272 _ ?side1 ?side2 ?side3 ?side4 A24.out).mono ?_); (case side1 => exact q13_3); (case side2 => exact HC0.out); (case side3 => exact q13_4); (case side4 => exact HC1.out); rintro e w' ⟨rfl, ⟨nd, rfl⟩⟩; (try first | exact ⟨rfl, _, World.drewN_drewN _ _ _⟩ | exact ⟨rfl, _, Eq.trans (World.drewN_drewN _ _ _) (congrArg (World.drewN _) (Nat.add_assoc _ _ _))⟩)))
       repeat (go_quiet (first | (go_at_call 27; (with_reducible refine (expr_Print.calls k1 _ _ l0 _ _ l2 t267 t268 _ ?side5 ?side1 ?side2 ?side3 ?side4 A18.out).mono ?_); (case side1 => exact q13_3); (case side2 => exact HC0.out); (case side3 => exact q13_2); (case side4 => exact HC2.out); (case side5 => exact q13_0); rintro e w25 ⟨rfl, hb⟩; have n0_ := Aside0.mk (below_step q13_1 hb); clear HB; have HB := n0_; clear n0_; (try clear hb); (try clear hb2); (try clear hk); (try clear hi)) | (go_at_call 27; (with_reducible refine (expr_Print.calls k1 _ _ l1 _ _ l2 t269 t270 _ ?side5 ?side1 ?side2 ?side3 ?side4 A19.out).mono ?_); (case side1 => exact q13_4); (case side2 => exact HC1.out); (case side3 => exact q13_2); (case side4 => exact HC2.out); (case side5 => exact q13_0); rintro e w26 ⟨rfl, hb⟩; have n0_ := Aside0.mk (below_step q13_1 hb); clear HB; have HB := n0_; clear n0_; (try clear hb); (try clear hb2); (try clear hk); (try clear hi)) | (go_at_call 29; (with_reducible refine (gnomonlaw08_live.calls k1  true _ ?side1 A20.out).mono ?_); (case side1 => exact q13_0); rintro e w27 ⟨rfl, hb⟩; have n0_ := Aside0.mk (below_step q13_1 hb); clear HB; have HB := n0_; clear n0_; (try clear hb); (try clear hb2); (try clear hk); (try clear hi)) | (go_at_call 38; (with_reducible refine (expr_Same.calls k1 _ _ l0 _ _ l1 t272 _ ?side1 ?side2 ?side3 ?side4 A24.out).mono ?_); (case side1 => exact q13_3); (case side2 => exact HC0.out); (case side3 => exact q13_4); (case side4 => exact HC1.out); rintro e w' ⟨rfl, ⟨nd, rfl⟩⟩; (try first | exact ⟨rfl, _, World.drewN_drewN _ _ _⟩ | exact ⟨rfl, _, Eq.trans (World.drewN_drewN _ _ _) (congrArg (World.drewN _) (Nat.add_assoc _ _ _))⟩))); try go_wp2_with (first | (go_at_call 27; (with_reducible refine (expr_Print.calls k1 _ _ l0 _ _ l2 t267 t268 _ ?side5 ?side1 ?side2 ?side3 ?side4 A18.out).mono ?_); (case side1 => exact q13_3); (case side2 => exact HC0.out); (case side3 => exact q13_2); (case side4 => exact HC2.out); (case side5 => exact q13_0); rintro e w25 ⟨rfl, hb⟩; have n0_ := Aside0.mk (below_step q13_1 hb); clear HB; have HB := n0_; clear n0_; (try clear hb); (try clear hb2); (try clear hk); (try clear hi)) | (go_at_call 27; (with_reducible refine (expr_Print.calls k1 _ _ l1 _ _ l2 t269 t270 _ ?side5 ?side1 ?side2 ?side3 ?side4 A19.out).mono ?_); (case side1 => exact q13_4); (case side2 => exact HC1.out); (case side3 => exact q13_2); (case side4 => exact HC2.out); (case side5 => exact q13_0); rintro e w26 ⟨rfl, hb⟩; have n0_ := Aside0.mk (below_step q13_1 hb); clear HB; have HB := n0_; clear n0_; (try clear hb); (try clear hb2); (try clear hk); (try clear hi)) | (go_at_call 29; (with_reducible refine (gnomonlaw08_live.calls k1  true _ ?side1 A20.out).mono ?_); (case side1 => exact q13_0); rintro e w27 ⟨rfl, hb⟩; have n0_ := Aside0.mk (below_step q13_1 hb); clear HB; have HB := n0_; clear n0_; (try clear hb); (try clear hb2); (try clear hk); (try clear hi)) | (go_at_call 38; (with_reducible refine (expr_Same.calls k1 _ _ l0 _ _ l1 t272 _ ?side1 ?side2 ?side3 ?side4 A24.out).mono ?_); (case side1 => exact q13_3); (case side2 => exact HC0.out); (case side3 => exact q13_4); (case side4 => exact HC1.out); rintro e w' ⟨rfl, ⟨nd, rfl⟩⟩; (try first | exact ⟨rfl, _, World.drewN_drewN _ _ _⟩ | exact ⟨rfl, _, Eq.trans (World.drewN_drewN _ _ _) (congrArg (World.drewN _) (Nat.add_assoc _ _ _))⟩))))
       go_ret
       exact ⟨by first | rfl | (simp [errW_none, errW_some] <;> rfl) | (simp [*, errW_none, errW_some] <;> rfl), by repeat (first | (with_reducible first | exact HB.out | apply below_alloc | apply pw_below_drewN | apply below_drew1) | exact HB.out)⟩
      ·
       rw [if_neg c23] at H
       have c23b0 : (t270 == 0) = false := beq_eq_false_iff_ne.mpr c23
       have c23b1 : (t270 != 0) = true := bne_iff_ne.mpr c23
       obtain rfl := Option.some.inj H
       go_wp2_with (first | (go_at_call 27; (with_reducible refine (expr_Print.calls k1 _ _ l0 _ _ l2 t267 t268 _ ?side5 ?side1 ?side2 ?side3 ?side4 A18.out).mono ?_); (case side1 => exact q13_3); (case side2 => exact HC0.out); (case side3 => exact q13_2); (case side4 => exact HC2.out); (case side5 => exact q13_0); rintro e w28 ⟨rfl, hb⟩; have n0_ := Aside0.mk (below_step q13_1 hb); clear HB; have HB := n0_; clear n0_; (try clear hb); (try clear hb2); (try clear hk); (try clear hi)) | (go_at_call 27; (with_reducible refine (expr_Print.calls k1 _ _ l1 _ _ l2 t269 t270 _ ?side5 ?side1 ?side2 ?side3 ?side4 A19.out).mono ?_); (case side1 => exact q13_4); (case side2 => exact HC1.out); (case side3 => exact q13_2); (case side4 => exact HC2.out); (case side5 => exact q13_0); rintro e w29 ⟨rfl, hb⟩; have n0_ := Aside0.mk (below_step q13_1 hb); clear HB; have HB := n0_; clear n0_; (try clear hb); (try clear hb2); (try clear hk); (try clear hi)) | (go_at_call 29; (with_reducible refine (gnomonlaw08_live.calls k1  true _ ?side1 A20.out).mono ?_); (case side1 => exact q13_0); rintro e w30 ⟨rfl, hb⟩; have n0_ := Aside0.mk (below_step q13_1 hb); clear HB; have HB := n0_; clear n0_; (try clear hb); (try clear hb2); (try clear hk); (try clear hi)))
       repeat (go_quiet (first | (go_at_call 27; (with_reducible refine (expr_Print.calls k1 _ _ l0 _ _ l2 t267 t268 _ ?side5 ?side1 ?side2 ?side3 ?side4 A18.out).mono ?_); (case side1 => exact q13_3); (case side2 => exact HC0.out); (case side3 => exact q13_2); (case side4 => exact HC2.out); (case side5 => exact q13_0); rintro e w28 ⟨rfl, hb⟩; have n0_ := Aside0.mk (below_step q13_1 hb); clear HB; have HB := n0_; clear n0_; (try clear hb); (try clear hb2); (try clear hk); (try clear hi)) | (go_at_call 27; (with_reducible refine (expr_Print.calls k1 _ _ l1 _ _ l2 t269 t270 _ ?side5 ?side1 ?side2 ?side3 ?side4 A19.out).mono ?_); (case side1 => exact q13_4); (case side2 => exact HC1.out); (case side3 => exact q13_2); (case side4 => exact HC2.out); (case side5 => exact q13_0); rintro e w29 ⟨rfl, hb⟩; have n0_ := Aside0.mk (below_step q13_1 hb); clear HB; have HB := n0_; clear n0_; (try clear hb); (try clear hb2); (try clear hk); (try clear hi)) | (go_at_call 29; (with_reducible refine (gnomonlaw08_live.calls k1  true _ ?side1 A20.out).mono ?_); (case side1 => exact q13_0); rintro e w30 ⟨rfl, hb⟩; have n0_ := Aside0.mk (below_step q13_1 hb); clear HB; have HB := n0_; clear n0_; (try clear hb); (try clear hb2); (try clear hk); (try clear hi))); try go_wp2_with (first | (go_at_call 27; (with_reducible refine (expr_Print.calls k1 _ _ l0 _ _ l2 t267 t268 _ ?side5 ?side1 ?side2 ?side3 ?side4 A18.out).mono ?_); (case side1 => exact q13_3); (case side2 => exact HC0.out); (case side3 => exact q13_2); (case side4 => exact HC2.out); (case side5 => exact q13_0); rintro e w28 ⟨rfl, hb⟩; have n0_ := Aside0.mk (below_step q13_1 hb); clear HB; have HB := n0_; clear n0_; (try clear hb); (try clear hb2); (try clear hk); (try clear hi)) | (go_at_call 27; (with_reducible refine (expr_Print.calls k1 _ _ l1 _ _ l2 t269 t270 _ ?side5 ?side1 ?side2 ?side3 ?side4 A19.out).mono ?_); (case side1 => exact q13_4); (case side2 => exact HC1.out); (case side3 => exact q13_2); (case side4 => exact HC2.out); (case side5 => exact q13_0); rintro e w29 ⟨rfl, hb⟩; have n0_ := Aside0.mk (below_step q13_1 hb); clear HB; have HB := n0_; clear n0_; (try clear hb); (try clear hb2); (try clear hk); (try clear hi)) | (go_at_call 29; (with_reducible refine (gnomonlaw08_live.calls k1  true _ ?side1 A20.out).mono ?_); (case side1 => exact q13_0); rintro e w30 ⟨rfl, hb⟩; have n0_ := Aside0.mk (below_step q13_1 hb); clear HB; have HB := n0_; clear n0_; (try clear hb); (try clear hb2); (try clear hk); (try clear hi))))
       go_ret
       exact ⟨by first | rfl | (simp [errW_none, errW_some] <;> rfl) | (simp [*, errW_none, errW_some] <;> rfl), by repeat (first | (with_reducible first | exact HB.out | apply below_alloc | apply pw_below_drewN | apply below_drew1) | exact HB.out)⟩
     ·
      rw [if_neg c22] at H
      have c22b0 : (t268 == 0) = false := beq_eq_false_iff_ne.mpr c22
      have c22b1 : (t268 != 0) = true := bne_iff_ne.mpr c22
      obtain rfl := Option.some.inj H
      go_wp2_with (first | (go_at_call 27; (with_reducible refine (expr_Print.calls k1 _ _ l0 _ _ l2 t267 t268 _ ?side5 ?side1 ?side2 ?side3 ?side4 A18.out).mono ?_); (case side1 => exact q13_3); (case side2 => exact HC0.out); (case side3 => exact q13_2); (case side4 => exact HC2.out); (case side5 => exact q13_0); rintro e w31 ⟨rfl, hb⟩; have n0_ := Aside0.mk (below_step q13_1 hb); clear HB; have HB := n0_; clear n0_; (try clear hb); (try clear hb2); (try clear hk); (try clear hi)) | (go_at_call 27; (with_reducible refine (expr_Print.calls k1 _ _ l1 _ _ l2 t269 t270 _ ?side5 ?side1 ?side2 ?side3 ?side4 A19.out).mono ?_); (case side1 => exact q13_4); (case side2 => exact HC1.out); (case side3 => exact q13_2); (case side4 => exact HC2.out); (case side5 => exact q13_0); rintro e w32 ⟨rfl, hb⟩; have n0_ := Aside0.mk (below_step q13_1 hb); clear HB; have HB := n0_; clear n0_; (try clear hb); (try clear hb2); (try clear hk); (try clear hi)) | (go_at_call 29; (with_reducible refine (gnomonlaw08_live.calls k1  true _ ?side1 A20.out).mono ?_); (case side1 => exact q13_0); rintro e w33 ⟨rfl, hb⟩; have n0_ := Aside0.mk (below_step q13_1 hb); clear HB; have HB := n0_; clear n0_; (try clear hb); (try clear hb2); (try clear hk); (try clear hi)))
      repeat (go_quiet (first | (go_at_call 27; (with_reducible refine (expr_Print.calls k1 _ _ l0 _ _ l2 t267 t268 _ ?side5 ?side1 ?side2 ?side3 ?side4 A18.out).mono ?_); (case side1 => exact q13_3); (case side2 => exact HC0.out); (case side3 => exact q13_2); (case side4 => exact HC2.out); (case side5 => exact q13_0); rintro e w31 ⟨rfl, hb⟩; have n0_ := Aside0.mk (below_step q13_1 hb); clear HB; have HB := n0_; clear n0_; (try clear hb); (try clear hb2); (try clear hk); (try clear hi)) | (go_at_call 27; (with_reducible refine (expr_Print.calls k1 _ _ l1 _ _ l2 t269 t270 _ ?side5 ?side1 ?side2 ?side3 ?side4 A19.out).mono ?_); (case side1 => exact q13_4); (case side2 => exact HC1.out); (case side3 => exact q13_2); (case side4 => exact HC2.out); (case side5 => exact q13_0); rintro e w32 ⟨rfl, hb⟩; have n0_ := Aside0.mk (below_step q13_1 hb); clear HB; have HB := n0_; clear n0_; (try clear hb); (try clear hb2); (try clear hk); (try clear hi)) | (go_at_call 29; (with_reducible refine (gnomonlaw08_live.calls k1  true _ ?side1 A20.out).mono ?_); (case side1 => exact q13_0); rintro e w33 ⟨rfl, hb⟩; have n0_ := Aside0.mk (below_step q13_1 hb); clear HB; have HB := n0_; clear n0_; (try clear hb); (try clear hb2); (try clear hk); (try clear hi))); try go_wp2_with (first | (go_at_call 27; (with_reducible refine (expr_Print.calls k1 _ _ l0 _ _ l2 t267 t268 _ ?side5 ?side1 ?side2 ?side3 ?side4 A18.out).mono ?_); (case side1 => exact q13_3); (case side2 => exact HC0.out); (case side3 => exact q13_2); (case side4 => exact HC2.out); (case side5 => exact q13_0); rintro e w31 ⟨rfl, hb⟩; have n0_ := Aside0.mk (below_step q13_1 hb); clear HB; have HB := n0_; clear n0_; (try clear hb); (try clear hb2); (try clear hk); (try clear hi)) | (go_at_call 27; (with_reducible refine (expr_Print.calls k1 _ _ l1 _ _ l2 t269 t270 _ ?side5 ?side1 ?side2 ?side3 ?side4 A19.out).mono ?_); (case side1 => exact q13_4); (case side2 => exact HC1.out); (case side3 => exact q13_2); (case side4 => exact HC2.out); (case side5 => exact q13_0); rintro e w32 ⟨rfl, hb⟩; have n0_ := Aside0.mk (below_step q13_1 hb); clear HB; have HB := n0_; clear n0_; (try clear hb); (try clear hb2); (try clear hk); (try clear hi)) | (go_at_call 29; (with_reducible refine (gnomonlaw08_live.calls k1  true _ ?side1 A20.out).mono ?_); (case side1 => exact q13_0); rintro e w33 ⟨rfl, hb⟩; have n0_ := Aside0.mk (below_step q13_1 hb); clear HB; have HB := n0_; clear n0_; (try clear hb); (try clear hb2); (try clear hk); (try clear hi))))
      go_ret
      exact ⟨by first | rfl | (simp [errW_none, errW_some] <;> rfl) | (simp [*, errW_none, errW_some] <;> rfl), by repeat (first | (with_reducible first | exact HB.out | apply below_alloc | apply pw_below_drewN | apply below_drew1) | exact HB.out)⟩
    ·
     replace c21 := Bool.eq_false_iff.mpr c21
     subst c21
     have H1 : (some false) = some r := by rw [if_neg (show ¬ (false = true) by decide)] at H; exact H
     clear H
     have H := H1
     clear H1
     obtain rfl := Option.some.inj H
     go_wp2_with (first | (go_at_call 27; (with_reducible refine (expr_Print.calls k1 _ _ l0 _ _ l2 t267 t268 _ ?side5 ?side1 ?side2 ?side3 ?side4 A18.out).mono ?_); (case side1 => exact q13_3); (case side2 => exact HC0.out); (case side3 => exact q13_2); (case side4 => exact HC2.out); (case side5 => exact q13_0); rintro e w34 ⟨rfl, hb⟩; have n0_ := Aside0.mk (below_step q13_1 hb); clear HB; have HB := n0_; clear n0_; (try clear hb); (try clear hb2); (try clear hk); (try clear hi)) | (go_at_call 27; (with_reducible refine (expr_Print.calls k1 _ _ l1 _ _ l2 t269 t270 _ ?side5 ?side1 ?side2 ?side3 ?side4 A19.out).mono ?_); (case side1 => exact q13_4); (case side2 => exact HC1.out); (case side3 => exact q13_2); (case side4 => exact HC2.out); (case side5 => exact q13_0); rintro e w35 ⟨rfl, hb⟩; have n0_ := Aside0.mk (below_step q13_1 hb); clear HB; have HB := n0_; clear n0_; (try clear hb); (try clear hb2); (try clear hk); (try clear hi)) | (go_at_call 29; (with_reducible refine (gnomonlaw08_live.calls k1  false _ ?side1 A20.out).mono ?_); (case side1 => exact q13_0); rintro e w36 ⟨rfl, hb⟩; have n0_ := Aside0.mk (below_step q13_1 hb); clear HB; have HB := n0_; clear n0_; (try clear hb); (try clear hb2); (try clear hk); (try clear hi)))
     repeat (go_quiet (first | (go_at_call 27; (with_reducible refine (expr_Print.calls k1 _ _ l0 _ _ l2 t267 t268 _ ?side5 ?side1 ?side2 ?side3 ?side4 A18.out).mono ?_); (case side1 => exact q13_3); (case side2 => exact HC0.out); (case side3 => exact q13_2); (case side4 => exact HC2.out); (case side5 => exact q13_0); rintro e w34 ⟨rfl, hb⟩; have n0_ := Aside0.mk (below_step q13_1 hb); clear HB; have HB := n0_; clear n0_; (try clear hb); (try clear hb2); (try clear hk); (try clear hi)) | (go_at_call 27; (with_reducible refine (expr_Print.calls k1 _ _ l1 _ _ l2 t269 t270 _ ?side5 ?side1 ?side2 ?side3 ?side4 A19.out).mono ?_); (case side1 => exact q13_4); (case side2 => exact HC1.out); (case side3 => exact q13_2); (case side4 => exact HC2.out); (case side5 => exact q13_0); rintro e w35 ⟨rfl, hb⟩; have n0_ := Aside0.mk (below_step q13_1 hb); clear HB; have HB := n0_; clear n0_; (try clear hb); (try clear hb2); (try clear hk); (try clear hi)) | (go_at_call 29; (with_reducible refine (gnomonlaw08_live.calls k1  false _ ?side1 A20.out).mono ?_); (case side1 => exact q13_0); rintro e w36 ⟨rfl, hb⟩; have n0_ := Aside0.mk (below_step q13_1 hb); clear HB; have HB := n0_; clear n0_; (try clear hb); (try clear hb2); (try clear hk); (try clear hi))); try go_wp2_with (first | (go_at_call 27; (with_reducible refine (expr_Print.calls k1 _ _ l0 _ _ l2 t267 t268 _ ?side5 ?side1 ?side2 ?side3 ?side4 A18.out).mono ?_); (case side1 => exact q13_3); (case side2 => exact HC0.out); (case side3 => exact q13_2); (case side4 => exact HC2.out); (case side5 => exact q13_0); rintro e w34 ⟨rfl, hb⟩; have n0_ := Aside0.mk (below_step q13_1 hb); clear HB; have HB := n0_; clear n0_; (try clear hb); (try clear hb2); (try clear hk); (try clear hi)) | (go_at_call 27; (with_reducible refine (expr_Print.calls k1 _ _ l1 _ _ l2 t269 t270 _ ?side5 ?side1 ?side2 ?side3 ?side4 A19.out).mono ?_); (case side1 => exact q13_4); (case side2 => exact HC1.out); (case side3 => exact q13_2); (case side4 => exact HC2.out); (case side5 => exact q13_0); rintro e w35 ⟨rfl, hb⟩; have n0_ := Aside0.mk (below_step q13_1 hb); clear HB; have HB := n0_; clear n0_; (try clear hb); (try clear hb2); (try clear hk); (try clear hi)) | (go_at_call 29; (with_reducible refine (gnomonlaw08_live.calls k1  false _ ?side1 A20.out).mono ?_); (case side1 => exact q13_0); rintro e w36 ⟨rfl, hb⟩; have n0_ := Aside0.mk (below_step q13_1 hb); clear HB; have HB := n0_; clear n0_; (try clear hb); (try clear hb2); (try clear hk); (try clear hi))))
     go_ret
     exact ⟨by first | rfl | (simp [errW_none, errW_some] <;> rfl) | (simp [*, errW_none, errW_some] <;> rfl), by repeat (first | (with_reducible first | exact HB.out | apply below_alloc | apply pw_below_drewN | apply below_drew1) | exact HB.out)⟩

/-! ### expr_Holds: function 34 -/
def expr_Holds.j0 : Nat → List (S68) → List Int → Bool → Option (Bool × Int)
 | 0, _, _, _ => none
 | k + 1, x0, x1, x11 => if x11 = true then (some (false, 121)) else ((expr_reckon.f k x0 0 x1).bind fun bt275 => (if bt275.2.2 = true then (some (false, 20)) else (some (bt275.2.1, 0))))
def expr_Holds.f (k : Nat) (l0 : List (S68)) (l1 : List Int) : Option (Bool × Int) := if (l0.length : Int) = 0 then (some (true, 0)) else ((expr_Right.f k l0 (l1.length : Int)).bind fun t273 => (if t273 = 0 then ((expr_IsTruth.f l0).bind fun t274 => (expr_Holds.j0 k l0 l1 (!t274))) else (expr_Holds.j0 k l0 l1 true)))
theorem expr_Holds.mono_l : ∀ k, (∀ y0 y1 y2, LeO (expr_Holds.j0 k y0 y1 y2) (expr_Holds.j0 (k + 1) y0 y1 y2))
 | 0 => fun _ _ _ r h => by simp [expr_Holds.j0] at h
 | k + 1 => by
  have ih0 := expr_Holds.mono_l k
  ·
   intro y0 y1 y2
   unfold expr_Holds.j0
   repeat' first
   | (with_reducible exact ih0 _ _ _)
   | (with_reducible exact expr_Right.mono _ _ _)
   | (with_reducible exact expr_reckon.mono _ _ _ _)
   | (with_reducible exact LeO.refl _)
   | (with_reducible exact LeO.none _)
   | (with_reducible refine LeO.ite ?_ ?_)
   | (with_reducible refine LeO.bind ?_ (fun _ => ?_))
   | exact ih0 _ _ _
   | exact expr_Right.mono _ _ _
   | exact expr_reckon.mono _ _ _ _
   | exact LeO.none _
   | refine LeO.ite ?_ ?_
   | refine LeO.bind ?_ (fun _ => ?_)
theorem expr_Holds.mono : ∀ a0 a1 k, LeO (expr_Holds.f k a0 a1) (expr_Holds.f (k + 1) a0 a1) := by
 intro a0 a1 k
 have ih0 := expr_Holds.mono_l k
 unfold expr_Holds.f
 repeat' first
   | (with_reducible exact ih0 _ _ _)
   | (with_reducible exact expr_Right.mono _ _ _)
   | (with_reducible exact expr_reckon.mono _ _ _ _)
   | (with_reducible exact LeO.refl _)
   | (with_reducible exact LeO.none _)
   | (with_reducible refine LeO.ite ?_ ?_)
   | (with_reducible refine LeO.bind ?_ (fun _ => ?_))
   | exact ih0 _ _ _
   | exact expr_Right.mono _ _ _
   | exact expr_reckon.mono _ _ _ _
   | exact LeO.none _
   | refine LeO.ite ?_ ?_
   | refine LeO.bind ?_ (fun _ => ?_)
set_option maxHeartbeats 8000000 in
set_option maxRecDepth 100000 in
theorem expr_Holds.calls (k : Nat) (A0 : Option Addr) (c0 : Nat) (l0 : List (S68)) (A1 : Option Addr) (c1 : Nat) (l1 : List Int) (r1 : Bool) (r2 : Int) (w : World) (hG : Glob w) (hr0 : Kd.C k68 w A0 l0.length l0) (hc0 : l0.length ≤ c0) (hr1 : Kd.C (Kd.int .i64) w A1 l1.length l1) (hc1 : l1.length ≤ c1) (h : expr_Holds.f k l0 l1 = some (r1, r2)) :
  Calls Tryd.prog 34 #[.slice A0 l0.length c0, .slice A1 l1.length c1] w fun e w' => e = .returned (.tuple #[.bool r1, .int .i64 r2]) ∧ Below w.heap.size w w' := by
 have hu93 := Tryd.underlying93
 have HR0 := Aside0.mk hr0
 have HC0 := Aside0.mk hc0
 clear hr0 hc0
 have HR1 := Aside0.mk hr1
 have HC1 := Aside0.mk hc1
 clear hr1 hc1
 have HGL := Aside0.mk hG
 clear hG
 have HB := Aside0.mk (Below.refl w.heap.size w)
 have H : (if (l0.length : Int) = 0 then (some (true, 0)) else ((expr_Right.f k l0 (l1.length : Int)).bind fun t273 => (if t273 = 0 then ((expr_IsTruth.f l0).bind fun t274 => (expr_Holds.j0 k l0 l1 (!t274))) else (expr_Holds.j0 k l0 l1 true)))) = some (r1, r2) := h
 clear h
 by_cases c3 : (l0.length : Int) = 0
 ·
  rw [if_pos c3] at H
  have c3b0 : ((l0.length : Int) == 0) = true := beq_iff_eq.mpr c3
  have c3b1 : ((l0.length : Int) != 0) = false := bne_eq_false_iff_eq.mpr c3
  clear c3
  simp only [Option.some.injEq, Prod.mk.injEq] at H
  obtain ⟨rfl, rfl⟩ := H
  go_enter Tryd.func34, Tryd.ntmps34
  go_wp2
  go_ret2
  exact ⟨by first | rfl | (simp [errW_none, errW_some] <;> rfl) | (simp [*, errW_none, errW_some] <;> rfl), by repeat (first | (with_reducible first | exact HB.out | apply below_alloc | apply pw_below_drewN | apply below_drew1) | exact HB.out)⟩
 ·
  rw [if_neg c3] at H
  have c3b0 : ((l0.length : Int) == 0) = false := beq_eq_false_iff_ne.mpr c3
  have c3b1 : ((l0.length : Int) != 0) = true := bne_iff_ne.mpr c3
  have c3b2 : ¬ (l0 = []) := fun h_ => c3 (by rw [h_]; rfl)
  have HC4 := Aside0.mk H
  clear H
  go_enter Tryd.func34, Tryd.ntmps34
  go_upto_region 3 with (fail)
  go_cut [11] (fun v11 wc => ∃ (kq : Nat) (x11_3 : Bool), v11 = .bool x11_3 ∧ Aside0 (expr_Holds.j0 kq l0 l1 x11_3 = some (r1, r2)) ∧ Aside0 (kq ≤ k) ∧ Aside0 (Below w.heap.size w wc))
  case first =>
   have H := HC4.out
   clear HC4
   replace H := Option.bind_eq_some_iff.mp H
   obtain ⟨t273, A50, H⟩ := H
   replace H : (if t273 = 0 then ((expr_IsTruth.f l0).bind fun t274 => (expr_Holds.j0 k l0 l1 (!t274))) else (expr_Holds.j0 k l0 l1 true)) = some (r1, r2) := H
   have A5 := Aside0.mk A50
   clear A50
   by_cases c6 : t273 = 0
   ·
    rw [if_pos c6] at H
    have c6b0 : (t273 == 0) = true := beq_iff_eq.mpr c6
    have c6b1 : (t273 != 0) = false := bne_eq_false_iff_eq.mpr c6
    clear c6
    (first | rw [c6b0] | (simp only [i64_w, i32_w]; rw [c6b0]) | skip)
    replace H := Option.bind_eq_some_iff.mp H
    obtain ⟨t274, A70, H⟩ := H
    replace H : (expr_Holds.j0 k l0 l1 (!t274)) = some (r1, r2) := H
    have A7 := Aside0.mk A70
    clear A70
    have H' := Aside0.mk H
    clear H
    go_wp2_with (first | ((with_reducible refine gate_callee (f := 55) rfl ?_); refine goesL_ (some 15) rfl rfl Tryd.func55 (by kernel_rfl) rfl #[.slice A0 l0.length c0, .int .i64 (l1.length : Int)] rfl q13_6 ?_; (with_reducible refine (expr_Right.calls k _ _ l0 (l1.length : Int) t273 _ ?side3 ?side1 ?side2 A5.out).mono ?_); (case side1 => exact q13_3); (case side2 => exact HC0.out); (case side3 => exact q13_0); rintro e w8 ⟨rfl, hb⟩; refine ⟨_, rfl, ?_⟩; have n0_ := Aside0.mk (below_step q13_1 hb); clear HB; have HB := n0_; clear n0_; (try clear hb); (try clear hb2); (try clear hk); (try clear hi)) | (go_at_call 59; (with_reducible refine (expr_IsTruth.calls _ _ l0 t274 _ ?side3 ?side1 ?side2 A7.out).mono ?_); (case side1 => exact q13_3); (case side2 => exact HC0.out); (case side3 => exact q13_0); rintro e w9 ⟨rfl, hb⟩; have n0_ := Aside0.mk (below_step q13_1 hb); clear HB; have HB := n0_; clear n0_; (try clear hb); (try clear hb2); (try clear hk); (try clear hi)))
    go_meet
    case rel => exact ⟨_, (!t274), q13_7, H', ⟨by first | omega | exact Nat.le_refl _⟩, ⟨by repeat (first | (with_reducible first | exact HB.out | apply below_alloc | apply pw_below_drewN | apply below_drew1) | exact HB.out)⟩⟩
   ·
    rw [if_neg c6] at H
    have c6b0 : (t273 == 0) = false := beq_eq_false_iff_ne.mpr c6
    have c6b1 : (t273 != 0) = true := bne_iff_ne.mpr c6
    (first | rw [c6b0] | (simp only [i64_w, i32_w]; rw [c6b0]) | skip)
    have H' := Aside0.mk H
    clear H
    go_wp2_with (first | ((with_reducible refine gate_callee (f := 55) rfl ?_); refine goesL_ (some 15) rfl rfl Tryd.func55 (by kernel_rfl) rfl #[.slice A0 l0.length c0, .int .i64 (l1.length : Int)] rfl q13_6 ?_; (with_reducible refine (expr_Right.calls k _ _ l0 (l1.length : Int) t273 _ ?side3 ?side1 ?side2 A5.out).mono ?_); (case side1 => exact q13_3); (case side2 => exact HC0.out); (case side3 => exact q13_0); rintro e w10 ⟨rfl, hb⟩; refine ⟨_, rfl, ?_⟩; have n0_ := Aside0.mk (below_step q13_1 hb); clear HB; have HB := n0_; clear n0_; (try clear hb); (try clear hb2); (try clear hk); (try clear hi)))
    go_meet
    case rel => exact ⟨_, (true), q13_7, H', ⟨by first | omega | exact Nat.le_refl _⟩, ⟨by repeat (first | (with_reducible first | exact HB.out | apply below_alloc | apply pw_below_drewN | apply below_drew1) | exact HB.out)⟩⟩
  case rest =>
   clear HC4
   try clear c1
   try clear p2
   try clear c3
   try clear c3b0
   try clear c3b1
   try clear c3b2
   try clear c5
   try clear c6
   try clear c6b0
   try clear c6b1
   obtain ⟨kq, x11_3, rfl, HA, HJ3, HB⟩ := hcut
   cases kq with
   | zero => exact absurd HA.out (by simp [expr_Holds.j0])
   | succ kj3 =>
    have H := HA.out
    clear HA
    simp only [expr_Holds.j0] at H
    by_cases c11 : x11_3 = true
    ·
     subst c11
     have H1 : (some (false, 121)) = some (r1, r2) := by rw [if_pos rfl] at H; exact H
     clear H
     have H := H1
     clear H1
     simp only [Option.some.injEq, Prod.mk.injEq] at H
     obtain ⟨rfl, rfl⟩ := H
     go_wp2
     go_ret2
     exact ⟨by first | rfl | (simp [errW_none, errW_some] <;> rfl) | (simp [*, errW_none, errW_some] <;> rfl), by repeat (first | (with_reducible first | exact HB.out | apply below_alloc | apply pw_below_drewN | apply below_drew1) | exact HB.out)⟩
    ·
     replace c11 := Bool.eq_false_iff.mpr c11
     subst c11
     have H1 : ((expr_reckon.f kj3 l0 0 l1).bind fun bt275 => (if bt275.2.2 = true then (some (false, 20)) else (some (bt275.2.1, 0)))) = some (r1, r2) := by rw [if_neg (show ¬ (false = true) by decide)] at H; exact H
     clear H
     have H := H1
     clear H1
     replace H := Option.bind_eq_some_iff.mp H
     obtain ⟨⟨t275, t276, t277⟩, A120, H⟩ := H
     replace H : (if t277 = true then (some (false, 20)) else (some (t276, 0))) = some (r1, r2) := H
     have A12 := Aside0.mk A120
     clear A120
     by_cases c13 : t277 = true
     ·
      subst c13
      have H1 : (some (false, 20)) = some (r1, r2) := by rw [if_pos rfl] at H; exact H
      clear H
      have H := H1
      clear H1
      simp only [Option.some.injEq, Prod.mk.injEq] at H
      obtain ⟨rfl, rfl⟩ := H
      go_wp2_with (first | ((with_reducible refine gate_callee (f := 60) rfl ?_); refine goesL_ (some 24) rfl rfl Tryd.func60 (by kernel_rfl) rfl #[.slice A0 l0.length c0, .int .i64 0, .slice A1 l1.length c1] rfl q13_6 ?_; (with_reducible refine (expr_reckon.calls kj3 _ _ l0 0 _ _ l1 t275 t276 true _ ?side5 ?side1 ?side2 ?side3 ?side4 A12.out).mono ?_); (case side1 => exact q13_3); (case side2 => exact HC0.out); (case side3 => exact q13_4); (case side4 => exact HC1.out); (case side5 => exact q13_0); rintro e w14 ⟨rfl, hb⟩; refine ⟨_, rfl, ?_⟩; have n0_ := Aside0.mk (below_step q13_1 hb); clear HB; have HB := n0_; clear n0_; (try clear hb); (try clear hb2); (try clear hk); (try clear hi)) | ((with_reducible refine gate_dst (N := 6) rfl ?_); refine box_event ?hg (N := 6) ?hd (cs := #[.int .i64 0, .bool false, .bool false]) (t := 93) ?hr ?_; (case hd => rfl); (case hg => rfl); (case hr => first | (go_simp; done) | (go_simp; rfl)); intro gb278 hg w15 hbox hb; have n0_ := Aside0.mk (below_step q13_1 hb); have n1_ := Aside0.mk (hbox); have n2_ := Aside0.mk ((by rw [hg]; exact (below_size q13_1) : w.heap.size ≤ gb278)); have n3_ := Aside0.mk ((by rw [hg]; exact (below_size q13_1) : w.heap.size ≤ gb278)); clear HB; have HB := n0_; have BK278 := n1_; have GW278 := n2_; have GE278 := n3_; clear n0_ n1_ n2_ n3_; clear hb hbox hg; have hcz16_0 : w15.cell? ⟨gb278, 0, none⟩ = some (.int .i64 0) := (blk_cell BK278.out 0).trans rfl; have hcz16_1 : w15.cell? ⟨gb278, 1, none⟩ = some (.bool false) := (blk_cell BK278.out 1).trans rfl; have hcz16_2 : w15.cell? ⟨gb278, 2, none⟩ = some (.bool false) := (blk_cell BK278.out 2).trans rfl; have hfz16_0 := blk_frozen BK278.out 0; have hfz16_1 := blk_frozen BK278.out 1; have hfz16_2 := blk_frozen BK278.out 2))
      go_ret2
      exact ⟨by first | rfl | (simp [errW_none, errW_some] <;> rfl) | (simp [*, errW_none, errW_some] <;> rfl), by repeat (first | (with_reducible first | exact HB.out | apply below_alloc | apply pw_below_drewN | apply below_drew1 | refine below_set ?_ GE278.out) | exact HB.out)⟩
     ·
      replace c13 := Bool.eq_false_iff.mpr c13
      subst c13
      have H1 : (some (t276, 0)) = some (r1, r2) := by rw [if_neg (show ¬ (false = true) by decide)] at H; exact H
      clear H
      have H := H1
      clear H1
      simp only [Option.some.injEq, Prod.mk.injEq] at H
      obtain ⟨rfl, rfl⟩ := H
      go_wp2_with (first | ((with_reducible refine gate_callee (f := 60) rfl ?_); refine goesL_ (some 24) rfl rfl Tryd.func60 (by kernel_rfl) rfl #[.slice A0 l0.length c0, .int .i64 0, .slice A1 l1.length c1] rfl q13_6 ?_; (with_reducible refine (expr_reckon.calls kj3 _ _ l0 0 _ _ l1 t275 t276 false _ ?side5 ?side1 ?side2 ?side3 ?side4 A12.out).mono ?_); (case side1 => exact q13_3); (case side2 => exact HC0.out); (case side3 => exact q13_4); (case side4 => exact HC1.out); (case side5 => exact q13_0); rintro e w17 ⟨rfl, hb⟩; refine ⟨_, rfl, ?_⟩; have n0_ := Aside0.mk (below_step q13_1 hb); clear HB; have HB := n0_; clear n0_; (try clear hb); (try clear hb2); (try clear hk); (try clear hi)) | ((with_reducible refine gate_dst (N := 6) rfl ?_); refine box_event ?hg (N := 6) ?hd (cs := #[.int .i64 0, .bool false, .bool false]) (t := 93) ?hr ?_; (case hd => rfl); (case hg => rfl); (case hr => first | (go_simp; done) | (go_simp; rfl)); intro gb278 hg w18 hbox hb; have n0_ := Aside0.mk (below_step q13_1 hb); have n1_ := Aside0.mk (hbox); have n2_ := Aside0.mk ((by rw [hg]; exact (below_size q13_1) : w.heap.size ≤ gb278)); have n3_ := Aside0.mk ((by rw [hg]; exact (below_size q13_1) : w.heap.size ≤ gb278)); clear HB; have HB := n0_; have BK278 := n1_; have GW278 := n2_; have GE278 := n3_; clear n0_ n1_ n2_ n3_; clear hb hbox hg; have hcz19_0 : w18.cell? ⟨gb278, 0, none⟩ = some (.int .i64 0) := (blk_cell BK278.out 0).trans rfl; have hcz19_1 : w18.cell? ⟨gb278, 1, none⟩ = some (.bool false) := (blk_cell BK278.out 1).trans rfl; have hcz19_2 : w18.cell? ⟨gb278, 2, none⟩ = some (.bool false) := (blk_cell BK278.out 2).trans rfl; have hfz19_0 := blk_frozen BK278.out 0; have hfz19_1 := blk_frozen BK278.out 1; have hfz19_2 := blk_frozen BK278.out 2))
      go_ret2
      exact ⟨by first | rfl | (simp [errW_none, errW_some] <;> rfl) | (simp [*, errW_none, errW_some] <;> rfl), by repeat (first | (with_reducible first | exact HB.out | apply below_alloc | apply pw_below_drewN | apply below_drew1 | refine below_set ?_ GE278.out) | exact HB.out)⟩

end Go.Proofs.YtgkcjefbagnkpaaDoor.PExpr
