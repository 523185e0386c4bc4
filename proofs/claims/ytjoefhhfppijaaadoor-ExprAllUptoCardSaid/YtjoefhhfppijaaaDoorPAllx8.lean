-- written by wip/tools/xprint.py (over the kit's print.py): not trusted, Lean checks it.
import Derived.Test.YtjoefhhfppijaaaDoorPAllx0
import Derived.Test.YtjoefhhfppijaaaDoorPAllx5
import Derived.Test.YtjoefhhfppijaaaDoorPAllx7
namespace Go.Proofs.YtjoefhhfppijaaaDoor.PAll
open Go.RowKit Go.Proofs.YtjoefhhfppijaaaDoorW.PrintWords Go.Proofs.YtjoefhhfppijaaaDoorW.PrintLast Go.Proofs.YtjoefhhfppijaaaDoorW.PrintMore Go.Proofs.YtjoefhhfppijaaaDoorXW
attribute [local go_sem high] cell_set_map Option.map_some
attribute [local go_sem] max2_int min2_int max_two min_two max_three min_three max_four min_four   -- for this text's walks alone
set_option linter.unusedVariables false
set_option linter.unusedSimpArgs false

theorem q8_0 {p : Prop} (h : p := by repeat (first | (with_reducible first | exact HB.out | apply below_alloc | apply pw_below_drewN | apply below_drew1) | exact HB.out)) : p := h
theorem q8_1 {p : Prop} (h : p := by (try simp only [List.map_toArray, List.map_cons, List.map_nil]); first | done | rfl | (simp only [List.length_drop, List.length_take]; rfl)) : p := h
theorem q8_2 {p : Prop} (h : p := by repeat (first | exact (HGL.out.below HB.out) | (with_reducible refine Glob.alloc ?_ _) | (with_reducible refine Glob.drewN ?_ _) | (with_reducible refine Glob.drew ?_))) : p := h
theorem q8_3 {p : Prop} (h : p := by repeat (first | exact (Kd.C_below HR1.out HB.out) | (with_reducible refine Kd.C_alloc ?_ _) | (with_reducible refine Kd.C_drewN ?_ _) | (with_reducible refine Kd.C_drew ?_))) : p := h
theorem q8_4 {p : Prop} (h : p := by (with_reducible repeat (first | apply Kd.R_alloc | apply Kd.R_drewN | apply Kd.R_drew)); exact HO244.out) : p := h
theorem q8_5 {p : Prop} (h : p := by repeat (first | exact (Kd.R_reads' HO244.out).2.2 | (with_reducible refine Kd.C_alloc ?_ _) | (with_reducible refine Kd.C_drewN ?_ _) | (with_reducible refine Kd.C_drew ?_))) : p := h
theorem q8_6 {p : Prop} (h : p := by repeat (first | exact (Kd.C_below HR248_0.out HB.out) | (with_reducible refine Kd.C_alloc ?_ _) | (with_reducible refine Kd.C_drewN ?_ _) | (with_reducible refine Kd.C_drew ?_))) : p := h
theorem q8_7 {p : Prop} (h : p := by first | (with_reducible assumption) | assumption) : p := h
theorem q8_8 {p : Prop} (h : p := by first | rfl | (simp; done) | (simp [*]; done)) : p := h
theorem q8_9 {p : Prop} (h : p := by exact (Kd.R_reads' HO244.out).2.1) : p := h
theorem q8_10 {p : Prop} (h : p := by exact Kd.V_mk HC0.out (Kd.F_below (Kd.C_F (Kd.heap_slice 96 k96_heap) HR0.out) q8_0)) : p := h
/-! ### gnomonlaw08_ExprAll: function 3 -/
def gnomonlaw08_ExprAll.l0 : Nat → List (List (S96)) → List Int → Bool → Int → Option (Bool)
 | 0, _, _, _, _ => none
 | k + 1, x0, x1, x5, x6 => if x6 < (x0.length : Int) then (if 0 ≤ x6 then ((expr_Holds.f k (rd_L6 x0 x6) x1).bind fun bt249 => (if bt249.2 = 0 then (if x5 = true then (gnomonlaw08_ExprAll.l0 k x0 x1 bt249.1 (wrap64 (x6 + 1))) else (gnomonlaw08_ExprAll.l0 k x0 x1 false (wrap64 (x6 + 1)))) else ((gnomonlaw08_live.f k).bind fun t251 => (some t251)))) else (none)) else ((expr_All.f k x0).bind fun t242 => ((expr_Holds.f k t242 x1).bind fun bt245 => ((gnomonlaw08_live.f k).bind fun t247 => (if t247 = true then (if (t242.length : Int) > 64 then (if bt245.2 = 121 then (some true) else (if (t242.length : Int) ≤ 64 then (if bt245.2 = 0 then (some (bt245.1 == x5)) else (some false)) else (some false))) else (if (t242.length : Int) ≤ 64 then (if bt245.2 = 0 then (some (bt245.1 == x5)) else (some false)) else (some false))) else (some false)))))
def gnomonlaw08_ExprAll.f (k : Nat) (l0 : List (List (S96))) (l1 : List Int) : Option (Bool) := gnomonlaw08_ExprAll.l0 k l0 l1 true 0
theorem gnomonlaw08_ExprAll.mono_l : ∀ k, (∀ y0 y1 y2 y3, LeO (gnomonlaw08_ExprAll.l0 k y0 y1 y2 y3) (gnomonlaw08_ExprAll.l0 (k + 1) y0 y1 y2 y3))
 | 0 => fun _ _ _ _ r h => by simp [gnomonlaw08_ExprAll.l0] at h
 | k + 1 => by
  have ih0 := gnomonlaw08_ExprAll.mono_l k
  ·
   intro y0 y1 y2 y3
   unfold gnomonlaw08_ExprAll.l0
   repeat' first
   | (with_reducible exact ih0 _ _ _ _)
   | (with_reducible exact expr_All.mono _ _)
   | (with_reducible exact expr_Holds.mono _ _ _)
   | (with_reducible exact gnomonlaw08_live.mono _)
   | (with_reducible exact LeO.refl _)
   | (with_reducible exact LeO.none _)
   | (with_reducible refine LeO.ite ?_ ?_)
   | (with_reducible refine LeO.bind ?_ (fun _ => ?_))
   | exact ih0 _ _ _ _
   | exact expr_All.mono _ _
   | exact expr_Holds.mono _ _ _
   | exact gnomonlaw08_live.mono _
   | exact LeO.none _
   | refine LeO.ite ?_ ?_
   | refine LeO.bind ?_ (fun _ => ?_)
theorem gnomonlaw08_ExprAll.mono : ∀ a0 a1 k, LeO (gnomonlaw08_ExprAll.f k a0 a1) (gnomonlaw08_ExprAll.f (k + 1) a0 a1) := by
 intro a0 a1 k
 have ih0 := gnomonlaw08_ExprAll.mono_l k
 unfold gnomonlaw08_ExprAll.f
 repeat' first
   | (with_reducible exact ih0 _ _ _ _)
   | (with_reducible exact expr_All.mono _ _)
   | (with_reducible exact expr_Holds.mono _ _ _)
   | (with_reducible exact gnomonlaw08_live.mono _)
   | (with_reducible exact LeO.refl _)
   | (with_reducible exact LeO.none _)
   | (with_reducible refine LeO.ite ?_ ?_)
   | (with_reducible refine LeO.bind ?_ (fun _ => ?_))
   | exact ih0 _ _ _ _
   | exact expr_All.mono _ _
   | exact expr_Holds.mono _ _ _
   | exact gnomonlaw08_live.mono _
   | exact LeO.none _
   | refine LeO.ite ?_ ?_
   | refine LeO.bind ?_ (fun _ => ?_)
set_option maxHeartbeats 8000000 in
set_option maxRecDepth 100000 in
theorem gnomonlaw08_ExprAll.calls (k : Nat) (A0 : Option Addr) (c0 : Nat) (l0 : List (List (S96))) (A1 : Option Addr) (c1 : Nat) (l1 : List Int) (r : Bool) (w : World) (hG : Glob w) (hr0 : Kd.C (Kd.slice 96 k96) w A0 l0.length l0) (hc0 : l0.length ≤ c0) (hr1 : Kd.C (Kd.int .i64) w A1 l1.length l1) (hc1 : l1.length ≤ c1) (h : gnomonlaw08_ExprAll.f k l0 l1 = some r) :
  Calls Tryd.prog 3 #[.slice A0 l0.length c0, .slice A1 l1.length c1] w fun e w' => e = .returned (.bool r) ∧ Below w.heap.size w w' := by
 have HR0 := Aside0.mk hr0
 have HC0 := Aside0.mk hc0
 clear hr0 hc0
 have HR1 := Aside0.mk hr1
 have HC1 := Aside0.mk hc1
 clear hr1 hc1
 have HGL := Aside0.mk hG
 clear hG
 have HB := Aside0.mk (Below.refl w.heap.size w)
 have H : (gnomonlaw08_ExprAll.l0 k l0 l1 true 0) = some r := h
 clear h
 have H' := Aside0.mk H
 clear H
 go_enter Tryd.func3, Tryd.ntmps3
 go_wp2
 go_loopg [5, 6] k (fun kq v5 v6 w' => ∃ (x5_1 : Bool) (x6_1 : Int), v5 = .bool x5_1 ∧ v6 = .int .i64 x6_1 ∧ Aside0 (gnomonlaw08_ExprAll.l0 kq l0 l1 x5_1 x6_1 = some r) ∧ Aside0 (kq ≤ k) ∧ Aside0 (Below w.heap.size w w'))
 case atStart => exact ⟨(true), (0), q8_8, q8_8, H', ⟨Nat.le_refl _⟩, ⟨by repeat (first | (with_reducible first | exact HB.out | apply below_alloc | apply pw_below_drewN | apply below_drew1) | exact HB.out)⟩⟩
 case round =>
  clear H'
  try clear c1
  try clear p2
  obtain ⟨x5_1, x6_1, rfl, rfl, HA, HK1, HB⟩ := hrel
  cases gk with
  | zero => exact absurd HA.out (by simp [gnomonlaw08_ExprAll.l0])
  | succ k1 =>
   have H := HA.out
   clear HA
   simp only [gnomonlaw08_ExprAll.l0] at H
   by_cases c3 : x6_1 < (l0.length : Int)
   ·
    rw [if_pos c3] at H
    have c3b0 : decide (x6_1 < (l0.length : Int)) = true := decide_eq_true c3
    clear c3
    by_cases c4 : 0 ≤ x6_1
    ·
     rw [if_pos c4] at H
     have c4b0 : decide (0 ≤ x6_1) = true := decide_eq_true c4
     clear c4
     replace H := Option.bind_eq_some_iff.mp H
     obtain ⟨⟨t249, t250⟩, A50, H⟩ := H
     replace H : (if t250 = 0 then (if x5_1 = true then (gnomonlaw08_ExprAll.l0 k1 l0 l1 t249 (wrap64 (x6_1 + 1))) else (gnomonlaw08_ExprAll.l0 k1 l0 l1 false (wrap64 (x6_1 + 1)))) else ((gnomonlaw08_live.f k1).bind fun t251 => (some t251))) = some r := H
     have A5 := Aside0.mk A50
     clear A50
     by_cases c6 : t250 = 0
     ·
      rw [if_pos c6] at H
      have c6b0 : (t250 == 0) = true := beq_iff_eq.mpr c6
      have c6b1 : (t250 != 0) = false := bne_eq_false_iff_eq.mpr c6
      clear c6
      by_cases c7 : x5_1 = true
      ·
       subst c7
       have H1 : (gnomonlaw08_ExprAll.l0 k1 l0 l1 t249 (wrap64 (x6_1 + 1))) = some r := by rw [if_pos rfl] at H; exact H
       clear H
       have H := H1
       clear H1
       have H' := Aside0.mk H
       clear H
       have p248 : 0 ≤ (x6_1 : Int) := of_decide_eq_true q8_7
       have q248 : x6_1 < (l0.length : Int) := of_decide_eq_true q8_7
       obtain ⟨ad248, A248_0, c248_0, e248, hx248_0, hl248_0, hi248_0⟩ := at_L6 HR0.out x6_1 p248 q248
       cases e248
       replace hx248_0 := (HB.out.cell (World.block_lt_of_cell? w _ hx248_0)).trans hx248_0
       have HR248_0 := Aside0.mk hi248_0
       have HC248_0 := Aside0.mk hl248_0
       clear hi248_0 hl248_0
       replace p248 := eq_true p248
       replace q248 := eq_true q248
       go_wp2_with (first | ((with_reducible refine gate_callee (f := 8) rfl ?_); refine goesL_ (some 24) rfl rfl Tryd.func8 (by kernel_rfl) rfl #[.slice A248_0 (rd_L6 l0 x6_1).length c248_0, .slice A1 l1.length c1] rfl q8_1 ?_; (with_reducible refine (expr_Holds.calls k1 _ _ (rd_L6 l0 x6_1) _ _ l1 t249 t250 _ ?side5 ?side1 ?side2 ?side3 ?side4 A5.out).mono ?_); (case side1 => exact q8_6); (case side2 => exact HC248_0.out); (case side3 => exact q8_3); (case side4 => exact HC1.out); (case side5 => exact q8_2); rintro e w8 ⟨rfl, hb⟩; refine ⟨_, rfl, ?_⟩; have n0_ := Aside0.mk (below_step q8_0 hb); clear HB; have HB := n0_; clear n0_; (try clear hb); (try clear hb2); (try clear hk); (try clear hi)))
       go_roundg k1
       case measure => have := HK1.out; omega
       case rel => exact ⟨(t249), (wrap64 (x6_1 + 1)), q8_8, q8_8, H', ⟨by have := HK1.out; omega⟩, ⟨by repeat (first | (with_reducible first | exact HB.out | apply below_alloc | apply pw_below_drewN | apply below_drew1) | exact HB.out)⟩⟩
      ·
       replace c7 := Bool.eq_false_iff.mpr c7
       subst c7
       have H1 : (gnomonlaw08_ExprAll.l0 k1 l0 l1 false (wrap64 (x6_1 + 1))) = some r := by rw [if_neg (show ¬ (false = true) by decide)] at H; exact H
       clear H
       have H := H1
       clear H1
       have H' := Aside0.mk H
       clear H
       have p248 : 0 ≤ (x6_1 : Int) := of_decide_eq_true q8_7
       have q248 : x6_1 < (l0.length : Int) := of_decide_eq_true q8_7
       obtain ⟨ad248, A248_0, c248_0, e248, hx248_0, hl248_0, hi248_0⟩ := at_L6 HR0.out x6_1 p248 q248
       cases e248
       replace hx248_0 := (HB.out.cell (World.block_lt_of_cell? w _ hx248_0)).trans hx248_0
       have HR248_0 := Aside0.mk hi248_0
       have HC248_0 := Aside0.mk hl248_0
       clear hi248_0 hl248_0
       replace p248 := eq_true p248
       replace q248 := eq_true q248
       go_wp2_with (first | ((with_reducible refine gate_callee (f := 8) rfl ?_); refine goesL_ (some 24) rfl rfl Tryd.func8 (by kernel_rfl) rfl #[.slice A248_0 (rd_L6 l0 x6_1).length c248_0, .slice A1 l1.length c1] rfl q8_1 ?_; (with_reducible refine (expr_Holds.calls k1 _ _ (rd_L6 l0 x6_1) _ _ l1 t249 t250 _ ?side5 ?side1 ?side2 ?side3 ?side4 A5.out).mono ?_); (case side1 => exact q8_6); (case side2 => exact HC248_0.out); (case side3 => exact q8_3); (case side4 => exact HC1.out); (case side5 => exact q8_2); rintro e w9 ⟨rfl, hb⟩; refine ⟨_, rfl, ?_⟩; have n0_ := Aside0.mk (below_step q8_0 hb); clear HB; have HB := n0_; clear n0_; (try clear hb); (try clear hb2); (try clear hk); (try clear hi)))
       go_roundg k1
       case measure => have := HK1.out; omega
       case rel => exact ⟨(false), (wrap64 (x6_1 + 1)), q8_8, q8_8, H', ⟨by have := HK1.out; omega⟩, ⟨by repeat (first | (with_reducible first | exact HB.out | apply below_alloc | apply pw_below_drewN | apply below_drew1) | exact HB.out)⟩⟩
     ·
      rw [if_neg c6] at H
      have c6b0 : (t250 == 0) = false := beq_eq_false_iff_ne.mpr c6
      have c6b1 : (t250 != 0) = true := bne_iff_ne.mpr c6
      replace H := Option.bind_eq_some_iff.mp H
      obtain ⟨t251, A100, H⟩ := H
      replace H : (some t251) = some r := H
      have A10 := Aside0.mk A100
      clear A100
      obtain rfl := Option.some.inj H
      have p248 : 0 ≤ (x6_1 : Int) := of_decide_eq_true q8_7
      have q248 : x6_1 < (l0.length : Int) := of_decide_eq_true q8_7
      obtain ⟨ad248, A248_0, c248_0, e248, hx248_0, hl248_0, hi248_0⟩ := at_L6 HR0.out x6_1 p248 q248
      cases e248
      replace hx248_0 := (HB.out.cell (World.block_lt_of_cell? w _ hx248_0)).trans hx248_0
      have HR248_0 := Aside0.mk hi248_0
      have HC248_0 := Aside0.mk hl248_0
      clear hi248_0 hl248_0
      replace p248 := eq_true p248
      replace q248 := eq_true q248
      go_wp2_with (first | ((with_reducible refine gate_callee (f := 8) rfl ?_); refine goesL_ (some 24) rfl rfl Tryd.func8 (by kernel_rfl) rfl #[.slice A248_0 (rd_L6 l0 x6_1).length c248_0, .slice A1 l1.length c1] rfl q8_1 ?_; (with_reducible refine (expr_Holds.calls k1 _ _ (rd_L6 l0 x6_1) _ _ l1 t249 t250 _ ?side5 ?side1 ?side2 ?side3 ?side4 A5.out).mono ?_); (case side1 => exact q8_6); (case side2 => exact HC248_0.out); (case side3 => exact q8_3); (case side4 => exact HC1.out); (case side5 => exact q8_2); rintro e w11 ⟨rfl, hb⟩; refine ⟨_, rfl, ?_⟩; have n0_ := Aside0.mk (below_step q8_0 hb); clear HB; have HB := n0_; clear n0_; (try clear hb); (try clear hb2); (try clear hk); (try clear hi)) | ((with_reducible refine gate_callee (f := 9) rfl ?_); refine goesL_ (some 29) rfl rfl Tryd.func9 (by kernel_rfl) rfl #[] rfl q8_1 ?_; (with_reducible refine (gnomonlaw08_live.calls k1  t251 _ ?side1 A10.out).mono ?_); (case side1 => exact q8_2); rintro e w12 ⟨rfl, hb⟩; refine ⟨_, rfl, ?_⟩; have n0_ := Aside0.mk (below_step q8_0 hb); clear HB; have HB := n0_; clear n0_; (try clear hb); (try clear hb2); (try clear hk); (try clear hi)))
      go_ret
      exact ⟨by first | rfl | (simp [errW_none, errW_some] <;> rfl) | (simp [*, errW_none, errW_some] <;> rfl), by repeat (first | (with_reducible first | exact HB.out | apply below_alloc | apply pw_below_drewN | apply below_drew1) | exact HB.out)⟩
    ·
     rw [if_neg c4] at H
     exact absurd H (by simp)
   ·
    rw [if_neg c3] at H
    have c3b0 : decide (x6_1 < (l0.length : Int)) = false := decide_eq_false c3
    clear c3
    replace H := Option.bind_eq_some_iff.mp H
    obtain ⟨t242, A130, H⟩ := H
    replace H : ((expr_Holds.f k1 t242 l1).bind fun bt245 => ((gnomonlaw08_live.f k1).bind fun t247 => (if t247 = true then (if (t242.length : Int) > 64 then (if bt245.2 = 121 then (some true) else (if (t242.length : Int) ≤ 64 then (if bt245.2 = 0 then (some (bt245.1 == x5_1)) else (some false)) else (some false))) else (if (t242.length : Int) ≤ 64 then (if bt245.2 = 0 then (some (bt245.1 == x5_1)) else (some false)) else (some false))) else (some false)))) = some r := H
    have A13 := Aside0.mk A130
    clear A130
    replace H := Option.bind_eq_some_iff.mp H
    obtain ⟨⟨t245, t246⟩, A140, H⟩ := H
    replace H : ((gnomonlaw08_live.f k1).bind fun t247 => (if t247 = true then (if (t242.length : Int) > 64 then (if t246 = 121 then (some true) else (if (t242.length : Int) ≤ 64 then (if t246 = 0 then (some (t245 == x5_1)) else (some false)) else (some false))) else (if (t242.length : Int) ≤ 64 then (if t246 = 0 then (some (t245 == x5_1)) else (some false)) else (some false))) else (some false))) = some r := H
    have A14 := Aside0.mk A140
    clear A140
    replace H := Option.bind_eq_some_iff.mp H
    obtain ⟨t247, A150, H⟩ := H
    replace H : (if t247 = true then (if (t242.length : Int) > 64 then (if t246 = 121 then (some true) else (if (t242.length : Int) ≤ 64 then (if t246 = 0 then (some (t245 == x5_1)) else (some false)) else (some false))) else (if (t242.length : Int) ≤ 64 then (if t246 = 0 then (some (t245 == x5_1)) else (some false)) else (some false))) else (some false)) = some r := H
    have A15 := Aside0.mk A150
    clear A150
    by_cases c16 : t247 = true
    ·
     subst c16
     have H1 : (if (t242.length : Int) > 64 then (if t246 = 121 then (some true) else (if (t242.length : Int) ≤ 64 then (if t246 = 0 then (some (t245 == x5_1)) else (some false)) else (some false))) else (if (t242.length : Int) ≤ 64 then (if t246 = 0 then (some (t245 == x5_1)) else (some false)) else (some false))) = some r := by rw [if_pos rfl] at H; exact H
     clear H
     have H := H1
     clear H1
     by_cases c17 : (t242.length : Int) > 64
     ·
      rw [if_pos c17] at H
      have c17b0 : decide (64 < (t242.length : Int)) = true := decide_eq_true c17
      have c17b1 : decide (64 < t242.length) = true := decide_eq_true (by omega)
      clear c17
      by_cases c18 : t246 = 121
      ·
       rw [if_pos c18] at H
       have c18b0 : (t246 == 121) = true := beq_iff_eq.mpr c18
       have c18b1 : (t246 != 121) = false := bne_eq_false_iff_eq.mpr c18
       clear c18
       obtain rfl := Option.some.inj H
       go_wp2_with (first | ((with_reducible refine gate_callee (f := 10) rfl ?_); refine goesL_ (some 35) rfl rfl Tryd.func10 (by kernel_rfl) rfl #[.slice A0 l0.length c0] rfl q8_1 ?_; (with_reducible refine (expr_All.calls k1 (fun k_ => k_ < w.heap.size) _ _ l0 t242 _ ?side1 A13.out).mono ?_); (case side1 => exact q8_10); rintro e w19 ⟨v243, rfl, ho0, hb⟩; refine ⟨_, rfl, ?_⟩; have n0_ := Aside0.mk (Kd.R_lower (Kd.R_mono (ok' := fun k_ => True) ho0 (fun _ hk_ => trivial)) (below_size q8_0)); have n1_ := Aside0.mk (below_step q8_0 hb); clear HB; have HO244 := n0_; have HB := n1_; clear n0_ n1_; (try clear hb); (try clear hb2); (try clear hk); (try clear hi); (try clear ho0); obtain ⟨Ao20, co20, eo20⟩ := Kd.R_slice HO244.out; subst eo20) | ((with_reducible refine gate_callee (f := 8) rfl ?_); refine goesL_ (some 39) rfl rfl Tryd.func8 (by kernel_rfl) rfl #[.slice Ao20 t242.length co20, .slice A1 l1.length c1] rfl q8_1 ?_; (with_reducible refine (expr_Holds.calls k1 _ _ t242 _ _ l1 t245 t246 _ ?side5 ?side1 ?side2 ?side3 ?side4 A14.out).mono ?_); (case side1 => exact q8_5); (case side2 => exact q8_9); (case side3 => exact q8_3); (case side4 => exact HC1.out); (case side5 => exact q8_2); rintro e w21 ⟨rfl, hb⟩; refine ⟨_, rfl, ?_⟩; have n0_ := Aside0.mk (Kd.R_below q8_4 hb); have n1_ := Aside0.mk (below_step q8_0 hb); clear HO244; clear HB; have HO244 := n0_; have HB := n1_; clear n0_ n1_; (try clear hb); (try clear hb2); (try clear hk); (try clear hi)) | ((with_reducible refine gate_callee (f := 9) rfl ?_); refine goesL_ (some 42) rfl rfl Tryd.func9 (by kernel_rfl) rfl #[] rfl q8_1 ?_; (with_reducible refine (gnomonlaw08_live.calls k1  true _ ?side1 A15.out).mono ?_); (case side1 => exact q8_2); rintro e w22 ⟨rfl, hb⟩; refine ⟨_, rfl, ?_⟩; have n0_ := Aside0.mk (Kd.R_below q8_4 hb); have n1_ := Aside0.mk (below_step q8_0 hb); clear HO244; clear HB; have HO244 := n0_; have HB := n1_; clear n0_ n1_; (try clear hb); (try clear hb2); (try clear hk); (try clear hi)))
       go_ret
       exact ⟨by first | rfl | (simp [errW_none, errW_some] <;> rfl) | (simp [*, errW_none, errW_some] <;> rfl), by repeat (first | (with_reducible first | exact HB.out | apply below_alloc | apply pw_below_drewN | apply below_drew1) | exact HB.out)⟩
      ·
       rw [if_neg c18] at H
       have c18b0 : (t246 == 121) = false := beq_eq_false_iff_ne.mpr c18
       have c18b1 : (t246 != 121) = true := bne_iff_ne.mpr c18
       by_cases c23 : (t242.length : Int) ≤ 64
       ·
        rw [if_pos c23] at H
        have c23b0 : decide ((t242.length : Int) ≤ 64) = true := decide_eq_true c23
        have c23b1 : decide (t242.length ≤ 64) = true := decide_eq_true (by omega)
        clear c23
        by_cases c24 : t246 = 0
        ·
         rw [if_pos c24] at H
         have c24b0 : (t246 == 0) = true := beq_iff_eq.mpr c24
         have c24b1 : (t246 != 0) = false := bne_eq_false_iff_eq.mpr c24
         clear c24
         obtain rfl := Option.some.inj H
         go_wp2_with (first | ((with_reducible refine gate_callee (f := 10) rfl ?_); refine goesL_ (some 35) rfl rfl Tryd.func10 (by kernel_rfl) rfl #[.slice A0 l0.length c0] rfl q8_1 ?_; (with_reducible refine (expr_All.calls k1 (fun k_ => k_ < w.heap.size) _ _ l0 t242 _ ?side1 A13.out).mono ?_); (case side1 => exact q8_10); rintro e w25 ⟨v243, rfl, ho0, hb⟩; refine ⟨_, rfl, ?_⟩; have n0_ := Aside0.mk (Kd.R_lower (Kd.R_mono (ok' := fun k_ => True) ho0 (fun _ hk_ => trivial)) (below_size q8_0)); have n1_ := Aside0.mk (below_step q8_0 hb); clear HB; have HO244 := n0_; have HB := n1_; clear n0_ n1_; (try clear hb); (try clear hb2); (try clear hk); (try clear hi); (try clear ho0); obtain ⟨Ao26, co26, eo26⟩ := Kd.R_slice HO244.out; subst eo26) | ((with_reducible refine gate_callee (f := 8) rfl ?_); refine goesL_ (some 39) rfl rfl Tryd.func8 (by kernel_rfl) rfl #[.slice Ao26 t242.length co26, .slice A1 l1.length c1] rfl q8_1 ?_; (with_reducible refine (expr_Holds.calls k1 _ _ t242 _ _ l1 t245 t246 _ ?side5 ?side1 ?side2 ?side3 ?side4 A14.out).mono ?_); (case side1 => exact q8_5); (case side2 => exact q8_9); (case side3 => exact q8_3); (case side4 => exact HC1.out); (case side5 => exact q8_2); rintro e w27 ⟨rfl, hb⟩; refine ⟨_, rfl, ?_⟩; have n0_ := Aside0.mk (Kd.R_below q8_4 hb); have n1_ := Aside0.mk (below_step q8_0 hb); clear HO244; clear HB; have HO244 := n0_; have HB := n1_; clear n0_ n1_; (try clear hb); (try clear hb2); (try clear hk); (try clear hi)) | ((with_reducible refine gate_callee (f := 9) rfl ?_); refine goesL_ (some 42) rfl rfl Tryd.func9 (by kernel_rfl) rfl #[] rfl q8_1 ?_; (with_reducible refine (gnomonlaw08_live.calls k1  true _ ?side1 A15.out).mono ?_); (case side1 => exact q8_2); rintro e w28 ⟨rfl, hb⟩; refine ⟨_, rfl, ?_⟩; have n0_ := Aside0.mk (Kd.R_below q8_4 hb); have n1_ := Aside0.mk (below_step q8_0 hb); clear HO244; clear HB; have HO244 := n0_; have HB := n1_; clear n0_ n1_; (try clear hb); (try clear hb2); (try clear hk); (try clear hi)))
         go_ret
         exact ⟨by first | rfl | (simp [errW_none, errW_some] <;> rfl) | (simp [*, errW_none, errW_some] <;> rfl), by repeat (first | (with_reducible first | exact HB.out | apply below_alloc | apply pw_below_drewN | apply below_drew1) | exact HB.out)⟩
        ·
         rw [if_neg c24] at H
         have c24b0 : (t246 == 0) = false := beq_eq_false_iff_ne.mpr c24
         have c24b1 : (t246 != 0) = true := bne_iff_ne.mpr c24
         obtain rfl := Option.some.inj H
         go_wp2_with (first | ((with_reducible refine gate_callee (f := 10) rfl ?_); refine goesL_ (some 35) rfl rfl Tryd.func10 (by kernel_rfl) rfl #[.slice A0 l0.length c0] rfl q8_1 ?_; (with_reducible refine (expr_All.calls k1 (fun k_ => k_ < w.heap.size) _ _ l0 t242 _ ?side1 A13.out).mono ?_); (case side1 => exact q8_10); rintro e w29 ⟨v243, rfl, ho0, hb⟩; refine ⟨_, rfl, ?_⟩; have n0_ := Aside0.mk (Kd.R_lower (Kd.R_mono (ok' := fun k_ => True) ho0 (fun _ hk_ => trivial)) (below_size q8_0)); have n1_ := Aside0.mk (below_step q8_0 hb); clear HB; have HO244 := n0_; have HB := n1_; clear n0_ n1_; (try clear hb); (try clear hb2); (try clear hk); (try clear hi); (try clear ho0); obtain ⟨Ao30, co30, eo30⟩ := Kd.R_slice HO244.out; subst eo30) | ((with_reducible refine gate_callee (f := 8) rfl ?_); refine goesL_ (some 39) rfl rfl Tryd.func8 (by kernel_rfl) rfl #[.slice Ao30 t242.length co30, .slice A1 l1.length c1] rfl q8_1 ?_; (with_reducible refine (expr_Holds.calls k1 _ _ t242 _ _ l1 t245 t246 _ ?side5 ?side1 ?side2 ?side3 ?side4 A14.out).mono ?_); (case side1 => exact q8_5); (case side2 => exact q8_9); (case side3 => exact q8_3); (case side4 => exact HC1.out); (case side5 => exact q8_2); rintro e w31 ⟨rfl, hb⟩; refine ⟨_, rfl, ?_⟩; have n0_ := Aside0.mk (Kd.R_below q8_4 hb); have n1_ := Aside0.mk (below_step q8_0 hb); clear HO244; clear HB; have HO244 := n0_; have HB := n1_; clear n0_ n1_; (try clear hb); (try clear hb2); (try clear hk); (try clear hi)) | ((with_reducible refine gate_callee (f := 9) rfl ?_); refine goesL_ (some 42) rfl rfl Tryd.func9 (by kernel_rfl) rfl #[] rfl q8_1 ?_; (with_reducible refine (gnomonlaw08_live.calls k1  true _ ?side1 A15.out).mono ?_); (case side1 => exact q8_2); rintro e w32 ⟨rfl, hb⟩; refine ⟨_, rfl, ?_⟩; have n0_ := Aside0.mk (Kd.R_below q8_4 hb); have n1_ := Aside0.mk (below_step q8_0 hb); clear HO244; clear HB; have HO244 := n0_; have HB := n1_; clear n0_ n1_; (try clear hb); (try clear hb2); (try clear hk); (try clear hi)))
         go_ret
         exact ⟨by first | rfl | (simp [errW_none, errW_some] <;> rfl) | (simp [*, errW_none, errW_some] <;> rfl), by repeat (first | (with_reducible first | exact HB.out | apply below_alloc | apply pw_below_drewN | apply below_drew1) | exact HB.out)⟩
       ·
        rw [if_neg c23] at H
        have c23b0 : decide ((t242.length : Int) ≤ 64) = false := decide_eq_false c23
        have c23b1 : decide (t242.length ≤ 64) = false := decide_eq_false (by omega)
        clear c23
        obtain rfl := Option.some.inj H
        go_wp2_with (first | ((with_reducible refine gate_callee (f := 10) rfl ?_); refine goesL_ (some 35) rfl rfl Tryd.func10 (by kernel_rfl) rfl #[.slice A0 l0.length c0] rfl q8_1 ?_; (with_reducible refine (expr_All.calls k1 (fun k_ => k_ < w.heap.size) _ _ l0 t242 _ ?side1 A13.out).mono ?_); (case side1 => exact q8_10); rintro e w33 ⟨v243, rfl, ho0, hb⟩; refine ⟨_, rfl, ?_⟩; have n0_ := Aside0.mk (Kd.R_lower (Kd.R_mono (ok' := fun k_ => True) ho0 (fun _ hk_ => trivial)) (below_size q8_0)); have n1_ := Aside0.mk (below_step q8_0 hb); clear HB; have HO244 := n0_; have HB := n1_; clear n0_ n1_; (try clear hb); (try clear hb2); (try clear hk); (try clear hi); (try clear ho0); obtain ⟨Ao34, co34, eo34⟩ := Kd.R_slice HO244.out; subst eo34) | ((with_reducible refine gate_callee (f := 8) rfl ?_); refine goesL_ (some 39) rfl rfl Tryd.func8 (by kernel_rfl) rfl #[.slice Ao34 t242.length co34, .slice A1 l1.length c1] rfl q8_1 ?_; (with_reducible refine (expr_Holds.calls k1 _ _ t242 _ _ l1 t245 t246 _ ?side5 ?side1 ?side2 ?side3 ?side4 A14.out).mono ?_); (case side1 => exact q8_5); (case side2 => exact q8_9); (case side3 => exact q8_3); (case side4 => exact HC1.out); (case side5 => exact q8_2); rintro e w35 ⟨rfl, hb⟩; refine ⟨_, rfl, ?_⟩; have n0_ := Aside0.mk (Kd.R_below q8_4 hb); have n1_ := Aside0.mk (below_step q8_0 hb); clear HO244; clear HB; have HO244 := n0_; have HB := n1_; clear n0_ n1_; (try clear hb); (try clear hb2); (try clear hk); (try clear hi)) | ((with_reducible refine gate_callee (f := 9) rfl ?_); refine goesL_ (some 42) rfl rfl Tryd.func9 (by kernel_rfl) rfl #[] rfl q8_1 ?_; (with_reducible refine (gnomonlaw08_live.calls k1  true _ ?side1 A15.out).mono ?_); (case side1 => exact q8_2); rintro e w36 ⟨rfl, hb⟩; refine ⟨_, rfl, ?_⟩; have n0_ := Aside0.mk (Kd.R_below q8_4 hb); have n1_ := Aside0.mk (below_step q8_0 hb); clear HO244; clear HB; have HO244 := n0_; have HB := n1_; clear n0_ n1_; (try clear hb); (try clear hb2); (try clear hk); (try clear hi)))
        go_ret
        exact ⟨by first | rfl | (simp [errW_none, errW_some] <;> rfl) | (simp [*, errW_none, errW_some] <;> rfl), by repeat (first | (with_reducible first | exact HB.out | apply below_alloc | apply pw_below_drewN | apply below_drew1) | exact HB.out)⟩
     ·
      rw [if_neg c17] at H
      have c17b0 : decide (64 < (t242.length : Int)) = false := decide_eq_false c17
      have c17b1 : decide (64 < t242.length) = false := decide_eq_false (by omega)
      clear c17
      by_cases c37 : (t242.length : Int) ≤ 64
      ·
       rw [if_pos c37] at H
       have c37b0 : decide ((t242.length : Int) ≤ 64) = true := decide_eq_true c37
       have c37b1 : decide (t242.length ≤ 64) = true := decide_eq_true (by omega)
       clear c37
       by_cases c38 : t246 = 0
       ·
        rw [if_pos c38] at H
        have c38b0 : (t246 == 0) = true := beq_iff_eq.mpr c38
        have c38b1 : (t246 != 0) = false := bne_eq_false_iff_eq.mpr c38
        clear c38
        obtain rfl := Option.some.inj H
        go_wp2_with (first | ((with_reducible refine gate_callee (f := 10) rfl ?_); refine goesL_ (some 35) rfl rfl Tryd.func10 (by kernel_rfl) rfl #[.slice A0 l0.length c0] rfl q8_1 ?_; (with_reducible refine (expr_All.calls k1 (fun k_ => k_ < w.heap.size) _ _ l0 t242 _ ?side1 A13.out).mono ?_); (case side1 => exact q8_10); rintro e w39 ⟨v243, rfl, ho0, hb⟩; refine ⟨_, rfl, ?_⟩; have n0_ := Aside0.mk (Kd.R_lower (Kd.R_mono (ok' := fun k_ => True) ho0 (fun _ hk_ => trivial)) (below_size q8_0)); have n1_ := Aside0.mk (below_step q8_0 hb); clear HB; have HO244 := n0_; have HB := n1_; clear n0_ n1_; (try clear hb); (try clear hb2); (try clear hk); (try clear hi); (try clear ho0); obtain ⟨Ao40, co40, eo40⟩ := Kd.R_slice HO244.out; subst eo40) | ((with_reducible refine gate_callee (f := 8) rfl ?_); refine goesL_ (some 39) rfl rfl Tryd.func8 (by kernel_rfl) rfl #[.slice Ao40 t242.length co40, .slice A1 l1.length c1] rfl q8_1 ?_; (with_reducible refine (expr_Holds.calls k1 _ _ t242 _ _ l1 t245 t246 _ ?side5 ?side1 ?side2 ?side3 ?side4 A14.out).mono ?_); (case side1 => exact q8_5); (case side2 => exact q8_9); (case side3 => exact q8_3); (case side4 => exact HC1.out); (case side5 => exact q8_2); rintro e w41 ⟨rfl, hb⟩; refine ⟨_, rfl, ?_⟩; have n0_ := Aside0.mk (Kd.R_below q8_4 hb); have n1_ := Aside0.mk (below_step q8_0 hb); clear HO244; clear HB; have HO244 := n0_; have HB := n1_; clear n0_ n1_; (try clear hb); (try clear hb2); (try clear hk); (try clear hi)) | ((with_reducible refine gate_callee (f := 9) rfl ?_); refine goesL_ (some 42) rfl rfl Tryd.func9 (by kernel_rfl) rfl #[] rfl q8_1 ?_; (with_reducible refine (gnomonlaw08_live.calls k1  true _ ?side1 A15.out).mono ?_); (case side1 => exact q8_2); rintro e w42 ⟨rfl, hb⟩; refine ⟨_, rfl, ?_⟩; have n0_ := Aside0.mk (Kd.R_below q8_4 hb); have n1_ := Aside0.mk (below_step q8_0 hb); clear HO244; clear HB; have HO244 := n0_; have HB := n1_; clear n0_ n1_; (try clear hb); (try clear hb2); (try clear hk); (try clear hi)))
        go_ret
        exact ⟨by first | rfl | (simp [errW_none, errW_some] <;> rfl) | (simp [*, errW_none, errW_some] <;> rfl), by repeat (first | (with_reducible first | exact HB.out | apply below_alloc | apply pw_below_drewN | apply below_drew1) | exact HB.out)⟩
       ·
        rw [if_neg c38] at H
        have c38b0 : (t246 == 0) = false := beq_eq_false_iff_ne.mpr c38
        have c38b1 : (t246 != 0) = true := bne_iff_ne.mpr c38
        obtain rfl := Option.some.inj H
        go_wp2_with (first | ((with_reducible refine gate_callee (f := 10) rfl ?_); refine goesL_ (some 35) rfl rfl Tryd.func10 (by kernel_rfl) rfl #[.slice A0 l0.length c0] rfl q8_1 ?_; (with_reducible refine (expr_All.calls k1 (fun k_ => k_ < w.heap.size) _ _ l0 t242 _ ?side1 A13.out).mono ?_); (case side1 => exact q8_10); rintro e w43 ⟨v243, rfl, ho0, hb⟩; refine ⟨_, rfl, ?_⟩; have n0_ := Aside0.mk (Kd.R_lower (Kd.R_mono (ok' := fun k_ => True) ho0 (fun _ hk_ => trivial)) (below_size q8_0)); have n1_ := Aside0.mk (below_step q8_0 hb); clear HB; have HO244 := n0_; have HB := n1_; clear n0_ n1_; (try clear hb); (try clear hb2); (try clear hk); (try clear hi); (try clear ho0); obtain ⟨Ao44, co44, eo44⟩ := Kd.R_slice HO244.out; subst eo44) | ((with_reducible refine gate_callee (f := 8) rfl ?_); refine goesL_ (some 39) rfl rfl Tryd.func8 (by kernel_rfl) rfl #[.slice Ao44 t242.length co44, .slice A1 l1.length c1] rfl q8_1 ?_; (with_reducible refine (expr_Holds.calls k1 _ _ t242 _ _ l1 t245 t246 _ ?side5 ?side1 ?side2 ?side3 ?side4 A14.out).mono ?_); (case side1 => exact q8_5); (case side2 => exact q8_9); (case side3 => exact q8_3); (case side4 => exact HC1.out); (case side5 => exact q8_2); rintro e w45 ⟨rfl, hb⟩; refine ⟨_, rfl, ?_⟩; have n0_ := Aside0.mk (Kd.R_below q8_4 hb); have n1_ := Aside0.mk (below_step q8_0 hb); clear HO244; clear HB; have HO244 := n0_; have HB := n1_; clear n0_ n1_; (try clear hb); (try clear hb2); (try clear hk); (try clear hi)) | ((with_reducible refine gate_callee (f := 9) rfl ?_); refine goesL_ (some 42) rfl rfl Tryd.func9 (by kernel_rfl) rfl #[] rfl q8_1 ?_; (with_reducible refine (gnomonlaw08_live.calls k1  true _ ?side1 A15.out).mono ?_); (case side1 => exact q8_2); rintro e w46 ⟨rfl, hb⟩; refine ⟨_, rfl, ?_⟩; have n0_ := Aside0.mk (Kd.R_below q8_4 hb); have n1_ := Aside0.mk (below_step q8_0 hb); clear HO244; clear HB; have HO244 := n0_; have HB := n1_; clear n0_ n1_; (try clear hb); (try clear hb2); (try clear hk); (try clear hi)))
        go_ret
        exact ⟨by first | rfl | (simp [errW_none, errW_some] <;> rfl) | (simp [*, errW_none, errW_some] <;> rfl), by repeat (first | (with_reducible first | exact HB.out | apply below_alloc | apply pw_below_drewN | apply below_drew1) | exact HB.out)⟩
      ·
       rw [if_neg c37] at H
       have c37b0 : decide ((t242.length : Int) ≤ 64) = false := decide_eq_false c37
       have c37b1 : decide (t242.length ≤ 64) = false := decide_eq_false (by omega)
       clear c37
       obtain rfl := Option.some.inj H
       go_wp2_with (first | ((with_reducible refine gate_callee (f := 10) rfl ?_); refine goesL_ (some 35) rfl rfl Tryd.func10 (by kernel_rfl) rfl #[.slice A0 l0.length c0] rfl q8_1 ?_; (with_reducible refine (expr_All.calls k1 (fun k_ => k_ < w.heap.size) _ _ l0 t242 _ ?side1 A13.out).mono ?_); (case side1 => exact q8_10); rintro e w47 ⟨v243, rfl, ho0, hb⟩; refine ⟨_, rfl, ?_⟩; have n0_ := Aside0.mk (Kd.R_lower (Kd.R_mono (ok' := fun k_ => True) ho0 (fun _ hk_ => trivial)) (below_size q8_0)); have n1_ := Aside0.mk (below_step q8_0 hb); clear HB; have HO244 := n0_; have HB := n1_; clear n0_ n1_; (try clear hb); (try clear hb2); (try clear hk); (try clear hi); (try clear ho0); obtain ⟨Ao48, co48, eo48⟩ := Kd.R_slice HO244.out; subst eo48) | ((with_reducible refine gate_callee (f := 8) rfl ?_); refine goesL_ (some 39) rfl rfl Tryd.func8 (by kernel_rfl) rfl #[.slice Ao48 t242.length co48, .slice A1 l1.length c1] rfl q8_1 ?_; (with_reducible refine (expr_Holds.calls k1 _ _ t242 _ _ l1 t245 t246 _ ?side5 ?side1 ?side2 ?side3 ?side4 A14.out).mono ?_); (case side1 => exact q8_5); (case side2 => exact q8_9); (case side3 => exact q8_3); (case side4 => exact HC1.out); (case side5 => exact q8_2); rintro e w49 ⟨rfl, hb⟩; refine ⟨_, rfl, ?_⟩; have n0_ := Aside0.mk (Kd.R_below q8_4 hb); have n1_ := Aside0.mk (below_step q8_0 hb); clear HO244; clear HB; have HO244 := n0_; have HB := n1_; clear n0_ n1_; (try clear hb); (try clear hb2); (try clear hk); (try clear hi)) | ((with_reducible refine gate_callee (f := 9) rfl ?_); refine goesL_ (some 42) rfl rfl Tryd.func9 (by kernel_rfl) rfl #[] rfl q8_1 ?_; (with_reducible refine (gnomonlaw08_live.calls k1  true _ ?side1 A15.out).mono ?_); (case side1 => exact q8_2); rintro e w50 ⟨rfl, hb⟩; refine ⟨_, rfl, ?_⟩; have n0_ := Aside0.mk (Kd.R_below q8_4 hb); have n1_ := Aside0.mk (below_step q8_0 hb); clear HO244; clear HB; have HO244 := n0_; have HB := n1_; clear n0_ n1_; (try clear hb); (try clear hb2); (try clear hk); (try clear hi)))
       go_ret
       exact ⟨by first | rfl | (simp [errW_none, errW_some] <;> rfl) | (simp [*, errW_none, errW_some] <;> rfl), by repeat (first | (with_reducible first | exact HB.out | apply below_alloc | apply pw_below_drewN | apply below_drew1) | exact HB.out)⟩
    ·
     replace c16 := Bool.eq_false_iff.mpr c16
     subst c16
     have H1 : (some false) = some r := by rw [if_neg (show ¬ (false = true) by decide)] at H; exact H
     clear H
     have H := H1
     clear H1
     obtain rfl := Option.some.inj H
     go_wp2_with (first | ((with_reducible refine gate_callee (f := 10) rfl ?_); refine goesL_ (some 35) rfl rfl Tryd.func10 (by kernel_rfl) rfl #[.slice A0 l0.length c0] rfl q8_1 ?_; (with_reducible refine (expr_All.calls k1 (fun k_ => k_ < w.heap.size) _ _ l0 t242 _ ?side1 A13.out).mono ?_); (case side1 => exact q8_10); rintro e w51 ⟨v243, rfl, ho0, hb⟩; refine ⟨_, rfl, ?_⟩; have n0_ := Aside0.mk (Kd.R_lower (Kd.R_mono (ok' := fun k_ => True) ho0 (fun _ hk_ => trivial)) (below_size q8_0)); have n1_ := Aside0.mk (below_step q8_0 hb); clear HB; have HO244 := n0_; have HB := n1_; clear n0_ n1_; (try clear hb); (try clear hb2); (try clear hk); (try clear hi); (try clear ho0); obtain ⟨Ao52, co52, eo52⟩ := Kd.R_slice HO244.out; subst eo52) | ((with_reducible refine gate_callee (f := 8) rfl ?_); refine goesL_ (some 39) rfl rfl Tryd.func8 (by kernel_rfl) rfl #[.slice Ao52 t242.length co52, .slice A1 l1.length c1] rfl q8_1 ?_; (with_reducible refine (expr_Holds.calls k1 _ _ t242 _ _ l1 t245 t246 _ ?side5 ?side1 ?side2 ?side3 ?side4 A14.out).mono ?_); (case side1 => exact q8_5); (case side2 => exact q8_9); (case side3 => exact q8_3); (case side4 => exact HC1.out); (case side5 => exact q8_2); rintro e w53 ⟨rfl, hb⟩; refine ⟨_, rfl, ?_⟩; have n0_ := Aside0.mk (Kd.R_below q8_4 hb); have n1_ := Aside0.mk (below_step q8_0 hb); clear HO244; clear HB; have HO244 := n0_; have HB := n1_; clear n0_ n1_; (try clear hb); (try clear hb2); (try clear hk); (try clear hi)) | ((with_reducible refine gate_callee (f := 9) rfl ?_); refine goesL_ (some 42) rfl rfl Tryd.func9 (by kernel_rfl) rfl #[] rfl q8_1 ?_; (with_reducible refine (gnomonlaw08_live.calls k1  false _ ?side1 A15.out).mono ?_); (case side1 => exact q8_2); rintro e w54 ⟨rfl, hb⟩; refine ⟨_, rfl, ?_⟩; have n0_ := Aside0.mk (Kd.R_below q8_4 hb); have n1_ := Aside0.mk (below_step q8_0 hb); clear HO244; clear HB; have HO244 := n0_; have HB := n1_; clear n0_ n1_; (try clear hb); (try clear hb2); (try clear hk); (try clear hi)))
     go_ret
     exact ⟨by first | rfl | (simp [errW_none, errW_some] <;> rfl) | (simp [*, errW_none, errW_some] <;> rfl), by repeat (first | (with_reducible first | exact HB.out | apply below_alloc | apply pw_below_drewN | apply below_drew1) | exact HB.out)⟩

end Go.Proofs.YtjoefhhfppijaaaDoor.PAll
