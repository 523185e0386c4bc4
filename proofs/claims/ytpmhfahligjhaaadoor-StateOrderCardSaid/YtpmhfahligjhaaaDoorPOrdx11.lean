-- written by wip/tools/xprint.py (over the kit's print.py): not trusted, Lean checks it.
import Derived.Test.YtpmhfahligjhaaaDoorPOrdx0
import Derived.Test.YtpmhfahligjhaaaDoorPOrdx10
-- compact
namespace Go.Proofs.YtpmhfahligjhaaaDoor.POrd
open Go.RowKit Go.Proofs.YtpmhfahligjhaaaDoorW.PrintWords Go.Proofs.YtpmhfahligjhaaaDoorW.PrintLast Go.Proofs.YtpmhfahligjhaaaDoorW.PrintMore Go.Proofs.YtpmhfahligjhaaaDoorXW
attribute [local go_sem high] Option.map_some
attribute [local go_sem] max2_int max_two
set_option linter.unusedVariables false
set_option linter.unusedSimpArgs false

theorem q11_0 {p : Prop} (h : p := by repeat (first | (with_reducible first | exact HB.out | apply below_alloc | apply pw_below_drewN | apply below_drew1 | refine below_set ?_ GE262.out | refine below_set ?_ GE269.out) | exact HB.out)) : p := h
theorem q11_1 {p : Prop} (h : p := by (with_reducible repeat (first | refine blk_drewN ?_ _ | refine blk_drew ?_ | refine blk_alloc ?_ _)); exact BK262.out) : p := h
theorem q11_3 {p : Prop} (h : p := by (with_reducible repeat (first | refine blk_drewN ?_ _ | refine blk_drew ?_ | refine blk_alloc ?_ _)); exact BK269.out) : p := h
theorem q11_4 {p : Prop} (h : p := by repeat (first | (with_reducible first | exact HB.out | apply below_alloc | apply pw_below_drewN | apply below_drew1 | refine below_set ?_ GE262.out | refine below_set ?_ GE269.out | refine below_set ?_ GE277.out) | exact HB.out)) : p := h
theorem q11_5 {p : Prop} (h : p := by repeat (first | (with_reducible first | exact HB.out | apply below_alloc | apply pw_below_drewN | apply below_drew1 | refine below_set ?_ GE262.out) | exact HB.out)) : p := h
theorem q11_11 {p : Prop} (h : p := by have := HJ2.out; have := HK2.out; have := HJ12.out; first | omega | exact Nat.le_refl _) : p := h
theorem q11_12 {p : Prop} (h : p := by (iterate 5 ((with_reducible repeat (first | refine blk_drewN ?_ _ | refine blk_drew ?_ | refine blk_alloc ?_ _)); refine blk_far ?_ NB262_269.out _)); (with_reducible repeat (first | refine blk_drewN ?_ _ | refine blk_drew ?_ | refine blk_alloc ?_ _)); exact BK262.out) : p := h
theorem q11_13 {p : Prop} (h : p := by (with_reducible repeat (first | refine blk_drewN ?_ _ | refine blk_drew ?_ | refine blk_alloc ?_ _)); apply blk_fill5; (with_reducible repeat (first | refine blk_drewN ?_ _ | refine blk_drew ?_ | refine blk_alloc ?_ _)); exact BK269.out) : p := h
theorem q11_14 {p : Prop} (h : p := by have := HJ2.out; have := HK2.out; first | omega | exact Nat.le_refl _) : p := h
theorem q11_15 {p : Prop} (h : p := by have := HJ2.out; have := HK2.out; have := HJ12.out; have := HJ23.out; have := HK5.out; omega) : p := h
/-! ### expr_Right: function 61 -/
mutual
def expr_Right.j0 : Nat → List (S122) → Int → Bool → Option (Int)
 | 0, _, _, _ => none
 | k + 1, x0, x1, x27 => if x27 = true then (some 121) else (expr_Right.l0 k x0 x1 x0 (x0.length : Int) 0)
def expr_Right.l0 : Nat → List (S122) → Int → List (S122) → Int → Int → Option (Int)
 | 0, _, _, _, _, _ => none
 | k + 1, x0, x1, x28, x29, x30 => if x30 < x29 then (if 0 ≤ x30 then (if x30 < (x28.length : Int) then ((expr_of.f ((rd_T122 x28 x30).f0)).bind fun bt263 => (if ((rd_T122 x28 x30).f0) = 1 then (expr_Right.j2 k x0 x1 x30 bt263.2.2.2.2.2 1048576 x28 x29 x30 ((rd_T122 x28 x30).f0) ((rd_T122 x28 x30).f1) bt263.1 bt263.2.1 bt263.2.2.1 bt263.2.2.2.1 bt263.2.2.2.2.1) else (if ((rd_T122 x28 x30).f0) = 2 then (expr_Right.j2 k x0 x1 x30 bt263.2.2.2.2.2 (wrap64 ((mx x1 0) - 1)) x28 x29 x30 ((rd_T122 x28 x30).f0) ((rd_T122 x28 x30).f1) bt263.1 bt263.2.1 bt263.2.2.1 bt263.2.2.2.1 bt263.2.2.2.2.1) else (expr_Right.j2 k x0 x1 x30 bt263.2.2.2.2.2 0 x28 x29 x30 ((rd_T122 x28 x30).f0) ((rd_T122 x28 x30).f1) bt263.1 bt263.2.1 bt263.2.2.1 bt263.2.2.2.1 bt263.2.2.2.2.1)))) else (none)) else (none)) else (some 0)
def expr_Right.j2 : Nat → List (S122) → Int → Int → Bool → Int → List (S122) → Int → Int → Int → Int → Int → Bool → Bool → ByteArray → Int → Option (Int)
 | 0, _, _, _, _, _, _, _, _, _, _, _, _, _, _, _ => none
 | k + 1, x0, x1, x5, x8, x9, x28, x29, x30, x263000, x263001, x270000, x270001, x270002, x270003, x270004 => if x8 = true then (if x263001 < 0 then (expr_Right.j3 k x0 x1 x5 x28 x29 x30 true x270000 x270001 x270002 x270003 x270004) else (expr_Right.j3 k x0 x1 x5 x28 x29 x30 (decide (x263001 > x9)) x270000 x270001 x270002 x270003 x270004)) else (expr_Right.j3 k x0 x1 x5 x28 x29 x30 true x270000 x270001 x270002 x270003 x270004)
def expr_Right.j3 : Nat → List (S122) → Int → Int → List (S122) → Int → Int → Bool → Int → Bool → Bool → ByteArray → Int → Option (Int)
 | 0, _, _, _, _, _, _, _, _, _, _, _, _ => none
 | k + 1, x0, x1, x5, x28, x29, x30, x62, x270000, x270001, x270002, x270003, x270004 => if x62 = true then (some 121) else (expr_Right.l1 k x0 x1 (wrap64 (x5 + 1)) x28 x29 x30 x270000 0 x270000 x270001 x270002 x270003 x270004)
def expr_Right.l1 : Nat → List (S122) → Int → Int → List (S122) → Int → Int → Int → Int → Int → Bool → Bool → ByteArray → Int → Option (Int)
 | 0, _, _, _, _, _, _, _, _, _, _, _, _, _ => none
 | k + 1, x0, x1, x10, x28, x29, x30, x66, x67, x270000, x270001, x270002, x270003, x270004 => if x67 < x66 then (if 0 ≤ x10 then (if x10 < (x0.length : Int) then ((expr_of.f ((rd_T122 x0 x10).f0)).bind fun bt271 => (if (bt271.2.1 != x270002) = true then (some 121) else ((expr_End.f k x0 x10).bind fun t278 => (expr_Right.l1 k x0 x1 t278 x28 x29 x30 x66 (wrap64 (x67 + 1)) x270000 x270001 x270002 x270003 x270004)))) else (none)) else (none)) else (expr_Right.l0 k x0 x1 x28 x29 (wrap64 (x30 + 1)))
end
def expr_Right.f (k : Nat) (l0 : List (S122)) (a1 : Int) : Option (Int) := if (l0.length : Int) = 0 then (expr_Right.j0 k l0 a1 true) else (if (l0.length : Int) > 64 then (expr_Right.j0 k l0 a1 true) else ((expr_End.f k l0 0).bind fun t260 => (expr_Right.j0 k l0 a1 (t260 != (l0.length : Int)))))
theorem expr_Right.mono_l : ∀ k, (∀ y0 y1 y2, LeO (expr_Right.j0 k y0 y1 y2) (expr_Right.j0 (k + 1) y0 y1 y2)) ∧ (∀ y0 y1 y2 y3 y4, LeO (expr_Right.l0 k y0 y1 y2 y3 y4) (expr_Right.l0 (k + 1) y0 y1 y2 y3 y4)) ∧ (∀ y0 y1 y2 y3 y4 y5 y6 y7 y8 y9 y10 y11 y12 y13 y14, LeO (expr_Right.j2 k y0 y1 y2 y3 y4 y5 y6 y7 y8 y9 y10 y11 y12 y13 y14) (expr_Right.j2 (k + 1) y0 y1 y2 y3 y4 y5 y6 y7 y8 y9 y10 y11 y12 y13 y14)) ∧ (∀ y0 y1 y2 y3 y4 y5 y6 y7 y8 y9 y10 y11, LeO (expr_Right.j3 k y0 y1 y2 y3 y4 y5 y6 y7 y8 y9 y10 y11) (expr_Right.j3 (k + 1) y0 y1 y2 y3 y4 y5 y6 y7 y8 y9 y10 y11)) ∧ (∀ y0 y1 y2 y3 y4 y5 y6 y7 y8 y9 y10 y11 y12, LeO (expr_Right.l1 k y0 y1 y2 y3 y4 y5 y6 y7 y8 y9 y10 y11 y12) (expr_Right.l1 (k + 1) y0 y1 y2 y3 y4 y5 y6 y7 y8 y9 y10 y11 y12))
 | 0 => ⟨fun _ _ _ r h => by simp [expr_Right.j0] at h, fun _ _ _ _ _ r h => by simp [expr_Right.l0] at h, fun _ _ _ _ _ _ _ _ _ _ _ _ _ _ _ r h => by simp [expr_Right.j2] at h, fun _ _ _ _ _ _ _ _ _ _ _ _ r h => by simp [expr_Right.j3] at h, fun _ _ _ _ _ _ _ _ _ _ _ _ _ r h => by simp [expr_Right.l1] at h⟩
 | k + 1 => by
  obtain ⟨ih0, ih1, ih2, ih3, ih4⟩ := expr_Right.mono_l k
  refine ⟨?_, ?_, ?_, ?_, ?_⟩
  all_goals intros
  all_goals first | unfold expr_Right.j0 | unfold expr_Right.l0 | unfold expr_Right.j2 | unfold expr_Right.j3 | unfold expr_Right.l1
  all_goals repeat' first | (with_reducible first | exact ih0 _ _ _ | exact ih1 _ _ _ _ _ | exact ih2 _ _ _ _ _ _ _ _ _ _ _ _ _ _ _ | exact ih3 _ _ _ _ _ _ _ _ _ _ _ _ | exact ih4 _ _ _ _ _ _ _ _ _ _ _ _ _ | exact expr_End.mono _ _ _ | exact LeO.refl _ | exact LeO.none _ | refine LeO.ite ?_ ?_ | refine LeO.bind ?_ (fun _ => ?_)) | exact LeO.none _ | refine LeO.ite ?_ ?_ | refine LeO.bind ?_ (fun _ => ?_)
theorem expr_Right.mono : ∀ a0 a1 k, LeO (expr_Right.f k a0 a1) (expr_Right.f (k + 1) a0 a1) := by
 intro a0 a1 k
 obtain ⟨ih0, ih1, ih2, ih3, ih4⟩ := expr_Right.mono_l k
 unfold expr_Right.f
 repeat' first | (with_reducible first | exact ih0 _ _ _ | exact ih1 _ _ _ _ _ | exact ih2 _ _ _ _ _ _ _ _ _ _ _ _ _ _ _ | exact ih3 _ _ _ _ _ _ _ _ _ _ _ _ | exact ih4 _ _ _ _ _ _ _ _ _ _ _ _ _ | exact expr_End.mono _ _ _ | exact LeO.refl _ | exact LeO.none _ | refine LeO.ite ?_ ?_ | refine LeO.bind ?_ (fun _ => ?_)) | exact LeO.none _ | refine LeO.ite ?_ ?_ | refine LeO.bind ?_ (fun _ => ?_)
set_option maxHeartbeats 8000000 in
set_option maxRecDepth 100000 in
theorem expr_Right.calls (k : Nat) (A0 : Option Addr) (c0 : Nat) (l0 : List (S122)) (a1 : Int) (r : Int) (w : World) (hG : Glob w) (hr0 : Kd.C k122 w A0 l0.length l0) (hc0 : l0.length ≤ c0) (h : expr_Right.f k l0 a1 = some r) :
  Calls Tryd.prog 61 #[.slice A0 l0.length c0, .int .i64 a1] w fun e w' => e = .returned (.int .i64 r) ∧ Below w.heap.size w w' := by
 have hu122 := Tryd.underlying122
 have hu124 := Tryd.underlying124
 have HR0 := zM hr0
 have HC0 := zM hc0
 clear hr0 hc0
 have HGL := zM hG
 clear hG
 have HB := zM (Below.refl w.heap.size w)
 have H : (if (l0.length : Int) = 0 then (expr_Right.j0 k l0 a1 true) else (if (l0.length : Int) > 64 then (expr_Right.j0 k l0 a1 true) else ((expr_End.f k l0 0).bind fun t260 => (expr_Right.j0 k l0 a1 (t260 != (l0.length : Int)))))) = some r := h
 clear h
 have HC3 := zM H
 clear H
 go_enter Tryd.func61, Tryd.ntmps61
 go_upto_region 1 with (fail)
 go_cut [27] (fun v27 wc => ∃ (kq : Nat) (x27_2 : Bool), v27 = .bool x27_2 ∧ Aside0 (expr_Right.j0 kq l0 a1 x27_2 = some r) ∧ Aside0 (kq ≤ k) ∧ Aside0 (Below w.heap.size w wc))
 case first =>
  have H := HC3.out
  clear HC3
  by_cases c4 : (l0.length : Int) = 0
  ·
   rw [if_pos c4] at H
   obtain ⟨c4b0, c4b1⟩ := eqb c4
   clear c4
   (first | rw [c4b0] | (simp only [i64_w, i32_w]; rw [c4b0]) | skip)
   have H' := zM H
   clear H
   go_wp2
   go_meet
   case rel => exact ⟨_, (true), s7, H', ⟨(by first | omega | exact Nat.le_refl _)⟩, ⟨s8⟩⟩
  rw [if_neg c4] at H
  obtain ⟨c4b0, c4b1⟩ := neb c4
  have c4b2 : ¬ (l0 = []) := fun h_ => c4 (by rw [h_]; rfl)
  (first | rw [c4b0] | (simp only [i64_w, i32_w]; rw [c4b0]) | skip)
  by_cases c5 : (l0.length : Int) > 64
  ·
   rw [if_pos c5] at H
   have c5b0 := dgt c5
   have c5b1 : decide (64 < l0.length) = true := zD (by omega)
   clear c5
   have H' := zM H
   clear H
   go_wp2
   go_meet
   case rel => exact ⟨_, (true), s7, H', ⟨(by first | omega | exact Nat.le_refl _)⟩, ⟨s8⟩⟩
  rw [if_neg c5] at H
  have c5b0 := dngt c5
  have c5b1 : decide (64 < l0.length) = false := decide_eq_false (by omega)
  clear c5
  replace H := Option.bind_eq_some_iff.mp H
  obtain ⟨t260, A60, H⟩ := H
  replace H : (expr_Right.j0 k l0 a1 (t260 != (l0.length : Int))) = some r := H
  have A6 := zM A60
  clear A60
  have H' := zM H
  clear H
  go_wp2_with (first | (go_at_call 73; (with_reducible refine (expr_End.calls k _ _ l0 0 t260 _ ?side3 ?side1 HC0.out A6.out).mono ?_); (case side1 => repeat (first | exact (Kd.C_below HR0.out HB.out) | (with_reducible refine Kd.C_alloc ?_ _) | (with_reducible refine Kd.C_drewN ?_ _) | (with_reducible refine Kd.C_drew ?_))); (case side3 => exact s9); rintro e w7 ⟨rfl, hb⟩; replace HB := zM (below_step s8 hb); (try clear hb)))
  go_meet
  case rel => exact ⟨_, ((t260 != (l0.length : Int))), s7, H', ⟨(by first | omega | exact Nat.le_refl _)⟩, ⟨s8⟩⟩
 clear HC3
 obtain ⟨kq, x27_2, rfl, HA, HJ2, HB⟩ := hcut
 cases kq with
 | zero => exact absurd HA.out (by simp [expr_Right.j0])
 | succ kj2 =>
  have H := HA.out
  clear HA
  simp only [expr_Right.j0] at H
  by_cases c8 : x27_2 = true
  ·
   subst c8
   have H1 : (some 121) = some r := by rw [if_pos rfl] at H; exact H
   clear H
   have H := H1
   clear H1
   obtain rfl := Option.some.inj H
   go_wp2
   go_ret
   exact ⟨s6, s8⟩
  replace c8 := Bool.eq_false_iff.mpr c8
  subst c8
  have H1 : (expr_Right.l0 kj2 l0 a1 l0 (l0.length : Int) 0) = some r := by rw [if_neg (show ¬ (false = true) by decide)] at H; exact H
  clear H
  have H := H1
  clear H1
  have H' := zM H
  clear H
  go_wp2
  go_loopg [30] kj2 (fun kq v30 w' => ∃ (x30_2 : Int), v30 = .int .i64 x30_2 ∧ Aside0 (expr_Right.l0 kq l0 a1 l0 (l0.length : Int) x30_2 = some r) ∧ Aside0 (kq ≤ kj2) ∧ Aside0 (Below w.heap.size w w'))
  case atStart => exact ⟨(0), s7, H', ⟨Nat.le_refl _⟩, ⟨s8⟩⟩
  clear H'
  obtain ⟨x30_2, rfl, HA, HK2, HB⟩ := hrel
  cases gk with
  | zero => exact absurd HA.out (by simp [expr_Right.l0])
  | succ k2 =>
   have H := HA.out
   clear HA
   simp only [expr_Right.l0] at H
   by_cases c9 : x30_2 < (l0.length : Int)
   ·
    rw [if_pos c9] at H
    have c9b0 := zD c9
    clear c9
    by_cases c10 : 0 ≤ x30_2
    ·
     rw [if_pos c10] at H
     have c10b0 := zD c10
     clear c10
     by_cases c11 : x30_2 < (l0.length : Int)
     ·
      rw [if_pos c11] at H
      have c11b0 := zD c11
      clear c11
      replace H := Option.bind_eq_some_iff.mp H
      obtain ⟨⟨t263, t264, t265, t266, t267, t268⟩, A120, H⟩ := H
      replace H : (if ((rd_T122 l0 x30_2).f0) = 1 then (expr_Right.j2 k2 l0 a1 x30_2 t268 1048576 l0 (l0.length : Int) x30_2 ((rd_T122 l0 x30_2).f0) ((rd_T122 l0 x30_2).f1) t263 t264 t265 t266 t267) else (if ((rd_T122 l0 x30_2).f0) = 2 then (expr_Right.j2 k2 l0 a1 x30_2 t268 (wrap64 ((mx a1 0) - 1)) l0 (l0.length : Int) x30_2 ((rd_T122 l0 x30_2).f0) ((rd_T122 l0 x30_2).f1) t263 t264 t265 t266 t267) else (expr_Right.j2 k2 l0 a1 x30_2 t268 0 l0 (l0.length : Int) x30_2 ((rd_T122 l0 x30_2).f0) ((rd_T122 l0 x30_2).f1) t263 t264 t265 t266 t267))) = some r := H
      have A12 := zM A120
      clear A120
      have HC13 := zM H
      clear H
      have p261 : 0 ≤ (x30_2 : Int) := zO s3
      have q261 : x30_2 < (l0.length : Int) := zO s3
      obtain ⟨ad261, e261, hx261_0, hx261_1⟩ := at_T122 HR0.out x30_2 p261 q261
      cases e261
      replace hx261_0 := cell_up HB.out hx261_0
      replace hx261_1 := cell_up HB.out hx261_1
      replace p261 := eq_true p261
      replace q261 := eq_true q261
      go_upto_block 2 with (first | ((with_reducible refine gate_dst (N := 6) rfl ?_); (try (refine gate_guard (by rfl) ?_; dsimp only)); refine box_event ?hg (N := 6) ?hd (cs := #[.int .u8 0, .int .i64 0]) (t := 122) ?hr ?_; (case hd => rfl); (case hg => rfl); (case hr => first | (go_simp; done) | (go_simp; rfl)); intro gb262 hg w14 hbox hb; have n0_ := zM (below_step s8 hb); have n1_ := zM (hbox); have n2_ := zM ((box_ge (n := w.heap.size) hg (below_size s8))); have n3_ := zM ((box_ge (n := w.heap.size) hg (below_size s8))); clear HB; have HB := n0_; have BK262 := n1_; have GW262 := n2_; have GE262 := n3_; clear n0_ n1_ n2_ n3_; clear hb hbox hg; have hcz15_0 : w14.cell? ⟨gb262, 0, none⟩ = some (.int .u8 0) := (blk_cell BK262.out 0).trans rfl; have hcz15_1 : w14.cell? ⟨gb262, 1, none⟩ = some (.int .i64 0) := (blk_cell BK262.out 1).trans rfl; have hfz15_0 := blk_frozen BK262.out 0; have hfz15_1 := blk_frozen BK262.out 1) | ((with_reducible refine gate_callee (f := 74) rfl ?_); refine goesL_ (some 38) rfl rfl Tryd.func74 (by kernel_rfl) rfl #[.int .u8 ((rd_T122 l0 x30_2).f0)] rfl s0 ?_; (with_reducible refine (expr_of.calls ((rd_T122 l0 x30_2).f0) t263 t264 t265 t266 t267 t268 _ ?side1 A12.out).mono ?_); (case side1 => exact HGL.out.below q11_5); rintro e w16 ⟨rfl, hb⟩; refine ⟨_, rfl, ?_⟩; have n0_ := zM (blk_below (g := gb262) (o := .cells #[.int .u8 ((rd_T122 l0 x30_2).f0), .int .i64 ((rd_T122 l0 x30_2).f1)] 122 (0, 0)) (by (with_reducible repeat (first | refine blk_drewN ?_ _ | refine blk_drew ?_ | refine blk_alloc ?_ _)); apply blk_fill2; (with_reducible repeat (first | refine blk_drewN ?_ _ | refine blk_drew ?_ | refine blk_alloc ?_ _)); exact BK262.out) hb); have n1_ := zM (below_step q11_5 hb); clear BK262; clear HB; have BK262 := n0_; have HB := n1_; clear n0_ n1_; (try clear hb); (try clear hb2); (try clear hk); (try clear hi)) | ((with_reducible refine gate_dst (N := 7) rfl ?_); (try (refine gate_guard (by rfl) ?_; dsimp only)); refine box_event ?hg (N := 7) ?hd (cs := #[.int .i64 0, .bool false, .bool false, .string (⟨#[]⟩ : ByteArray), .int .i64 0]) (t := 124) ?hr ?_; (case hd => rfl); (case hg => rfl); (case hr => first | (go_simp; done) | (go_simp; rfl)); intro gb269 hg w17 hbox hb; have n0_ := zM (blk_below (g := gb262) q11_1 hb); have n1_ := zM (below_step q11_5 hb); have n2_ := zM (hbox); have n3_ := zM ((box_ge (n := w.heap.size) hg (below_size q11_5))); have n4_ := zM ((box_ge (n := w.heap.size) hg (below_size q11_5))); have n5_ := zM ((box_ne hg (g := gb262) q11_1)); have n6_ := zM ((box_ne' hg (g := gb262) q11_1)); clear BK262; clear HB; have BK262 := n0_; have HB := n1_; have BK269 := n2_; have GW269 := n3_; have GE269 := n4_; have NB262_269 := n5_; have NB269_262 := n6_; clear n0_ n1_ n2_ n3_ n4_ n5_ n6_; clear hb hbox hg; have hnb18 := NB269_262.out; have hnc18 := NB262_269.out; have hcz19_0 : w17.cell? ⟨gb269, 0, none⟩ = some (.int .i64 0) := (blk_cell BK269.out 0).trans rfl; have hcz19_1 : w17.cell? ⟨gb269, 1, none⟩ = some (.bool false) := (blk_cell BK269.out 1).trans rfl; have hcz19_2 : w17.cell? ⟨gb269, 2, none⟩ = some (.bool false) := (blk_cell BK269.out 2).trans rfl; have hcz19_3 : w17.cell? ⟨gb269, 3, none⟩ = some (.string (⟨#[]⟩ : ByteArray)) := (blk_cell BK269.out 3).trans rfl; have hcz19_4 : w17.cell? ⟨gb269, 4, none⟩ = some (.int .i64 0) := (blk_cell BK269.out 4).trans rfl; have hfz19_0 := blk_frozen BK269.out 0; have hfz19_1 := blk_frozen BK269.out 1; have hfz19_2 := blk_frozen BK269.out 2; have hfz19_3 := blk_frozen BK269.out 3; have hfz19_4 := blk_frozen BK269.out 4; have hcz20_0 : w17.cell? ⟨gb262, 0, none⟩ = some (.int .u8 ((rd_T122 l0 x30_2).f0)) := (blk_cell BK262.out 0).trans rfl; have hcz20_1 : w17.cell? ⟨gb262, 1, none⟩ = some (.int .i64 ((rd_T122 l0 x30_2).f1)) := (blk_cell BK262.out 1).trans rfl; have hfz20_0 := blk_frozen BK262.out 0; have hfz20_1 := blk_frozen BK262.out 1))
      (try simp only [Act.put, List.setIfInBounds_toArray, List.set_cons_zero, List.set_cons_succ])
      go_cut [9] (fun v9 wc => ∃ (kq : Nat) (x9_12 : Int), v9 = .int .i64 x9_12 ∧ Aside0 (expr_Right.j2 kq l0 a1 x30_2 t268 x9_12 l0 (l0.length : Int) x30_2 ((rd_T122 l0 x30_2).f0) ((rd_T122 l0 x30_2).f1) t263 t264 t265 t266 t267 = some r) ∧ Aside0 (kq ≤ k2) ∧ Aside0 (wc.heap[gb262]? = some (.cells #[.int .u8 ((rd_T122 l0 x30_2).f0), .int .i64 ((rd_T122 l0 x30_2).f1)] 122 (0, 0))) ∧ Aside0 (wc.heap[gb269]? = some (.cells #[.int .i64 t263, .bool t264, .bool t265, .string t266, .int .i64 t267] 124 (0, 0))) ∧ Aside0 (Below w.heap.size w wc))
      case first =>
       have H := HC13.out
       clear HC13
       by_cases c21 : ((rd_T122 l0 x30_2).f0) = 1
       ·
        rw [if_pos c21] at H
        obtain ⟨c21b0, c21b1⟩ := eqb c21
        clear c21
        (first | rw [c21b0] | (simp only [i64_w, i32_w]; rw [c21b0]) | skip)
        have H' := zM H
        clear H
        go_wp2
        go_meet
        case rel => exact ⟨_, (1048576), s7, H', ⟨q11_14⟩, ⟨q11_12⟩, ⟨q11_13⟩, ⟨q11_0⟩⟩
       rw [if_neg c21] at H
       obtain ⟨c21b0, c21b1⟩ := neb c21
       (first | rw [c21b0] | (simp only [i64_w, i32_w]; rw [c21b0]) | skip)
       by_cases c22 : ((rd_T122 l0 x30_2).f0) = 2
       ·
        rw [if_pos c22] at H
        obtain ⟨c22b0, c22b1⟩ := eqb c22
        clear c22
        obtain ⟨ji23, hji23⟩ : ∃ j_ : Int, (mx a1 0) = j_ := ⟨_, rfl⟩
        replace H : (expr_Right.j2 k2 l0 a1 x30_2 t268 (wrap64 ((ji23) - 1)) l0 (l0.length : Int) x30_2 ((rd_T122 l0 x30_2).f0) ((rd_T122 l0 x30_2).f1) t263 t264 t265 t266 t267) = some r := by first | (rw [hji23] at H; exact H) | (simp only [hji23] at H ⊢; exact H)
        have hji23_ : (if a1 < 0 then 0 else a1) = ji23 := hji23
        have H' := zM H
        clear H
        go_wp2
        go_meet
        case rel => exact ⟨_, (wrap64 ((ji23) - 1)), (by first | rfl | (simp; done) | (simp only [← hji23] <;> (first | rfl | simp)) | (simp [*]; done)), H', ⟨q11_14⟩, ⟨q11_12⟩, ⟨q11_13⟩, ⟨q11_0⟩⟩
       rw [if_neg c22] at H
       obtain ⟨c22b0, c22b1⟩ := neb c22
       have H' := zM H
       clear H
       go_wp2
       go_meet
       case rel => exact ⟨_, (0), s7, H', ⟨q11_14⟩, ⟨q11_12⟩, ⟨q11_13⟩, ⟨q11_0⟩⟩
      clear HC13
      obtain ⟨kq, x9_12, rfl, HA, HJ12, BK262, BK269, HB⟩ := hcut
      cases kq with
      | zero => exact absurd HA.out (by simp [expr_Right.j2])
      | succ kj12 =>
       have H := HA.out
       clear HA
       simp only [expr_Right.j2] at H
       have HC24 := zM H
       clear H
       go_upto_region 13 with (fail)
       go_cut [62] (fun v62 wc => ∃ (kq : Nat) (x62_23 : Bool), v62 = .bool x62_23 ∧ Aside0 (expr_Right.j3 kq l0 a1 x30_2 l0 (l0.length : Int) x30_2 x62_23 t263 t264 t265 t266 t267 = some r) ∧ Aside0 (kq ≤ kj12) ∧ Aside0 (wc.heap[gb262]? = some (.cells #[.int .u8 ((rd_T122 l0 x30_2).f0), .int .i64 ((rd_T122 l0 x30_2).f1)] 122 (0, 0))) ∧ Aside0 (wc.heap[gb269]? = some (.cells #[.int .i64 t263, .bool t264, .bool t265, .string t266, .int .i64 t267] 124 (0, 0))) ∧ Aside0 (Below w.heap.size w wc))
       case first =>
        have H := HC24.out
        clear HC24
        by_cases c25 : t268 = true
        ·
         subst c25
         have H1 : (if ((rd_T122 l0 x30_2).f1) < 0 then (expr_Right.j3 kj12 l0 a1 x30_2 l0 (l0.length : Int) x30_2 true t263 t264 t265 t266 t267) else (expr_Right.j3 kj12 l0 a1 x30_2 l0 (l0.length : Int) x30_2 (decide (((rd_T122 l0 x30_2).f1) > x9_12)) t263 t264 t265 t266 t267)) = some r := by rw [if_pos rfl] at H; exact H
         clear H
         have H := H1
         clear H1
         by_cases c26 : ((rd_T122 l0 x30_2).f1) < 0
         ·
          rw [if_pos c26] at H
          have c26b0 := zD c26
          clear c26
          (first | rw [c26b0] | (simp only [i64_w, i32_w]; rw [c26b0]) | skip)
          have H' := zM H
          clear H
          have hnb27 := NB262_269.out
          have hnc27 := NB269_262.out
          obtain ⟨hcz28_0, hcz28_1, hfz28_0, hfz28_1⟩ := blk2 BK262.out
          go_wp2
          go_meet
          case rel => exact ⟨_, (true), s7, H', ⟨q11_11⟩, ⟨q11_1⟩, ⟨q11_3⟩, ⟨q11_0⟩⟩
         rw [if_neg c26] at H
         have c26b0 := decide_eq_false c26
         clear c26
         (first | rw [c26b0] | (simp only [i64_w, i32_w]; rw [c26b0]) | skip)
         have H' := zM H
         clear H
         have hnb29 := NB262_269.out
         have hnc29 := NB269_262.out
         obtain ⟨hcz30_0, hcz30_1, hfz30_0, hfz30_1⟩ := blk2 BK262.out
         go_wp2
         go_meet
         case rel => exact ⟨_, (decide (((rd_T122 l0 x30_2).f1) > x9_12)), s7, H', ⟨q11_11⟩, ⟨q11_1⟩, ⟨q11_3⟩, ⟨q11_0⟩⟩
        replace c25 := Bool.eq_false_iff.mpr c25
        subst c25
        have H1 : (expr_Right.j3 kj12 l0 a1 x30_2 l0 (l0.length : Int) x30_2 true t263 t264 t265 t266 t267) = some r := by rw [if_neg (show ¬ (false = true) by decide)] at H; exact H
        clear H
        have H := H1
        clear H1
        have H' := zM H
        clear H
        go_wp2
        go_meet
        case rel => exact ⟨_, (true), s7, H', ⟨q11_11⟩, ⟨q11_1⟩, ⟨q11_3⟩, ⟨q11_0⟩⟩
       clear HC24
       obtain ⟨kq, x62_23, rfl, HA, HJ23, BK262, BK269, HB⟩ := hcut
       cases kq with
       | zero => exact absurd HA.out (by simp [expr_Right.j3])
       | succ kj23 =>
        have H := HA.out
        clear HA
        simp only [expr_Right.j3] at H
        by_cases c31 : x62_23 = true
        ·
         subst c31
         have H1 : (some 121) = some r := by rw [if_pos rfl] at H; exact H
         clear H
         have H := H1
         clear H1
         obtain rfl := Option.some.inj H
         go_wp2
         go_ret
         exact ⟨s6, q11_0⟩
        replace c31 := Bool.eq_false_iff.mpr c31
        subst c31
        have H1 : (expr_Right.l1 kj23 l0 a1 (wrap64 (x30_2 + 1)) l0 (l0.length : Int) x30_2 t263 0 t263 t264 t265 t266 t267) = some r := by rw [if_neg (show ¬ (false = true) by decide)] at H; exact H
        clear H
        have H := H1
        clear H1
        have H' := zM H
        clear H
        have hnb32 := NB269_262.out
        have hnc32 := NB262_269.out
        obtain ⟨hcz33_0, hcz33_1, hcz33_2, hcz33_3, hcz33_4, hfz33_0, hfz33_1, hfz33_2, hfz33_3, hfz33_4⟩ := blk5 BK269.out
        go_wp2
        go_loopg [10, 67] kj23 (fun kq v10 v67 w' => ∃ (x10_5 : Int) (x67_5 : Int), v10 = .int .i64 x10_5 ∧ v67 = .int .i64 x67_5 ∧ Aside0 (expr_Right.l1 kq l0 a1 x10_5 l0 (l0.length : Int) x30_2 t263 x67_5 t263 t264 t265 t266 t267 = some r) ∧ Aside0 (kq ≤ kj23) ∧ Aside0 (w'.heap[gb262]? = some (.cells #[.int .u8 ((rd_T122 l0 x30_2).f0), .int .i64 ((rd_T122 l0 x30_2).f1)] 122 (0, 0))) ∧ Aside0 (w'.heap[gb269]? = some (.cells #[.int .i64 t263, .bool t264, .bool t265, .string t266, .int .i64 t267] 124 (0, 0))) ∧ Aside0 (Below w.heap.size w w'))
        case atStart => exact ⟨(wrap64 (x30_2 + 1)), (0), s7, s7, H', ⟨Nat.le_refl _⟩, ⟨q11_1⟩, ⟨q11_3⟩, ⟨q11_0⟩⟩
        clear H'
        obtain ⟨x10_5, x67_5, rfl, rfl, HA, HK5, BK262, BK269, HB⟩ := hrel
        cases gk with
        | zero => exact absurd HA.out (by simp [expr_Right.l1])
        | succ k5 =>
         have H := HA.out
         clear HA
         simp only [expr_Right.l1] at H
         by_cases c34 : x67_5 < t263
         ·
          rw [if_pos c34] at H
          have c34b0 := zD c34
          clear c34
          by_cases c35 : 0 ≤ x10_5
          ·
           rw [if_pos c35] at H
           have c35b0 := zD c35
           clear c35
           by_cases c36 : x10_5 < (l0.length : Int)
           ·
            rw [if_pos c36] at H
            have c36b0 := zD c36
            clear c36
            replace H := Option.bind_eq_some_iff.mp H
            obtain ⟨⟨t271, t272, t273, t274, t275, t276⟩, A370, H⟩ := H
            replace H : (if (t272 != t265) = true then (some 121) else ((expr_End.f k5 l0 x10_5).bind fun t278 => (expr_Right.l1 k5 l0 a1 t278 l0 (l0.length : Int) x30_2 t263 (wrap64 (x67_5 + 1)) t263 t264 t265 t266 t267))) = some r := H
            have A37 := zM A370
            clear A370
            by_cases c38 : (t272 != t265) = true
            ·
             rw [if_pos c38] at H
             have c38b0 : (t272 != t265) = true := c38
             (try (have c38b1 : decide (t272 = t265) = false := by simpa using c38))
             (try (have c38b2 : (t272 == t265) = false := by simpa using c38))
             (try (have c38b3 : ¬ (t272 = t265) := by simpa using c38))
             clear c38
             obtain rfl := Option.some.inj H
             have p270 : 0 ≤ (x10_5 : Int) := zO s3
             have q270 : x10_5 < (l0.length : Int) := zO s3
             obtain ⟨ad270, e270, hx270_0, hx270_1⟩ := at_T122 HR0.out x10_5 p270 q270
             obtain rfl : ad261 = ad270 := (by injection e270)
             replace hx270_0 := cell_up HB.out hx270_0
             replace hx270_1 := cell_up HB.out hx270_1
             replace p270 := eq_true p270
             replace q270 := eq_true q270
             go_wp2_with (first | ((with_reducible refine gate_callee (f := 74) rfl ?_); refine goesL_ (some 75) rfl rfl Tryd.func74 (by kernel_rfl) rfl #[.int .u8 ((rd_T122 l0 x10_5).f0)] rfl s0 ?_; (with_reducible refine (expr_of.calls ((rd_T122 l0 x10_5).f0) t271 t272 t273 t274 t275 t276 _ ?side1 A37.out).mono ?_); (case side1 => exact s9); rintro e w39 ⟨rfl, hb⟩; refine ⟨_, rfl, ?_⟩; replace BK262 := zM (blk_below (g := gb262) q11_1 hb); replace BK269 := zM (blk_below (g := gb269) q11_3 hb); replace HB := zM (below_step q11_0 hb); (try clear hb)) | ((with_reducible refine gate_dst (N := 11) rfl ?_); (try (refine gate_guard (by rfl) ?_; dsimp only)); refine box_ev (N := 11) (cs := #[.int .i64 0, .bool false, .bool false, .string (⟨#[]⟩ : ByteArray), .int .i64 0]) (t := 124) ?_; intro gb277 hg w40 hbox hb; have BK277 := zM (hbox); have GE277 := zM (box_ge (n := w.heap.size) hg (below_size q11_0)); have NB262_277 := zM (box_ne hg (g := gb262) q11_1); have NB277_262 := zM (box_ne' hg (g := gb262) q11_1); have NB269_277 := zM (box_ne hg (g := gb269) q11_3); have NB277_269 := zM (box_ne' hg (g := gb269) q11_3); replace BK262 := zM (blk_below (g := gb262) q11_1 hb); replace BK269 := zM (blk_below (g := gb269) q11_3 hb); replace HB := zM (below_step q11_0 hb); clear hb hbox hg; have hnb41 := NB277_262.out; have hnc41 := NB262_277.out; have hnb42 := NB277_269.out; have hnc42 := NB269_277.out; obtain ⟨hcz43_0, hcz43_1, hcz43_2, hcz43_3, hcz43_4, hfz43_0, hfz43_1, hfz43_2, hfz43_3, hfz43_4⟩ := blk5 BK277.out; have hnb44 := NB269_262.out; have hnc44 := NB262_269.out; obtain ⟨hcz45_0, hcz45_1, hcz45_2, hcz45_3, hcz45_4, hfz45_0, hfz45_1, hfz45_2, hfz45_3, hfz45_4⟩ := blk5 BK269.out))
             go_ret
             exact ⟨s6, q11_4⟩
            rw [if_neg c38] at H
            have c38b0 : (t272 != t265) = false := by simpa using c38
            (try (have c38b1 : decide (t272 = t265) = true := by simpa using c38))
            (try (have c38b2 : (t272 == t265) = true := by simpa using c38))
            clear c38
            replace H := Option.bind_eq_some_iff.mp H
            obtain ⟨t278, A460, H⟩ := H
            replace H : (expr_Right.l1 k5 l0 a1 t278 l0 (l0.length : Int) x30_2 t263 (wrap64 (x67_5 + 1)) t263 t264 t265 t266 t267) = some r := H
            have A46 := zM A460
            clear A460
            have H' := zM H
            clear H
            have p270 : 0 ≤ (x10_5 : Int) := zO s3
            have q270 : x10_5 < (l0.length : Int) := zO s3
            obtain ⟨ad270, e270, hx270_0, hx270_1⟩ := at_T122 HR0.out x10_5 p270 q270
            obtain rfl : ad261 = ad270 := (by injection e270)
            replace hx270_0 := cell_up HB.out hx270_0
            replace hx270_1 := cell_up HB.out hx270_1
            replace p270 := eq_true p270
            replace q270 := eq_true q270
            go_wp2_with (first | ((with_reducible refine gate_callee (f := 74) rfl ?_); refine goesL_ (some 75) rfl rfl Tryd.func74 (by kernel_rfl) rfl #[.int .u8 ((rd_T122 l0 x10_5).f0)] rfl s0 ?_; (with_reducible refine (expr_of.calls ((rd_T122 l0 x10_5).f0) t271 t272 t273 t274 t275 t276 _ ?side1 A37.out).mono ?_); (case side1 => exact s9); rintro e w47 ⟨rfl, hb⟩; refine ⟨_, rfl, ?_⟩; replace BK262 := zM (blk_below (g := gb262) q11_1 hb); replace BK269 := zM (blk_below (g := gb269) q11_3 hb); replace HB := zM (below_step q11_0 hb); (try clear hb)) | ((with_reducible refine gate_dst (N := 11) rfl ?_); (try (refine gate_guard (by rfl) ?_; dsimp only)); refine box_ev (N := 11) (cs := #[.int .i64 0, .bool false, .bool false, .string (⟨#[]⟩ : ByteArray), .int .i64 0]) (t := 124) ?_; intro gb277 hg w48 hbox hb; have BK277 := zM (hbox); have GE277 := zM (box_ge (n := w.heap.size) hg (below_size q11_0)); have NB262_277 := zM (box_ne hg (g := gb262) q11_1); have NB277_262 := zM (box_ne' hg (g := gb262) q11_1); have NB269_277 := zM (box_ne hg (g := gb269) q11_3); have NB277_269 := zM (box_ne' hg (g := gb269) q11_3); replace BK262 := zM (blk_below (g := gb262) q11_1 hb); replace BK269 := zM (blk_below (g := gb269) q11_3 hb); replace HB := zM (below_step q11_0 hb); clear hb hbox hg; have hnb49 := NB277_262.out; have hnc49 := NB262_277.out; have hnb50 := NB277_269.out; have hnc50 := NB269_277.out; obtain ⟨hcz51_0, hcz51_1, hcz51_2, hcz51_3, hcz51_4, hfz51_0, hfz51_1, hfz51_2, hfz51_3, hfz51_4⟩ := blk5 BK277.out; have hnb52 := NB269_262.out; have hnc52 := NB262_269.out; obtain ⟨hcz53_0, hcz53_1, hcz53_2, hcz53_3, hcz53_4, hfz53_0, hfz53_1, hfz53_2, hfz53_3, hfz53_4⟩ := blk5 BK269.out) | ((with_reducible refine gate_callee (f := 73) rfl ?_); refine goesL_ (some 85) rfl rfl Tryd.func73 (by kernel_rfl) rfl #[.slice (some ad261) l0.length c0, .int .i64 x10_5] rfl s0 ?_; (with_reducible refine (expr_End.calls k5 _ _ l0 x10_5 t278 _ ?side3 ?side1 HC0.out A46.out).mono ?_); (case side1 => exact Kd.C_below HR0.out q11_4); (case side3 => exact HGL.out.below q11_4); rintro e w54 ⟨rfl, hb⟩; refine ⟨_, rfl, ?_⟩; replace BK262 := zM (blk_below (g := gb262) (o := .cells #[.int .u8 ((rd_T122 l0 x30_2).f0), .int .i64 ((rd_T122 l0 x30_2).f1)] 122 (0, 0)) (by (iterate 5 ((with_reducible repeat (first | refine blk_drewN ?_ _ | refine blk_drew ?_ | refine blk_alloc ?_ _)); refine blk_far ?_ NB262_277.out _)); (with_reducible repeat (first | refine blk_drewN ?_ _ | refine blk_drew ?_ | refine blk_alloc ?_ _)); exact BK262.out) hb); replace BK269 := zM (blk_below (g := gb269) (o := .cells #[.int .i64 t263, .bool t264, .bool t265, .string t266, .int .i64 t267] 124 (0, 0)) (by (iterate 5 ((with_reducible repeat (first | refine blk_drewN ?_ _ | refine blk_drew ?_ | refine blk_alloc ?_ _)); refine blk_far ?_ NB269_277.out _)); (with_reducible repeat (first | refine blk_drewN ?_ _ | refine blk_drew ?_ | refine blk_alloc ?_ _)); exact BK269.out) hb); replace BK277 := zM (blk_below (g := gb277) (o := .cells #[.int .i64 t271, .bool t272, .bool t273, .string t274, .int .i64 t275] 124 (0, 0)) (by (with_reducible repeat (first | refine blk_drewN ?_ _ | refine blk_drew ?_ | refine blk_alloc ?_ _)); apply blk_fill5; (with_reducible repeat (first | refine blk_drewN ?_ _ | refine blk_drew ?_ | refine blk_alloc ?_ _)); exact BK277.out) hb); replace HB := zM (below_step q11_4 hb); (try clear hb)))
            try subst hji23
            go_roundg k5
            case measure => have := HJ2.out; have := HK2.out; have := HJ12.out; have := HJ23.out; have := HK5.out; omega
            case rel => exact ⟨(t278), (wrap64 (x67_5 + 1)), s7, s7, H', ⟨q11_15⟩, ⟨q11_1⟩, ⟨q11_3⟩, ⟨q11_4⟩⟩
           rw [if_neg c36] at H
           exact absurd H (by simp)
          rw [if_neg c35] at H
          exact absurd H (by simp)
         rw [if_neg c34] at H
         have c34b0 := decide_eq_false c34
         clear c34
         have H' := zM H
         clear H
         go_wp2
         try subst hji23
         go_roundg k5
         case measure => have := HJ2.out; have := HK2.out; have := HJ12.out; have := HJ23.out; have := HK5.out; omega
         case rel => exact ⟨(wrap64 (x30_2 + 1)), s7, H', ⟨q11_15⟩, ⟨q11_0⟩⟩
     rw [if_neg c11] at H
     exact absurd H (by simp)
    rw [if_neg c10] at H
    exact absurd H (by simp)
   rw [if_neg c9] at H
   have c9b0 := decide_eq_false c9
   clear c9
   obtain rfl := Option.some.inj H
   go_wp2
   go_ret
   exact ⟨s6, s8⟩

/-! ### expr_IsTruth: function 62 -/
def expr_IsTruth.f (l0 : List (S122)) : Option (Bool) := if (l0.length : Int) = 0 then (some false) else (if 0 < (l0.length : Int) then ((expr_of.f ((rd_T122 l0 0).f0)).bind fun bt280 => (some bt280.2.1)) else (none))
set_option maxHeartbeats 8000000 in
set_option maxRecDepth 100000 in
theorem expr_IsTruth.calls (A0 : Option Addr) (c0 : Nat) (l0 : List (S122)) (r : Bool) (w : World) (hG : Glob w) (hr0 : Kd.C k122 w A0 l0.length l0) (hc0 : l0.length ≤ c0) (h : expr_IsTruth.f l0 = some r) :
  Calls Tryd.prog 62 #[.slice A0 l0.length c0] w fun e w' => e = .returned (.bool r) ∧ Below w.heap.size w w' := by
 have hu124 := Tryd.underlying124
 have HR0 := zM hr0
 have HC0 := zM hc0
 clear hr0 hc0
 have HGL := zM hG
 clear hG
 have HB := zM (Below.refl w.heap.size w)
 have H : (if (l0.length : Int) = 0 then (some false) else (if 0 < (l0.length : Int) then ((expr_of.f ((rd_T122 l0 0).f0)).bind fun bt280 => (some bt280.2.1)) else (none))) = some r := h
 clear h
 by_cases c2 : (l0.length : Int) = 0
 ·
  rw [if_pos c2] at H
  obtain ⟨c2b0, c2b1⟩ := eqb c2
  clear c2
  obtain rfl := Option.some.inj H
  go_enter Tryd.func62, Tryd.ntmps62
  go_wp2
  go_ret
  exact ⟨s6, s8⟩
 rw [if_neg c2] at H
 obtain ⟨c2b0, c2b1⟩ := neb c2
 have c2b2 : ¬ (l0 = []) := fun h_ => c2 (by rw [h_]; rfl)
 by_cases c3 : 0 < (l0.length : Int)
 ·
  rw [if_pos c3] at H
  have c3b0 := zD c3
  have c3b1 : decide (0 < l0.length) = true := zD (by omega)
  clear c3
  replace H := Option.bind_eq_some_iff.mp H
  obtain ⟨⟨t280, t281, t282, t283, t284, t285⟩, A40, H⟩ := H
  replace H : (some t281) = some r := H
  have A4 := zM A40
  clear A40
  obtain rfl := Option.some.inj H
  have p279 : 0 ≤ (0 : Int) := (by omega)
  have q279 : 0 < (l0.length : Int) := zO s3
  obtain ⟨ad279, e279, hx279_0, hx279_1⟩ := at_T122 HR0.out 0 p279 q279
  cases e279
  have qi279 : (0 < l0.length) = True := eq_true (by omega)
  (try rw [show ((0 : Int)).toNat = 0 from rfl] at hx279_0)
  (try rw [show 0 * 2 = 0 from rfl] at hx279_0)
  (try rw [Addr.add_zero'] at hx279_0)
  (try rw [show ((0 : Int)).toNat = 0 from rfl] at hx279_1)
  (try rw [show 0 * 2 = 0 from rfl] at hx279_1)
  (try rw [Addr.add_zero'] at hx279_1)
  replace p279 := eq_true p279
  replace q279 := eq_true q279
  go_enter Tryd.func62, Tryd.ntmps62
  go_wp2_with (first | ((with_reducible refine gate_callee (f := 74) rfl ?_); refine goesL_ (some 13) rfl rfl Tryd.func74 (by kernel_rfl) rfl #[.int .u8 ((rd_T122 l0 0).f0)] rfl s0 ?_; (with_reducible refine (expr_of.calls ((rd_T122 l0 0).f0) t280 t281 t282 t283 t284 t285 _ ?side1 A4.out).mono ?_); (case side1 => repeat (first | exact HGL.out | (with_reducible refine Glob.alloc ?_ _) | (with_reducible refine Glob.drewN ?_ _) | (with_reducible refine Glob.drew ?_))); rintro e w5 ⟨rfl, hb⟩; refine ⟨_, rfl, ?_⟩; replace HB := zM (below_step s8 hb); (try clear hb)) | ((with_reducible refine gate_dst (N := 3) rfl ?_); refine box_ev (N := 3) (cs := #[.int .i64 0, .bool false, .bool false, .string (⟨#[]⟩ : ByteArray), .int .i64 0]) (t := 124) ?_; intro gb286 hg w6 hbox hb; have BK286 := zM (hbox); have GE286 := zM (box_ge (n := w.heap.size) hg (below_size s8)); replace HB := zM (below_step s8 hb); clear hb hbox hg; obtain ⟨hcz7_0, hcz7_1, hcz7_2, hcz7_3, hcz7_4, hfz7_0, hfz7_1, hfz7_2, hfz7_3, hfz7_4⟩ := blk5 BK286.out))
  go_ret
  exact ⟨s6, (by repeat (first | (with_reducible first | exact HB.out | apply below_alloc | apply pw_below_drewN | apply below_drew1 | refine below_set ?_ GE286.out) | exact HB.out))⟩
 rw [if_neg c3] at H
 exact absurd H (by simp)

end Go.Proofs.YtpmhfahligjhaaaDoor.POrd
