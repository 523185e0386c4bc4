-- written by wip/tools/xprint.py (over the kit's print.py): not trusted, Lean checks it.
import Derived.Test.YtpmhfahligjhaaaDoorPOrdx0
import Derived.Test.YtpmhfahligjhaaaDoorPOrdx8
import Derived.Test.YtpmhfahligjhaaaDoorPOrdx9
-- compact
namespace Go.Proofs.YtpmhfahligjhaaaDoor.POrd
open Go.RowKit Go.Proofs.YtpmhfahligjhaaaDoorW.PrintWords Go.Proofs.YtpmhfahligjhaaaDoorW.PrintLast Go.Proofs.YtpmhfahligjhaaaDoorW.PrintMore Go.Proofs.YtpmhfahligjhaaaDoorXW
attribute [local go_sem high] Option.map_some
attribute [local go_sem] max2_int max_two
set_option linter.unusedVariables false
set_option linter.unusedSimpArgs false

theorem q10_0 {p : Prop} (h : p := by repeat (first | (with_reducible first | exact HB.out | apply below_alloc | apply pw_below_drewN | apply below_drew1 | refine below_set ?_ GE242.out) | exact HB.out)) : p := h
theorem q10_2 {p : Prop} (h : p := by (with_reducible repeat (first | refine blk_drewN ?_ _ | refine blk_drew ?_ | refine blk_alloc ?_ _)); exact BK242.out) : p := h
theorem q10_5 {p : Prop} (h : p := by repeat (first | (with_reducible first | exact HB.out | apply below_alloc | apply pw_below_drewN | apply below_drew1 | refine below_set ?_ GE242.out | refine below_set ?_ GE251.out) | exact HB.out)) : p := h
theorem q10_6 {p : Prop} (h : p := by repeat (first | (with_reducible exact HR250_3.out) | (with_reducible refine Kd.C_alloc ?_ _) | (with_reducible refine Kd.C_drewN ?_ _) | (with_reducible refine Kd.C_drew ?_) | exact HR250_3.out)) : p := h
theorem q10_8 {p : Prop} (h : p := by (with_reducible repeat (first | apply Kd.V_alloc | apply Kd.V_drewN | apply Kd.V_drew)); exact Kd.V_mono (Kd.V_far (p := ⟨gb251, 3, none⟩) (Kd.V_far (p := ⟨gb251, 2, none⟩) (Kd.V_far (p := ⟨gb251, 1, none⟩) (Kd.V_far (p := ⟨gb251, 0, none⟩) (Kd.V_mono HO_13.out (fun k_ hk => (⟨hk, hk.2⟩ : _ ∧ k_ ≠ gb251))) (fun _ hk => hk.2) (.int .i64 ((rd_T92 t247 x15_1).f0))) (fun _ hk => hk.2) (.int .i64 ((rd_T92 t247 x15_1).f1))) (fun _ hk => hk.2) (.int .i64 ((rd_T92 t247 x15_1).f2))) (fun _ hk => hk.2) (.slice A250_3 ((rd_T92 t247 x15_1).f3).length c250_3)) (fun _ hk => hk.1.1)) : p := h
theorem q10_10 {p : Prop} (h : p := by (with_reducible repeat (first | apply Kd.V_alloc | apply Kd.V_drewN | apply Kd.V_drew)); exact HL250_3.out) : p := h
theorem q10_11 {p : Prop} (h : p := by (with_reducible repeat (first | apply Kd.V_alloc | apply Kd.V_drewN | apply Kd.V_drew)); exact HO_13.out) : p := h
theorem q10_12 {p : Prop} (h : p := by first | exact q250 | exact zO s3 | (have e_ := (Kd.V_reads' HO_13.out).1; omega)) : p := h
theorem q10_13 {p : Prop} (h : p := by repeat (first | (with_reducible first | exact HB.out | apply below_alloc | apply pw_below_drewN | apply below_drew1 | refine below_set ?_ GE241.out) | exact HB.out)) : p := h
theorem q10_14 {p : Prop} (h : p := by (with_reducible repeat (first | apply Kd.R_alloc | apply Kd.R_drewN | apply Kd.R_drew)); exact HO245.out) : p := h
theorem q10_15 {p : Prop} (h : p := by (iterate 4 ((with_reducible repeat (first | refine blk_drewN ?_ _ | refine blk_drew ?_ | refine blk_alloc ?_ _)); refine blk_far ?_ NB242_251.out _)); (with_reducible repeat (first | refine blk_drewN ?_ _ | refine blk_drew ?_ | refine blk_alloc ?_ _)); exact BK242.out) : p := h
theorem q10_20 {p : Prop} (h : p := by repeat (first | exact (Kd.R_reads' HO245.out).2.2 | (with_reducible refine Kd.C_alloc ?_ _) | (with_reducible refine Kd.C_drewN ?_ _) | (with_reducible refine Kd.C_drew ?_))) : p := h
/-! ### net_cmps: function 59 -/
def net_cmps.l0 : Nat → List (S118) → Int → Int → Option (Int)
 | 0, _, _, _ => none
 | k + 1, x5, x6, x7 => if x7 < x6 then (if 0 ≤ x7 then (if x7 < (x5.length : Int) then (if ((rd_T118 x5 x7).f2) < 1 then (some 7) else (if ((rd_T118 x5 x7).f2) > 5 then (some 7) else (net_cmps.l0 k x5 x6 (wrap64 (x7 + 1))))) else (none)) else (none)) else (some 0)
def net_cmps.f (k : Nat) (l0 : List (S118)) : Option (Int) := net_cmps.l0 k l0 (l0.length : Int) 0
theorem net_cmps.mono_l : ∀ k, (∀ y0 y1 y2, LeO (net_cmps.l0 k y0 y1 y2) (net_cmps.l0 (k + 1) y0 y1 y2))
 | 0 => fun _ _ _ r h => by simp [net_cmps.l0] at h
 | k + 1 => by
  have ih0 := net_cmps.mono_l k
  ·
   intro y0 y1 y2
   unfold net_cmps.l0
   repeat' first | (with_reducible first | exact ih0 _ _ _ | exact LeO.refl _ | exact LeO.none _ | refine LeO.ite ?_ ?_ | refine LeO.bind ?_ (fun _ => ?_)) | exact LeO.none _ | refine LeO.ite ?_ ?_ | refine LeO.bind ?_ (fun _ => ?_)
theorem net_cmps.mono : ∀ a0 k, LeO (net_cmps.f k a0) (net_cmps.f (k + 1) a0) := by
 intro a0 k
 have ih0 := net_cmps.mono_l k
 unfold net_cmps.f
 repeat' first | (with_reducible first | exact ih0 _ _ _ | exact LeO.refl _ | exact LeO.none _ | refine LeO.ite ?_ ?_ | refine LeO.bind ?_ (fun _ => ?_)) | exact LeO.none _ | refine LeO.ite ?_ ?_ | refine LeO.bind ?_ (fun _ => ?_)
set_option maxHeartbeats 8000000 in
set_option maxRecDepth 100000 in
theorem net_cmps.calls (k : Nat) (A0 : Option Addr) (c0 : Nat) (l0 : List (S118)) (r : Int) (w : World) (hr0 : Kd.C k118 w A0 l0.length l0) (hc0 : l0.length ≤ c0) (h : net_cmps.f k l0 = some r) :
  Calls Tryd.prog 59 #[.slice A0 l0.length c0] w fun e w' => e = .returned (.int .i64 r) ∧ Below w.heap.size w w' := by
 have hu118 := Tryd.underlying118
 have HR0 := zM hr0
 have HC0 := zM hc0
 clear hr0 hc0
 have HB := zM (Below.refl w.heap.size w)
 have H : (net_cmps.l0 k l0 (l0.length : Int) 0) = some r := h
 clear h
 have H' := zM H
 clear H
 go_enter Tryd.func59, Tryd.ntmps59
 go_wp2
 go_loopg [7] k (fun kq v7 w' => ∃ (x7_1 : Int), v7 = .int .i64 x7_1 ∧ Aside0 (net_cmps.l0 kq l0 (l0.length : Int) x7_1 = some r) ∧ Aside0 (kq ≤ k) ∧ Aside0 (Below w.heap.size w w'))
 case atStart => exact ⟨(0), s7, H', ⟨Nat.le_refl _⟩, ⟨s8⟩⟩
 clear H'
 obtain ⟨x7_1, rfl, HA, HK1, HB⟩ := hrel
 cases gk with
 | zero => exact absurd HA.out (by simp [net_cmps.l0])
 | succ k1 =>
  have H := HA.out
  clear HA
  simp only [net_cmps.l0] at H
  by_cases c2 : x7_1 < (l0.length : Int)
  ·
   rw [if_pos c2] at H
   have c2b0 := zD c2
   clear c2
   by_cases c3 : 0 ≤ x7_1
   ·
    rw [if_pos c3] at H
    have c3b0 := zD c3
    clear c3
    by_cases c4 : x7_1 < (l0.length : Int)
    ·
     rw [if_pos c4] at H
     have c4b0 := zD c4
     clear c4
     by_cases c5 : ((rd_T118 l0 x7_1).f2) < 1
     ·
      rw [if_pos c5] at H
      have c5b0 := zD c5
      clear c5
      obtain rfl := Option.some.inj H
      have p240 : 0 ≤ (x7_1 : Int) := zO s3
      have q240 : x7_1 < (l0.length : Int) := zO s3
      obtain ⟨ad240, e240, hx240_0, hx240_1, hx240_2, hx240_3⟩ := at_T118 HR0.out x7_1 p240 q240
      cases e240
      replace hx240_0 := cell_up HB.out hx240_0
      replace hx240_1 := cell_up HB.out hx240_1
      replace hx240_2 := cell_up HB.out hx240_2
      replace hx240_3 := cell_up HB.out hx240_3
      replace p240 := eq_true p240
      replace q240 := eq_true q240
      go_wp2_with (first | ((with_reducible refine gate_dst (N := 4) rfl ?_); refine box_ev (N := 4) (cs := #[.int .i64 0, .int .i64 0, .int .u8 0, .int .i64 0]) (t := 118) ?_; intro gb241 hg w6 hbox hb; have BK241 := zM (hbox); have GE241 := zM (box_ge (n := w.heap.size) hg (below_size s8)); replace HB := zM (below_step s8 hb); clear hb hbox hg; obtain ⟨hcz7_0, hcz7_1, hcz7_2, hcz7_3, hfz7_0, hfz7_1, hfz7_2, hfz7_3⟩ := blk4 BK241.out))
      go_ret
      exact ⟨s6, q10_13⟩
     rw [if_neg c5] at H
     have c5b0 := decide_eq_false c5
     clear c5
     by_cases c8 : ((rd_T118 l0 x7_1).f2) > 5
     ·
      rw [if_pos c8] at H
      have c8b0 := dgt c8
      clear c8
      obtain rfl := Option.some.inj H
      have p240 : 0 ≤ (x7_1 : Int) := zO s3
      have q240 : x7_1 < (l0.length : Int) := zO s3
      obtain ⟨ad240, e240, hx240_0, hx240_1, hx240_2, hx240_3⟩ := at_T118 HR0.out x7_1 p240 q240
      cases e240
      replace hx240_0 := cell_up HB.out hx240_0
      replace hx240_1 := cell_up HB.out hx240_1
      replace hx240_2 := cell_up HB.out hx240_2
      replace hx240_3 := cell_up HB.out hx240_3
      replace p240 := eq_true p240
      replace q240 := eq_true q240
      go_wp2_with (first | ((with_reducible refine gate_dst (N := 4) rfl ?_); refine box_ev (N := 4) (cs := #[.int .i64 0, .int .i64 0, .int .u8 0, .int .i64 0]) (t := 118) ?_; intro gb241 hg w9 hbox hb; have BK241 := zM (hbox); have GE241 := zM (box_ge (n := w.heap.size) hg (below_size s8)); replace HB := zM (below_step s8 hb); clear hb hbox hg; obtain ⟨hcz10_0, hcz10_1, hcz10_2, hcz10_3, hfz10_0, hfz10_1, hfz10_2, hfz10_3⟩ := blk4 BK241.out))
      go_ret
      exact ⟨s6, q10_13⟩
     rw [if_neg c8] at H
     have c8b0 := dngt c8
     clear c8
     have H' := zM H
     clear H
     have p240 : 0 ≤ (x7_1 : Int) := zO s3
     have q240 : x7_1 < (l0.length : Int) := zO s3
     obtain ⟨ad240, e240, hx240_0, hx240_1, hx240_2, hx240_3⟩ := at_T118 HR0.out x7_1 p240 q240
     cases e240
     replace hx240_0 := cell_up HB.out hx240_0
     replace hx240_1 := cell_up HB.out hx240_1
     replace hx240_2 := cell_up HB.out hx240_2
     replace hx240_3 := cell_up HB.out hx240_3
     replace p240 := eq_true p240
     replace q240 := eq_true q240
     go_wp2_with (first | ((with_reducible refine gate_dst (N := 4) rfl ?_); refine box_ev (N := 4) (cs := #[.int .i64 0, .int .i64 0, .int .u8 0, .int .i64 0]) (t := 118) ?_; intro gb241 hg w11 hbox hb; have BK241 := zM (hbox); have GE241 := zM (box_ge (n := w.heap.size) hg (below_size s8)); replace HB := zM (below_step s8 hb); clear hb hbox hg; obtain ⟨hcz12_0, hcz12_1, hcz12_2, hcz12_3, hfz12_0, hfz12_1, hfz12_2, hfz12_3⟩ := blk4 BK241.out))
     go_roundg k1
     case measure => have := HK1.out; omega
     case rel => exact ⟨(wrap64 (x7_1 + 1)), s7, H', ⟨(by have := HK1.out; omega)⟩, ⟨q10_13⟩⟩
    rw [if_neg c4] at H
    exact absurd H (by simp)
   rw [if_neg c3] at H
   exact absurd H (by simp)
  rw [if_neg c2] at H
  have c2b0 := decide_eq_false c2
  clear c2
  obtain rfl := Option.some.inj H
  go_wp2
  go_ret
  exact ⟨s6, s8⟩

/-! ### net_forms: function 44 -/
def net_forms.l0 : Nat → List (S92) → Int → Int → Option (Int)
 | 0, _, _, _ => none
 | k + 1, x13, x14, x15 => if x15 < x14 then (if 0 ≤ x15 then (if x15 < (x13.length : Int) then (if ((rd_T92 x13 x15).f0) = 0 then (if ((rd_T92 x13 x15).f1) = 0 then (net_forms.l0 k x13 x14 (wrap64 (x15 + 1))) else (some 7)) else (if ((rd_T92 x13 x15).f2) = 0 then (if (((rd_T92 x13 x15).f3).length : Int) > 0 then (some 7) else (net_forms.l0 k x13 x14 (wrap64 (x15 + 1)))) else (some 7))) else (none)) else (none)) else (some 0)
def net_forms.f (k : Nat) (l0_0 : List ByteArray) (l0_1 : List (S50)) (l0_2 : List ByteArray) (l0_3 : List (S61)) : Option (Int) := (net_guards.f k l0_0 l0_1 l0_2 l0_3).bind fun t243 => ((net_cmps.f k t243).bind fun t246 => (if t246 = 0 then ((net_sets.f k l0_0 l0_1 l0_2 l0_3).bind fun t247 => (net_forms.l0 k t247 (t247.length : Int) 0)) else (some t246)))
theorem net_forms.mono_l : ∀ k, (∀ y0 y1 y2, LeO (net_forms.l0 k y0 y1 y2) (net_forms.l0 (k + 1) y0 y1 y2))
 | 0 => fun _ _ _ r h => by simp [net_forms.l0] at h
 | k + 1 => by
  have ih0 := net_forms.mono_l k
  ·
   intro y0 y1 y2
   unfold net_forms.l0
   repeat' first | (with_reducible first | exact ih0 _ _ _ | exact net_cmps.mono _ _ | exact net_guards.mono _ _ _ _ _ | exact net_sets.mono _ _ _ _ _ | exact LeO.refl _ | exact LeO.none _ | refine LeO.ite ?_ ?_ | refine LeO.bind ?_ (fun _ => ?_)) | exact LeO.none _ | refine LeO.ite ?_ ?_ | refine LeO.bind ?_ (fun _ => ?_)
theorem net_forms.mono : ∀ a0 a1 a2 a3 k, LeO (net_forms.f k a0 a1 a2 a3) (net_forms.f (k + 1) a0 a1 a2 a3) := by
 intro a0 a1 a2 a3 k
 have ih0 := net_forms.mono_l k
 unfold net_forms.f
 repeat' first | (with_reducible first | exact ih0 _ _ _ | exact net_cmps.mono _ _ | exact net_guards.mono _ _ _ _ _ | exact net_sets.mono _ _ _ _ _ | exact LeO.refl _ | exact LeO.none _ | refine LeO.ite ?_ ?_ | refine LeO.bind ?_ (fun _ => ?_)) | exact LeO.none _ | refine LeO.ite ?_ ?_ | refine LeO.bind ?_ (fun _ => ?_)
set_option maxHeartbeats 8000000 in
set_option maxRecDepth 100000 in
theorem net_forms.calls (k : Nat) (A0_0 : Option Addr) (c0_0 : Nat) (l0_0 : List ByteArray) (A0_1 : Option Addr) (c0_1 : Nat) (l0_1 : List (S50)) (A0_2 : Option Addr) (c0_2 : Nat) (l0_2 : List ByteArray) (A0_3 : Option Addr) (c0_3 : Nat) (l0_3 : List (S61)) (r : Int) (w : World) (hr0_0 : Kd.C Kd.string w A0_0 l0_0.length l0_0) (hc0_0 : l0_0.length ≤ c0_0) (hr0_1 : Kd.C k50 w A0_1 l0_1.length l0_1) (hc0_1 : l0_1.length ≤ c0_1) (hr0_2 : Kd.C Kd.string w A0_2 l0_2.length l0_2) (hc0_2 : l0_2.length ≤ c0_2) (hr0_3 : Kd.C k61 w A0_3 l0_3.length l0_3) (hc0_3 : l0_3.length ≤ c0_3) (h : net_forms.f k l0_0 l0_1 l0_2 l0_3 = some r) :
  Calls Tryd.prog 44 #[.agg #[.slice A0_0 l0_0.length c0_0, .slice A0_1 l0_1.length c0_1, .slice A0_2 l0_2.length c0_2, .slice A0_3 l0_3.length c0_3]] w fun e w' => e = .returned (.int .i64 r) ∧ Below w.heap.size w w' := by
 have hu26 := Tryd.underlying26
 have hu92 := Tryd.underlying92
 have HR0_0 := zM hr0_0
 have HC0_0 := zM hc0_0
 clear hr0_0 hc0_0
 have HR0_1 := zM hr0_1
 have HC0_1 := zM hc0_1
 clear hr0_1 hc0_1
 have HR0_2 := zM hr0_2
 have HC0_2 := zM hc0_2
 clear hr0_2 hc0_2
 have HR0_3 := zM hr0_3
 have HC0_3 := zM hc0_3
 clear hr0_3 hc0_3
 have HB := zM (Below.refl w.heap.size w)
 have H : ((net_guards.f k l0_0 l0_1 l0_2 l0_3).bind fun t243 => ((net_cmps.f k t243).bind fun t246 => (if t246 = 0 then ((net_sets.f k l0_0 l0_1 l0_2 l0_3).bind fun t247 => (net_forms.l0 k t247 (t247.length : Int) 0)) else (some t246)))) = some r := h
 clear h
 replace H := Option.bind_eq_some_iff.mp H
 obtain ⟨t243, A20, H⟩ := H
 replace H : ((net_cmps.f k t243).bind fun t246 => (if t246 = 0 then ((net_sets.f k l0_0 l0_1 l0_2 l0_3).bind fun t247 => (net_forms.l0 k t247 (t247.length : Int) 0)) else (some t246))) = some r := H
 have A2 := zM A20
 clear A20
 replace H := Option.bind_eq_some_iff.mp H
 obtain ⟨t246, A30, H⟩ := H
 replace H : (if t246 = 0 then ((net_sets.f k l0_0 l0_1 l0_2 l0_3).bind fun t247 => (net_forms.l0 k t247 (t247.length : Int) 0)) else (some t246)) = some r := H
 have A3 := zM A30
 clear A30
 by_cases c4 : t246 = 0
 ·
  rw [if_pos c4] at H
  obtain ⟨c4b0, c4b1⟩ := eqb c4
  clear c4
  replace H := Option.bind_eq_some_iff.mp H
  obtain ⟨t247, A50, H⟩ := H
  replace H : (net_forms.l0 k t247 (t247.length : Int) 0) = some r := H
  have A5 := zM A50
  clear A50
  have H' := zM H
  clear H
  go_enter Tryd.func44, Tryd.ntmps44
  go_wp2_with (first | ((with_reducible refine gate_dst (N := 1) rfl ?_); (try (refine gate_guard (by rfl) ?_; dsimp only)); refine box_ev (N := 1) (cs := #[.slice A0_0 l0_0.length c0_0, .slice A0_1 l0_1.length c0_1, .slice A0_2 l0_2.length c0_2, .slice A0_3 l0_3.length c0_3]) (t := 26) ?_; intro gb242 hg w6 hbox hb; have BK242 := zM (hbox); have GE242 := zM (box_ge (n := w.heap.size) hg (below_size s8)); replace HB := zM (below_step s8 hb); clear hb hbox hg; obtain ⟨hcz7_0, hcz7_1, hcz7_2, hcz7_3, hfz7_0, hfz7_1, hfz7_2, hfz7_3⟩ := blk4 BK242.out) | ((with_reducible refine gate_callee (f := 56) rfl ?_); refine goesL_ (some 7) rfl rfl Tryd.func56 (by kernel_rfl) rfl #[.agg #[.slice A0_0 l0_0.length c0_0, .slice A0_1 l0_1.length c0_1, .slice A0_2 l0_2.length c0_2, .slice A0_3 l0_3.length c0_3]] rfl s0 ?_; (with_reducible refine (net_guards.calls k _ _ l0_0 _ _ l0_1 _ _ l0_2 _ _ l0_3 t243 _ ?side1 HC0_0.out ?side3 HC0_1.out ?side5 HC0_2.out ?side7 HC0_3.out A2.out).mono ?_); (case side1 => exact s10); (case side3 => exact s11); (case side5 => exact s12); (case side7 => exact s13); rintro e w8 ⟨v244, rfl, ho0, hb⟩; refine ⟨_, rfl, ?_⟩; have HO245 := zM (Kd.R_lower ho0 (below_size q10_0)); replace BK242 := zM (blk_below (g := gb242) q10_2 hb); replace HB := zM (below_step q10_0 hb); (try clear hb); (try clear ho0); obtain ⟨Ao9, co9, eo9⟩ := Kd.R_slice HO245.out; subst eo9) | ((with_reducible refine gate_callee (f := 59) rfl ?_); refine goesL_ (some 8) rfl rfl Tryd.func59 (by kernel_rfl) rfl #[.slice Ao9 t243.length co9] rfl s0 ?_; (with_reducible refine (net_cmps.calls k _ _ t243 t246 _ ?side1 ?side2 A3.out).mono ?_); (case side1 => exact q10_20); (case side2 => exact (Kd.R_reads' HO245.out).2.1); rintro e w10 ⟨rfl, hb⟩; refine ⟨_, rfl, ?_⟩; replace HO245 := zM (Kd.R_below q10_14 hb); replace BK242 := zM (blk_below (g := gb242) q10_2 hb); replace HB := zM (below_step q10_0 hb); (try clear hb); obtain ⟨hcz11_0, hcz11_1, hcz11_2, hcz11_3, hfz11_0, hfz11_1, hfz11_2, hfz11_3⟩ := blk4 BK242.out) | ((with_reducible refine gate_callee (f := 57) rfl ?_); refine goesL_ (some 13) rfl rfl Tryd.func57 (by kernel_rfl) rfl #[.agg #[.slice A0_0 l0_0.length c0_0, .slice A0_1 l0_1.length c0_1, .slice A0_2 l0_2.length c0_2, .slice A0_3 l0_3.length c0_3]] rfl s0 ?_; (with_reducible refine (net_sets.calls k _ _ l0_0 _ _ l0_1 _ _ l0_2 _ _ l0_3 t247 w _ ?sideB ?side1 HC0_0.out ?side3 HC0_1.out ?side5 HC0_2.out ?side7 HC0_3.out A5.out).mono ?_); (case sideB => exact q10_0); (case side1 => exact HR0_0.out); (case side3 => exact HR0_1.out); (case side5 => exact HR0_2.out); (case side7 => exact HR0_3.out); rintro e w12 ⟨v248, rfl, ho0, hb⟩; refine ⟨_, rfl, ?_⟩; have HO249 := zM (Kd.V_lower (Kd.V_mono (ok' := fun k_ => some k_ ≠ (.slice Ao9 t243.length co9 : Value).ownBlock ∧ k_ ≠ gb242) ho0 (fun k_ hk_ => Or.elim hk_ (fun hk_ => ⟨fun e_ => Nat.lt_irrefl _ (Nat.lt_of_lt_of_le hk_ (Kd.R_base HO245.out k_ e_.symm)), Nat.ne_of_lt (Nat.lt_of_lt_of_le hk_ GE242.out)⟩) (fun hk_ => ⟨(Kd.fresh' (Kd.R_lt q10_14) k_ hk_), (Kd.freshB (g := gb242) (o := .cells #[.slice A0_0 l0_0.length c0_0, .slice A0_1 l0_1.length c0_1, .slice A0_2 l0_2.length c0_2, .slice A0_3 l0_3.length c0_3] 26 (0, 0)) q10_2 k_ hk_)⟩))) (below_size q10_0)); replace HO245 := zM (Kd.R_below q10_14 hb); replace BK242 := zM (blk_below (g := gb242) q10_2 hb); replace HB := zM (below_step q10_0 hb); (try clear hb); (try clear ho0); obtain ⟨Ao13, co13, eo13⟩ := Kd.V_slice HO249.out; subst eo13))
  go_loopg [15] k (fun kq v15 w' => ∃ (x15_1 : Int), v15 = .int .i64 x15_1 ∧ Aside0 (net_forms.l0 kq t247 (t247.length : Int) x15_1 = some r) ∧ Aside0 (kq ≤ k) ∧ Aside0 (Kd.V k92 92 w' w.heap.size (fun k_ => k_ ≠ gb242) (.slice Ao13 t247.length co13) t247) ∧ Aside0 (w'.heap[gb242]? = some (.cells #[(.slice A0_0 l0_0.length c0_0), (.slice A0_1 l0_1.length c0_1), (.slice A0_2 l0_2.length c0_2), (.slice A0_3 l0_3.length c0_3)] 26 (0, 0))) ∧ Aside0 (Below w.heap.size w w'))
  case atStart => exact ⟨(0), s7, H', ⟨Nat.le_refl _⟩, ⟨(by (with_reducible repeat (first | apply Kd.V_alloc | apply Kd.V_drewN | apply Kd.V_drew)); exact Kd.V_mono HO249.out (fun _ hk => hk.2))⟩, ⟨q10_2⟩, ⟨q10_0⟩⟩
  clear H'
  obtain ⟨x15_1, rfl, HA, HK1, HO_13, BK242, HB⟩ := hrel
  cases gk with
  | zero => exact absurd HA.out (by simp [net_forms.l0])
  | succ k1 =>
   have H := HA.out
   clear HA
   simp only [net_forms.l0] at H
   by_cases c14 : x15_1 < (t247.length : Int)
   ·
    rw [if_pos c14] at H
    have c14b0 := zD c14
    clear c14
    by_cases c15 : 0 ≤ x15_1
    ·
     rw [if_pos c15] at H
     have c15b0 := zD c15
     clear c15
     by_cases c16 : x15_1 < (t247.length : Int)
     ·
      rw [if_pos c16] at H
      have c16b0 := zD c16
      clear c16
      by_cases c17 : ((rd_T92 t247 x15_1).f0) = 0
      ·
       rw [if_pos c17] at H
       obtain ⟨c17b0, c17b1⟩ := eqb c17
       clear c17
       by_cases c18 : ((rd_T92 t247 x15_1).f1) = 0
       ·
        rw [if_pos c18] at H
        obtain ⟨c18b0, c18b1⟩ := eqb c18
        clear c18
        have H' := zM H
        clear H
        have p250 : 0 ≤ (x15_1 : Int) := zO s3
        have q250 : x15_1 < (t247.length : Int) := zO s3
        obtain ⟨ad250, A250_3, c250_3, e250, hx250_0, hx250_1, hx250_2, hx250_3, HC250_3, HR250_3⟩ := as_T92 (Kd.V_reads' HO_13.out).2.2 x15_1 p250 q250
        cases e250
        obtain ⟨ce250, hce250, hMe250, hcc250⟩ := Kd.V_get HO_13.out z92 x15_1 p250 q10_12
        obtain ⟨ua250_3, uc250_3, rfl, ul250_3, ge250_3⟩ := k92_openF hMe250
        have hv250_3 := hcc250 3 _ rfl
        rw [add_field _ _ 3 (by omega)] at hv250_3
        replace hv250_3 := Option.some.inj (hv250_3.symm.trans hx250_3)
        injection hv250_3 with hva_ hvn_ hvc_
        rw [hva_] at ge250_3
        rw [hvc_] at ul250_3
        have HL250_3 := zM (show Kd.V k122 122 _ w.heap.size _ _ ((rd_T92 t247 x15_1).f3) from Kd.V_mk ul250_3 ge250_3)
        clear hva_ hvn_ hvc_ ge250_3 ul250_3
        clear hcc250 hce250
        replace p250 := eq_true p250
        replace q250 := eq_true q250
        go_wp2_with (first | ((with_reducible refine gate_dst (N := 5) rfl ?_); (try (refine gate_guard (by rfl) ?_; dsimp only)); refine box_ev (N := 5) (cs := #[.int .i64 0, .int .i64 0, .int .i64 0, .slice none 0 0]) (t := 92) ?_; intro gb251 hg w19 hbox hb; have BK251 := zM (hbox); have GE251 := zM (box_ge (n := w.heap.size) hg (below_size q10_0)); have NB242_251 := zM (box_ne hg (g := gb242) q10_2); have NB251_242 := zM (box_ne' hg (g := gb242) q10_2); replace HO_13 := zM (Kd.V_below (Kd.V_elderB q10_11 gb251 (Nat.le_of_eq hg.symm)) hb); replace HL250_3 := zM (Kd.V_below (Kd.V_elderB q10_10 gb251 (Nat.le_of_eq hg.symm)) hb); replace BK242 := zM (blk_below (g := gb242) q10_2 hb); replace HR250_3 := zM (Kd.C_below q10_6 hb); replace HB := zM (below_step q10_0 hb); clear hb hbox hg; have hnb20 := NB251_242.out; have hnc20 := NB242_251.out; obtain ⟨hcz21_0, hcz21_1, hcz21_2, hcz21_3, hfz21_0, hfz21_1, hfz21_2, hfz21_3⟩ := blk4 BK251.out))
        go_roundg k1
        case measure => have := HK1.out; omega
        case rel => exact ⟨(wrap64 (x15_1 + 1)), s7, H', ⟨(by have := HK1.out; omega)⟩, ⟨q10_8⟩, ⟨q10_15⟩, ⟨q10_5⟩⟩
       rw [if_neg c18] at H
       obtain ⟨c18b0, c18b1⟩ := neb c18
       obtain rfl := Option.some.inj H
       have p250 : 0 ≤ (x15_1 : Int) := zO s3
       have q250 : x15_1 < (t247.length : Int) := zO s3
       obtain ⟨ad250, A250_3, c250_3, e250, hx250_0, hx250_1, hx250_2, hx250_3, HC250_3, HR250_3⟩ := as_T92 (Kd.V_reads' HO_13.out).2.2 x15_1 p250 q250
       cases e250
       obtain ⟨ce250, hce250, hMe250, hcc250⟩ := Kd.V_get HO_13.out z92 x15_1 p250 q10_12
       obtain ⟨ua250_3, uc250_3, rfl, ul250_3, ge250_3⟩ := k92_openF hMe250
       have hv250_3 := hcc250 3 _ rfl
       rw [add_field _ _ 3 (by omega)] at hv250_3
       replace hv250_3 := Option.some.inj (hv250_3.symm.trans hx250_3)
       injection hv250_3 with hva_ hvn_ hvc_
       rw [hva_] at ge250_3
       rw [hvc_] at ul250_3
       have HL250_3 := zM (show Kd.V k122 122 _ w.heap.size _ _ ((rd_T92 t247 x15_1).f3) from Kd.V_mk ul250_3 ge250_3)
       clear hva_ hvn_ hvc_ ge250_3 ul250_3
       clear hcc250 hce250
       replace p250 := eq_true p250
       replace q250 := eq_true q250
       go_wp2_with (first | ((with_reducible refine gate_dst (N := 5) rfl ?_); (try (refine gate_guard (by rfl) ?_; dsimp only)); refine box_ev (N := 5) (cs := #[.int .i64 0, .int .i64 0, .int .i64 0, .slice none 0 0]) (t := 92) ?_; intro gb251 hg w22 hbox hb; have BK251 := zM (hbox); have GE251 := zM (box_ge (n := w.heap.size) hg (below_size q10_0)); have NB242_251 := zM (box_ne hg (g := gb242) q10_2); have NB251_242 := zM (box_ne' hg (g := gb242) q10_2); replace HO_13 := zM (Kd.V_below (Kd.V_elderB q10_11 gb251 (Nat.le_of_eq hg.symm)) hb); replace HL250_3 := zM (Kd.V_below (Kd.V_elderB q10_10 gb251 (Nat.le_of_eq hg.symm)) hb); replace BK242 := zM (blk_below (g := gb242) q10_2 hb); replace HR250_3 := zM (Kd.C_below q10_6 hb); replace HB := zM (below_step q10_0 hb); clear hb hbox hg; have hnb23 := NB251_242.out; have hnc23 := NB242_251.out; obtain ⟨hcz24_0, hcz24_1, hcz24_2, hcz24_3, hfz24_0, hfz24_1, hfz24_2, hfz24_3⟩ := blk4 BK251.out))
       go_ret
       exact ⟨s6, q10_5⟩
      rw [if_neg c17] at H
      obtain ⟨c17b0, c17b1⟩ := neb c17
      by_cases c25 : ((rd_T92 t247 x15_1).f2) = 0
      ·
       rw [if_pos c25] at H
       obtain ⟨c25b0, c25b1⟩ := eqb c25
       clear c25
       by_cases c26 : (((rd_T92 t247 x15_1).f3).length : Int) > 0
       ·
        rw [if_pos c26] at H
        have c26b0 := dgt c26
        have c26b1 : decide (0 < ((rd_T92 t247 x15_1).f3).length) = true := zD (by omega)
        clear c26
        obtain rfl := Option.some.inj H
        have p250 : 0 ≤ (x15_1 : Int) := zO s3
        have q250 : x15_1 < (t247.length : Int) := zO s3
        obtain ⟨ad250, A250_3, c250_3, e250, hx250_0, hx250_1, hx250_2, hx250_3, HC250_3, HR250_3⟩ := as_T92 (Kd.V_reads' HO_13.out).2.2 x15_1 p250 q250
        cases e250
        obtain ⟨ce250, hce250, hMe250, hcc250⟩ := Kd.V_get HO_13.out z92 x15_1 p250 q10_12
        obtain ⟨ua250_3, uc250_3, rfl, ul250_3, ge250_3⟩ := k92_openF hMe250
        have hv250_3 := hcc250 3 _ rfl
        rw [add_field _ _ 3 (by omega)] at hv250_3
        replace hv250_3 := Option.some.inj (hv250_3.symm.trans hx250_3)
        injection hv250_3 with hva_ hvn_ hvc_
        rw [hva_] at ge250_3
        rw [hvc_] at ul250_3
        have HL250_3 := zM (show Kd.V k122 122 _ w.heap.size _ _ ((rd_T92 t247 x15_1).f3) from Kd.V_mk ul250_3 ge250_3)
        clear hva_ hvn_ hvc_ ge250_3 ul250_3
        clear hcc250 hce250
        replace p250 := eq_true p250
        replace q250 := eq_true q250
        go_wp2_with (first | ((with_reducible refine gate_dst (N := 5) rfl ?_); (try (refine gate_guard (by rfl) ?_; dsimp only)); refine box_ev (N := 5) (cs := #[.int .i64 0, .int .i64 0, .int .i64 0, .slice none 0 0]) (t := 92) ?_; intro gb251 hg w27 hbox hb; have BK251 := zM (hbox); have GE251 := zM (box_ge (n := w.heap.size) hg (below_size q10_0)); have NB242_251 := zM (box_ne hg (g := gb242) q10_2); have NB251_242 := zM (box_ne' hg (g := gb242) q10_2); replace HO_13 := zM (Kd.V_below (Kd.V_elderB q10_11 gb251 (Nat.le_of_eq hg.symm)) hb); replace HL250_3 := zM (Kd.V_below (Kd.V_elderB q10_10 gb251 (Nat.le_of_eq hg.symm)) hb); replace BK242 := zM (blk_below (g := gb242) q10_2 hb); replace HR250_3 := zM (Kd.C_below q10_6 hb); replace HB := zM (below_step q10_0 hb); clear hb hbox hg; have hnb28 := NB251_242.out; have hnc28 := NB242_251.out; obtain ⟨hcz29_0, hcz29_1, hcz29_2, hcz29_3, hfz29_0, hfz29_1, hfz29_2, hfz29_3⟩ := blk4 BK251.out))
        go_ret
        exact ⟨s6, q10_5⟩
       rw [if_neg c26] at H
       have c26b0 := dngt c26
       have c26b1 : decide (0 < ((rd_T92 t247 x15_1).f3).length) = false := decide_eq_false (by omega)
       clear c26
       have H' := zM H
       clear H
       have p250 : 0 ≤ (x15_1 : Int) := zO s3
       have q250 : x15_1 < (t247.length : Int) := zO s3
       obtain ⟨ad250, A250_3, c250_3, e250, hx250_0, hx250_1, hx250_2, hx250_3, HC250_3, HR250_3⟩ := as_T92 (Kd.V_reads' HO_13.out).2.2 x15_1 p250 q250
       cases e250
       obtain ⟨ce250, hce250, hMe250, hcc250⟩ := Kd.V_get HO_13.out z92 x15_1 p250 q10_12
       obtain ⟨ua250_3, uc250_3, rfl, ul250_3, ge250_3⟩ := k92_openF hMe250
       have hv250_3 := hcc250 3 _ rfl
       rw [add_field _ _ 3 (by omega)] at hv250_3
       replace hv250_3 := Option.some.inj (hv250_3.symm.trans hx250_3)
       injection hv250_3 with hva_ hvn_ hvc_
       rw [hva_] at ge250_3
       rw [hvc_] at ul250_3
       have HL250_3 := zM (show Kd.V k122 122 _ w.heap.size _ _ ((rd_T92 t247 x15_1).f3) from Kd.V_mk ul250_3 ge250_3)
       clear hva_ hvn_ hvc_ ge250_3 ul250_3
       clear hcc250 hce250
       replace p250 := eq_true p250
       replace q250 := eq_true q250
       go_wp2_with (first | ((with_reducible refine gate_dst (N := 5) rfl ?_); (try (refine gate_guard (by rfl) ?_; dsimp only)); refine box_ev (N := 5) (cs := #[.int .i64 0, .int .i64 0, .int .i64 0, .slice none 0 0]) (t := 92) ?_; intro gb251 hg w30 hbox hb; have BK251 := zM (hbox); have GE251 := zM (box_ge (n := w.heap.size) hg (below_size q10_0)); have NB242_251 := zM (box_ne hg (g := gb242) q10_2); have NB251_242 := zM (box_ne' hg (g := gb242) q10_2); replace HO_13 := zM (Kd.V_below (Kd.V_elderB q10_11 gb251 (Nat.le_of_eq hg.symm)) hb); replace HL250_3 := zM (Kd.V_below (Kd.V_elderB q10_10 gb251 (Nat.le_of_eq hg.symm)) hb); replace BK242 := zM (blk_below (g := gb242) q10_2 hb); replace HR250_3 := zM (Kd.C_below q10_6 hb); replace HB := zM (below_step q10_0 hb); clear hb hbox hg; have hnb31 := NB251_242.out; have hnc31 := NB242_251.out; obtain ⟨hcz32_0, hcz32_1, hcz32_2, hcz32_3, hfz32_0, hfz32_1, hfz32_2, hfz32_3⟩ := blk4 BK251.out))
       go_roundg k1
       case measure => have := HK1.out; omega
       case rel => exact ⟨(wrap64 (x15_1 + 1)), s7, H', ⟨(by have := HK1.out; omega)⟩, ⟨q10_8⟩, ⟨q10_15⟩, ⟨q10_5⟩⟩
      rw [if_neg c25] at H
      obtain ⟨c25b0, c25b1⟩ := neb c25
      obtain rfl := Option.some.inj H
      have p250 : 0 ≤ (x15_1 : Int) := zO s3
      have q250 : x15_1 < (t247.length : Int) := zO s3
      obtain ⟨ad250, A250_3, c250_3, e250, hx250_0, hx250_1, hx250_2, hx250_3, HC250_3, HR250_3⟩ := as_T92 (Kd.V_reads' HO_13.out).2.2 x15_1 p250 q250
      cases e250
      obtain ⟨ce250, hce250, hMe250, hcc250⟩ := Kd.V_get HO_13.out z92 x15_1 p250 q10_12
      obtain ⟨ua250_3, uc250_3, rfl, ul250_3, ge250_3⟩ := k92_openF hMe250
      have hv250_3 := hcc250 3 _ rfl
      rw [add_field _ _ 3 (by omega)] at hv250_3
      replace hv250_3 := Option.some.inj (hv250_3.symm.trans hx250_3)
      injection hv250_3 with hva_ hvn_ hvc_
      rw [hva_] at ge250_3
      rw [hvc_] at ul250_3
      have HL250_3 := zM (show Kd.V k122 122 _ w.heap.size _ _ ((rd_T92 t247 x15_1).f3) from Kd.V_mk ul250_3 ge250_3)
      clear hva_ hvn_ hvc_ ge250_3 ul250_3
      clear hcc250 hce250
      replace p250 := eq_true p250
      replace q250 := eq_true q250
      go_wp2_with (first | ((with_reducible refine gate_dst (N := 5) rfl ?_); (try (refine gate_guard (by rfl) ?_; dsimp only)); refine box_ev (N := 5) (cs := #[.int .i64 0, .int .i64 0, .int .i64 0, .slice none 0 0]) (t := 92) ?_; intro gb251 hg w33 hbox hb; have BK251 := zM (hbox); have GE251 := zM (box_ge (n := w.heap.size) hg (below_size q10_0)); have NB242_251 := zM (box_ne hg (g := gb242) q10_2); have NB251_242 := zM (box_ne' hg (g := gb242) q10_2); replace HO_13 := zM (Kd.V_below (Kd.V_elderB q10_11 gb251 (Nat.le_of_eq hg.symm)) hb); replace HL250_3 := zM (Kd.V_below (Kd.V_elderB q10_10 gb251 (Nat.le_of_eq hg.symm)) hb); replace BK242 := zM (blk_below (g := gb242) q10_2 hb); replace HR250_3 := zM (Kd.C_below q10_6 hb); replace HB := zM (below_step q10_0 hb); clear hb hbox hg; have hnb34 := NB251_242.out; have hnc34 := NB242_251.out; obtain ⟨hcz35_0, hcz35_1, hcz35_2, hcz35_3, hfz35_0, hfz35_1, hfz35_2, hfz35_3⟩ := blk4 BK251.out))
      go_ret
      exact ⟨s6, q10_5⟩
     rw [if_neg c16] at H
     exact absurd H (by simp)
    rw [if_neg c15] at H
    exact absurd H (by simp)
   rw [if_neg c14] at H
   have c14b0 := decide_eq_false c14
   clear c14
   obtain rfl := Option.some.inj H
   go_wp2
   go_ret
   exact ⟨s6, q10_0⟩
 rw [if_neg c4] at H
 obtain ⟨c4b0, c4b1⟩ := neb c4
 obtain rfl := Option.some.inj H
 go_enter Tryd.func44, Tryd.ntmps44
 go_wp2_with (first | ((with_reducible refine gate_dst (N := 1) rfl ?_); (try (refine gate_guard (by rfl) ?_; dsimp only)); refine box_ev (N := 1) (cs := #[.slice A0_0 l0_0.length c0_0, .slice A0_1 l0_1.length c0_1, .slice A0_2 l0_2.length c0_2, .slice A0_3 l0_3.length c0_3]) (t := 26) ?_; intro gb242 hg w36 hbox hb; have BK242 := zM (hbox); have GE242 := zM (box_ge (n := w.heap.size) hg (below_size s8)); replace HB := zM (below_step s8 hb); clear hb hbox hg; obtain ⟨hcz37_0, hcz37_1, hcz37_2, hcz37_3, hfz37_0, hfz37_1, hfz37_2, hfz37_3⟩ := blk4 BK242.out) | ((with_reducible refine gate_callee (f := 56) rfl ?_); refine goesL_ (some 7) rfl rfl Tryd.func56 (by kernel_rfl) rfl #[.agg #[.slice A0_0 l0_0.length c0_0, .slice A0_1 l0_1.length c0_1, .slice A0_2 l0_2.length c0_2, .slice A0_3 l0_3.length c0_3]] rfl s0 ?_; (with_reducible refine (net_guards.calls k _ _ l0_0 _ _ l0_1 _ _ l0_2 _ _ l0_3 t243 _ ?side1 HC0_0.out ?side3 HC0_1.out ?side5 HC0_2.out ?side7 HC0_3.out A2.out).mono ?_); (case side1 => exact s10); (case side3 => exact s11); (case side5 => exact s12); (case side7 => exact s13); rintro e w38 ⟨v244, rfl, ho0, hb⟩; refine ⟨_, rfl, ?_⟩; have HO245 := zM (Kd.R_lower ho0 (below_size q10_0)); replace BK242 := zM (blk_below (g := gb242) q10_2 hb); replace HB := zM (below_step q10_0 hb); (try clear hb); (try clear ho0); obtain ⟨Ao39, co39, eo39⟩ := Kd.R_slice HO245.out; subst eo39) | ((with_reducible refine gate_callee (f := 59) rfl ?_); refine goesL_ (some 8) rfl rfl Tryd.func59 (by kernel_rfl) rfl #[.slice Ao39 t243.length co39] rfl s0 ?_; (with_reducible refine (net_cmps.calls k _ _ t243 t246 _ ?side1 ?side2 A3.out).mono ?_); (case side1 => exact q10_20); (case side2 => exact (Kd.R_reads' HO245.out).2.1); rintro e w40 ⟨rfl, hb⟩; refine ⟨_, rfl, ?_⟩; replace HO245 := zM (Kd.R_below q10_14 hb); replace BK242 := zM (blk_below (g := gb242) q10_2 hb); replace HB := zM (below_step q10_0 hb); (try clear hb)))
 go_ret
 exact ⟨s6, q10_0⟩

/-! ### expr_of: function 74 -/
abbrev KindT := Int × Bool × Bool × ByteArray × Int
def kindL : List KindT := [(0, false, false, ⟨#[]⟩, 0), (0, false, false, ⟨#[]⟩, 9), (0, false, false, ⟨#[]⟩, 9), (1, false, false, ⟨#[45]⟩, 6), (2, false, false, ⟨#[43]⟩, 4), (2, false, false, ⟨#[45]⟩, 4), (2, false, false, ⟨#[42]⟩, 5), (0, true, false, ⟨#[116, 114, 117, 101]⟩, 9), (2, true, false, ⟨#[60]⟩, 3), (2, true, false, ⟨#[60, 61]⟩, 3), (2, true, false, ⟨#[61, 61]⟩, 3), (2, true, false, ⟨#[33, 61]⟩, 3), (1, true, true, ⟨#[33]⟩, 9), (2, true, true, ⟨#[38, 38]⟩, 2), (2, true, true, ⟨#[124, 124]⟩, 1)]
def kindAt (a0 : Int) : KindT := kindL.getD a0.toNat (0, false, false, ⟨#[]⟩, 0)
def expr_of.f (a0 : Int) : Option (Int × Bool × Bool × ByteArray × Int × Bool) :=
  if a0 < 1 then some (0, false, false, ⟨#[]⟩, 0, false) else if a0 > 14 then some (0, false, false, ⟨#[]⟩, 0, false) else
    some ((kindAt a0).1, (kindAt a0).2.1, (kindAt a0).2.2.1, (kindAt a0).2.2.2.1, (kindAt a0).2.2.2.2, true)
theorem kind_cells {w : World} (hG : Glob w) (i : Nat) (hi : i < 15) : w.cell? ⟨3, 5 * i, none⟩ = some (.int .i64 (kindAt (i : Int)).1) ∧ w.cell? ⟨3, 5 * i + 1, none⟩ = some (.bool (kindAt (i : Int)).2.1) ∧ w.cell? ⟨3, 5 * i + 2, none⟩ = some (.bool (kindAt (i : Int)).2.2.1) ∧
    w.cell? ⟨3, 5 * i + 3, none⟩ = some (.string (kindAt (i : Int)).2.2.2.1) ∧ w.cell? ⟨3, 5 * i + 4, none⟩ = some (.int .i64 (kindAt (i : Int)).2.2.2.2) := by
  have h : ∀ j, j < 5 → w.cell? ⟨3, 5 * i + j, none⟩ = tab_gnomon_expr_kinds[5 * i + j]? := fun j hj => hG.g_tab_gnomon_expr_kinds _ (by omega)
  have h0 := h 0 (by omega)
  rw [Nat.add_zero] at h0
  rw [h0, h 1 (by omega), h 2 (by omega), h 3 (by omega), h 4 (by omega)]
  have : i = 0 ∨ i = 1 ∨ i = 2 ∨ i = 3 ∨ i = 4 ∨ i = 5 ∨ i = 6 ∨ i = 7 ∨ i = 8 ∨ i = 9 ∨ i = 10 ∨ i = 11 ∨ i = 12 ∨ i = 13 ∨ i = 14 := by omega
  rcases this with rfl | rfl | rfl | rfl | rfl | rfl | rfl | rfl | rfl | rfl | rfl | rfl | rfl | rfl | rfl <;> exact ⟨rfl, rfl, rfl, rfl, rfl⟩
set_option maxHeartbeats 4000000 in
theorem expr_of.calls (a0 : Int) (r1 : Int) (r2 r3 : Bool) (r4 : ByteArray) (r5 : Int) (r6 : Bool) (w : World) (hG : Glob w) (h : expr_of.f a0 = some (r1, r2, r3, r4, r5, r6)) :
    Calls Tryd.prog 74 #[.int .u8 a0] w fun e w' => e = .returned (.tuple #[.agg #[.int .i64 r1, .bool r2, .bool r3, .string r4, .int .i64 r5], .bool r6]) ∧ Below w.heap.size w w' := by
  have hu := Tryd.underlying124
  have HB := zM (Below.refl w.heap.size w)
  unfold expr_of.f at h
  by_cases c1 : a0 < 1
  · rw [if_pos c1] at h
    simp only [Option.some.injEq, Prod.mk.injEq] at h
    obtain ⟨rfl, rfl, rfl, rfl, rfl, rfl⟩ := h
    have e1 : decide (a0 < 1) = true := zD c1
    clear hG
    go_enter Tryd.func74, Tryd.ntmps74
    go_wp2
    refine bodyPost_ret (results_ct rfl _ _ w.heap.size 124 _ (0, 0) _ rfl (blk_new w _) Tryd.underlying124 rfl (by kernel_rfl)) rfl ?_
    exact ⟨s7, s8⟩
  · rw [if_neg c1] at h
    by_cases c2 : a0 > 14
    · rw [if_pos c2] at h
      simp only [Option.some.injEq, Prod.mk.injEq] at h
      obtain ⟨rfl, rfl, rfl, rfl, rfl, rfl⟩ := h
      have e1 : decide (a0 < 1) = false := decide_eq_false c1
      have e2 : decide (a0 > 14) = true := zD c2
      have e3 : decide (14 < a0) = true := zD c2
      clear hG
      go_enter Tryd.func74, Tryd.ntmps74
      go_wp2
      refine bodyPost_ret (results_ct rfl _ _ w.heap.size 124 _ (0, 0) _ rfl (blk_new w _) Tryd.underlying124 rfl (by kernel_rfl)) rfl ?_
      exact ⟨s7, s8⟩
    · rw [if_neg c2] at h
      simp only [Option.some.injEq, Prod.mk.injEq] at h
      obtain ⟨rfl, rfl, rfl, rfl, rfl, rfl⟩ := h
      obtain ⟨i, rfl, hi⟩ : ∃ i : Nat, a0 = (i : Int) ∧ i < 15 := ⟨a0.toNat, by omega, by omega⟩
      have hk := fun o => kind_cells (hG.alloc o) i hi
      clear hG
      have : i = 1 ∨ i = 2 ∨ i = 3 ∨ i = 4 ∨ i = 5 ∨ i = 6 ∨ i = 7 ∨ i = 8 ∨ i = 9 ∨ i = 10 ∨ i = 11 ∨ i = 12 ∨ i = 13 ∨ i = 14 := by omega
      have k0 := fun o => (hk o).1
      have k1 := fun o => (hk o).2.1
      have k2 := fun o => (hk o).2.2.1
      have k3 := fun o => (hk o).2.2.2.1
      have k4 := fun o => (hk o).2.2.2.2
      clear hk c1 c2 hi
      rcases this with rfl | rfl | rfl | rfl | rfl | rfl | rfl | rfl | rfl | rfl | rfl | rfl | rfl | rfl <;>
      · simp only [Nat.reduceMul, Nat.reduceAdd] at k0 k1 k2 k3 k4
        go_enter Tryd.func74, Tryd.ntmps74
        go_wp2
        refine bodyPost_ret (results_ct rfl _ _ w.heap.size 124 _ (0, 0) _ rfl (blk_new w _) Tryd.underlying124 rfl (by kernel_rfl)) rfl ?_
        exact ⟨s7, s8⟩


/-! ### expr_End: function 73 -/
def expr_End.l0 : Nat → List (S122) → Int → Int → Option (Int)
 | 0, _, _, _ => none
 | k + 1, x0, x1, x5 => if x5 > 0 then (if x1 ≥ (x0.length : Int) then (some 0) else (if 0 ≤ x1 then (if x1 < (x0.length : Int) then ((expr_of.f ((rd_T122 x0 x1).f0)).bind fun bt253 => (expr_End.l0 k x0 (wrap64 (x1 + 1)) (wrap64 ((wrap64 (x5 + bt253.1)) - 1)))) else (none)) else (none))) else (some x1)
def expr_End.f (k : Nat) (l0 : List (S122)) (a1 : Int) : Option (Int) := if a1 < 0 then (some 0) else (expr_End.l0 k l0 a1 1)
theorem expr_End.mono_l : ∀ k, (∀ y0 y1 y2, LeO (expr_End.l0 k y0 y1 y2) (expr_End.l0 (k + 1) y0 y1 y2))
 | 0 => fun _ _ _ r h => by simp [expr_End.l0] at h
 | k + 1 => by
  have ih0 := expr_End.mono_l k
  ·
   intro y0 y1 y2
   unfold expr_End.l0
   repeat' first | (with_reducible first | exact ih0 _ _ _ | exact LeO.refl _ | exact LeO.none _ | refine LeO.ite ?_ ?_ | refine LeO.bind ?_ (fun _ => ?_)) | exact LeO.none _ | refine LeO.ite ?_ ?_ | refine LeO.bind ?_ (fun _ => ?_)
theorem expr_End.mono : ∀ a0 a1 k, LeO (expr_End.f k a0 a1) (expr_End.f (k + 1) a0 a1) := by
 intro a0 a1 k
 have ih0 := expr_End.mono_l k
 unfold expr_End.f
 repeat' first | (with_reducible first | exact ih0 _ _ _ | exact LeO.refl _ | exact LeO.none _ | refine LeO.ite ?_ ?_ | refine LeO.bind ?_ (fun _ => ?_)) | exact LeO.none _ | refine LeO.ite ?_ ?_ | refine LeO.bind ?_ (fun _ => ?_)
set_option maxHeartbeats 8000000 in
set_option maxRecDepth 100000 in
theorem expr_End.calls (k : Nat) (A0 : Option Addr) (c0 : Nat) (l0 : List (S122)) (a1 : Int) (r : Int) (w : World) (hG : Glob w) (hr0 : Kd.C k122 w A0 l0.length l0) (hc0 : l0.length ≤ c0) (h : expr_End.f k l0 a1 = some r) :
  Calls Tryd.prog 73 #[.slice A0 l0.length c0, .int .i64 a1] w fun e w' => e = .returned (.int .i64 r) ∧ Below w.heap.size w w' := by
 have hu124 := Tryd.underlying124
 have HR0 := zM hr0
 have HC0 := zM hc0
 clear hr0 hc0
 have HGL := zM hG
 clear hG
 have HB := zM (Below.refl w.heap.size w)
 have H : (if a1 < 0 then (some 0) else (expr_End.l0 k l0 a1 1)) = some r := h
 clear h
 by_cases c3 : a1 < 0
 ·
  rw [if_pos c3] at H
  have c3b0 := zD c3
  clear c3
  obtain rfl := Option.some.inj H
  go_enter Tryd.func73, Tryd.ntmps73
  go_wp2
  go_ret
  exact ⟨s6, s8⟩
 rw [if_neg c3] at H
 have c3b0 := decide_eq_false c3
 clear c3
 have H' := zM H
 clear H
 go_enter Tryd.func73, Tryd.ntmps73
 go_wp2
 go_loopg [1, 5] k (fun kq v1 v5 w' => ∃ (x1_1 : Int) (x5_1 : Int), v1 = .int .i64 x1_1 ∧ v5 = .int .i64 x5_1 ∧ Aside0 (expr_End.l0 kq l0 x1_1 x5_1 = some r) ∧ Aside0 (kq ≤ k) ∧ Aside0 (Below w.heap.size w w'))
 case atStart => exact ⟨(a1), (1), s7, s7, H', ⟨Nat.le_refl _⟩, ⟨s8⟩⟩
 clear H'
 obtain ⟨x1_1, x5_1, rfl, rfl, HA, HK1, HB⟩ := hrel
 cases gk with
 | zero => exact absurd HA.out (by simp [expr_End.l0])
 | succ k1 =>
  have H := HA.out
  clear HA
  simp only [expr_End.l0] at H
  by_cases c4 : x5_1 > 0
  ·
   rw [if_pos c4] at H
   have c4b0 := dgt c4
   clear c4
   by_cases c5 : x1_1 ≥ (l0.length : Int)
   ·
    rw [if_pos c5] at H
    have c5b0 := dge c5
    clear c5
    obtain rfl := Option.some.inj H
    go_wp2
    go_ret
    exact ⟨s6, s8⟩
   rw [if_neg c5] at H
   have c5b0 := dnge c5
   clear c5
   by_cases c6 : 0 ≤ x1_1
   ·
    rw [if_pos c6] at H
    have c6b0 := zD c6
    clear c6
    by_cases c7 : x1_1 < (l0.length : Int)
    ·
     rw [if_pos c7] at H
     have c7b0 := zD c7
     clear c7
     replace H := Option.bind_eq_some_iff.mp H
     obtain ⟨⟨t253, t254, t255, t256, t257, t258⟩, A80, H⟩ := H
     replace H : (expr_End.l0 k1 l0 (wrap64 (x1_1 + 1)) (wrap64 ((wrap64 (x5_1 + t253)) - 1))) = some r := H
     have A8 := zM A80
     clear A80
     have H' := zM H
     clear H
     have p252 : 0 ≤ (x1_1 : Int) := zO s3
     have q252 : x1_1 < (l0.length : Int) := zO s3
     obtain ⟨ad252, e252, hx252_0, hx252_1⟩ := at_T122 HR0.out x1_1 p252 q252
     cases e252
     replace hx252_0 := cell_up HB.out hx252_0
     replace hx252_1 := cell_up HB.out hx252_1
     replace p252 := eq_true p252
     replace q252 := eq_true q252
     go_wp2_with (first | ((with_reducible refine gate_callee (f := 74) rfl ?_); refine goesL_ (some 24) rfl rfl Tryd.func74 (by kernel_rfl) rfl #[.int .u8 ((rd_T122 l0 x1_1).f0)] rfl s0 ?_; (with_reducible refine (expr_of.calls ((rd_T122 l0 x1_1).f0) t253 t254 t255 t256 t257 t258 _ ?side1 A8.out).mono ?_); (case side1 => repeat (first | exact (HGL.out.below HB.out) | (with_reducible refine Glob.alloc ?_ _) | (with_reducible refine Glob.drewN ?_ _) | (with_reducible refine Glob.drew ?_))); rintro e w9 ⟨rfl, hb⟩; refine ⟨_, rfl, ?_⟩; replace HB := zM (below_step s8 hb); (try clear hb)) | ((with_reducible refine gate_dst (N := 6) rfl ?_); refine box_ev (N := 6) (cs := #[.int .i64 0, .bool false, .bool false, .string (⟨#[]⟩ : ByteArray), .int .i64 0]) (t := 124) ?_; intro gb259 hg w10 hbox hb; have BK259 := zM (hbox); have GE259 := zM (box_ge (n := w.heap.size) hg (below_size s8)); replace HB := zM (below_step s8 hb); clear hb hbox hg; obtain ⟨hcz11_0, hcz11_1, hcz11_2, hcz11_3, hcz11_4, hfz11_0, hfz11_1, hfz11_2, hfz11_3, hfz11_4⟩ := blk5 BK259.out))
     go_roundg k1
     case measure => have := HK1.out; omega
     case rel => exact ⟨(wrap64 (x1_1 + 1)), (wrap64 ((wrap64 (x5_1 + t253)) - 1)), s7, s7, H', ⟨(by have := HK1.out; omega)⟩, ⟨(by repeat (first | (with_reducible first | exact HB.out | apply below_alloc | apply pw_below_drewN | apply below_drew1 | refine below_set ?_ GE259.out) | exact HB.out))⟩⟩
    rw [if_neg c7] at H
    exact absurd H (by simp)
   rw [if_neg c6] at H
   exact absurd H (by simp)
  rw [if_neg c4] at H
  have c4b0 := dngt c4
  clear c4
  obtain rfl := Option.some.inj H
  go_wp2
  go_ret
  exact ⟨s6, s8⟩

end Go.Proofs.YtpmhfahligjhaaaDoor.POrd
