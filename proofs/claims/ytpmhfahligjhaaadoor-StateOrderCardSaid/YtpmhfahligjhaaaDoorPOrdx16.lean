-- written by wip/tools/xprint.py (over the kit's print.py): not trusted, Lean checks it.
import Derived.Test.YtpmhfahligjhaaaDoorPOrdx0
import Derived.Test.YtpmhfahligjhaaaDoorPOrdx13
import Derived.Test.YtpmhfahligjhaaaDoorPOrdx14
-- compact
namespace Go.Proofs.YtpmhfahligjhaaaDoor.POrd
open Go.RowKit Go.Proofs.YtpmhfahligjhaaaDoorW.PrintWords Go.Proofs.YtpmhfahligjhaaaDoorW.PrintLast Go.Proofs.YtpmhfahligjhaaaDoorW.PrintMore Go.Proofs.YtpmhfahligjhaaaDoorXW
attribute [local go_sem high] Option.map_some
attribute [local go_sem] max2_int max_two
set_option linter.unusedVariables false
set_option linter.unusedSimpArgs false

theorem q16_0 {p : Prop} (h : p := by repeat (first | (with_reducible first | exact HB.out | apply below_alloc | apply pw_below_drewN | apply below_drew1 | refine below_set ?_ GE355.out) | exact HB.out)) : p := h
theorem q16_3 {p : Prop} (h : p := by (with_reducible repeat (first | refine blk_drewN ?_ _ | refine blk_drew ?_ | refine blk_alloc ?_ _)); exact BK355.out) : p := h
theorem q16_4 {p : Prop} (h : p := by (with_reducible repeat (first | refine blk_drewN ?_ _ | refine blk_drew ?_ | refine blk_alloc ?_ _)); exact BK363.out) : p := h
theorem q16_5 {p : Prop} (h : p := by repeat (first | (with_reducible first | exact HB.out | apply below_alloc | apply pw_below_drewN | apply below_drew1 | refine below_set ?_ GE363.out | refine below_set ?_ GE364.out) | exact HB.out)) : p := h
theorem q16_11 {p : Prop} (h : p := by repeat (first | (with_reducible first | exact HB.out | apply below_alloc | apply pw_below_drewN | apply below_drew1 | refine below_set ?_ GE363.out) | exact HB.out)) : p := h
theorem q16_14 {p : Prop} (h : p := by (with_reducible repeat (first | refine blk_drewN ?_ _ | refine blk_drew ?_ | refine blk_alloc ?_ _)); exact BK364.out) : p := h
/-! ### bits_Mul64: function 33 -/
def bits_Mul64.f (a0 : Int) (a1 : Int) : Option (Int × Int) := some (IntKind.u64.wrap ((IntKind.u64.wrap ((IntKind.u64.wrap ((a0 / 4294967296) * (a1 / 4294967296))) + ((IntKind.u64.wrap ((IntKind.u64.wrap ((a0 / 4294967296) * (Go.bits .and .u64 a1 4294967295))) + ((IntKind.u64.wrap ((Go.bits .and .u64 a0 4294967295) * (Go.bits .and .u64 a1 4294967295))) / 4294967296))) / 4294967296))) + ((IntKind.u64.wrap ((Go.bits .and .u64 (IntKind.u64.wrap ((IntKind.u64.wrap ((a0 / 4294967296) * (Go.bits .and .u64 a1 4294967295))) + ((IntKind.u64.wrap ((Go.bits .and .u64 a0 4294967295) * (Go.bits .and .u64 a1 4294967295))) / 4294967296))) 4294967295) + (IntKind.u64.wrap ((Go.bits .and .u64 a0 4294967295) * (a1 / 4294967296))))) / 4294967296)), IntKind.u64.wrap (a0 * a1))
set_option maxHeartbeats 8000000 in
set_option maxRecDepth 100000 in
theorem bits_Mul64.calls (a0 : Int) (a1 : Int) (r1 : Int) (r2 : Int) (w : World) (h : bits_Mul64.f a0 a1 = some (r1, r2)) :
  Calls Tryd.prog 33 #[.int .u64 a0, .int .u64 a1] w fun e w' => e = .returned (.tuple #[.int .u64 r1, .int .u64 r2]) ∧ Drawn0 w w' := by
 have H : (some (IntKind.u64.wrap ((IntKind.u64.wrap ((IntKind.u64.wrap ((a0 / 4294967296) * (a1 / 4294967296))) + ((IntKind.u64.wrap ((IntKind.u64.wrap ((a0 / 4294967296) * (Go.bits .and .u64 a1 4294967295))) + ((IntKind.u64.wrap ((Go.bits .and .u64 a0 4294967295) * (Go.bits .and .u64 a1 4294967295))) / 4294967296))) / 4294967296))) + ((IntKind.u64.wrap ((Go.bits .and .u64 (IntKind.u64.wrap ((IntKind.u64.wrap ((a0 / 4294967296) * (Go.bits .and .u64 a1 4294967295))) + ((IntKind.u64.wrap ((Go.bits .and .u64 a0 4294967295) * (Go.bits .and .u64 a1 4294967295))) / 4294967296))) 4294967295) + (IntKind.u64.wrap ((Go.bits .and .u64 a0 4294967295) * (a1 / 4294967296))))) / 4294967296)), IntKind.u64.wrap (a0 * a1))) = some (r1, r2) := h
 clear h
 simp only [Option.some.injEq, Prod.mk.injEq] at H
 obtain ⟨rfl, rfl⟩ := H
 go_enter Tryd.func33, Tryd.ntmps33
 go_wp2
 go_ret2
 exact ⟨s7, s16⟩

/-! ### state_times: function 22 -/
def state_times.f (a0 : Int) (a1 : Int) : Option (Int) := (bits_Mul64.f (IntKind.u64.wrap (a0)) (IntKind.u64.wrap (a1))).bind fun bt353 => (if bt353.1 = 0 then (if bt353.2 > 9223372036854775807 then (some 9223372036854775807) else (some (wrap64 (bt353.2)))) else (some 9223372036854775807))
set_option maxHeartbeats 8000000 in
set_option maxRecDepth 100000 in
theorem state_times.calls (a0 : Int) (a1 : Int) (r : Int) (w : World) (h : state_times.f a0 a1 = some r) :
  Calls Tryd.prog 22 #[.int .i64 a0, .int .i64 a1] w fun e w' => e = .returned (.int .i64 r) ∧ Drawn0 w w' := by
 have H : ((bits_Mul64.f (IntKind.u64.wrap (a0)) (IntKind.u64.wrap (a1))).bind fun bt353 => (if bt353.1 = 0 then (if bt353.2 > 9223372036854775807 then (some 9223372036854775807) else (some (wrap64 (bt353.2)))) else (some 9223372036854775807))) = some r := h
 clear h
 replace H := Option.bind_eq_some_iff.mp H
 obtain ⟨⟨t353, t354⟩, A30, H⟩ := H
 replace H : (if t353 = 0 then (if t354 > 9223372036854775807 then (some 9223372036854775807) else (some (wrap64 (t354)))) else (some 9223372036854775807)) = some r := H
 have A3 := zM A30
 clear A30
 by_cases c4 : t353 = 0
 ·
  rw [if_pos c4] at H
  obtain ⟨c4b0, c4b1⟩ := eqb c4
  clear c4
  by_cases c5 : t354 > 9223372036854775807
  ·
   rw [if_pos c5] at H
   have c5b0 := dgt c5
   clear c5
   obtain rfl := Option.some.inj H
   go_enter Tryd.func22, Tryd.ntmps22
   go_wp2_with (first | ((with_reducible refine gate_callee (f := 33) rfl ?_); refine goesL_ (some 12) rfl rfl Tryd.func33 (by kernel_rfl) rfl #[.int .u64 (IntKind.u64.wrap (a0)), .int .u64 (IntKind.u64.wrap (a1))] rfl s0 ?_; (with_reducible refine (bits_Mul64.calls (IntKind.u64.wrap (a0)) (IntKind.u64.wrap (a1)) t353 t354 _ A3.out).mono ?_); rintro e w' ⟨rfl, ⟨nd, rfl⟩⟩; refine ⟨_, rfl, ?_⟩))
   go_ret
   exact ⟨s7, s16⟩
  rw [if_neg c5] at H
  have c5b0 := dngt c5
  clear c5
  obtain rfl := Option.some.inj H
  go_enter Tryd.func22, Tryd.ntmps22
  go_wp2_with (first | ((with_reducible refine gate_callee (f := 33) rfl ?_); refine goesL_ (some 12) rfl rfl Tryd.func33 (by kernel_rfl) rfl #[.int .u64 (IntKind.u64.wrap (a0)), .int .u64 (IntKind.u64.wrap (a1))] rfl s0 ?_; (with_reducible refine (bits_Mul64.calls (IntKind.u64.wrap (a0)) (IntKind.u64.wrap (a1)) t353 t354 _ A3.out).mono ?_); rintro e w' ⟨rfl, ⟨nd, rfl⟩⟩; refine ⟨_, rfl, ?_⟩))
  go_ret
  exact ⟨s7, s16⟩
 rw [if_neg c4] at H
 obtain ⟨c4b0, c4b1⟩ := neb c4
 obtain rfl := Option.some.inj H
 go_enter Tryd.func22, Tryd.ntmps22
 go_wp2_with (first | ((with_reducible refine gate_callee (f := 33) rfl ?_); refine goesL_ (some 12) rfl rfl Tryd.func33 (by kernel_rfl) rfl #[.int .u64 (IntKind.u64.wrap (a0)), .int .u64 (IntKind.u64.wrap (a1))] rfl s0 ?_; (with_reducible refine (bits_Mul64.calls (IntKind.u64.wrap (a0)) (IntKind.u64.wrap (a1)) t353 t354 _ A3.out).mono ?_); rintro e w' ⟨rfl, ⟨nd, rfl⟩⟩; refine ⟨_, rfl, ?_⟩))
 go_ret
 exact ⟨s7, s16⟩

/-! ### state_Count: function 14 -/
mutual
def state_Count.l0 : Nat → Int → List (S61) → Int → Int → List ByteArray → List (S50) → List ByteArray → List (S61) → Option (Int)
 | 0, _, _, _, _, _, _, _, _ => none
 | k + 1, x3, x12, x13, x14, x356000, x356001, x356002, x356003 => if x14 < x13 then (if 0 ≤ x14 then (if x14 < (x12.length : Int) then ((state_times.f x3 (((rd_T61 x12 x14).f1).length : Int)).bind fun t359 => (state_Count.l0 k t359 x12 x13 (wrap64 (x14 + 1)) x356000 x356001 x356002 x356003)) else (none)) else (none)) else (state_Count.l1 k x3 x356001 (x356001.length : Int) 0)
def state_Count.l1 : Nat → Int → List (S50) → Int → Int → Option (Int)
 | 0, _, _, _, _ => none
 | k + 1, x3, x25, x26, x27 => if x27 < x26 then (if 0 ≤ x27 then (if x27 < (x25.length : Int) then ((state_times.f x3 (wrap64 ((wrap64 (((rd_T50 x25 x27).f2) - ((rd_T50 x25 x27).f1))) + 1))).bind fun t362 => (state_Count.l1 k t362 x25 x26 (wrap64 (x27 + 1)))) else (none)) else (none)) else (some x3)
end
def state_Count.f (k : Nat) (l0_0 : List ByteArray) (l0_1 : List (S50)) (l0_2 : List ByteArray) (l0_3 : List (S61)) : Option (Int) := (net_Right.f k l0_0 l0_1 l0_2 l0_3).bind fun t356 => (if t356 = true then (state_Count.l0 k 1 l0_3 (l0_3.length : Int) 0 l0_0 l0_1 l0_2 l0_3) else (some 0))
theorem state_Count.mono_l : ∀ k, (∀ y0 y1 y2 y3 y4 y5 y6 y7, LeO (state_Count.l0 k y0 y1 y2 y3 y4 y5 y6 y7) (state_Count.l0 (k + 1) y0 y1 y2 y3 y4 y5 y6 y7)) ∧ (∀ y0 y1 y2 y3, LeO (state_Count.l1 k y0 y1 y2 y3) (state_Count.l1 (k + 1) y0 y1 y2 y3))
 | 0 => ⟨fun _ _ _ _ _ _ _ _ r h => by simp [state_Count.l0] at h, fun _ _ _ _ r h => by simp [state_Count.l1] at h⟩
 | k + 1 => by
  obtain ⟨ih0, ih1⟩ := state_Count.mono_l k
  refine ⟨?_, ?_⟩
  all_goals intros
  all_goals first | unfold state_Count.l0 | unfold state_Count.l1
  all_goals repeat' first | (with_reducible first | exact ih0 _ _ _ _ _ _ _ _ | exact ih1 _ _ _ _ | exact net_Right.mono _ _ _ _ _ | exact LeO.refl _ | exact LeO.none _ | refine LeO.ite ?_ ?_ | refine LeO.bind ?_ (fun _ => ?_)) | exact LeO.none _ | refine LeO.ite ?_ ?_ | refine LeO.bind ?_ (fun _ => ?_)
theorem state_Count.mono : ∀ a0 a1 a2 a3 k, LeO (state_Count.f k a0 a1 a2 a3) (state_Count.f (k + 1) a0 a1 a2 a3) := by
 intro a0 a1 a2 a3 k
 obtain ⟨ih0, ih1⟩ := state_Count.mono_l k
 unfold state_Count.f
 repeat' first | (with_reducible first | exact ih0 _ _ _ _ _ _ _ _ | exact ih1 _ _ _ _ | exact net_Right.mono _ _ _ _ _ | exact LeO.refl _ | exact LeO.none _ | refine LeO.ite ?_ ?_ | refine LeO.bind ?_ (fun _ => ?_)) | exact LeO.none _ | refine LeO.ite ?_ ?_ | refine LeO.bind ?_ (fun _ => ?_)
set_option maxHeartbeats 8000000 in
set_option maxRecDepth 100000 in
theorem state_Count.calls (k : Nat) (A0_0 : Option Addr) (c0_0 : Nat) (l0_0 : List ByteArray) (A0_1 : Option Addr) (c0_1 : Nat) (l0_1 : List (S50)) (A0_2 : Option Addr) (c0_2 : Nat) (l0_2 : List ByteArray) (A0_3 : Option Addr) (c0_3 : Nat) (l0_3 : List (S61)) (r : Int) (w : World) (hG : Glob w) (hr0_0 : Kd.C Kd.string w A0_0 l0_0.length l0_0) (hc0_0 : l0_0.length ≤ c0_0) (hr0_1 : Kd.C k50 w A0_1 l0_1.length l0_1) (hc0_1 : l0_1.length ≤ c0_1) (hr0_2 : Kd.C Kd.string w A0_2 l0_2.length l0_2) (hc0_2 : l0_2.length ≤ c0_2) (hr0_3 : Kd.C k61 w A0_3 l0_3.length l0_3) (hc0_3 : l0_3.length ≤ c0_3) (h : state_Count.f k l0_0 l0_1 l0_2 l0_3 = some r) :
  Calls Tryd.prog 14 #[.agg #[.slice A0_0 l0_0.length c0_0, .slice A0_1 l0_1.length c0_1, .slice A0_2 l0_2.length c0_2, .slice A0_3 l0_3.length c0_3]] w fun e w' => e = .returned (.int .i64 r) ∧ Below w.heap.size w w' := by
 have hu26 := Tryd.underlying26
 have hu61 := Tryd.underlying61
 have hu50 := Tryd.underlying50
 have HR0_0 := zM hr0_0
 have HC0_0 := zM hc0_0
 clear hr0_0 hc0_0
 have HR0_1 := zM hr0_1
 have HC0_1 := zM hc0_1
 clear hr0_1 hc0_1
 have HR0_2 := zM hr0_2
 have HC0_2 := zM hc0_2
 clear hr0_2 hc0_2
 have HR0_3 := zM hr0_3
 have HC0_3 := zM hc0_3
 clear hr0_3 hc0_3
 have HGL := zM hG
 clear hG
 have HB := zM (Below.refl w.heap.size w)
 have H : ((net_Right.f k l0_0 l0_1 l0_2 l0_3).bind fun t356 => (if t356 = true then (state_Count.l0 k 1 l0_3 (l0_3.length : Int) 0 l0_0 l0_1 l0_2 l0_3) else (some 0))) = some r := h
 clear h
 replace H := Option.bind_eq_some_iff.mp H
 obtain ⟨t356, A20, H⟩ := H
 replace H : (if t356 = true then (state_Count.l0 k 1 l0_3 (l0_3.length : Int) 0 l0_0 l0_1 l0_2 l0_3) else (some 0)) = some r := H
 have A2 := zM A20
 clear A20
 by_cases c3 : t356 = true
 ·
  subst c3
  have H1 : (state_Count.l0 k 1 l0_3 (l0_3.length : Int) 0 l0_0 l0_1 l0_2 l0_3) = some r := by rw [if_pos rfl] at H; exact H
  clear H
  have H := H1
  clear H1
  have H' := zM H
  clear H
  go_enter Tryd.func14, Tryd.ntmps14
  go_wp2_with (first | ((with_reducible refine gate_dst (N := 1) rfl ?_); refine box_ev (N := 1) (cs := #[.slice A0_0 l0_0.length c0_0, .slice A0_1 l0_1.length c0_1, .slice A0_2 l0_2.length c0_2, .slice A0_3 l0_3.length c0_3]) (t := 26) ?_; intro gb355 hg w4 hbox hb; have BK355 := zM (hbox); have GE355 := zM (box_ge (n := w.heap.size) hg (below_size s8)); replace HB := zM (below_step s8 hb); clear hb hbox hg; obtain ⟨hcz5_0, hcz5_1, hcz5_2, hcz5_3, hfz5_0, hfz5_1, hfz5_2, hfz5_3⟩ := blk4 BK355.out) | ((with_reducible refine gate_callee (f := 19) rfl ?_); refine goesL_ (some 9) rfl rfl Tryd.func19 (by kernel_rfl) rfl #[.agg #[.slice A0_0 l0_0.length c0_0, .slice A0_1 l0_1.length c0_1, .slice A0_2 l0_2.length c0_2, .slice A0_3 l0_3.length c0_3]] rfl s0 ?_; (with_reducible refine (net_Right.calls k _ _ l0_0 _ _ l0_1 _ _ l0_2 _ _ l0_3 true _ ?side9 ?side1 HC0_0.out ?side3 HC0_1.out ?side5 HC0_2.out ?side7 HC0_3.out A2.out).mono ?_); (case side1 => exact s10); (case side3 => exact s11); (case side5 => exact s12); (case side7 => exact s13); (case side9 => exact s9); rintro e w6 ⟨rfl, hb⟩; refine ⟨_, rfl, ?_⟩; replace BK355 := zM (blk_below (g := gb355) q16_3 hb); replace HB := zM (below_step q16_0 hb); (try clear hb); obtain ⟨hcz7_0, hcz7_1, hcz7_2, hcz7_3, hfz7_0, hfz7_1, hfz7_2, hfz7_3⟩ := blk4 BK355.out))
  go_loopg [3, 14] k (fun kq v3 v14 w' => ∃ (x3_1 : Int) (x14_1 : Int), v3 = .int .i64 x3_1 ∧ v14 = .int .i64 x14_1 ∧ Aside0 (state_Count.l0 kq x3_1 l0_3 (l0_3.length : Int) x14_1 l0_0 l0_1 l0_2 l0_3 = some r) ∧ Aside0 (kq ≤ k) ∧ Aside0 (w'.heap[gb355]? = some (.cells #[(.slice A0_0 l0_0.length c0_0), (.slice A0_1 l0_1.length c0_1), (.slice A0_2 l0_2.length c0_2), (.slice A0_3 l0_3.length c0_3)] 26 (0, 0))) ∧ Aside0 (Below w.heap.size w w'))
  case atStart => exact ⟨(1), (0), s7, s7, H', ⟨Nat.le_refl _⟩, ⟨q16_3⟩, ⟨q16_0⟩⟩
  clear H'
  obtain ⟨x3_1, x14_1, rfl, rfl, HA, HK1, BK355, HB⟩ := hrel
  cases gk with
  | zero => exact absurd HA.out (by simp [state_Count.l0])
  | succ k1 =>
   have H := HA.out
   clear HA
   simp only [state_Count.l0] at H
   by_cases c8 : x14_1 < (l0_3.length : Int)
   ·
    rw [if_pos c8] at H
    have c8b0 := zD c8
    clear c8
    by_cases c9 : 0 ≤ x14_1
    ·
     rw [if_pos c9] at H
     have c9b0 := zD c9
     clear c9
     by_cases c10 : x14_1 < (l0_3.length : Int)
     ·
      rw [if_pos c10] at H
      have c10b0 := zD c10
      clear c10
      replace H := Option.bind_eq_some_iff.mp H
      obtain ⟨t359, A110, H⟩ := H
      replace H : (state_Count.l0 k1 t359 l0_3 (l0_3.length : Int) (wrap64 (x14_1 + 1)) l0_0 l0_1 l0_2 l0_3) = some r := H
      have A11 := zM A110
      clear A110
      have H' := zM H
      clear H
      have p357 : 0 ≤ (x14_1 : Int) := zO s3
      have q357 : x14_1 < (l0_3.length : Int) := zO s3
      obtain ⟨ad357, A357_1, c357_1, A357_2, c357_2, e357, hx357_0, hx357_1, hx357_2, HC357_1, HR357_1, HC357_2, HR357_2⟩ := as_T61 HR0_3.out x14_1 p357 q357
      cases e357
      replace hx357_0 := cell_up HB.out hx357_0
      replace hx357_1 := cell_up HB.out hx357_1
      replace hx357_2 := cell_up HB.out hx357_2
      replace p357 := eq_true p357
      replace q357 := eq_true q357
      go_wp2_with (first | ((with_reducible refine gate_dst (N := 5) rfl ?_); refine box_ev (N := 5) (cs := #[.string (⟨#[]⟩ : ByteArray), .slice none 0 0, .slice none 0 0]) (t := 61) ?_; intro gb358 hg w12 hbox hb; have BK358 := zM (hbox); have GE358 := zM (box_ge (n := w.heap.size) hg (below_size q16_0)); have NB355_358 := zM (box_ne hg (g := gb355) q16_3); have NB358_355 := zM (box_ne' hg (g := gb355) q16_3); replace BK355 := zM (blk_below (g := gb355) q16_3 hb); replace HB := zM (below_step q16_0 hb); clear hb hbox hg; have hnb13 := NB358_355.out; have hnc13 := NB355_358.out; obtain ⟨hcz14_0, hcz14_1, hcz14_2, hfz14_0, hfz14_1, hfz14_2⟩ := blk3 BK358.out) | ((with_reducible refine gate_callee (f := 22) rfl ?_); refine goesL_ (some 22) rfl rfl Tryd.func22 (by kernel_rfl) rfl #[.int .i64 x3_1, .int .i64 (((rd_T61 l0_3 x14_1).f1).length : Int)] rfl s0 ?_; (with_reducible refine (state_times.calls x3_1 (((rd_T61 l0_3 x14_1).f1).length : Int) t359 _ A11.out).mono ?_); rintro e w' ⟨rfl, ⟨nd, rfl⟩⟩; refine ⟨_, rfl, ?_⟩))
      go_roundg k1
      case measure => have := HK1.out; omega
      case rel => exact ⟨(t359), (wrap64 (x14_1 + 1)), s7, s7, H', ⟨(by have := HK1.out; omega)⟩, ⟨(by (iterate 3 ((with_reducible repeat (first | refine blk_drewN ?_ _ | refine blk_drew ?_ | refine blk_alloc ?_ _)); refine blk_far ?_ NB355_358.out _)); (with_reducible repeat (first | refine blk_drewN ?_ _ | refine blk_drew ?_ | refine blk_alloc ?_ _)); exact BK355.out)⟩, ⟨(by repeat (first | (with_reducible first | exact HB.out | apply below_alloc | apply pw_below_drewN | apply below_drew1 | refine below_set ?_ GE355.out | refine below_set ?_ GE358.out) | exact HB.out))⟩⟩
     rw [if_neg c10] at H
     exact absurd H (by simp)
    rw [if_neg c9] at H
    exact absurd H (by simp)
   rw [if_neg c8] at H
   have c8b0 := decide_eq_false c8
   clear c8
   have H' := zM H
   clear H
   obtain ⟨hcz15_0, hcz15_1, hcz15_2, hcz15_3, hfz15_0, hfz15_1, hfz15_2, hfz15_3⟩ := blk4 BK355.out
   go_wp2
   go_loopg [3, 27] k1 (fun kq v3 v27 w' => ∃ (x3_2 : Int) (x27_2 : Int), v3 = .int .i64 x3_2 ∧ v27 = .int .i64 x27_2 ∧ Aside0 (state_Count.l1 kq x3_2 l0_1 (l0_1.length : Int) x27_2 = some r) ∧ Aside0 (kq ≤ k1) ∧ Aside0 (w'.heap[gb355]? = some (.cells #[(.slice A0_0 l0_0.length c0_0), (.slice A0_1 l0_1.length c0_1), (.slice A0_2 l0_2.length c0_2), (.slice A0_3 l0_3.length c0_3)] 26 (0, 0))) ∧ Aside0 (Below w.heap.size w w'))
   case atStart => exact ⟨(x3_1), (0), s7, s7, H', ⟨Nat.le_refl _⟩, ⟨q16_3⟩, ⟨q16_0⟩⟩
   clear H'
   obtain ⟨x3_2, x27_2, rfl, rfl, HA, HK2, BK355, HB⟩ := hrel
   cases gk with
   | zero => exact absurd HA.out (by simp [state_Count.l1])
   | succ k2 =>
    have H := HA.out
    clear HA
    simp only [state_Count.l1] at H
    by_cases c16 : x27_2 < (l0_1.length : Int)
    ·
     rw [if_pos c16] at H
     have c16b0 := zD c16
     clear c16
     by_cases c17 : 0 ≤ x27_2
     ·
      rw [if_pos c17] at H
      have c17b0 := zD c17
      clear c17
      by_cases c18 : x27_2 < (l0_1.length : Int)
      ·
       rw [if_pos c18] at H
       have c18b0 := zD c18
       clear c18
       replace H := Option.bind_eq_some_iff.mp H
       obtain ⟨t362, A190, H⟩ := H
       replace H : (state_Count.l1 k2 t362 l0_1 (l0_1.length : Int) (wrap64 (x27_2 + 1))) = some r := H
       have A19 := zM A190
       clear A190
       have H' := zM H
       clear H
       have p360 : 0 ≤ (x27_2 : Int) := zO s3
       have q360 : x27_2 < (l0_1.length : Int) := zO s3
       obtain ⟨ad360, e360, hx360_0, hx360_1, hx360_2, hx360_3⟩ := at_T50 HR0_1.out x27_2 p360 q360
       cases e360
       replace hx360_0 := cell_up HB.out hx360_0
       replace hx360_1 := cell_up HB.out hx360_1
       replace hx360_2 := cell_up HB.out hx360_2
       replace hx360_3 := cell_up HB.out hx360_3
       replace p360 := eq_true p360
       replace q360 := eq_true q360
       go_wp2_with (first | ((with_reducible refine gate_dst (N := 7) rfl ?_); refine box_ev (N := 7) (cs := #[.string (⟨#[]⟩ : ByteArray), .int .i64 0, .int .i64 0, .int .i64 0]) (t := 50) ?_; intro gb361 hg w20 hbox hb; have BK361 := zM (hbox); have GE361 := zM (box_ge (n := w.heap.size) hg (below_size q16_0)); have NB355_361 := zM (box_ne hg (g := gb355) q16_3); have NB361_355 := zM (box_ne' hg (g := gb355) q16_3); replace BK355 := zM (blk_below (g := gb355) q16_3 hb); replace HB := zM (below_step q16_0 hb); clear hb hbox hg; have hnb21 := NB361_355.out; have hnc21 := NB355_361.out; obtain ⟨hcz22_0, hcz22_1, hcz22_2, hcz22_3, hfz22_0, hfz22_1, hfz22_2, hfz22_3⟩ := blk4 BK361.out) | ((with_reducible refine gate_callee (f := 22) rfl ?_); refine goesL_ (some 38) rfl rfl Tryd.func22 (by kernel_rfl) rfl #[.int .i64 x3_2, .int .i64 (wrap64 ((wrap64 (((rd_T50 l0_1 x27_2).f2) - ((rd_T50 l0_1 x27_2).f1))) + 1))] rfl s0 ?_; (with_reducible refine (state_times.calls x3_2 (wrap64 ((wrap64 (((rd_T50 l0_1 x27_2).f2) - ((rd_T50 l0_1 x27_2).f1))) + 1)) t362 _ A19.out).mono ?_); rintro e w' ⟨rfl, ⟨nd, rfl⟩⟩; refine ⟨_, rfl, ?_⟩))
       go_roundg k2
       case measure => have := HK1.out; have := HK2.out; omega
       case rel => exact ⟨(t362), (wrap64 (x27_2 + 1)), s7, s7, H', ⟨(by have := HK1.out; have := HK2.out; omega)⟩, ⟨(by (iterate 4 ((with_reducible repeat (first | refine blk_drewN ?_ _ | refine blk_drew ?_ | refine blk_alloc ?_ _)); refine blk_far ?_ NB355_361.out _)); (with_reducible repeat (first | refine blk_drewN ?_ _ | refine blk_drew ?_ | refine blk_alloc ?_ _)); exact BK355.out)⟩, ⟨(by repeat (first | (with_reducible first | exact HB.out | apply below_alloc | apply pw_below_drewN | apply below_drew1 | refine below_set ?_ GE355.out | refine below_set ?_ GE361.out) | exact HB.out))⟩⟩
      rw [if_neg c18] at H
      exact absurd H (by simp)
     rw [if_neg c17] at H
     exact absurd H (by simp)
    rw [if_neg c16] at H
    have c16b0 := decide_eq_false c16
    clear c16
    obtain rfl := Option.some.inj H
    go_wp2
    go_ret
    exact ⟨s6, q16_0⟩
 replace c3 := Bool.eq_false_iff.mpr c3
 subst c3
 have H1 : (some 0) = some r := by rw [if_neg (show ¬ (false = true) by decide)] at H; exact H
 clear H
 have H := H1
 clear H1
 obtain rfl := Option.some.inj H
 go_enter Tryd.func14, Tryd.ntmps14
 go_wp2_with (first | ((with_reducible refine gate_dst (N := 1) rfl ?_); refine box_ev (N := 1) (cs := #[.slice A0_0 l0_0.length c0_0, .slice A0_1 l0_1.length c0_1, .slice A0_2 l0_2.length c0_2, .slice A0_3 l0_3.length c0_3]) (t := 26) ?_; intro gb355 hg w23 hbox hb; have BK355 := zM (hbox); have GE355 := zM (box_ge (n := w.heap.size) hg (below_size s8)); replace HB := zM (below_step s8 hb); clear hb hbox hg; obtain ⟨hcz24_0, hcz24_1, hcz24_2, hcz24_3, hfz24_0, hfz24_1, hfz24_2, hfz24_3⟩ := blk4 BK355.out) | ((with_reducible refine gate_callee (f := 19) rfl ?_); refine goesL_ (some 9) rfl rfl Tryd.func19 (by kernel_rfl) rfl #[.agg #[.slice A0_0 l0_0.length c0_0, .slice A0_1 l0_1.length c0_1, .slice A0_2 l0_2.length c0_2, .slice A0_3 l0_3.length c0_3]] rfl s0 ?_; (with_reducible refine (net_Right.calls k _ _ l0_0 _ _ l0_1 _ _ l0_2 _ _ l0_3 false _ ?side9 ?side1 HC0_0.out ?side3 HC0_1.out ?side5 HC0_2.out ?side7 HC0_3.out A2.out).mono ?_); (case side1 => exact s10); (case side3 => exact s11); (case side5 => exact s12); (case side7 => exact s13); (case side9 => exact s9); rintro e w25 ⟨rfl, hb⟩; refine ⟨_, rfl, ?_⟩; replace BK355 := zM (blk_below (g := gb355) q16_3 hb); replace HB := zM (below_step q16_0 hb); (try clear hb)))
 go_ret
 exact ⟨s6, q16_0⟩

/-! ### state_Right: function 24 -/
def state_Right.f (k : Nat) (l0_0 : List ByteArray) (l0_1 : List (S50)) (l0_2 : List ByteArray) (l0_3 : List (S61)) (l1_0 : List Int) (l1_1 : List Int) : Option (Bool) := (net_Right.f k l0_0 l0_1 l0_2 l0_3).bind fun t365 => (if t365 = true then ((state_is.f k l0_0 l0_1 l0_2 l0_3 l1_0 l1_1).bind fun t366 => (some t366)) else (some false))
theorem state_Right.mono : ∀ a0 a1 a2 a3 a4 a5 k, LeO (state_Right.f k a0 a1 a2 a3 a4 a5) (state_Right.f (k + 1) a0 a1 a2 a3 a4 a5) := by
 intro a0 a1 a2 a3 a4 a5 k
 unfold state_Right.f
 repeat' first | (with_reducible first | exact net_Right.mono _ _ _ _ _ | exact state_is.mono _ _ _ _ _ _ _ | exact LeO.refl _ | exact LeO.none _ | refine LeO.ite ?_ ?_ | refine LeO.bind ?_ (fun _ => ?_)) | exact LeO.none _ | refine LeO.ite ?_ ?_ | refine LeO.bind ?_ (fun _ => ?_)
set_option maxHeartbeats 8000000 in
set_option maxRecDepth 100000 in
theorem state_Right.calls (k : Nat) (A0_0 : Option Addr) (c0_0 : Nat) (l0_0 : List ByteArray) (A0_1 : Option Addr) (c0_1 : Nat) (l0_1 : List (S50)) (A0_2 : Option Addr) (c0_2 : Nat) (l0_2 : List ByteArray) (A0_3 : Option Addr) (c0_3 : Nat) (l0_3 : List (S61)) (A1_0 : Option Addr) (c1_0 : Nat) (l1_0 : List Int) (A1_1 : Option Addr) (c1_1 : Nat) (l1_1 : List Int) (r : Bool) (w : World) (hG : Glob w) (hr0_0 : Kd.C Kd.string w A0_0 l0_0.length l0_0) (hc0_0 : l0_0.length ≤ c0_0) (hr0_1 : Kd.C k50 w A0_1 l0_1.length l0_1) (hc0_1 : l0_1.length ≤ c0_1) (hr0_2 : Kd.C Kd.string w A0_2 l0_2.length l0_2) (hc0_2 : l0_2.length ≤ c0_2) (hr0_3 : Kd.C k61 w A0_3 l0_3.length l0_3) (hc0_3 : l0_3.length ≤ c0_3) (hr1_0 : Kd.C (Kd.int .i64) w A1_0 l1_0.length l1_0) (hc1_0 : l1_0.length ≤ c1_0) (hr1_1 : Kd.C (Kd.int .i64) w A1_1 l1_1.length l1_1) (hc1_1 : l1_1.length ≤ c1_1) (h : state_Right.f k l0_0 l0_1 l0_2 l0_3 l1_0 l1_1 = some r) :
  Calls Tryd.prog 24 #[.agg #[.slice A0_0 l0_0.length c0_0, .slice A0_1 l0_1.length c0_1, .slice A0_2 l0_2.length c0_2, .slice A0_3 l0_3.length c0_3], .agg #[.slice A1_0 l1_0.length c1_0, .slice A1_1 l1_1.length c1_1]] w fun e w' => e = .returned (.bool r) ∧ Below w.heap.size w w' := by
 have hu26 := Tryd.underlying26
 have hu29 := Tryd.underlying29
 have HR0_0 := zM hr0_0
 have HC0_0 := zM hc0_0
 clear hr0_0 hc0_0
 have HR0_1 := zM hr0_1
 have HC0_1 := zM hc0_1
 clear hr0_1 hc0_1
 have HR0_2 := zM hr0_2
 have HC0_2 := zM hc0_2
 clear hr0_2 hc0_2
 have HR0_3 := zM hr0_3
 have HC0_3 := zM hc0_3
 clear hr0_3 hc0_3
 have HR1_0 := zM hr1_0
 have HC1_0 := zM hc1_0
 clear hr1_0 hc1_0
 have HR1_1 := zM hr1_1
 have HC1_1 := zM hc1_1
 clear hr1_1 hc1_1
 have HGL := zM hG
 clear hG
 have HB := zM (Below.refl w.heap.size w)
 have H : ((net_Right.f k l0_0 l0_1 l0_2 l0_3).bind fun t365 => (if t365 = true then ((state_is.f k l0_0 l0_1 l0_2 l0_3 l1_0 l1_1).bind fun t366 => (some t366)) else (some false))) = some r := h
 clear h
 replace H := Option.bind_eq_some_iff.mp H
 obtain ⟨t365, A30, H⟩ := H
 replace H : (if t365 = true then ((state_is.f k l0_0 l0_1 l0_2 l0_3 l1_0 l1_1).bind fun t366 => (some t366)) else (some false)) = some r := H
 have A3 := zM A30
 clear A30
 by_cases c4 : t365 = true
 ·
  subst c4
  have H1 : ((state_is.f k l0_0 l0_1 l0_2 l0_3 l1_0 l1_1).bind fun t366 => (some t366)) = some r := by rw [if_pos rfl] at H; exact H
  clear H
  have H := H1
  clear H1
  replace H := Option.bind_eq_some_iff.mp H
  obtain ⟨t366, A50, H⟩ := H
  replace H : (some t366) = some r := H
  have A5 := zM A50
  clear A50
  obtain rfl := Option.some.inj H
  go_enter Tryd.func24, Tryd.ntmps24
  go_wp2_with (first | ((with_reducible refine gate_dst (N := 2) rfl ?_); refine box_ev (N := 2) (cs := #[.slice A0_0 l0_0.length c0_0, .slice A0_1 l0_1.length c0_1, .slice A0_2 l0_2.length c0_2, .slice A0_3 l0_3.length c0_3]) (t := 26) ?_; intro gb363 hg w6 hbox hb; have BK363 := zM (hbox); have GE363 := zM (box_ge (n := w.heap.size) hg (below_size s8)); replace HB := zM (below_step s8 hb); clear hb hbox hg) | ((with_reducible refine gate_dst (N := 3) rfl ?_); refine box_ev (N := 3) (cs := #[.slice A1_0 l1_0.length c1_0, .slice A1_1 l1_1.length c1_1]) (t := 29) ?_; intro gb364 hg w7 hbox hb; have BK364 := zM (hbox); have GE364 := zM (box_ge (n := w.heap.size) hg (below_size q16_11)); have NB363_364 := zM (box_ne hg (g := gb363) q16_4); have NB364_363 := zM (box_ne' hg (g := gb363) q16_4); replace BK363 := zM (blk_below (g := gb363) q16_4 hb); replace HB := zM (below_step q16_11 hb); clear hb hbox hg; have hnb8 := NB363_364.out; have hnc8 := NB364_363.out; obtain ⟨hcz9_0, hcz9_1, hcz9_2, hcz9_3, hfz9_0, hfz9_1, hfz9_2, hfz9_3⟩ := blk4 BK363.out) | ((with_reducible refine gate_callee (f := 19) rfl ?_); refine goesL_ (some 6) rfl rfl Tryd.func19 (by kernel_rfl) rfl #[.agg #[.slice A0_0 l0_0.length c0_0, .slice A0_1 l0_1.length c0_1, .slice A0_2 l0_2.length c0_2, .slice A0_3 l0_3.length c0_3]] rfl s0 ?_; (with_reducible refine (net_Right.calls k _ _ l0_0 _ _ l0_1 _ _ l0_2 _ _ l0_3 true _ ?side9 ?side1 HC0_0.out ?side3 HC0_1.out ?side5 HC0_2.out ?side7 HC0_3.out A3.out).mono ?_); (case side1 => exact s10); (case side3 => exact s11); (case side5 => exact s12); (case side7 => exact s13); (case side9 => exact s9); rintro e w10 ⟨rfl, hb⟩; refine ⟨_, rfl, ?_⟩; replace BK363 := zM (blk_below (g := gb363) q16_4 hb); replace BK364 := zM (blk_below (g := gb364) q16_14 hb); replace HB := zM (below_step q16_5 hb); (try clear hb); obtain ⟨hcz11_0, hcz11_1, hcz11_2, hcz11_3, hfz11_0, hfz11_1, hfz11_2, hfz11_3⟩ := blk4 BK363.out; obtain ⟨hcz12_0, hcz12_1, hfz12_0, hfz12_1⟩ := blk2 BK364.out) | (go_at_call 26; (with_reducible refine (state_is.calls k _ _ l0_0 _ _ l0_1 _ _ l0_2 _ _ l0_3 _ _ l1_0 _ _ l1_1 t366 _ ?side1 HC0_0.out ?side3 HC0_1.out ?side5 HC0_2.out ?side7 HC0_3.out ?side9 HC1_0.out ?side11 HC1_1.out A5.out).mono ?_); (case side1 => exact s10); (case side3 => exact s11); (case side5 => exact s12); (case side7 => exact s13); (case side9 => repeat (first | exact (Kd.C_below HR1_0.out HB.out) | (with_reducible refine Kd.C_alloc ?_ _) | (with_reducible refine Kd.C_drewN ?_ _) | (with_reducible refine Kd.C_drew ?_))); (case side11 => repeat (first | exact (Kd.C_below HR1_1.out HB.out) | (with_reducible refine Kd.C_alloc ?_ _) | (with_reducible refine Kd.C_drewN ?_ _) | (with_reducible refine Kd.C_drew ?_))); rintro e w13 ⟨rfl, hb⟩; replace BK363 := zM (blk_below (g := gb363) q16_4 hb); replace BK364 := zM (blk_below (g := gb364) q16_14 hb); replace HB := zM (below_step q16_5 hb); (try clear hb)))
  go_ret
  exact ⟨s6, q16_5⟩
 replace c4 := Bool.eq_false_iff.mpr c4
 subst c4
 have H1 : (some false) = some r := by rw [if_neg (show ¬ (false = true) by decide)] at H; exact H
 clear H
 have H := H1
 clear H1
 obtain rfl := Option.some.inj H
 go_enter Tryd.func24, Tryd.ntmps24
 go_wp2_with (first | ((with_reducible refine gate_dst (N := 2) rfl ?_); refine box_ev (N := 2) (cs := #[.slice A0_0 l0_0.length c0_0, .slice A0_1 l0_1.length c0_1, .slice A0_2 l0_2.length c0_2, .slice A0_3 l0_3.length c0_3]) (t := 26) ?_; intro gb363 hg w14 hbox hb; have BK363 := zM (hbox); have GE363 := zM (box_ge (n := w.heap.size) hg (below_size s8)); replace HB := zM (below_step s8 hb); clear hb hbox hg) | ((with_reducible refine gate_dst (N := 3) rfl ?_); refine box_ev (N := 3) (cs := #[.slice A1_0 l1_0.length c1_0, .slice A1_1 l1_1.length c1_1]) (t := 29) ?_; intro gb364 hg w15 hbox hb; have BK364 := zM (hbox); have GE364 := zM (box_ge (n := w.heap.size) hg (below_size q16_11)); have NB363_364 := zM (box_ne hg (g := gb363) q16_4); have NB364_363 := zM (box_ne' hg (g := gb363) q16_4); replace BK363 := zM (blk_below (g := gb363) q16_4 hb); replace HB := zM (below_step q16_11 hb); clear hb hbox hg; have hnb16 := NB363_364.out; have hnc16 := NB364_363.out; obtain ⟨hcz17_0, hcz17_1, hcz17_2, hcz17_3, hfz17_0, hfz17_1, hfz17_2, hfz17_3⟩ := blk4 BK363.out) | ((with_reducible refine gate_callee (f := 19) rfl ?_); refine goesL_ (some 6) rfl rfl Tryd.func19 (by kernel_rfl) rfl #[.agg #[.slice A0_0 l0_0.length c0_0, .slice A0_1 l0_1.length c0_1, .slice A0_2 l0_2.length c0_2, .slice A0_3 l0_3.length c0_3]] rfl s0 ?_; (with_reducible refine (net_Right.calls k _ _ l0_0 _ _ l0_1 _ _ l0_2 _ _ l0_3 false _ ?side9 ?side1 HC0_0.out ?side3 HC0_1.out ?side5 HC0_2.out ?side7 HC0_3.out A3.out).mono ?_); (case side1 => exact s10); (case side3 => exact s11); (case side5 => exact s12); (case side7 => exact s13); (case side9 => exact s9); rintro e w18 ⟨rfl, hb⟩; refine ⟨_, rfl, ?_⟩; replace BK363 := zM (blk_below (g := gb363) q16_4 hb); replace BK364 := zM (blk_below (g := gb364) q16_14 hb); replace HB := zM (below_step q16_5 hb); (try clear hb)))
 go_ret
 exact ⟨s6, q16_5⟩

/-! ### state_Stays_1: function 23 -/
def state_Stays_1.f (a0_0 : ByteArray) (l0_1 : List (S57)) (l0_2 : List (S90)) (a1 : Int) : Option (Bool) := if 0 ≤ a1 then (if a1 < (l0_1.length : Int) then (some (((rd_T57 l0_1 a1).f1) == 0)) else (none)) else (none)
set_option maxHeartbeats 8000000 in
set_option maxRecDepth 100000 in
theorem state_Stays_1.calls (a0_0 : ByteArray) (A0_1 : Option Addr) (c0_1 : Nat) (l0_1 : List (S57)) (A0_2 : Option Addr) (c0_2 : Nat) (l0_2 : List (S90)) (a1 : Int) (r : Bool) (w : World) (hr0_1 : Kd.C k57 w A0_1 l0_1.length l0_1) (hc0_1 : l0_1.length ≤ c0_1) (hr0_2 : Kd.C k90 w A0_2 l0_2.length l0_2) (hc0_2 : l0_2.length ≤ c0_2) (h : state_Stays_1.f a0_0 l0_1 l0_2 a1 = some r) :
  Calls Tryd.prog 23 #[.agg #[.string a0_0, .slice A0_1 l0_1.length c0_1, .slice A0_2 l0_2.length c0_2], .int .i64 a1] w fun e w' => e = .returned (.bool r) ∧ Below w.heap.size w w' := by
 have hu61 := Tryd.underlying61
 have HR0_1 := zM hr0_1
 have HC0_1 := zM hc0_1
 clear hr0_1 hc0_1
 have HR0_2 := zM hr0_2
 have HC0_2 := zM hc0_2
 clear hr0_2 hc0_2
 have HB := zM (Below.refl w.heap.size w)
 have H : (if 0 ≤ a1 then (if a1 < (l0_1.length : Int) then (some (((rd_T57 l0_1 a1).f1) == 0)) else (none)) else (none)) = some r := h
 clear h
 by_cases c3 : 0 ≤ a1
 ·
  rw [if_pos c3] at H
  have c3b0 := zD c3
  clear c3
  by_cases c4 : a1 < (l0_1.length : Int)
  ·
   rw [if_pos c4] at H
   have c4b0 := zD c4
   clear c4
   obtain rfl := Option.some.inj H
   go_enter Tryd.func23, Tryd.ntmps23
   go_wp2_with (first | ((with_reducible refine gate_dst (N := 2) rfl ?_); refine box_ev (N := 2) (cs := #[.string a0_0, .slice A0_1 l0_1.length c0_1, .slice A0_2 l0_2.length c0_2]) (t := 61) ?_; intro gb367 hg w5 hbox hb; have BK367 := zM (hbox); have GE367 := zM (box_ge (n := w.heap.size) hg (below_size s8)); replace HB := zM (below_step s8 hb); clear hb hbox hg; obtain ⟨hcz6_0, hcz6_1, hcz6_2, hfz6_0, hfz6_1, hfz6_2⟩ := blk3 BK367.out; have p368 : 0 ≤ (a1 : Int) := zO s3; have q368 : a1 < (l0_1.length : Int) := zO s3; obtain ⟨ad368, A368_2, c368_2, e368, hx368_0, hx368_1, hx368_2, hl368_2, hi368_2⟩ := at_T57 HR0_1.out a1 p368 q368; cases e368; replace hx368_0 := (HB.out.cell (World.block_lt_of_cell? w _ hx368_0)).trans hx368_0; replace hx368_1 := (HB.out.cell (World.block_lt_of_cell? w _ hx368_1)).trans hx368_1; replace hx368_2 := (HB.out.cell (World.block_lt_of_cell? w _ hx368_2)).trans hx368_2; have HR368_2 := zM hi368_2; have HC368_2 := zM hl368_2; clear hi368_2 hl368_2; replace p368 := eq_true p368; replace q368 := eq_true q368))
   go_ret
   exact ⟨s6, (by repeat (first | (with_reducible first | exact HB.out | apply below_alloc | apply pw_below_drewN | apply below_drew1 | refine below_set ?_ GE367.out) | exact HB.out))⟩
  rw [if_neg c4] at H
  exact absurd H (by simp)
 rw [if_neg c3] at H
 exact absurd H (by simp)

end Go.Proofs.YtpmhfahligjhaaaDoor.POrd
