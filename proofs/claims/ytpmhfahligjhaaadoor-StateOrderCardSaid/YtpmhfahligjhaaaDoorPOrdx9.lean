-- written by wip/tools/xprint.py (over the kit's print.py): not trusted, Lean checks it.
import Derived.Test.YtpmhfahligjhaaaDoorPOrdx0
import Derived.Test.YtpmhfahligjhaaaDoorPOrdx8
-- compact
namespace Go.Proofs.YtpmhfahligjhaaaDoor.POrd
open Go.RowKit Go.Proofs.YtpmhfahligjhaaaDoorW.PrintWords Go.Proofs.YtpmhfahligjhaaaDoorW.PrintLast Go.Proofs.YtpmhfahligjhaaaDoorW.PrintMore Go.Proofs.YtpmhfahligjhaaaDoorXW
attribute [local go_sem high] Option.map_some
attribute [local go_sem] max2_int max_two
set_option linter.unusedVariables false
set_option linter.unusedSimpArgs false

theorem q9_0 {p : Prop} (h : p := by repeat (first | (with_reducible first | exact HB.out | apply below_alloc | apply pw_below_drewN | apply below_drew1 | refine below_set ?_ GE229.out) | exact HB.out)) : p := h
theorem q9_1 {p : Prop} (h : p := by repeat (first | (with_reducible first | exact HB.out | apply below_alloc | apply pw_below_drewN | apply below_drew1 | refine below_set ?_ GE229.out | refine below_set ?_ GE238.out) | exact HB.out)) : p := h
theorem q9_2 {p : Prop} (h : p := by (with_reducible repeat (first | refine blk_drewN ?_ _ | refine blk_drew ?_ | refine blk_alloc ?_ _)); exact BK229.out) : p := h
theorem q9_3 {p : Prop} (h : p := by (with_reducible repeat (first | apply Kd.V_alloc | apply Kd.V_drewN | apply Kd.V_drew)); exact (Kd.V_mono (Kd.V_far (p := ⟨gb238, 3, none⟩) (Kd.V_far (p := ⟨gb238, 2, none⟩) (Kd.V_far (p := ⟨gb238, 1, none⟩) (Kd.V_far (p := ⟨gb238, 0, none⟩) (Kd.V_mono HL237_3.out (fun k_ hk => (⟨hk, hk.2⟩ : _ ∧ k_ ≠ gb238))) (fun _ hk => hk.2) (.int .i64 ((rd_T92 t234 x16_1).f0))) (fun _ hk => hk.2) (.int .i64 ((rd_T92 t234 x16_1).f1))) (fun _ hk => hk.2) (.int .i64 ((rd_T92 t234 x16_1).f2))) (fun _ hk => hk.2) (.slice A237_3 ((rd_T92 t234 x16_1).f3).length c237_3)) (fun _ h_ => h_.1))) : p := h
theorem q9_4 {p : Prop} (h : p := by (with_reducible repeat (first | refine blk_drewN ?_ _ | refine blk_drew ?_ | refine blk_alloc ?_ _)); exact BK221.out) : p := h
theorem q9_5 {p : Prop} (h : p := by repeat (first | (with_reducible first | exact HB.out | apply below_alloc | apply pw_below_drewN | apply below_drew1 | refine below_set ?_ GE221.out | refine below_set ?_ GE223.out | refine below_set ?_ GE225.out) | exact HB.out)) : p := h
theorem q9_7 {p : Prop} (h : p := by (with_reducible repeat (first | apply Kd.V_alloc | apply Kd.V_drewN | apply Kd.V_drew)); exact (Kd.V_mono (Kd.V_far (p := ⟨gb238, 3, none⟩) (Kd.V_far (p := ⟨gb238, 2, none⟩) (Kd.V_far (p := ⟨gb238, 1, none⟩) (Kd.V_far (p := ⟨gb238, 0, none⟩) (Kd.V_mono HO_14.out (fun k_ hk => (⟨hk, hk.2⟩ : _ ∧ k_ ≠ gb238))) (fun _ hk => hk.2) (.int .i64 ((rd_T92 t234 x16_1).f0))) (fun _ hk => hk.2) (.int .i64 ((rd_T92 t234 x16_1).f1))) (fun _ hk => hk.2) (.int .i64 ((rd_T92 t234 x16_1).f2))) (fun _ hk => hk.2) (.slice A237_3 ((rd_T92 t234 x16_1).f3).length c237_3)) (fun _ h_ => h_.1))) : p := h
theorem q9_8 {p : Prop} (h : p := by repeat (first | (with_reducible first | exact HB.out | apply below_alloc | apply pw_below_drewN | apply below_drew1 | refine below_set ?_ GE221.out | refine below_set ?_ GE223.out) | exact HB.out)) : p := h
theorem q9_12 {p : Prop} (h : p := by (iterate 4 ((with_reducible repeat (first | refine blk_drewN ?_ _ | refine blk_drew ?_ | refine blk_alloc ?_ _)); refine blk_far ?_ NB229_238.out _)); (with_reducible repeat (first | refine blk_drewN ?_ _ | refine blk_drew ?_ | refine blk_alloc ?_ _)); exact BK229.out) : p := h
theorem q9_16 {p : Prop} (h : p := by repeat (first | (with_reducible first | exact HB.out | apply below_alloc | apply pw_below_drewN | apply below_drew1 | refine below_set ?_ GE221.out) | exact HB.out)) : p := h
theorem q9_17 {p : Prop} (h : p := by repeat (first | (with_reducible exact HR237_3.out) | (with_reducible refine Kd.C_alloc ?_ _) | (with_reducible refine Kd.C_drewN ?_ _) | (with_reducible refine Kd.C_drew ?_) | exact HR237_3.out)) : p := h
theorem q9_18 {p : Prop} (h : p := by (with_reducible repeat (first | refine blk_drewN ?_ _ | refine blk_drew ?_ | refine blk_alloc ?_ _)); exact BK223.out) : p := h
theorem q9_19 {p : Prop} (h : p := by (with_reducible repeat (first | apply Kd.R_alloc | apply Kd.R_drewN | apply Kd.R_drew)); exact HO232.out) : p := h
theorem q9_21 {p : Prop} (h : p := by (with_reducible repeat (first | refine blk_drewN ?_ _ | refine blk_drew ?_ | refine blk_alloc ?_ _)); apply blk_fill4; (with_reducible repeat (first | refine blk_drewN ?_ _ | refine blk_drew ?_ | refine blk_alloc ?_ _)); exact BK238.out) : p := h
theorem q9_23 {p : Prop} (h : p := by (with_reducible repeat (first | apply Kd.V_alloc | apply Kd.V_drewN | apply Kd.V_drew)); exact HL237_3.out) : p := h
theorem q9_24 {p : Prop} (h : p := by (with_reducible repeat (first | apply Kd.V_alloc | apply Kd.V_drewN | apply Kd.V_drew)); exact HO_14.out) : p := h
theorem q9_25 {p : Prop} (h : p := by (with_reducible repeat (first | apply Kd.W_alloc | apply Kd.W_drewN | apply Kd.W_drew)); exact HO_3.out) : p := h
theorem q9_26 {p : Prop} (h : p := by first | exact q237 | exact zO s3 | (have e_ := (Kd.V_reads' HO_14.out).1; omega)) : p := h
theorem q9_27 {p : Prop} (h : p := by repeat (first | exact (Kd.R_reads' HO232.out).2.2 | (with_reducible refine Kd.C_alloc ?_ _) | (with_reducible refine Kd.C_drewN ?_ _) | (with_reducible refine Kd.C_drew ?_))) : p := h
/-! ### net_sets: function 57 -/
mutual
def net_sets.l0 : Nat → List (S92) → List (S61) → Int → Int → Option ((List (S92)))
 | 0, _, _, _, _ => none
 | k + 1, x3, x9, x10, x11 => if x11 < x10 then (if 0 ≤ x11 then (if x11 < (x9.length : Int) then (net_sets.l1 k x3 x9 x10 x11 ((rd_T61 x9 x11).f2) (((rd_T61 x9 x11).f2).length : Int) 0) else (none)) else (none)) else (some x3)
def net_sets.l1 : Nat → List (S92) → List (S61) → Int → Int → List (S90) → Int → Int → Option ((List (S92)))
 | 0, _, _, _, _, _, _, _ => none
 | k + 1, x3, x9, x10, x11, x16, x17, x18 => if x18 < x17 then (if 0 ≤ x18 then (if x18 < (x16.length : Int) then (if x3.length + ((rd_T90 x16 x18).f6).length < 2932031007402 then (net_sets.l1 k (x3 ++ ((rd_T90 x16 x18).f6)) x9 x10 x11 x16 x17 (wrap64 (x18 + 1))) else (none)) else (none)) else (none)) else (net_sets.l0 k x3 x9 x10 (wrap64 (x11 + 1)))
end
def net_sets.f (k : Nat) (l0_0 : List ByteArray) (l0_1 : List (S50)) (l0_2 : List ByteArray) (l0_3 : List (S61)) : Option ((List (S92))) := net_sets.l0 k ([] : List (S92)) l0_3 (l0_3.length : Int) 0
theorem net_sets.mono_l : ∀ k, (∀ y0 y1 y2 y3, LeO (net_sets.l0 k y0 y1 y2 y3) (net_sets.l0 (k + 1) y0 y1 y2 y3)) ∧ (∀ y0 y1 y2 y3 y4 y5 y6, LeO (net_sets.l1 k y0 y1 y2 y3 y4 y5 y6) (net_sets.l1 (k + 1) y0 y1 y2 y3 y4 y5 y6))
 | 0 => ⟨fun _ _ _ _ r h => by simp [net_sets.l0] at h, fun _ _ _ _ _ _ _ r h => by simp [net_sets.l1] at h⟩
 | k + 1 => by
  obtain ⟨ih0, ih1⟩ := net_sets.mono_l k
  refine ⟨?_, ?_⟩
  all_goals intros
  all_goals first | unfold net_sets.l0 | unfold net_sets.l1
  all_goals repeat' first | (with_reducible first | exact ih0 _ _ _ _ | exact ih1 _ _ _ _ _ _ _ | exact LeO.refl _ | exact LeO.none _ | refine LeO.ite ?_ ?_ | refine LeO.bind ?_ (fun _ => ?_)) | exact LeO.none _ | refine LeO.ite ?_ ?_ | refine LeO.bind ?_ (fun _ => ?_)
theorem net_sets.mono : ∀ a0 a1 a2 a3 k, LeO (net_sets.f k a0 a1 a2 a3) (net_sets.f (k + 1) a0 a1 a2 a3) := by
 intro a0 a1 a2 a3 k
 obtain ⟨ih0, ih1⟩ := net_sets.mono_l k
 unfold net_sets.f
 repeat' first | (with_reducible first | exact ih0 _ _ _ _ | exact ih1 _ _ _ _ _ _ _ | exact LeO.refl _ | exact LeO.none _ | refine LeO.ite ?_ ?_ | refine LeO.bind ?_ (fun _ => ?_)) | exact LeO.none _ | refine LeO.ite ?_ ?_ | refine LeO.bind ?_ (fun _ => ?_)
set_option maxHeartbeats 8000000 in
set_option maxRecDepth 100000 in
theorem net_sets.calls (k : Nat) (A0_0 : Option Addr) (c0_0 : Nat) (l0_0 : List ByteArray) (A0_1 : Option Addr) (c0_1 : Nat) (l0_1 : List (S50)) (A0_2 : Option Addr) (c0_2 : Nat) (l0_2 : List ByteArray) (A0_3 : Option Addr) (c0_3 : Nat) (l0_3 : List (S61)) (r : List (S92)) (w0 w : World) (hB0 : Below w0.heap.size w0 w) (hr0_0 : Kd.C Kd.string w0 A0_0 l0_0.length l0_0) (hc0_0 : l0_0.length ≤ c0_0) (hr0_1 : Kd.C k50 w0 A0_1 l0_1.length l0_1) (hc0_1 : l0_1.length ≤ c0_1) (hr0_2 : Kd.C Kd.string w0 A0_2 l0_2.length l0_2) (hc0_2 : l0_2.length ≤ c0_2) (hr0_3 : Kd.C k61 w0 A0_3 l0_3.length l0_3) (hc0_3 : l0_3.length ≤ c0_3) (h : net_sets.f k l0_0 l0_1 l0_2 l0_3 = some r) :
  Calls Tryd.prog 57 #[.agg #[.slice A0_0 l0_0.length c0_0, .slice A0_1 l0_1.length c0_1, .slice A0_2 l0_2.length c0_2, .slice A0_3 l0_3.length c0_3]] w fun e w' => ∃ v0_ : Value, e = .returned (v0_) ∧ Kd.V k92 92 w' w.heap.size (fun k_ => k_ < w0.heap.size ∨ w.heap.size ≤ k_) v0_ r ∧ Below w.heap.size w w' := by
 have HB0 := zM hB0
 clear hB0
 have hu26 := Tryd.underlying26
 have hu61 := Tryd.underlying61
 have hu90 := Tryd.underlying90
 have HR0_0 := zM hr0_0
 have HC0_0 := zM hc0_0
 clear hr0_0 hc0_0
 have HR0_1 := zM hr0_1
 have HC0_1 := zM hc0_1
 clear hr0_1 hc0_1
 have HR0_2 := zM hr0_2
 have HC0_2 := zM hc0_2
 clear hr0_2 hc0_2
 have HR0_3 := zM hr0_3
 have HC0_3 := zM hc0_3
 clear hr0_3 hc0_3
 have HB := zM (Below.refl w.heap.size w)
 have H : (net_sets.l0 k ([] : List (S92)) l0_3 (l0_3.length : Int) 0) = some r := h
 clear h
 have H' := zM H
 clear H
 go_enter Tryd.func57, Tryd.ntmps57
 go_wp2_with (first | ((with_reducible refine gate_dst (N := 1) rfl ?_); refine box_ev (N := 1) (cs := #[.slice A0_0 l0_0.length c0_0, .slice A0_1 l0_1.length c0_1, .slice A0_2 l0_2.length c0_2, .slice A0_3 l0_3.length c0_3]) (t := 26) ?_; intro gb221 hg w2 hbox hb; have BK221 := zM (hbox); have GE221 := zM (box_ge (n := w.heap.size) hg (below_size s8)); replace HB := zM (below_step s8 hb); clear hb hbox hg; obtain ⟨hcz3_0, hcz3_1, hcz3_2, hcz3_3, hfz3_0, hfz3_1, hfz3_2, hfz3_3⟩ := blk4 BK221.out))
 go_loopg [3, 11] k (fun kq v3 v11 w' => ∃ (x3_1 : List (S92)) (x11_1 : Int), v11 = .int .i64 x11_1 ∧ Aside0 (net_sets.l0 kq x3_1 l0_3 (l0_3.length : Int) x11_1 = some r) ∧ Aside0 (kq ≤ k) ∧ Aside0 (Kd.W w0.heap.size k92 92 w' w.heap.size (fun _ => True) v3 x3_1) ∧ Aside0 (w'.heap[gb221]? = some (.cells #[(.slice A0_0 l0_0.length c0_0), (.slice A0_1 l0_1.length c0_1), (.slice A0_2 l0_2.length c0_2), (.slice A0_3 l0_3.length c0_3)] 26 (0, 0))) ∧ Aside0 (Below w.heap.size w w'))
 case atStart => exact ⟨(([] : List (S92))), (0), s7, H', ⟨Nat.le_refl _⟩, ⟨(by exact Kd.W_nil _ _ _ _ _ HB0.out.size)⟩, ⟨q9_4⟩, ⟨q9_16⟩⟩
 clear H'
 obtain ⟨x3_1, x11_1, rfl, HA, HK1, HO_3, BK221, HB⟩ := hrel
 cases gk with
 | zero => exact absurd HA.out (by simp [net_sets.l0])
 | succ k1 =>
  have H := HA.out
  clear HA
  simp only [net_sets.l0] at H
  by_cases c4 : x11_1 < (l0_3.length : Int)
  ·
   rw [if_pos c4] at H
   have c4b0 := zD c4
   clear c4
   by_cases c5 : 0 ≤ x11_1
   ·
    rw [if_pos c5] at H
    have c5b0 := zD c5
    clear c5
    by_cases c6 : x11_1 < (l0_3.length : Int)
    ·
     rw [if_pos c6] at H
     have c6b0 := zD c6
     clear c6
     have H' := zM H
     clear H
     have p222 : 0 ≤ (x11_1 : Int) := zO s3
     have q222 : x11_1 < (l0_3.length : Int) := zO s3
     obtain ⟨ad222, A222_1, c222_1, A222_2, c222_2, e222, hx222_0, hx222_1, hx222_2, HC222_1, HR222_1, HC222_2, HR222_2⟩ := as_T61 HR0_3.out x11_1 p222 q222
     cases e222
     replace hx222_0 := cell_up HB0.out hx222_0
     replace hx222_0 := cell_up HB.out hx222_0
     replace hx222_1 := cell_up HB0.out hx222_1
     replace hx222_1 := cell_up HB.out hx222_1
     replace hx222_2 := cell_up HB0.out hx222_2
     replace hx222_2 := cell_up HB.out hx222_2
     replace p222 := eq_true p222
     replace q222 := eq_true q222
     go_wp2_with (first | ((with_reducible refine gate_dst (N := 5) rfl ?_); refine box_ev (N := 5) (cs := #[.string (⟨#[]⟩ : ByteArray), .slice none 0 0, .slice none 0 0]) (t := 61) ?_; intro gb223 hg w7 hbox hb; have BK223 := zM (hbox); have GE223 := zM (box_ge (n := w.heap.size) hg (below_size q9_16)); have NB221_223 := zM (box_ne hg (g := gb221) q9_4); have NB223_221 := zM (box_ne' hg (g := gb221) q9_4); replace HO_3 := zM (Kd.W_below q9_25 hb); replace BK221 := zM (blk_below (g := gb221) q9_4 hb); replace HB := zM (below_step q9_16 hb); clear hb hbox hg; have hnb8 := NB223_221.out; have hnc8 := NB221_223.out; obtain ⟨hcz9_0, hcz9_1, hcz9_2, hfz9_0, hfz9_1, hfz9_2⟩ := blk3 BK223.out))
     go_loopg [3, 18] k1 (fun kq v3 v18 w' => ∃ (x3_2 : List (S92)) (x18_2 : Int), v18 = .int .i64 x18_2 ∧ Aside0 (net_sets.l1 kq x3_2 l0_3 (l0_3.length : Int) x11_1 ((rd_T61 l0_3 x11_1).f2) (((rd_T61 l0_3 x11_1).f2).length : Int) x18_2 = some r) ∧ Aside0 (kq ≤ k1) ∧ Aside0 (Kd.W w0.heap.size k92 92 w' w.heap.size (fun _ => True) v3 x3_2) ∧ Aside0 (w'.heap[gb221]? = some (.cells #[(.slice A0_0 l0_0.length c0_0), (.slice A0_1 l0_1.length c0_1), (.slice A0_2 l0_2.length c0_2), (.slice (some ad222) l0_3.length c0_3)] 26 (0, 0))) ∧ Aside0 (w'.heap[gb223]? = some (.cells #[.string ((rd_T61 l0_3 x11_1).f0), (.slice A222_1 ((rd_T61 l0_3 x11_1).f1).length c222_1), (.slice A222_2 ((rd_T61 l0_3 x11_1).f2).length c222_2)] 61 (0, 0))) ∧ Aside0 (Below w.heap.size w w'))
     case atStart => exact ⟨(x3_1), (0), s7, H', ⟨Nat.le_refl _⟩, ⟨(by (with_reducible repeat (first | apply Kd.W_alloc | apply Kd.W_drewN | apply Kd.W_drew)); exact Kd.W_mono (Kd.W_far (p := ⟨gb223, 2, none⟩) (Kd.W_far (p := ⟨gb223, 1, none⟩) (Kd.W_far (p := ⟨gb223, 0, none⟩) (Kd.W_types HO_3.out BK223.out GE223.out (by decide)) (fun _ hk => hk.2) (.string ((rd_T61 l0_3 x11_1).f0))) (fun _ hk => hk.2) (.slice A222_1 ((rd_T61 l0_3 x11_1).f1).length c222_1)) (fun _ hk => hk.2) (.slice A222_2 ((rd_T61 l0_3 x11_1).f2).length c222_2)) (fun _ hk => trivial))⟩, ⟨(by (iterate 3 ((with_reducible repeat (first | refine blk_drewN ?_ _ | refine blk_drew ?_ | refine blk_alloc ?_ _)); refine blk_far ?_ NB221_223.out _)); (with_reducible repeat (first | refine blk_drewN ?_ _ | refine blk_drew ?_ | refine blk_alloc ?_ _)); exact BK221.out)⟩, ⟨(by (with_reducible repeat (first | refine blk_drewN ?_ _ | refine blk_drew ?_ | refine blk_alloc ?_ _)); apply blk_fill3; (with_reducible repeat (first | refine blk_drewN ?_ _ | refine blk_drew ?_ | refine blk_alloc ?_ _)); exact BK223.out)⟩, ⟨q9_8⟩⟩
     clear H'
     obtain ⟨x3_2, x18_2, rfl, HA, HK2, HO_3, BK221, BK223, HB⟩ := hrel
     cases gk with
     | zero => exact absurd HA.out (by simp [net_sets.l1])
     | succ k2 =>
      have H := HA.out
      clear HA
      simp only [net_sets.l1] at H
      by_cases c10 : x18_2 < (((rd_T61 l0_3 x11_1).f2).length : Int)
      ·
       rw [if_pos c10] at H
       have c10b0 := zD c10
       clear c10
       by_cases c11 : 0 ≤ x18_2
       ·
        rw [if_pos c11] at H
        have c11b0 := zD c11
        clear c11
        by_cases c12 : x18_2 < (((rd_T61 l0_3 x11_1).f2).length : Int)
        ·
         rw [if_pos c12] at H
         have c12b0 := zD c12
         clear c12
         by_cases c13 : x3_2.length + ((rd_T90 ((rd_T61 l0_3 x11_1).f2) x18_2).f6).length < 2932031007402
         ·
          rw [if_pos c13] at H
          have LMc13 := zM c13
          clear c13
          obtain ⟨y226, hy226⟩ : ∃ y_ : List (S92), y_ = (x3_2 ++ ((rd_T90 ((rd_T61 l0_3 x11_1).f2) x18_2).f6)) := ⟨_, rfl⟩
          replace H : (net_sets.l1 k2 y226 l0_3 (l0_3.length : Int) x11_1 ((rd_T61 l0_3 x11_1).f2) (((rd_T61 l0_3 x11_1).f2).length : Int) (wrap64 (x18_2 + 1))) = some r := by first | (rw [hy226]; with_reducible exact H) | (have H2_ := (Option.bind_some _ _).symm.trans H; rw [hy226]; with_reducible exact H2_) | (have H2_ := (Option.bind_some _ _).symm.trans H; with_reducible exact H2_) | with_reducible exact H | (rw [hy226]; exact H) | exact H
          have Ny226 := zM hy226
          clear hy226
          have H' := zM H
          clear H
          have p224 : 0 ≤ (x18_2 : Int) := zO s3
          have q224 : x18_2 < (((rd_T61 l0_3 x11_1).f2).length : Int) := zO s3
          obtain ⟨ad224, A224_2, c224_2, A224_3, c224_3, A224_6, c224_6, e224, hx224_0, hx224_1, hx224_2, hx224_3, hx224_4, hx224_5, hx224_6, HC224_2, HR224_2, HC224_3, HR224_3, HC224_6, HR224_6⟩ := as_T90 HR222_2.out x18_2 p224 q224
          cases e224
          replace hx224_0 := cell_up HB0.out hx224_0
          replace hx224_0 := cell_up HB.out hx224_0
          replace hx224_1 := cell_up HB0.out hx224_1
          replace hx224_1 := cell_up HB.out hx224_1
          replace hx224_2 := cell_up HB0.out hx224_2
          replace hx224_2 := cell_up HB.out hx224_2
          replace hx224_3 := cell_up HB0.out hx224_3
          replace hx224_3 := cell_up HB.out hx224_3
          replace hx224_4 := cell_up HB0.out hx224_4
          replace hx224_4 := cell_up HB.out hx224_4
          replace hx224_5 := cell_up HB0.out hx224_5
          replace hx224_5 := cell_up HB.out hx224_5
          replace hx224_6 := cell_up HB0.out hx224_6
          replace hx224_6 := cell_up HB.out hx224_6
          replace p224 := eq_true p224
          replace q224 := eq_true q224
          go_wp2_with (first | ((with_reducible refine gate_dst (N := 7) rfl ?_); refine box_ev (N := 7) (cs := #[.int .i64 0, .int .i64 0, .slice none 0 0, .slice none 0 0, .int .i64 0, .bool false, .slice none 0 0]) (t := 90) ?_; intro gb225 hg w14 hbox hb; have BK225 := zM (hbox); have GE225 := zM (box_ge (n := w.heap.size) hg (below_size q9_8)); have NB221_225 := zM (box_ne hg (g := gb221) q9_4); have NB225_221 := zM (box_ne' hg (g := gb221) q9_4); have NB223_225 := zM (box_ne hg (g := gb223) q9_18); have NB225_223 := zM (box_ne' hg (g := gb223) q9_18); replace HO_3 := zM (Kd.W_below q9_25 hb); replace BK221 := zM (blk_below (g := gb221) q9_4 hb); replace BK223 := zM (blk_below (g := gb223) q9_18 hb); replace HB := zM (below_step q9_8 hb); clear hb hbox hg; have hnb15 := NB225_221.out; have hnc15 := NB221_225.out; have hnb16 := NB225_223.out; have hnc16 := NB223_225.out; obtain ⟨hcz17_0, hcz17_1, hcz17_2, hcz17_3, hcz17_4, hcz17_5, hcz17_6, hfz17_0, hfz17_1, hfz17_2, hfz17_3, hfz17_4, hfz17_5, hfz17_6⟩ := blk7 BK225.out) | ((with_reducible refine gate_builtin (b := .append) (xs := #[.tmp 22, .tmp 24]) rfl ?_); at_builtin; refine Kd.W_append_rows (b := w0.heap.size) k92 (w0 := w) w.heap.size rfl (.tmp 22) (.tmp 24) 88 92 (.agg #[(.int .i64 0), (.int .i64 0), (.int .i64 0), (.slice none 0 0)]) 48 rfl Tryd.underlying88 info92 rfl (by decide) (by omega) u3 x3_2 ((rd_T90 ((rd_T61 l0_3 x11_1).f2) x18_2).f6) _ _ _ (fun _ => True) rfl rfl ?aO ?aR ?aF ?aB ?aS ?aL ?_; (case aR => exact Kd.F_came k92_heap HR224_6.out HB0.out q9_5); (case aB => exact q9_5); (case aF => exact (fun _ _ => trivial)); (case aO => exact (by (with_reducible repeat (first | apply Kd.W_alloc | apply Kd.W_drewN | apply Kd.W_drew)); exact Kd.W_mono (Kd.W_far (p := ⟨gb225, 6, none⟩) (Kd.W_far (p := ⟨gb225, 5, none⟩) (Kd.W_far (p := ⟨gb225, 4, none⟩) (Kd.W_far (p := ⟨gb225, 3, none⟩) (Kd.W_far (p := ⟨gb225, 2, none⟩) (Kd.W_far (p := ⟨gb225, 1, none⟩) (Kd.W_far (p := ⟨gb225, 0, none⟩) (Kd.W_types HO_3.out BK225.out GE225.out (by decide)) (fun _ hk => hk.2) (.int .i64 ((rd_T90 ((rd_T61 l0_3 x11_1).f2) x18_2).f0))) (fun _ hk => hk.2) (.int .i64 ((rd_T90 ((rd_T61 l0_3 x11_1).f2) x18_2).f1))) (fun _ hk => hk.2) (.slice A224_2 ((rd_T90 ((rd_T61 l0_3 x11_1).f2) x18_2).f2).length c224_2)) (fun _ hk => hk.2) (.slice A224_3 ((rd_T90 ((rd_T61 l0_3 x11_1).f2) x18_2).f3).length c224_3)) (fun _ hk => hk.2) (.int .i64 ((rd_T90 ((rd_T61 l0_3 x11_1).f2) x18_2).f4))) (fun _ hk => hk.2) (.bool ((rd_T90 ((rd_T61 l0_3 x11_1).f2) x18_2).f5))) (fun _ hk => hk.2) (.slice A224_6 ((rd_T90 ((rd_T61 l0_3 x11_1).f2) x18_2).f6).length c224_6)) (fun _ hk => trivial))); (case aS => exact (below_size q9_5)); (case aL => have := LMc13.out; omega); intro v227 w18 ho hb hg hat; rw [← Ny226.out] at ho; have HO228 := zM (ho); replace BK221 := zM (blk_grown (g := gb221) (o := .cells #[.slice A0_0 l0_0.length c0_0, .slice A0_1 l0_1.length c0_1, .slice A0_2 l0_2.length c0_2, .slice (some ad222) l0_3.length c0_3] 26 (0, 0)) (by (iterate 7 ((with_reducible repeat (first | refine blk_drewN ?_ _ | refine blk_drew ?_ | refine blk_alloc ?_ _)); refine blk_far ?_ NB221_225.out _)); (with_reducible repeat (first | refine blk_drewN ?_ _ | refine blk_drew ?_ | refine blk_alloc ?_ _)); exact BK221.out) hg (Kd.W_ne HO_3.out BK221.out (by decide))); replace BK223 := zM (blk_grown (g := gb223) (o := .cells #[.string ((rd_T61 l0_3 x11_1).f0), .slice A222_1 ((rd_T61 l0_3 x11_1).f1).length c222_1, .slice (some ad224) ((rd_T61 l0_3 x11_1).f2).length c222_2] 61 (0, 0)) (by (iterate 7 ((with_reducible repeat (first | refine blk_drewN ?_ _ | refine blk_drew ?_ | refine blk_alloc ?_ _)); refine blk_far ?_ NB223_225.out _)); (with_reducible repeat (first | refine blk_drewN ?_ _ | refine blk_drew ?_ | refine blk_alloc ?_ _)); exact BK223.out) hg (Kd.W_ne HO_3.out BK223.out (by decide))); replace BK225 := zM (blk_grown (g := gb225) (o := .cells #[.int .i64 ((rd_T90 ((rd_T61 l0_3 x11_1).f2) x18_2).f0), .int .i64 ((rd_T90 ((rd_T61 l0_3 x11_1).f2) x18_2).f1), .slice A224_2 ((rd_T90 ((rd_T61 l0_3 x11_1).f2) x18_2).f2).length c224_2, .slice A224_3 ((rd_T90 ((rd_T61 l0_3 x11_1).f2) x18_2).f3).length c224_3, .int .i64 ((rd_T90 ((rd_T61 l0_3 x11_1).f2) x18_2).f4), .bool ((rd_T90 ((rd_T61 l0_3 x11_1).f2) x18_2).f5), .slice A224_6 ((rd_T90 ((rd_T61 l0_3 x11_1).f2) x18_2).f6).length c224_6] 90 (0, 0)) (by (with_reducible repeat (first | refine blk_drewN ?_ _ | refine blk_drew ?_ | refine blk_alloc ?_ _)); apply blk_fill7; (with_reducible repeat (first | refine blk_drewN ?_ _ | refine blk_drew ?_ | refine blk_alloc ?_ _)); exact BK225.out) hg (Kd.W_ne HO_3.out BK225.out (by decide))); replace HB := zM (hb); clear HO_3; clear ho hb hg hat))
          go_roundg k2
          case measure => have := HK1.out; have := HK2.out; omega
          case rel => exact ⟨(y226), (wrap64 (x18_2 + 1)), s7, H', ⟨(by have := HK1.out; have := HK2.out; omega)⟩, ⟨(by (with_reducible repeat (first | apply Kd.W_alloc | apply Kd.W_drewN | apply Kd.W_drew)); exact HO228.out)⟩, ⟨q9_4⟩, ⟨q9_18⟩, ⟨q9_5⟩⟩
         rw [if_neg c13] at H
         exact absurd H (by simp)
        rw [if_neg c12] at H
        exact absurd H (by simp)
       rw [if_neg c11] at H
       exact absurd H (by simp)
      rw [if_neg c10] at H
      have c10b0 := decide_eq_false c10
      clear c10
      have H' := zM H
      clear H
      go_wp2
      go_roundg k2
      case measure => have := HK1.out; have := HK2.out; omega
      case rel => exact ⟨(x3_2), (wrap64 (x11_1 + 1)), s7, H', ⟨(by have := HK1.out; have := HK2.out; omega)⟩, ⟨q9_25⟩, ⟨q9_4⟩, ⟨q9_8⟩⟩
    rw [if_neg c6] at H
    exact absurd H (by simp)
   rw [if_neg c5] at H
   exact absurd H (by simp)
  rw [if_neg c4] at H
  have c4b0 := decide_eq_false c4
  clear c4
  obtain rfl := Option.some.inj H
  go_wp2
  go_ret
  exact ⟨_, s6, (by refine Kd.W_V (ok := fun _ => True) (base := w.heap.size) ?_; (with_reducible repeat (first | apply Kd.W_alloc | apply Kd.W_drewN | apply Kd.W_drew)); exact HO_3.out), q9_16⟩

/-! ### net_clocks: function 43 -/
def net_clocks.l0 : Nat → List (S92) → Int → Int → List ByteArray → List (S50) → List ByteArray → List (S61) → Option (Int)
 | 0, _, _, _, _, _, _, _ => none
 | k + 1, x14, x15, x16, x230000, x230001, x230002, x230003 => if x16 < x15 then (if 0 ≤ x16 then (if x16 < (x14.length : Int) then (if ((rd_T92 x14 x16).f0) = 0 then (net_clocks.l0 k x14 x15 (wrap64 (x16 + 1)) x230000 x230001 x230002 x230003) else ((net_isClock.f x230000 x230001 x230002 x230003 ((rd_T92 x14 x16).f0)).bind fun t239 => (if t239 = true then (net_clocks.l0 k x14 x15 (wrap64 (x16 + 1)) x230000 x230001 x230002 x230003) else (some 12)))) else (none)) else (none)) else (some 0)
def net_clocks.f (k : Nat) (l0_0 : List ByteArray) (l0_1 : List (S50)) (l0_2 : List ByteArray) (l0_3 : List (S61)) : Option (Int) := (net_guards.f k l0_0 l0_1 l0_2 l0_3).bind fun t230 => ((net_clocksOf.f k l0_0 l0_1 l0_2 l0_3 t230).bind fun t233 => (if t233 = 0 then ((net_sets.f k l0_0 l0_1 l0_2 l0_3).bind fun t234 => (net_clocks.l0 k t234 (t234.length : Int) 0 l0_0 l0_1 l0_2 l0_3)) else (some t233)))
theorem net_clocks.mono_l : ∀ k, (∀ y0 y1 y2 y3 y4 y5 y6, LeO (net_clocks.l0 k y0 y1 y2 y3 y4 y5 y6) (net_clocks.l0 (k + 1) y0 y1 y2 y3 y4 y5 y6))
 | 0 => fun _ _ _ _ _ _ _ r h => by simp [net_clocks.l0] at h
 | k + 1 => by
  have ih0 := net_clocks.mono_l k
  ·
   intro y0 y1 y2 y3 y4 y5 y6
   unfold net_clocks.l0
   repeat' first | (with_reducible first | exact ih0 _ _ _ _ _ _ _ | exact net_clocksOf.mono _ _ _ _ _ _ | exact net_guards.mono _ _ _ _ _ | exact net_sets.mono _ _ _ _ _ | exact LeO.refl _ | exact LeO.none _ | refine LeO.ite ?_ ?_ | refine LeO.bind ?_ (fun _ => ?_)) | exact LeO.none _ | refine LeO.ite ?_ ?_ | refine LeO.bind ?_ (fun _ => ?_)
theorem net_clocks.mono : ∀ a0 a1 a2 a3 k, LeO (net_clocks.f k a0 a1 a2 a3) (net_clocks.f (k + 1) a0 a1 a2 a3) := by
 intro a0 a1 a2 a3 k
 have ih0 := net_clocks.mono_l k
 unfold net_clocks.f
 repeat' first | (with_reducible first | exact ih0 _ _ _ _ _ _ _ | exact net_clocksOf.mono _ _ _ _ _ _ | exact net_guards.mono _ _ _ _ _ | exact net_sets.mono _ _ _ _ _ | exact LeO.refl _ | exact LeO.none _ | refine LeO.ite ?_ ?_ | refine LeO.bind ?_ (fun _ => ?_)) | exact LeO.none _ | refine LeO.ite ?_ ?_ | refine LeO.bind ?_ (fun _ => ?_)
set_option maxHeartbeats 8000000 in
set_option maxRecDepth 100000 in
theorem net_clocks.calls (k : Nat) (A0_0 : Option Addr) (c0_0 : Nat) (l0_0 : List ByteArray) (A0_1 : Option Addr) (c0_1 : Nat) (l0_1 : List (S50)) (A0_2 : Option Addr) (c0_2 : Nat) (l0_2 : List ByteArray) (A0_3 : Option Addr) (c0_3 : Nat) (l0_3 : List (S61)) (r : Int) (w : World) (hr0_0 : Kd.C Kd.string w A0_0 l0_0.length l0_0) (hc0_0 : l0_0.length ≤ c0_0) (hr0_1 : Kd.C k50 w A0_1 l0_1.length l0_1) (hc0_1 : l0_1.length ≤ c0_1) (hr0_2 : Kd.C Kd.string w A0_2 l0_2.length l0_2) (hc0_2 : l0_2.length ≤ c0_2) (hr0_3 : Kd.C k61 w A0_3 l0_3.length l0_3) (hc0_3 : l0_3.length ≤ c0_3) (h : net_clocks.f k l0_0 l0_1 l0_2 l0_3 = some r) :
  Calls Tryd.prog 43 #[.agg #[.slice A0_0 l0_0.length c0_0, .slice A0_1 l0_1.length c0_1, .slice A0_2 l0_2.length c0_2, .slice A0_3 l0_3.length c0_3]] w fun e w' => e = .returned (.int .i64 r) ∧ Below w.heap.size w w' := by
 have hu26 := Tryd.underlying26
 have hu92 := Tryd.underlying92
 have HR0_0 := zM hr0_0
 have HC0_0 := zM hc0_0
 clear hr0_0 hc0_0
 have HR0_1 := zM hr0_1
 have HC0_1 := zM hc0_1
 clear hr0_1 hc0_1
 have HR0_2 := zM hr0_2
 have HC0_2 := zM hc0_2
 clear hr0_2 hc0_2
 have HR0_3 := zM hr0_3
 have HC0_3 := zM hc0_3
 clear hr0_3 hc0_3
 have HB := zM (Below.refl w.heap.size w)
 have H : ((net_guards.f k l0_0 l0_1 l0_2 l0_3).bind fun t230 => ((net_clocksOf.f k l0_0 l0_1 l0_2 l0_3 t230).bind fun t233 => (if t233 = 0 then ((net_sets.f k l0_0 l0_1 l0_2 l0_3).bind fun t234 => (net_clocks.l0 k t234 (t234.length : Int) 0 l0_0 l0_1 l0_2 l0_3)) else (some t233)))) = some r := h
 clear h
 replace H := Option.bind_eq_some_iff.mp H
 obtain ⟨t230, A20, H⟩ := H
 replace H : ((net_clocksOf.f k l0_0 l0_1 l0_2 l0_3 t230).bind fun t233 => (if t233 = 0 then ((net_sets.f k l0_0 l0_1 l0_2 l0_3).bind fun t234 => (net_clocks.l0 k t234 (t234.length : Int) 0 l0_0 l0_1 l0_2 l0_3)) else (some t233))) = some r := H
 have A2 := zM A20
 clear A20
 replace H := Option.bind_eq_some_iff.mp H
 obtain ⟨t233, A30, H⟩ := H
 replace H : (if t233 = 0 then ((net_sets.f k l0_0 l0_1 l0_2 l0_3).bind fun t234 => (net_clocks.l0 k t234 (t234.length : Int) 0 l0_0 l0_1 l0_2 l0_3)) else (some t233)) = some r := H
 have A3 := zM A30
 clear A30
 by_cases c4 : t233 = 0
 ·
  rw [if_pos c4] at H
  obtain ⟨c4b0, c4b1⟩ := eqb c4
  clear c4
  replace H := Option.bind_eq_some_iff.mp H
  obtain ⟨t234, A50, H⟩ := H
  replace H : (net_clocks.l0 k t234 (t234.length : Int) 0 l0_0 l0_1 l0_2 l0_3) = some r := H
  have A5 := zM A50
  clear A50
  have H' := zM H
  clear H
  go_enter Tryd.func43, Tryd.ntmps43
  try go_wp2_with (first | ((with_reducible refine gate_dst (N := 1) rfl ?_); refine box_ev (N := 1) (cs := #[.slice A0_0 l0_0.length c0_0, .slice A0_1 l0_1.length c0_1, .slice A0_2 l0_2.length c0_2, .slice A0_3 l0_3.length c0_3]) (t := 26) ?_; intro gb229 hg w6 hbox hb; have BK229 := zM (hbox); have GE229 := zM (box_ge (n := w.heap.size) hg (below_size s8)); replace HB := zM (below_step s8 hb); clear hb hbox hg))
  have n0_ := zM (blk_drew BK229.out)
  have n1_ := zM (below_drew1 HB.out)
  clear BK229
  clear HB
  have BK229 := n0_
  have HB := n1_
  clear n0_ n1_
  refine start_ (n := 5) (S := fun w' => w'.cell? ⟨gb229, 0, none⟩ = some (.slice A0_0 l0_0.length c0_0) ∧ w'.cell? ⟨gb229, 1, none⟩ = some (.slice A0_1 l0_1.length c0_1) ∧ w'.cell? ⟨gb229, 2, none⟩ = some (.slice A0_2 l0_2.length c0_2) ∧ w'.cell? ⟨gb229, 3, none⟩ = some (.slice A0_3 l0_3.length c0_3)) (ds := []) #[false, false, false, false, false] (by kernel_rfl) rfl rfl ⟨(blk_cell BK229.out 0).trans rfl, (blk_cell BK229.out 1).trans rfl, (blk_cell BK229.out 2).trans rfl, (blk_cell BK229.out 3).trans rfl⟩ (fun hHeld => ?_)
  generalize w6.drew = w7 at BK229 HB hHeld ⊢
  refine take_ (i := 0) (N := some 6) (v := ?_) (a' := ?_) #[true, false, false, false, false] rfl rfl (by kernel_rfl) (fun _ _ _ h => h) (Or.inl ⟨by rfl, ?_⟩) hHeld ?_ ?_
  rotate_left
  ·
   rintro w' ⟨s0, s1, s2, s3⟩
   go_simp
   with_reducible rfl
  rotate_left
  ·
   simp only [Act.put, List.setIfInBounds_toArray, List.set_cons_zero, List.set_cons_succ, i64_w, i32_w]
   rfl
  refine take_ (i := 1) (N := some 7) (v := ?_) (a' := ?_) #[true, true, false, false, false] rfl rfl (by kernel_rfl) (fun _ _ _ h => h) (Or.inl ⟨by rfl, ?_⟩) hHeld ?_ ?_
  rotate_left
  ·
   rintro w' ⟨s0, s1, s2, s3⟩
   go_simp
   with_reducible rfl
  rotate_left
  ·
   simp only [Act.put, List.setIfInBounds_toArray, List.set_cons_zero, List.set_cons_succ, i64_w, i32_w]
   rfl
  refine one_ (i := 2) (N := some 8) #[true, true, true, false, false] rfl rfl (by kernel_rfl) (by decide) (fun K hK => ?_)
  refine goes_ Tryd.func56 (by kernel_rfl) rfl #[.agg #[.slice A0_0 l0_0.length c0_0, .slice A0_1 l0_1.length c0_1, .slice A0_2 l0_2.length c0_2, .slice A0_3 l0_3.length c0_3]] (by rfl) rfl rfl s0 ?_
  with_reducible refine (net_guards.calls k _ _ l0_0 _ _ l0_1 _ _ l0_2 _ _ l0_3 t230 _ ?side1 ?side2 ?side3 ?side4 ?side5 ?side6 ?side7 ?side8 A2.out).mono ?_
  (case side1 => exact s10)
  (case side2 => exact HC0_0.out)
  (case side3 => exact s11)
  (case side4 => exact HC0_1.out)
  (case side5 => exact s12)
  (case side6 => exact HC0_2.out)
  (case side7 => exact s13)
  (case side8 => exact HC0_3.out)
  rintro e w8 ⟨v231, rfl, ho0, hb⟩
  refine ⟨_, rfl, ?_⟩
  have n0_ := zM (Kd.R_lower ho0 (below_size q9_0))
  have n1_ := zM (blk_below (g := gb229) q9_2 hb)
  have n2_ := zM (below_step q9_0 hb)
  clear BK229
  clear HB
  have HO232 := n0_
  have BK229 := n1_
  have HB := n2_
  clear n0_ n1_ n2_
  (try clear hb)
  (try clear hb2)
  (try clear hk)
  (try clear hi)
  (try clear ho0)
  obtain ⟨Ao9, co9, eo9⟩ := Kd.R_slice HO232.out
  (first | subst eo9 | (injection eo9 with f1_ f2_ f3_; have f4_ := f1_.symm; have f5_ := f3_.symm; clear f1_ f2_ f3_; subst f4_; subst f5_))
  refine hK.out _ _ ⟨(blk_cell BK229.out 0).trans rfl, (blk_cell BK229.out 1).trans rfl, (blk_cell BK229.out 2).trans rfl, (blk_cell BK229.out 3).trans rfl⟩ (fun hHeld => ?_)
  clear hK K
  refine norm_ (a' := ?_) ?_ ?_
  rotate_left
  ·
   show Act.put _ (some 8) _ = _
   simp only [Act.put, List.setIfInBounds_toArray, List.set_cons_zero, List.set_cons_succ, i64_w, i32_w]
   rfl
  refine one_ (i := 3) (N := some 9) #[true, true, true, true, false] rfl rfl (by kernel_rfl) (by decide) (fun K hK => ?_)
  refine goes_ Tryd.func55 (by kernel_rfl) rfl #[.agg #[.slice A0_0 l0_0.length c0_0, .slice A0_1 l0_1.length c0_1, .slice A0_2 l0_2.length c0_2, .slice A0_3 l0_3.length c0_3], .slice Ao9 t230.length co9] (by rfl) rfl rfl s0 ?_
  with_reducible refine (net_clocksOf.calls k _ _ l0_0 _ _ l0_1 _ _ l0_2 _ _ l0_3 _ _ t230 t233 _ ?side1 ?side2 ?side3 ?side4 ?side5 ?side6 ?side7 ?side8 ?side9 ?side10 A3.out).mono ?_
  (case side1 => exact s10)
  (case side2 => exact HC0_0.out)
  (case side3 => exact s11)
  (case side4 => exact HC0_1.out)
  (case side5 => exact s12)
  (case side6 => exact HC0_2.out)
  (case side7 => exact s13)
  (case side8 => exact HC0_3.out)
  (case side9 => exact q9_27)
  (case side10 => exact (Kd.R_reads' HO232.out).2.1)
  rintro e w10 ⟨rfl, hb⟩
  refine ⟨_, rfl, ?_⟩
  have n0_ := zM (Kd.R_below q9_19 hb)
  have n1_ := zM (blk_below (g := gb229) q9_2 hb)
  have n2_ := zM (below_step q9_0 hb)
  clear HO232
  clear BK229
  clear HB
  have HO232 := n0_
  have BK229 := n1_
  have HB := n2_
  clear n0_ n1_ n2_
  (try clear hb)
  (try clear hb2)
  (try clear hk)
  (try clear hi)
  refine hK.out _ _ ⟨(blk_cell BK229.out 0).trans rfl, (blk_cell BK229.out 1).trans rfl, (blk_cell BK229.out 2).trans rfl, (blk_cell BK229.out 3).trans rfl⟩ (fun hHeld => ?_)
  clear hK K
  refine norm_ (a' := ?_) ?_ ?_
  rotate_left
  ·
   show Act.put _ (some 9) _ = _
   simp only [Act.put, List.setIfInBounds_toArray, List.set_cons_zero, List.set_cons_succ, i64_w, i32_w]
   rfl
  refine pure_ (i := 4) (N := some 3) (v := ?_) (a' := ?_) #[true, true, true, true, true] rfl rfl (by kernel_rfl) (fun _ _ _ h => h) (Or.inl ⟨by rfl, ?_⟩) ?_ ?_
  rotate_left
  ·
   intro w'
   go_simp
   with_reducible rfl
  rotate_left
  ·
   simp only [Act.put, List.setIfInBounds_toArray, List.set_cons_zero, List.set_cons_succ, i64_w, i32_w]
   rfl
  refine done_ (by kernel_rfl) ?_
  obtain ⟨hcz11_0, hcz11_1, hcz11_2, hcz11_3, hfz11_0, hfz11_1, hfz11_2, hfz11_3⟩ := blk4 BK229.out
  try go_wp2_with (first | ((with_reducible refine gate_callee (f := 57) rfl ?_); refine goesL_ (some 14) rfl rfl Tryd.func57 (by kernel_rfl) rfl #[.agg #[.slice A0_0 l0_0.length c0_0, .slice A0_1 l0_1.length c0_1, .slice A0_2 l0_2.length c0_2, .slice A0_3 l0_3.length c0_3]] rfl s0 ?_; (with_reducible refine (net_sets.calls k _ _ l0_0 _ _ l0_1 _ _ l0_2 _ _ l0_3 t234 w _ ?sideB ?side1 HC0_0.out ?side3 HC0_1.out ?side5 HC0_2.out ?side7 HC0_3.out A5.out).mono ?_); (case sideB => exact q9_0); (case side1 => exact HR0_0.out); (case side3 => exact HR0_1.out); (case side5 => exact HR0_2.out); (case side7 => exact HR0_3.out); rintro e w12 ⟨v235, rfl, ho0, hb⟩; refine ⟨_, rfl, ?_⟩; have HO236 := zM (Kd.V_lower (Kd.V_mono (ok' := fun k_ => some k_ ≠ (.slice Ao9 t230.length co9 : Value).ownBlock ∧ k_ ≠ gb229) ho0 (fun k_ hk_ => Or.elim hk_ (fun hk_ => ⟨fun e_ => Nat.lt_irrefl _ (Nat.lt_of_lt_of_le hk_ (Kd.R_base HO232.out k_ e_.symm)), Nat.ne_of_lt (Nat.lt_of_lt_of_le hk_ GE229.out)⟩) (fun hk_ => ⟨(Kd.fresh' (Kd.R_lt q9_19) k_ hk_), (Kd.freshB (g := gb229) (o := .cells #[.slice A0_0 l0_0.length c0_0, .slice A0_1 l0_1.length c0_1, .slice A0_2 l0_2.length c0_2, .slice A0_3 l0_3.length c0_3] 26 (0, 0)) q9_2 k_ hk_)⟩))) (below_size q9_0)); replace HO232 := zM (Kd.R_below q9_19 hb); replace BK229 := zM (blk_below (g := gb229) q9_2 hb); replace HB := zM (below_step q9_0 hb); (try clear hb); (try clear ho0); obtain ⟨Ao13, co13, eo13⟩ := Kd.V_slice HO236.out; subst eo13))
  go_loopg [16] k (fun kq v16 w' => ∃ (x16_1 : Int), v16 = .int .i64 x16_1 ∧ Aside0 (net_clocks.l0 kq t234 (t234.length : Int) x16_1 l0_0 l0_1 l0_2 l0_3 = some r) ∧ Aside0 (kq ≤ k) ∧ Aside0 (Kd.V k92 92 w' w.heap.size (fun k_ => k_ ≠ gb229) (.slice Ao13 t234.length co13) t234) ∧ Aside0 (w'.heap[gb229]? = some (.cells #[(.slice A0_0 l0_0.length c0_0), (.slice A0_1 l0_1.length c0_1), (.slice A0_2 l0_2.length c0_2), (.slice A0_3 l0_3.length c0_3)] 26 (0, 0))) ∧ Aside0 (Below w.heap.size w w'))
  case atStart => exact ⟨(0), s7, H', ⟨Nat.le_refl _⟩, ⟨(by (with_reducible repeat (first | apply Kd.V_alloc | apply Kd.V_drewN | apply Kd.V_drew)); exact Kd.V_mono HO236.out (fun _ hk => hk.2))⟩, ⟨q9_2⟩, ⟨q9_0⟩⟩
  clear H'
  obtain ⟨x16_1, rfl, HA, HK1, HO_14, BK229, HB⟩ := hrel
  cases gk with
  | zero => exact absurd HA.out (by simp [net_clocks.l0])
  | succ k1 =>
   have H := HA.out
   clear HA
   simp only [net_clocks.l0] at H
   by_cases c14 : x16_1 < (t234.length : Int)
   ·
    rw [if_pos c14] at H
    have c14b0 := zD c14
    clear c14
    by_cases c15 : 0 ≤ x16_1
    ·
     rw [if_pos c15] at H
     have c15b0 := zD c15
     clear c15
     by_cases c16 : x16_1 < (t234.length : Int)
     ·
      rw [if_pos c16] at H
      have c16b0 := zD c16
      clear c16
      by_cases c17 : ((rd_T92 t234 x16_1).f0) = 0
      ·
       rw [if_pos c17] at H
       obtain ⟨c17b0, c17b1⟩ := eqb c17
       clear c17
       have H' := zM H
       clear H
       have p237 : 0 ≤ (x16_1 : Int) := zO s3
       have q237 : x16_1 < (t234.length : Int) := zO s3
       obtain ⟨ad237, A237_3, c237_3, e237, hx237_0, hx237_1, hx237_2, hx237_3, HC237_3, HR237_3⟩ := as_T92 (Kd.V_reads' HO_14.out).2.2 x16_1 p237 q237
       cases e237
       obtain ⟨ce237, hce237, hMe237, hcc237⟩ := Kd.V_get HO_14.out z92 x16_1 p237 q9_26
       obtain ⟨ua237_3, uc237_3, rfl, ul237_3, ge237_3⟩ := k92_openF hMe237
       have hv237_3 := hcc237 3 _ rfl
       rw [add_field _ _ 3 (by omega)] at hv237_3
       replace hv237_3 := Option.some.inj (hv237_3.symm.trans hx237_3)
       injection hv237_3 with hva_ hvn_ hvc_
       rw [hva_] at ge237_3
       rw [hvc_] at ul237_3
       have HL237_3 := zM (show Kd.V k122 122 _ w.heap.size _ _ ((rd_T92 t234 x16_1).f3) from Kd.V_mk ul237_3 ge237_3)
       clear hva_ hvn_ hvc_ ge237_3 ul237_3
       clear hcc237 hce237
       replace p237 := eq_true p237
       replace q237 := eq_true q237
       go_wp2_with (first | ((with_reducible refine gate_dst (N := 5) rfl ?_); refine box_ev (N := 5) (cs := #[.int .i64 0, .int .i64 0, .int .i64 0, .slice none 0 0]) (t := 92) ?_; intro gb238 hg w18 hbox hb; have BK238 := zM (hbox); have GE238 := zM (box_ge (n := w.heap.size) hg (below_size q9_0)); have NB229_238 := zM (box_ne hg (g := gb229) q9_2); have NB238_229 := zM (box_ne' hg (g := gb229) q9_2); replace HO_14 := zM (Kd.V_below (Kd.V_elderB q9_24 gb238 (Nat.le_of_eq hg.symm)) hb); replace HL237_3 := zM (Kd.V_below (Kd.V_elderB q9_23 gb238 (Nat.le_of_eq hg.symm)) hb); replace BK229 := zM (blk_below (g := gb229) q9_2 hb); replace HR237_3 := zM (Kd.C_below q9_17 hb); replace HB := zM (below_step q9_0 hb); clear hb hbox hg; have hnb19 := NB238_229.out; have hnc19 := NB229_238.out; obtain ⟨hcz20_0, hcz20_1, hcz20_2, hcz20_3, hfz20_0, hfz20_1, hfz20_2, hfz20_3⟩ := blk4 BK238.out))
       go_roundg k1
       case measure => have := HK1.out; omega
       case rel => exact ⟨(wrap64 (x16_1 + 1)), s7, H', ⟨(by have := HK1.out; omega)⟩, ⟨(by (with_reducible repeat (first | apply Kd.V_alloc | apply Kd.V_drewN | apply Kd.V_drew)); exact Kd.V_mono (Kd.V_far (p := ⟨gb238, 3, none⟩) (Kd.V_far (p := ⟨gb238, 2, none⟩) (Kd.V_far (p := ⟨gb238, 1, none⟩) (Kd.V_far (p := ⟨gb238, 0, none⟩) (Kd.V_mono HO_14.out (fun k_ hk => (⟨hk, hk.2⟩ : _ ∧ k_ ≠ gb238))) (fun _ hk => hk.2) (.int .i64 ((rd_T92 t234 x16_1).f0))) (fun _ hk => hk.2) (.int .i64 ((rd_T92 t234 x16_1).f1))) (fun _ hk => hk.2) (.int .i64 ((rd_T92 t234 x16_1).f2))) (fun _ hk => hk.2) (.slice A237_3 ((rd_T92 t234 x16_1).f3).length c237_3)) (fun _ hk => hk.1.1))⟩, ⟨q9_12⟩, ⟨q9_1⟩⟩
      rw [if_neg c17] at H
      obtain ⟨c17b0, c17b1⟩ := neb c17
      replace H := Option.bind_eq_some_iff.mp H
      obtain ⟨t239, A210, H⟩ := H
      replace H : (if t239 = true then (net_clocks.l0 k1 t234 (t234.length : Int) (wrap64 (x16_1 + 1)) l0_0 l0_1 l0_2 l0_3) else (some 12)) = some r := H
      have A21 := zM A210
      clear A210
      by_cases c22 : t239 = true
      ·
       subst c22
       have H1 : (net_clocks.l0 k1 t234 (t234.length : Int) (wrap64 (x16_1 + 1)) l0_0 l0_1 l0_2 l0_3) = some r := by rw [if_pos rfl] at H; exact H
       clear H
       have H := H1
       clear H1
       have H' := zM H
       clear H
       have p237 : 0 ≤ (x16_1 : Int) := zO s3
       have q237 : x16_1 < (t234.length : Int) := zO s3
       obtain ⟨ad237, A237_3, c237_3, e237, hx237_0, hx237_1, hx237_2, hx237_3, HC237_3, HR237_3⟩ := as_T92 (Kd.V_reads' HO_14.out).2.2 x16_1 p237 q237
       cases e237
       obtain ⟨ce237, hce237, hMe237, hcc237⟩ := Kd.V_get HO_14.out z92 x16_1 p237 q9_26
       obtain ⟨ua237_3, uc237_3, rfl, ul237_3, ge237_3⟩ := k92_openF hMe237
       have hv237_3 := hcc237 3 _ rfl
       rw [add_field _ _ 3 (by omega)] at hv237_3
       replace hv237_3 := Option.some.inj (hv237_3.symm.trans hx237_3)
       injection hv237_3 with hva_ hvn_ hvc_
       rw [hva_] at ge237_3
       rw [hvc_] at ul237_3
       have HL237_3 := zM (show Kd.V k122 122 _ w.heap.size _ _ ((rd_T92 t234 x16_1).f3) from Kd.V_mk ul237_3 ge237_3)
       clear hva_ hvn_ hvc_ ge237_3 ul237_3
       clear hcc237 hce237
       replace p237 := eq_true p237
       replace q237 := eq_true q237
       go_wp2_with (first | ((with_reducible refine gate_dst (N := 5) rfl ?_); refine box_ev (N := 5) (cs := #[.int .i64 0, .int .i64 0, .int .i64 0, .slice none 0 0]) (t := 92) ?_; intro gb238 hg w23 hbox hb; have BK238 := zM (hbox); have GE238 := zM (box_ge (n := w.heap.size) hg (below_size q9_0)); have NB229_238 := zM (box_ne hg (g := gb229) q9_2); have NB238_229 := zM (box_ne' hg (g := gb229) q9_2); replace HO_14 := zM (Kd.V_below (Kd.V_elderB q9_24 gb238 (Nat.le_of_eq hg.symm)) hb); replace HL237_3 := zM (Kd.V_below (Kd.V_elderB q9_23 gb238 (Nat.le_of_eq hg.symm)) hb); replace BK229 := zM (blk_below (g := gb229) q9_2 hb); replace HR237_3 := zM (Kd.C_below q9_17 hb); replace HB := zM (below_step q9_0 hb); clear hb hbox hg; have hnb24 := NB238_229.out; have hnc24 := NB229_238.out; obtain ⟨hcz25_0, hcz25_1, hcz25_2, hcz25_3, hfz25_0, hfz25_1, hfz25_2, hfz25_3⟩ := blk4 BK238.out; obtain ⟨hcz26_0, hcz26_1, hcz26_2, hcz26_3, hfz26_0, hfz26_1, hfz26_2, hfz26_3⟩ := blk4 BK229.out) | (go_at_call 58; (with_reducible refine (net_isClock.calls _ _ l0_0 _ _ l0_1 _ _ l0_2 _ _ l0_3 ((rd_T92 t234 x16_1).f0) true _ ?side1 HC0_0.out ?side3 HC0_1.out ?side5 HC0_2.out ?side7 HC0_3.out A21.out).mono ?_); (case side1 => exact Kd.C_below HR0_0.out q9_1); (case side3 => exact Kd.C_below HR0_1.out q9_1); (case side5 => exact Kd.C_below HR0_2.out q9_1); (case side7 => exact Kd.C_below HR0_3.out q9_1); rintro e w27 ⟨rfl, hb⟩; replace HO_14 := zM (Kd.V_below q9_7 hb); replace BK229 := zM (blk_below (g := gb229) (o := .cells #[.slice A0_0 l0_0.length c0_0, .slice A0_1 l0_1.length c0_1, .slice A0_2 l0_2.length c0_2, .slice A0_3 l0_3.length c0_3] 26 (0, 0)) q9_12 hb); replace HR237_3 := zM (Kd.C_below ((Kd.V_reads' q9_3).2.2) hb); replace HL237_3 := zM (Kd.V_below q9_3 hb); replace BK238 := zM (blk_below (g := gb238) (o := .cells #[.int .i64 ((rd_T92 t234 x16_1).f0), .int .i64 ((rd_T92 t234 x16_1).f1), .int .i64 ((rd_T92 t234 x16_1).f2), .slice A237_3 ((rd_T92 t234 x16_1).f3).length c237_3] 92 (0, 0)) q9_21 hb); replace HB := zM (below_step q9_1 hb); (try clear hb)))
       go_roundg k1
       case measure => have := HK1.out; omega
       case rel => exact ⟨(wrap64 (x16_1 + 1)), s7, H', ⟨(by have := HK1.out; omega)⟩, ⟨(by (with_reducible repeat (first | apply Kd.V_alloc | apply Kd.V_drewN | apply Kd.V_drew)); exact Kd.V_mono HO_14.out (fun _ hk => hk.1))⟩, ⟨q9_2⟩, ⟨q9_1⟩⟩
      replace c22 := Bool.eq_false_iff.mpr c22
      subst c22
      have H1 : (some 12) = some r := by rw [if_neg (show ¬ (false = true) by decide)] at H; exact H
      clear H
      have H := H1
      clear H1
      obtain rfl := Option.some.inj H
      have p237 : 0 ≤ (x16_1 : Int) := zO s3
      have q237 : x16_1 < (t234.length : Int) := zO s3
      obtain ⟨ad237, A237_3, c237_3, e237, hx237_0, hx237_1, hx237_2, hx237_3, HC237_3, HR237_3⟩ := as_T92 (Kd.V_reads' HO_14.out).2.2 x16_1 p237 q237
      cases e237
      obtain ⟨ce237, hce237, hMe237, hcc237⟩ := Kd.V_get HO_14.out z92 x16_1 p237 q9_26
      obtain ⟨ua237_3, uc237_3, rfl, ul237_3, ge237_3⟩ := k92_openF hMe237
      have hv237_3 := hcc237 3 _ rfl
      rw [add_field _ _ 3 (by omega)] at hv237_3
      replace hv237_3 := Option.some.inj (hv237_3.symm.trans hx237_3)
      injection hv237_3 with hva_ hvn_ hvc_
      rw [hva_] at ge237_3
      rw [hvc_] at ul237_3
      have HL237_3 := zM (show Kd.V k122 122 _ w.heap.size _ _ ((rd_T92 t234 x16_1).f3) from Kd.V_mk ul237_3 ge237_3)
      clear hva_ hvn_ hvc_ ge237_3 ul237_3
      clear hcc237 hce237
      replace p237 := eq_true p237
      replace q237 := eq_true q237
      go_wp2_with (first | ((with_reducible refine gate_dst (N := 5) rfl ?_); refine box_ev (N := 5) (cs := #[.int .i64 0, .int .i64 0, .int .i64 0, .slice none 0 0]) (t := 92) ?_; intro gb238 hg w28 hbox hb; have BK238 := zM (hbox); have GE238 := zM (box_ge (n := w.heap.size) hg (below_size q9_0)); have NB229_238 := zM (box_ne hg (g := gb229) q9_2); have NB238_229 := zM (box_ne' hg (g := gb229) q9_2); replace HO_14 := zM (Kd.V_below (Kd.V_elderB q9_24 gb238 (Nat.le_of_eq hg.symm)) hb); replace HL237_3 := zM (Kd.V_below (Kd.V_elderB q9_23 gb238 (Nat.le_of_eq hg.symm)) hb); replace BK229 := zM (blk_below (g := gb229) q9_2 hb); replace HR237_3 := zM (Kd.C_below q9_17 hb); replace HB := zM (below_step q9_0 hb); clear hb hbox hg; have hnb29 := NB238_229.out; have hnc29 := NB229_238.out; obtain ⟨hcz30_0, hcz30_1, hcz30_2, hcz30_3, hfz30_0, hfz30_1, hfz30_2, hfz30_3⟩ := blk4 BK238.out; obtain ⟨hcz31_0, hcz31_1, hcz31_2, hcz31_3, hfz31_0, hfz31_1, hfz31_2, hfz31_3⟩ := blk4 BK229.out) | (go_at_call 58; (with_reducible refine (net_isClock.calls _ _ l0_0 _ _ l0_1 _ _ l0_2 _ _ l0_3 ((rd_T92 t234 x16_1).f0) false _ ?side1 HC0_0.out ?side3 HC0_1.out ?side5 HC0_2.out ?side7 HC0_3.out A21.out).mono ?_); (case side1 => exact Kd.C_below HR0_0.out q9_1); (case side3 => exact Kd.C_below HR0_1.out q9_1); (case side5 => exact Kd.C_below HR0_2.out q9_1); (case side7 => exact Kd.C_below HR0_3.out q9_1); rintro e w32 ⟨rfl, hb⟩; replace HO_14 := zM (Kd.V_below q9_7 hb); replace BK229 := zM (blk_below (g := gb229) (o := .cells #[.slice A0_0 l0_0.length c0_0, .slice A0_1 l0_1.length c0_1, .slice A0_2 l0_2.length c0_2, .slice A0_3 l0_3.length c0_3] 26 (0, 0)) q9_12 hb); replace HR237_3 := zM (Kd.C_below ((Kd.V_reads' q9_3).2.2) hb); replace HL237_3 := zM (Kd.V_below q9_3 hb); replace BK238 := zM (blk_below (g := gb238) (o := .cells #[.int .i64 ((rd_T92 t234 x16_1).f0), .int .i64 ((rd_T92 t234 x16_1).f1), .int .i64 ((rd_T92 t234 x16_1).f2), .slice A237_3 ((rd_T92 t234 x16_1).f3).length c237_3] 92 (0, 0)) q9_21 hb); replace HB := zM (below_step q9_1 hb); (try clear hb)))
      go_ret
      exact ⟨s6, q9_1⟩
     rw [if_neg c16] at H
     exact absurd H (by simp)
    rw [if_neg c15] at H
    exact absurd H (by simp)
   rw [if_neg c14] at H
   have c14b0 := decide_eq_false c14
   clear c14
   obtain rfl := Option.some.inj H
   go_wp2
   go_ret
   exact ⟨s6, q9_0⟩
 rw [if_neg c4] at H
 obtain ⟨c4b0, c4b1⟩ := neb c4
 obtain rfl := Option.some.inj H
 go_enter Tryd.func43, Tryd.ntmps43
 try go_wp2_with (first | ((with_reducible refine gate_dst (N := 1) rfl ?_); refine box_ev (N := 1) (cs := #[.slice A0_0 l0_0.length c0_0, .slice A0_1 l0_1.length c0_1, .slice A0_2 l0_2.length c0_2, .slice A0_3 l0_3.length c0_3]) (t := 26) ?_; intro gb229 hg w33 hbox hb; have BK229 := zM (hbox); have GE229 := zM (box_ge (n := w.heap.size) hg (below_size s8)); replace HB := zM (below_step s8 hb); clear hb hbox hg))
 have n0_ := zM (blk_drew BK229.out)
 have n1_ := zM (below_drew1 HB.out)
 clear BK229
 clear HB
 have BK229 := n0_
 have HB := n1_
 clear n0_ n1_
 refine start_ (n := 5) (S := fun w' => w'.cell? ⟨gb229, 0, none⟩ = some (.slice A0_0 l0_0.length c0_0) ∧ w'.cell? ⟨gb229, 1, none⟩ = some (.slice A0_1 l0_1.length c0_1) ∧ w'.cell? ⟨gb229, 2, none⟩ = some (.slice A0_2 l0_2.length c0_2) ∧ w'.cell? ⟨gb229, 3, none⟩ = some (.slice A0_3 l0_3.length c0_3)) (ds := []) #[false, false, false, false, false] (by kernel_rfl) rfl rfl ⟨(blk_cell BK229.out 0).trans rfl, (blk_cell BK229.out 1).trans rfl, (blk_cell BK229.out 2).trans rfl, (blk_cell BK229.out 3).trans rfl⟩ (fun hHeld => ?_)
 generalize w33.drew = w34 at BK229 HB hHeld ⊢
 refine take_ (i := 0) (N := some 6) (v := ?_) (a' := ?_) #[true, false, false, false, false] rfl rfl (by kernel_rfl) (fun _ _ _ h => h) (Or.inl ⟨by rfl, ?_⟩) hHeld ?_ ?_
 rotate_left
 ·
  rintro w' ⟨s0, s1, s2, s3⟩
  go_simp
  with_reducible rfl
 rotate_left
 ·
  simp only [Act.put, List.setIfInBounds_toArray, List.set_cons_zero, List.set_cons_succ, i64_w, i32_w]
  rfl
 refine take_ (i := 1) (N := some 7) (v := ?_) (a' := ?_) #[true, true, false, false, false] rfl rfl (by kernel_rfl) (fun _ _ _ h => h) (Or.inl ⟨by rfl, ?_⟩) hHeld ?_ ?_
 rotate_left
 ·
  rintro w' ⟨s0, s1, s2, s3⟩
  go_simp
  with_reducible rfl
 rotate_left
 ·
  simp only [Act.put, List.setIfInBounds_toArray, List.set_cons_zero, List.set_cons_succ, i64_w, i32_w]
  rfl
 refine one_ (i := 2) (N := some 8) #[true, true, true, false, false] rfl rfl (by kernel_rfl) (by decide) (fun K hK => ?_)
 refine goes_ Tryd.func56 (by kernel_rfl) rfl #[.agg #[.slice A0_0 l0_0.length c0_0, .slice A0_1 l0_1.length c0_1, .slice A0_2 l0_2.length c0_2, .slice A0_3 l0_3.length c0_3]] (by rfl) rfl rfl s0 ?_
 with_reducible refine (net_guards.calls k _ _ l0_0 _ _ l0_1 _ _ l0_2 _ _ l0_3 t230 _ ?side1 ?side2 ?side3 ?side4 ?side5 ?side6 ?side7 ?side8 A2.out).mono ?_
 (case side1 => exact s10)
 (case side2 => exact HC0_0.out)
 (case side3 => exact s11)
 (case side4 => exact HC0_1.out)
 (case side5 => exact s12)
 (case side6 => exact HC0_2.out)
 (case side7 => exact s13)
 (case side8 => exact HC0_3.out)
 rintro e w35 ⟨v231, rfl, ho0, hb⟩
 refine ⟨_, rfl, ?_⟩
 have n0_ := zM (Kd.R_lower ho0 (below_size q9_0))
 have n1_ := zM (blk_below (g := gb229) q9_2 hb)
 have n2_ := zM (below_step q9_0 hb)
 clear BK229
 clear HB
 have HO232 := n0_
 have BK229 := n1_
 have HB := n2_
 clear n0_ n1_ n2_
 (try clear hb)
 (try clear hb2)
 (try clear hk)
 (try clear hi)
 (try clear ho0)
 obtain ⟨Ao36, co36, eo36⟩ := Kd.R_slice HO232.out
 (first | subst eo36 | (injection eo36 with f1_ f2_ f3_; have f4_ := f1_.symm; have f5_ := f3_.symm; clear f1_ f2_ f3_; subst f4_; subst f5_))
 refine hK.out _ _ ⟨(blk_cell BK229.out 0).trans rfl, (blk_cell BK229.out 1).trans rfl, (blk_cell BK229.out 2).trans rfl, (blk_cell BK229.out 3).trans rfl⟩ (fun hHeld => ?_)
 clear hK K
 refine norm_ (a' := ?_) ?_ ?_
 rotate_left
 ·
  show Act.put _ (some 8) _ = _
  simp only [Act.put, List.setIfInBounds_toArray, List.set_cons_zero, List.set_cons_succ, i64_w, i32_w]
  rfl
 refine one_ (i := 3) (N := some 9) #[true, true, true, true, false] rfl rfl (by kernel_rfl) (by decide) (fun K hK => ?_)
 refine goes_ Tryd.func55 (by kernel_rfl) rfl #[.agg #[.slice A0_0 l0_0.length c0_0, .slice A0_1 l0_1.length c0_1, .slice A0_2 l0_2.length c0_2, .slice A0_3 l0_3.length c0_3], .slice Ao36 t230.length co36] (by rfl) rfl rfl s0 ?_
 with_reducible refine (net_clocksOf.calls k _ _ l0_0 _ _ l0_1 _ _ l0_2 _ _ l0_3 _ _ t230 t233 _ ?side1 ?side2 ?side3 ?side4 ?side5 ?side6 ?side7 ?side8 ?side9 ?side10 A3.out).mono ?_
 (case side1 => exact s10)
 (case side2 => exact HC0_0.out)
 (case side3 => exact s11)
 (case side4 => exact HC0_1.out)
 (case side5 => exact s12)
 (case side6 => exact HC0_2.out)
 (case side7 => exact s13)
 (case side8 => exact HC0_3.out)
 (case side9 => exact q9_27)
 (case side10 => exact (Kd.R_reads' HO232.out).2.1)
 rintro e w37 ⟨rfl, hb⟩
 refine ⟨_, rfl, ?_⟩
 have n0_ := zM (Kd.R_below q9_19 hb)
 have n1_ := zM (blk_below (g := gb229) q9_2 hb)
 have n2_ := zM (below_step q9_0 hb)
 clear HO232
 clear BK229
 clear HB
 have HO232 := n0_
 have BK229 := n1_
 have HB := n2_
 clear n0_ n1_ n2_
 (try clear hb)
 (try clear hb2)
 (try clear hk)
 (try clear hi)
 refine hK.out _ _ ⟨(blk_cell BK229.out 0).trans rfl, (blk_cell BK229.out 1).trans rfl, (blk_cell BK229.out 2).trans rfl, (blk_cell BK229.out 3).trans rfl⟩ (fun hHeld => ?_)
 clear hK K
 refine norm_ (a' := ?_) ?_ ?_
 rotate_left
 ·
  show Act.put _ (some 9) _ = _
  simp only [Act.put, List.setIfInBounds_toArray, List.set_cons_zero, List.set_cons_succ, i64_w, i32_w]
  rfl
 refine pure_ (i := 4) (N := some 3) (v := ?_) (a' := ?_) #[true, true, true, true, true] rfl rfl (by kernel_rfl) (fun _ _ _ h => h) (Or.inl ⟨by rfl, ?_⟩) ?_ ?_
 rotate_left
 ·
  intro w'
  go_simp
  with_reducible rfl
 rotate_left
 ·
  simp only [Act.put, List.setIfInBounds_toArray, List.set_cons_zero, List.set_cons_succ, i64_w, i32_w]
  rfl
 refine done_ (by kernel_rfl) ?_
 try go_wp2
 go_ret
 exact ⟨s6, q9_0⟩

end Go.Proofs.YtpmhfahligjhaaaDoor.POrd
