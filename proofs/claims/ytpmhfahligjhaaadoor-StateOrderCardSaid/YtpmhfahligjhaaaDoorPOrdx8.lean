-- written by wip/tools/xprint.py (over the kit's print.py): not trusted, Lean checks it.
import Derived.Test.YtpmhfahligjhaaaDoorPOrdx0
-- compact
namespace Go.Proofs.YtpmhfahligjhaaaDoor.POrd
open Go.RowKit Go.Proofs.YtpmhfahligjhaaaDoorW.PrintWords Go.Proofs.YtpmhfahligjhaaaDoorW.PrintLast Go.Proofs.YtpmhfahligjhaaaDoorW.PrintMore Go.Proofs.YtpmhfahligjhaaaDoorXW
attribute [local go_sem high] Option.map_some
attribute [local go_sem] max2_int max_two
set_option linter.unusedVariables false
set_option linter.unusedSimpArgs false

theorem q8_0 {p : Prop} (h : p := by repeat (first | (with_reducible first | exact HB.out | apply below_alloc | apply pw_below_drewN | apply below_drew1 | refine below_set ?_ GE216.out | refine below_set ?_ GE218.out) | exact HB.out)) : p := h
theorem q8_1 {p : Prop} (h : p := by (with_reducible repeat (first | refine blk_drewN ?_ _ | refine blk_drew ?_ | refine blk_alloc ?_ _)); exact BK216.out) : p := h
theorem q8_2 {p : Prop} (h : p := by (with_reducible repeat (first | refine blk_drewN ?_ _ | refine blk_drew ?_ | refine blk_alloc ?_ _)); exact BK202.out) : p := h
theorem q8_3 {p : Prop} (h : p := by repeat (first | (with_reducible first | exact HB.out | apply below_alloc | apply pw_below_drewN | apply below_drew1 | refine below_set ?_ GE216.out) | exact HB.out)) : p := h
theorem q8_4 {p : Prop} (h : p := by repeat (first | (with_reducible first | exact HB.out | apply below_alloc | apply pw_below_drewN | apply below_drew1 | refine below_set ?_ GE202.out | refine below_set ?_ GE204.out) | exact HB.out)) : p := h
theorem q8_5 {p : Prop} (h : p := by (with_reducible repeat (first | refine blk_drewN ?_ _ | refine blk_drew ?_ | refine blk_alloc ?_ _)); exact BK204.out) : p := h
theorem q8_7 {p : Prop} (h : p := by (with_reducible repeat (first | refine blk_drewN ?_ _ | refine blk_drew ?_ | refine blk_alloc ?_ _)); apply blk_fill4; (with_reducible repeat (first | refine blk_drewN ?_ _ | refine blk_drew ?_ | refine blk_alloc ?_ _)); exact BK218.out) : p := h
theorem q8_8 {p : Prop} (h : p := by repeat (first | (with_reducible first | exact HB.out | apply below_alloc | apply pw_below_drewN | apply below_drew1 | refine below_set ?_ GE202.out | refine below_set ?_ GE204.out | refine below_set ?_ GE211.out) | exact HB.out)) : p := h
theorem q8_9 {p : Prop} (h : p := by repeat (first | (with_reducible first | exact HB.out | apply below_alloc | apply pw_below_drewN | apply below_drew1 | refine below_set ?_ GE202.out | refine below_set ?_ GE204.out | refine below_set ?_ GE206.out) | exact HB.out)) : p := h
theorem q8_12 {p : Prop} (h : p := by (iterate 4 ((with_reducible repeat (first | refine blk_drewN ?_ _ | refine blk_drew ?_ | refine blk_alloc ?_ _)); refine blk_far ?_ NB216_218.out _)); (with_reducible repeat (first | refine blk_drewN ?_ _ | refine blk_drew ?_ | refine blk_alloc ?_ _)); exact BK216.out) : p := h
theorem q8_13 {p : Prop} (h : p := by repeat (first | (with_reducible first | exact HB.out | apply below_alloc | apply pw_below_drewN | apply below_drew1 | refine below_set ?_ GE202.out) | exact HB.out)) : p := h
theorem q8_21 {p : Prop} (h : p := by repeat (first | (with_reducible first | exact HB.out | apply below_alloc | apply pw_below_drewN | apply below_drew1 | refine below_set ?_ GE215.out) | exact HB.out)) : p := h
theorem q8_22 {p : Prop} (h : p := by (with_reducible repeat (first | refine blk_drewN ?_ _ | refine blk_drew ?_ | refine blk_alloc ?_ _)); exact BK218.out) : p := h
theorem q8_23 {p : Prop} (h : p := by exact Kd.C_below HR0_3.out q8_0) : p := h
theorem q8_24 {p : Prop} (h : p := by exact Kd.C_below HR0_2.out q8_0) : p := h
theorem q8_25 {p : Prop} (h : p := by exact Kd.C_below HR0_1.out q8_0) : p := h
theorem q8_26 {p : Prop} (h : p := by exact Kd.C_below HR0_0.out q8_0) : p := h
/-! ### net_guards: function 56 -/
mutual
def net_guards.l0 : Nat → List (S118) → List (S61) → Int → Int → Option ((List (S118)))
 | 0, _, _, _, _ => none
 | k + 1, x3, x11, x12, x13 => if x13 < x12 then (if 0 ≤ x13 then (if x13 < (x11.length : Int) then (net_guards.l1 k x3 x11 x12 x13 ((rd_T61 x11 x13).f1) (((rd_T61 x11 x13).f1).length : Int) 0 ((rd_T61 x11 x13).f0) ((rd_T61 x11 x13).f1) ((rd_T61 x11 x13).f2)) else (none)) else (none)) else (some x3)
def net_guards.l1 : Nat → List (S118) → List (S61) → Int → Int → List (S57) → Int → Int → ByteArray → List (S57) → List (S90) → Option ((List (S118)))
 | 0, _, _, _, _, _, _, _, _, _, _ => none
 | k + 1, x3, x11, x12, x13, x18, x19, x20, x205000, x205001, x205002 => if x20 < x19 then (if 0 ≤ x20 then (if x20 < (x18.length : Int) then (if x3.length + ((rd_T57 x18 x20).f2).length < 4398046511104 then (net_guards.l1 k (x3 ++ ((rd_T57 x18 x20).f2)) x11 x12 x13 x18 x19 (wrap64 (x20 + 1)) x205000 x205001 x205002) else (none)) else (none)) else (none)) else (net_guards.l2 k x3 x11 x12 x13 x205002 (x205002.length : Int) 0)
def net_guards.l2 : Nat → List (S118) → List (S61) → Int → Int → List (S90) → Int → Int → Option ((List (S118)))
 | 0, _, _, _, _, _, _, _ => none
 | k + 1, x3, x11, x12, x13, x30, x31, x32 => if x32 < x31 then (if 0 ≤ x32 then (if x32 < (x30.length : Int) then (if x3.length + ((rd_T90 x30 x32).f2).length < 4398046511104 then (net_guards.l2 k (x3 ++ ((rd_T90 x30 x32).f2)) x11 x12 x13 x30 x31 (wrap64 (x32 + 1))) else (none)) else (none)) else (none)) else (net_guards.l0 k x3 x11 x12 (wrap64 (x13 + 1)))
end
def net_guards.f (k : Nat) (l0_0 : List ByteArray) (l0_1 : List (S50)) (l0_2 : List ByteArray) (l0_3 : List (S61)) : Option ((List (S118))) := net_guards.l0 k ([] : List (S118)) l0_3 (l0_3.length : Int) 0
theorem net_guards.mono_l : ∀ k, (∀ y0 y1 y2 y3, LeO (net_guards.l0 k y0 y1 y2 y3) (net_guards.l0 (k + 1) y0 y1 y2 y3)) ∧ (∀ y0 y1 y2 y3 y4 y5 y6 y7 y8 y9, LeO (net_guards.l1 k y0 y1 y2 y3 y4 y5 y6 y7 y8 y9) (net_guards.l1 (k + 1) y0 y1 y2 y3 y4 y5 y6 y7 y8 y9)) ∧ (∀ y0 y1 y2 y3 y4 y5 y6, LeO (net_guards.l2 k y0 y1 y2 y3 y4 y5 y6) (net_guards.l2 (k + 1) y0 y1 y2 y3 y4 y5 y6))
 | 0 => ⟨fun _ _ _ _ r h => by simp [net_guards.l0] at h, fun _ _ _ _ _ _ _ _ _ _ r h => by simp [net_guards.l1] at h, fun _ _ _ _ _ _ _ r h => by simp [net_guards.l2] at h⟩
 | k + 1 => by
  obtain ⟨ih0, ih1, ih2⟩ := net_guards.mono_l k
  refine ⟨?_, ?_, ?_⟩
  all_goals intros
  all_goals first | unfold net_guards.l0 | unfold net_guards.l1 | unfold net_guards.l2
  all_goals repeat' first | (with_reducible first | exact ih0 _ _ _ _ | exact ih1 _ _ _ _ _ _ _ _ _ _ | exact ih2 _ _ _ _ _ _ _ | exact LeO.refl _ | exact LeO.none _ | refine LeO.ite ?_ ?_ | refine LeO.bind ?_ (fun _ => ?_)) | exact LeO.none _ | refine LeO.ite ?_ ?_ | refine LeO.bind ?_ (fun _ => ?_)
theorem net_guards.mono : ∀ a0 a1 a2 a3 k, LeO (net_guards.f k a0 a1 a2 a3) (net_guards.f (k + 1) a0 a1 a2 a3) := by
 intro a0 a1 a2 a3 k
 obtain ⟨ih0, ih1, ih2⟩ := net_guards.mono_l k
 unfold net_guards.f
 repeat' first | (with_reducible first | exact ih0 _ _ _ _ | exact ih1 _ _ _ _ _ _ _ _ _ _ | exact ih2 _ _ _ _ _ _ _ | exact LeO.refl _ | exact LeO.none _ | refine LeO.ite ?_ ?_ | refine LeO.bind ?_ (fun _ => ?_)) | exact LeO.none _ | refine LeO.ite ?_ ?_ | refine LeO.bind ?_ (fun _ => ?_)
set_option maxHeartbeats 8000000 in
set_option maxRecDepth 100000 in
theorem net_guards.calls (k : Nat) (A0_0 : Option Addr) (c0_0 : Nat) (l0_0 : List ByteArray) (A0_1 : Option Addr) (c0_1 : Nat) (l0_1 : List (S50)) (A0_2 : Option Addr) (c0_2 : Nat) (l0_2 : List ByteArray) (A0_3 : Option Addr) (c0_3 : Nat) (l0_3 : List (S61)) (r : List (S118)) (w : World) (hr0_0 : Kd.C Kd.string w A0_0 l0_0.length l0_0) (hc0_0 : l0_0.length ≤ c0_0) (hr0_1 : Kd.C k50 w A0_1 l0_1.length l0_1) (hc0_1 : l0_1.length ≤ c0_1) (hr0_2 : Kd.C Kd.string w A0_2 l0_2.length l0_2) (hc0_2 : l0_2.length ≤ c0_2) (hr0_3 : Kd.C k61 w A0_3 l0_3.length l0_3) (hc0_3 : l0_3.length ≤ c0_3) (h : net_guards.f k l0_0 l0_1 l0_2 l0_3 = some r) :
  Calls Tryd.prog 56 #[.agg #[.slice A0_0 l0_0.length c0_0, .slice A0_1 l0_1.length c0_1, .slice A0_2 l0_2.length c0_2, .slice A0_3 l0_3.length c0_3]] w fun e w' => ∃ v0_ : Value, e = .returned (v0_) ∧ Kd.R k118 118 w' w.heap.size (fun _ => True) v0_ r ∧ Below w.heap.size w w' := by
 have hu26 := Tryd.underlying26
 have hu61 := Tryd.underlying61
 have hu57 := Tryd.underlying57
 have hu90 := Tryd.underlying90
 have HR0_0 := zM hr0_0
 have HC0_0 := zM hc0_0
 clear hr0_0 hc0_0
 have HR0_1 := zM hr0_1
 have HC0_1 := zM hc0_1
 clear hr0_1 hc0_1
 have HR0_2 := zM hr0_2
 have HC0_2 := zM hc0_2
 clear hr0_2 hc0_2
 have HR0_3 := zM hr0_3
 have HC0_3 := zM hc0_3
 clear hr0_3 hc0_3
 have HB := zM (Below.refl w.heap.size w)
 have H : (net_guards.l0 k ([] : List (S118)) l0_3 (l0_3.length : Int) 0) = some r := h
 clear h
 have H' := zM H
 clear H
 go_enter Tryd.func56, Tryd.ntmps56
 go_wp2_with (first | ((with_reducible refine gate_dst (N := 1) rfl ?_); refine box_ev (N := 1) (cs := #[.slice A0_0 l0_0.length c0_0, .slice A0_1 l0_1.length c0_1, .slice A0_2 l0_2.length c0_2, .slice A0_3 l0_3.length c0_3]) (t := 26) ?_; intro gb202 hg w2 hbox hb; have BK202 := zM (hbox); have GE202 := zM (box_ge (n := w.heap.size) hg (below_size s8)); replace HB := zM (below_step s8 hb); clear hb hbox hg; obtain ⟨hcz3_0, hcz3_1, hcz3_2, hcz3_3, hfz3_0, hfz3_1, hfz3_2, hfz3_3⟩ := blk4 BK202.out))
 go_loopg [3, 13] k (fun kq v3 v13 w' => ∃ (x3_1 : List (S118)) (x13_1 : Int), v13 = .int .i64 x13_1 ∧ Aside0 (net_guards.l0 kq x3_1 l0_3 (l0_3.length : Int) x13_1 = some r) ∧ Aside0 (kq ≤ k) ∧ Aside0 (Kd.R k118 118 w' w.heap.size (fun _ => True) v3 x3_1) ∧ Aside0 (w'.heap[gb202]? = some (.cells #[(.slice A0_0 l0_0.length c0_0), (.slice A0_1 l0_1.length c0_1), (.slice A0_2 l0_2.length c0_2), (.slice A0_3 l0_3.length c0_3)] 26 (0, 0))) ∧ Aside0 (Below w.heap.size w w'))
 case atStart => exact ⟨(([] : List (S118))), (0), s7, H', ⟨Nat.le_refl _⟩, ⟨(by first | exact Kd.R_nil _ _ _ _ _ | exact Kd.N_nil _ _ _ _ _ | exact Kd.V_nil _ _ _ _ _ | exact Kd.Q_nil _ _ _ _ _ | exact Kd.S_nil _ _ _ _ _)⟩, ⟨q8_2⟩, ⟨q8_13⟩⟩
 clear H'
 obtain ⟨x3_1, x13_1, rfl, HA, HK1, HO_3, BK202, HB⟩ := hrel
 cases gk with
 | zero => exact absurd HA.out (by simp [net_guards.l0])
 | succ k1 =>
  have H := HA.out
  clear HA
  simp only [net_guards.l0] at H
  by_cases c4 : x13_1 < (l0_3.length : Int)
  ·
   rw [if_pos c4] at H
   have c4b0 := zD c4
   clear c4
   by_cases c5 : 0 ≤ x13_1
   ·
    rw [if_pos c5] at H
    have c5b0 := zD c5
    clear c5
    by_cases c6 : x13_1 < (l0_3.length : Int)
    ·
     rw [if_pos c6] at H
     have c6b0 := zD c6
     clear c6
     have H' := zM H
     clear H
     have p203 : 0 ≤ (x13_1 : Int) := zO s3
     have q203 : x13_1 < (l0_3.length : Int) := zO s3
     obtain ⟨ad203, A203_1, c203_1, A203_2, c203_2, e203, hx203_0, hx203_1, hx203_2, HC203_1, HR203_1, HC203_2, HR203_2⟩ := as_T61 HR0_3.out x13_1 p203 q203
     cases e203
     replace hx203_0 := cell_up HB.out hx203_0
     replace hx203_1 := cell_up HB.out hx203_1
     replace hx203_2 := cell_up HB.out hx203_2
     replace p203 := eq_true p203
     replace q203 := eq_true q203
     go_wp2_with (first | ((with_reducible refine gate_dst (N := 5) rfl ?_); refine box_ev (N := 5) (cs := #[.string (⟨#[]⟩ : ByteArray), .slice none 0 0, .slice none 0 0]) (t := 61) ?_; intro gb204 hg w7 hbox hb; have BK204 := zM (hbox); have GE204 := zM (box_ge (n := w.heap.size) hg (below_size q8_13)); have NB202_204 := zM (box_ne hg (g := gb202) q8_2); have NB204_202 := zM (box_ne' hg (g := gb202) q8_2); replace HO_3 := zM (Kd.R_below s1 hb); replace BK202 := zM (blk_below (g := gb202) q8_2 hb); replace HB := zM (below_step q8_13 hb); clear hb hbox hg; have hnb8 := NB204_202.out; have hnc8 := NB202_204.out; obtain ⟨hcz9_0, hcz9_1, hcz9_2, hfz9_0, hfz9_1, hfz9_2⟩ := blk3 BK204.out))
     go_loopg [3, 20] k1 (fun kq v3 v20 w' => ∃ (x3_2 : List (S118)) (x20_2 : Int), v20 = .int .i64 x20_2 ∧ Aside0 (net_guards.l1 kq x3_2 l0_3 (l0_3.length : Int) x13_1 ((rd_T61 l0_3 x13_1).f1) (((rd_T61 l0_3 x13_1).f1).length : Int) x20_2 ((rd_T61 l0_3 x13_1).f0) ((rd_T61 l0_3 x13_1).f1) ((rd_T61 l0_3 x13_1).f2) = some r) ∧ Aside0 (kq ≤ k1) ∧ Aside0 (Kd.R k118 118 w' w.heap.size (fun _ => True) v3 x3_2) ∧ Aside0 (w'.heap[gb202]? = some (.cells #[(.slice A0_0 l0_0.length c0_0), (.slice A0_1 l0_1.length c0_1), (.slice A0_2 l0_2.length c0_2), (.slice (some ad203) l0_3.length c0_3)] 26 (0, 0))) ∧ Aside0 (w'.heap[gb204]? = some (.cells #[.string ((rd_T61 l0_3 x13_1).f0), (.slice A203_1 ((rd_T61 l0_3 x13_1).f1).length c203_1), (.slice A203_2 ((rd_T61 l0_3 x13_1).f2).length c203_2)] 61 (0, 0))) ∧ Aside0 (Below w.heap.size w w'))
     case atStart => exact ⟨(x3_1), (0), s7, H', ⟨Nat.le_refl _⟩, ⟨(by (with_reducible repeat (first | apply Kd.R_alloc | apply Kd.R_drewN | apply Kd.R_drew)); exact Kd.R_mono (Kd.R_far (p := ⟨gb204, 2, none⟩) (Kd.R_far (p := ⟨gb204, 1, none⟩) (Kd.R_far (p := ⟨gb204, 0, none⟩) (Kd.R_types HO_3.out BK204.out (by decide)) (fun _ hk => hk.2) (.string ((rd_T61 l0_3 x13_1).f0))) (fun _ hk => hk.2) (.slice A203_1 ((rd_T61 l0_3 x13_1).f1).length c203_1)) (fun _ hk => hk.2) (.slice A203_2 ((rd_T61 l0_3 x13_1).f2).length c203_2)) (fun _ hk => trivial))⟩, ⟨(by (iterate 3 ((with_reducible repeat (first | refine blk_drewN ?_ _ | refine blk_drew ?_ | refine blk_alloc ?_ _)); refine blk_far ?_ NB202_204.out _)); (with_reducible repeat (first | refine blk_drewN ?_ _ | refine blk_drew ?_ | refine blk_alloc ?_ _)); exact BK202.out)⟩, ⟨(by (with_reducible repeat (first | refine blk_drewN ?_ _ | refine blk_drew ?_ | refine blk_alloc ?_ _)); apply blk_fill3; (with_reducible repeat (first | refine blk_drewN ?_ _ | refine blk_drew ?_ | refine blk_alloc ?_ _)); exact BK204.out)⟩, ⟨q8_4⟩⟩
     clear H'
     obtain ⟨x3_2, x20_2, rfl, HA, HK2, HO_3, BK202, BK204, HB⟩ := hrel
     cases gk with
     | zero => exact absurd HA.out (by simp [net_guards.l1])
     | succ k2 =>
      have H := HA.out
      clear HA
      simp only [net_guards.l1] at H
      by_cases c10 : x20_2 < (((rd_T61 l0_3 x13_1).f1).length : Int)
      ·
       rw [if_pos c10] at H
       have c10b0 := zD c10
       clear c10
       by_cases c11 : 0 ≤ x20_2
       ·
        rw [if_pos c11] at H
        have c11b0 := zD c11
        clear c11
        by_cases c12 : x20_2 < (((rd_T61 l0_3 x13_1).f1).length : Int)
        ·
         rw [if_pos c12] at H
         have c12b0 := zD c12
         clear c12
         by_cases c13 : x3_2.length + ((rd_T57 ((rd_T61 l0_3 x13_1).f1) x20_2).f2).length < 4398046511104
         ·
          rw [if_pos c13] at H
          have LMc13 := zM c13
          clear c13
          obtain ⟨y207, hy207⟩ : ∃ y_ : List (S118), y_ = (x3_2 ++ ((rd_T57 ((rd_T61 l0_3 x13_1).f1) x20_2).f2)) := ⟨_, rfl⟩
          replace H : (net_guards.l1 k2 y207 l0_3 (l0_3.length : Int) x13_1 ((rd_T61 l0_3 x13_1).f1) (((rd_T61 l0_3 x13_1).f1).length : Int) (wrap64 (x20_2 + 1)) ((rd_T61 l0_3 x13_1).f0) ((rd_T61 l0_3 x13_1).f1) ((rd_T61 l0_3 x13_1).f2)) = some r := by first | (rw [hy207]; with_reducible exact H) | (have H2_ := (Option.bind_some _ _).symm.trans H; rw [hy207]; with_reducible exact H2_) | (have H2_ := (Option.bind_some _ _).symm.trans H; with_reducible exact H2_) | with_reducible exact H | (rw [hy207]; exact H) | exact H
          have Ny207 := zM hy207
          clear hy207
          have H' := zM H
          clear H
          have p205 : 0 ≤ (x20_2 : Int) := zO s3
          have q205 : x20_2 < (((rd_T61 l0_3 x13_1).f1).length : Int) := zO s3
          obtain ⟨ad205, A205_2, c205_2, e205, hx205_0, hx205_1, hx205_2, HC205_2, HR205_2⟩ := as_T57 HR203_1.out x20_2 p205 q205
          cases e205
          replace hx205_0 := cell_up HB.out hx205_0
          replace hx205_1 := cell_up HB.out hx205_1
          replace hx205_2 := cell_up HB.out hx205_2
          replace p205 := eq_true p205
          replace q205 := eq_true q205
          go_wp2_with (first | ((with_reducible refine gate_dst (N := 7) rfl ?_); refine box_ev (N := 7) (cs := #[.string (⟨#[]⟩ : ByteArray), .int .u8 0, .slice none 0 0]) (t := 57) ?_; intro gb206 hg w14 hbox hb; have BK206 := zM (hbox); have GE206 := zM (box_ge (n := w.heap.size) hg (below_size q8_4)); have NB202_206 := zM (box_ne hg (g := gb202) q8_2); have NB206_202 := zM (box_ne' hg (g := gb202) q8_2); have NB204_206 := zM (box_ne hg (g := gb204) q8_5); have NB206_204 := zM (box_ne' hg (g := gb204) q8_5); replace HO_3 := zM (Kd.R_below s1 hb); replace BK202 := zM (blk_below (g := gb202) q8_2 hb); replace BK204 := zM (blk_below (g := gb204) q8_5 hb); replace HB := zM (below_step q8_4 hb); clear hb hbox hg; have hnb15 := NB206_202.out; have hnc15 := NB202_206.out; have hnb16 := NB206_204.out; have hnc16 := NB204_206.out; obtain ⟨hcz17_0, hcz17_1, hcz17_2, hfz17_0, hfz17_1, hfz17_2⟩ := blk3 BK206.out) | ((with_reducible refine gate_builtin (b := .append) (xs := #[.tmp 24, .tmp 26]) rfl ?_); at_builtin; refine Kd.R_append_rows k118 (w0 := w) w.heap.size rfl (.tmp 24) (.tmp 26) 55 118 (.agg #[(.int .i64 0), (.int .i64 0), (.int .u8 0), (.int .i64 0)]) 32 rfl Tryd.underlying55 info118 rfl (by decide) (by omega) u3 x3_2 ((rd_T57 ((rd_T61 l0_3 x13_1).f1) x20_2).f2) _ _ _ (fun _ => True) (fun _ => False) rfl rfl ?aO ?aR (fun _ _ h => h) (fun _ h => h.elim) ?aF ?aB ?aS ?aL ?_; (case aR => exact Kd.C_below HR205_2.out q8_9); (case aB => exact q8_9); (case aF => exact (fun _ _ => trivial)); (case aO => exact (by (with_reducible repeat (first | apply Kd.R_alloc | apply Kd.R_drewN | apply Kd.R_drew)); exact Kd.R_mono (Kd.R_far (p := ⟨gb206, 2, none⟩) (Kd.R_far (p := ⟨gb206, 1, none⟩) (Kd.R_far (p := ⟨gb206, 0, none⟩) (Kd.R_types HO_3.out BK206.out (by decide)) (fun _ hk => hk.2) (.string ((rd_T57 ((rd_T61 l0_3 x13_1).f1) x20_2).f0))) (fun _ hk => hk.2) (.int .u8 ((rd_T57 ((rd_T61 l0_3 x13_1).f1) x20_2).f1))) (fun _ hk => hk.2) (.slice A205_2 ((rd_T57 ((rd_T61 l0_3 x13_1).f1) x20_2).f2).length c205_2)) (fun _ hk => trivial))); (case aS => exact (below_size q8_9)); (case aL => have := LMc13.out; omega); intro v208 w18 ho hb hg hat; rw [← Ny207.out] at ho; have HO209 := zM (ho); replace BK202 := zM (blk_grown (g := gb202) (o := .cells #[.slice A0_0 l0_0.length c0_0, .slice A0_1 l0_1.length c0_1, .slice A0_2 l0_2.length c0_2, .slice (some ad203) l0_3.length c0_3] 26 (0, 0)) (by (iterate 3 ((with_reducible repeat (first | refine blk_drewN ?_ _ | refine blk_drew ?_ | refine blk_alloc ?_ _)); refine blk_far ?_ NB202_206.out _)); (with_reducible repeat (first | refine blk_drewN ?_ _ | refine blk_drew ?_ | refine blk_alloc ?_ _)); exact BK202.out) hg (Kd.R_ne HO_3.out BK202.out (by decide))); replace BK204 := zM (blk_grown (g := gb204) (o := .cells #[.string ((rd_T61 l0_3 x13_1).f0), .slice (some ad205) ((rd_T61 l0_3 x13_1).f1).length c203_1, .slice A203_2 ((rd_T61 l0_3 x13_1).f2).length c203_2] 61 (0, 0)) (by (iterate 3 ((with_reducible repeat (first | refine blk_drewN ?_ _ | refine blk_drew ?_ | refine blk_alloc ?_ _)); refine blk_far ?_ NB204_206.out _)); (with_reducible repeat (first | refine blk_drewN ?_ _ | refine blk_drew ?_ | refine blk_alloc ?_ _)); exact BK204.out) hg (Kd.R_ne HO_3.out BK204.out (by decide))); replace BK206 := zM (blk_grown (g := gb206) (o := .cells #[.string ((rd_T57 ((rd_T61 l0_3 x13_1).f1) x20_2).f0), .int .u8 ((rd_T57 ((rd_T61 l0_3 x13_1).f1) x20_2).f1), .slice A205_2 ((rd_T57 ((rd_T61 l0_3 x13_1).f1) x20_2).f2).length c205_2] 57 (0, 0)) (by (with_reducible repeat (first | refine blk_drewN ?_ _ | refine blk_drew ?_ | refine blk_alloc ?_ _)); apply blk_fill3; (with_reducible repeat (first | refine blk_drewN ?_ _ | refine blk_drew ?_ | refine blk_alloc ?_ _)); exact BK206.out) hg (Kd.R_ne HO_3.out BK206.out (by decide))); replace HB := zM (hb); clear HO_3; clear ho hb hg hat))
          go_roundg k2
          case measure => have := HK1.out; have := HK2.out; omega
          case rel => exact ⟨(y207), (wrap64 (x20_2 + 1)), s7, H', ⟨(by have := HK1.out; have := HK2.out; omega)⟩, ⟨(by (with_reducible repeat (first | apply Kd.R_alloc | apply Kd.R_drewN | apply Kd.R_drew)); exact HO209.out)⟩, ⟨q8_2⟩, ⟨q8_5⟩, ⟨q8_9⟩⟩
         rw [if_neg c13] at H
         exact absurd H (by simp)
        rw [if_neg c12] at H
        exact absurd H (by simp)
       rw [if_neg c11] at H
       exact absurd H (by simp)
      rw [if_neg c10] at H
      have c10b0 := decide_eq_false c10
      clear c10
      have H' := zM H
      clear H
      have hnb19 := NB204_202.out
      have hnc19 := NB202_204.out
      obtain ⟨hcz20_0, hcz20_1, hcz20_2, hfz20_0, hfz20_1, hfz20_2⟩ := blk3 BK204.out
      go_wp2
      go_loopg [3, 32] k2 (fun kq v3 v32 w' => ∃ (x3_3 : List (S118)) (x32_3 : Int), v32 = .int .i64 x32_3 ∧ Aside0 (net_guards.l2 kq x3_3 l0_3 (l0_3.length : Int) x13_1 ((rd_T61 l0_3 x13_1).f2) (((rd_T61 l0_3 x13_1).f2).length : Int) x32_3 = some r) ∧ Aside0 (kq ≤ k2) ∧ Aside0 (Kd.R k118 118 w' w.heap.size (fun _ => True) v3 x3_3) ∧ Aside0 (w'.heap[gb202]? = some (.cells #[(.slice A0_0 l0_0.length c0_0), (.slice A0_1 l0_1.length c0_1), (.slice A0_2 l0_2.length c0_2), (.slice (some ad203) l0_3.length c0_3)] 26 (0, 0))) ∧ Aside0 (w'.heap[gb204]? = some (.cells #[.string ((rd_T61 l0_3 x13_1).f0), (.slice A203_1 ((rd_T61 l0_3 x13_1).f1).length c203_1), (.slice A203_2 ((rd_T61 l0_3 x13_1).f2).length c203_2)] 61 (0, 0))) ∧ Aside0 (Below w.heap.size w w'))
      case atStart => exact ⟨(x3_2), (0), s7, H', ⟨Nat.le_refl _⟩, ⟨s1⟩, ⟨q8_2⟩, ⟨q8_5⟩, ⟨q8_4⟩⟩
      clear H'
      obtain ⟨x3_3, x32_3, rfl, HA, HK3, HO_3, BK202, BK204, HB⟩ := hrel
      cases gk with
      | zero => exact absurd HA.out (by simp [net_guards.l2])
      | succ k3 =>
       have H := HA.out
       clear HA
       simp only [net_guards.l2] at H
       by_cases c21 : x32_3 < (((rd_T61 l0_3 x13_1).f2).length : Int)
       ·
        rw [if_pos c21] at H
        have c21b0 := zD c21
        clear c21
        by_cases c22 : 0 ≤ x32_3
        ·
         rw [if_pos c22] at H
         have c22b0 := zD c22
         clear c22
         by_cases c23 : x32_3 < (((rd_T61 l0_3 x13_1).f2).length : Int)
         ·
          rw [if_pos c23] at H
          have c23b0 := zD c23
          clear c23
          by_cases c24 : x3_3.length + ((rd_T90 ((rd_T61 l0_3 x13_1).f2) x32_3).f2).length < 4398046511104
          ·
           rw [if_pos c24] at H
           have LMc24 := zM c24
           clear c24
           obtain ⟨y212, hy212⟩ : ∃ y_ : List (S118), y_ = (x3_3 ++ ((rd_T90 ((rd_T61 l0_3 x13_1).f2) x32_3).f2)) := ⟨_, rfl⟩
           replace H : (net_guards.l2 k3 y212 l0_3 (l0_3.length : Int) x13_1 ((rd_T61 l0_3 x13_1).f2) (((rd_T61 l0_3 x13_1).f2).length : Int) (wrap64 (x32_3 + 1))) = some r := by first | (rw [hy212]; with_reducible exact H) | (have H2_ := (Option.bind_some _ _).symm.trans H; rw [hy212]; with_reducible exact H2_) | (have H2_ := (Option.bind_some _ _).symm.trans H; with_reducible exact H2_) | with_reducible exact H | (rw [hy212]; exact H) | exact H
           have Ny212 := zM hy212
           clear hy212
           have H' := zM H
           clear H
           have p210 : 0 ≤ (x32_3 : Int) := zO s3
           have q210 : x32_3 < (((rd_T61 l0_3 x13_1).f2).length : Int) := zO s3
           obtain ⟨ad210, A210_2, c210_2, A210_3, c210_3, A210_6, c210_6, e210, hx210_0, hx210_1, hx210_2, hx210_3, hx210_4, hx210_5, hx210_6, HC210_2, HR210_2, HC210_3, HR210_3, HC210_6, HR210_6⟩ := as_T90 HR203_2.out x32_3 p210 q210
           cases e210
           replace hx210_0 := cell_up HB.out hx210_0
           replace hx210_1 := cell_up HB.out hx210_1
           replace hx210_2 := cell_up HB.out hx210_2
           replace hx210_3 := cell_up HB.out hx210_3
           replace hx210_4 := cell_up HB.out hx210_4
           replace hx210_5 := cell_up HB.out hx210_5
           replace hx210_6 := cell_up HB.out hx210_6
           replace p210 := eq_true p210
           replace q210 := eq_true q210
           go_wp2_with (first | ((with_reducible refine gate_dst (N := 9) rfl ?_); refine box_ev (N := 9) (cs := #[.int .i64 0, .int .i64 0, .slice none 0 0, .slice none 0 0, .int .i64 0, .bool false, .slice none 0 0]) (t := 90) ?_; intro gb211 hg w25 hbox hb; have BK211 := zM (hbox); have GE211 := zM (box_ge (n := w.heap.size) hg (below_size q8_4)); have NB202_211 := zM (box_ne hg (g := gb202) q8_2); have NB211_202 := zM (box_ne' hg (g := gb202) q8_2); have NB204_211 := zM (box_ne hg (g := gb204) q8_5); have NB211_204 := zM (box_ne' hg (g := gb204) q8_5); replace HO_3 := zM (Kd.R_below s1 hb); replace BK202 := zM (blk_below (g := gb202) q8_2 hb); replace BK204 := zM (blk_below (g := gb204) q8_5 hb); replace HB := zM (below_step q8_4 hb); clear hb hbox hg; have hnb26 := NB211_202.out; have hnc26 := NB202_211.out; have hnb27 := NB211_204.out; have hnc27 := NB204_211.out; obtain ⟨hcz28_0, hcz28_1, hcz28_2, hcz28_3, hcz28_4, hcz28_5, hcz28_6, hfz28_0, hfz28_1, hfz28_2, hfz28_3, hfz28_4, hfz28_5, hfz28_6⟩ := blk7 BK211.out) | ((with_reducible refine gate_builtin (b := .append) (xs := #[.tmp 36, .tmp 38]) rfl ?_); at_builtin; refine Kd.R_append_rows k118 (w0 := w) w.heap.size rfl (.tmp 36) (.tmp 38) 55 118 (.agg #[(.int .i64 0), (.int .i64 0), (.int .u8 0), (.int .i64 0)]) 32 rfl Tryd.underlying55 info118 rfl (by decide) (by omega) u3 x3_3 ((rd_T90 ((rd_T61 l0_3 x13_1).f2) x32_3).f2) _ _ _ (fun _ => True) (fun _ => False) rfl rfl ?aO ?aR (fun _ _ h => h) (fun _ h => h.elim) ?aF ?aB ?aS ?aL ?_; (case aR => exact Kd.C_below HR210_2.out q8_8); (case aB => exact q8_8); (case aF => exact (fun _ _ => trivial)); (case aO => exact (by (with_reducible repeat (first | apply Kd.R_alloc | apply Kd.R_drewN | apply Kd.R_drew)); exact Kd.R_mono (Kd.R_far (p := ⟨gb211, 6, none⟩) (Kd.R_far (p := ⟨gb211, 5, none⟩) (Kd.R_far (p := ⟨gb211, 4, none⟩) (Kd.R_far (p := ⟨gb211, 3, none⟩) (Kd.R_far (p := ⟨gb211, 2, none⟩) (Kd.R_far (p := ⟨gb211, 1, none⟩) (Kd.R_far (p := ⟨gb211, 0, none⟩) (Kd.R_types HO_3.out BK211.out (by decide)) (fun _ hk => hk.2) (.int .i64 ((rd_T90 ((rd_T61 l0_3 x13_1).f2) x32_3).f0))) (fun _ hk => hk.2) (.int .i64 ((rd_T90 ((rd_T61 l0_3 x13_1).f2) x32_3).f1))) (fun _ hk => hk.2) (.slice A210_2 ((rd_T90 ((rd_T61 l0_3 x13_1).f2) x32_3).f2).length c210_2)) (fun _ hk => hk.2) (.slice A210_3 ((rd_T90 ((rd_T61 l0_3 x13_1).f2) x32_3).f3).length c210_3)) (fun _ hk => hk.2) (.int .i64 ((rd_T90 ((rd_T61 l0_3 x13_1).f2) x32_3).f4))) (fun _ hk => hk.2) (.bool ((rd_T90 ((rd_T61 l0_3 x13_1).f2) x32_3).f5))) (fun _ hk => hk.2) (.slice A210_6 ((rd_T90 ((rd_T61 l0_3 x13_1).f2) x32_3).f6).length c210_6)) (fun _ hk => trivial))); (case aS => exact (below_size q8_8)); (case aL => have := LMc24.out; omega); intro v213 w29 ho hb hg hat; rw [← Ny212.out] at ho; have HO214 := zM (ho); replace BK202 := zM (blk_grown (g := gb202) (o := .cells #[.slice A0_0 l0_0.length c0_0, .slice A0_1 l0_1.length c0_1, .slice A0_2 l0_2.length c0_2, .slice (some ad203) l0_3.length c0_3] 26 (0, 0)) (by (iterate 7 ((with_reducible repeat (first | refine blk_drewN ?_ _ | refine blk_drew ?_ | refine blk_alloc ?_ _)); refine blk_far ?_ NB202_211.out _)); (with_reducible repeat (first | refine blk_drewN ?_ _ | refine blk_drew ?_ | refine blk_alloc ?_ _)); exact BK202.out) hg (Kd.R_ne HO_3.out BK202.out (by decide))); replace BK204 := zM (blk_grown (g := gb204) (o := .cells #[.string ((rd_T61 l0_3 x13_1).f0), .slice A203_1 ((rd_T61 l0_3 x13_1).f1).length c203_1, .slice (some ad210) ((rd_T61 l0_3 x13_1).f2).length c203_2] 61 (0, 0)) (by (iterate 7 ((with_reducible repeat (first | refine blk_drewN ?_ _ | refine blk_drew ?_ | refine blk_alloc ?_ _)); refine blk_far ?_ NB204_211.out _)); (with_reducible repeat (first | refine blk_drewN ?_ _ | refine blk_drew ?_ | refine blk_alloc ?_ _)); exact BK204.out) hg (Kd.R_ne HO_3.out BK204.out (by decide))); replace BK211 := zM (blk_grown (g := gb211) (o := .cells #[.int .i64 ((rd_T90 ((rd_T61 l0_3 x13_1).f2) x32_3).f0), .int .i64 ((rd_T90 ((rd_T61 l0_3 x13_1).f2) x32_3).f1), .slice A210_2 ((rd_T90 ((rd_T61 l0_3 x13_1).f2) x32_3).f2).length c210_2, .slice A210_3 ((rd_T90 ((rd_T61 l0_3 x13_1).f2) x32_3).f3).length c210_3, .int .i64 ((rd_T90 ((rd_T61 l0_3 x13_1).f2) x32_3).f4), .bool ((rd_T90 ((rd_T61 l0_3 x13_1).f2) x32_3).f5), .slice A210_6 ((rd_T90 ((rd_T61 l0_3 x13_1).f2) x32_3).f6).length c210_6] 90 (0, 0)) (by (with_reducible repeat (first | refine blk_drewN ?_ _ | refine blk_drew ?_ | refine blk_alloc ?_ _)); apply blk_fill7; (with_reducible repeat (first | refine blk_drewN ?_ _ | refine blk_drew ?_ | refine blk_alloc ?_ _)); exact BK211.out) hg (Kd.R_ne HO_3.out BK211.out (by decide))); replace HB := zM (hb); clear HO_3; clear ho hb hg hat))
           go_roundg k3
           case measure => have := HK1.out; have := HK2.out; have := HK3.out; omega
           case rel => exact ⟨(y212), (wrap64 (x32_3 + 1)), s7, H', ⟨(by have := HK1.out; have := HK2.out; have := HK3.out; omega)⟩, ⟨(by (with_reducible repeat (first | apply Kd.R_alloc | apply Kd.R_drewN | apply Kd.R_drew)); exact HO214.out)⟩, ⟨q8_2⟩, ⟨q8_5⟩, ⟨q8_8⟩⟩
          rw [if_neg c24] at H
          exact absurd H (by simp)
         rw [if_neg c23] at H
         exact absurd H (by simp)
        rw [if_neg c22] at H
        exact absurd H (by simp)
       rw [if_neg c21] at H
       have c21b0 := decide_eq_false c21
       clear c21
       have H' := zM H
       clear H
       go_wp2
       go_roundg k3
       case measure => have := HK1.out; have := HK2.out; have := HK3.out; omega
       case rel => exact ⟨(x3_3), (wrap64 (x13_1 + 1)), s7, H', ⟨(by have := HK1.out; have := HK2.out; have := HK3.out; omega)⟩, ⟨s1⟩, ⟨q8_2⟩, ⟨q8_4⟩⟩
    rw [if_neg c6] at H
    exact absurd H (by simp)
   rw [if_neg c5] at H
   exact absurd H (by simp)
  rw [if_neg c4] at H
  have c4b0 := decide_eq_false c4
  clear c4
  obtain rfl := Option.some.inj H
  go_wp2
  go_ret
  exact ⟨_, s6, s1, q8_13⟩

/-! ### net_isClock: function 58 -/
def net_isClock.f (l0_0 : List ByteArray) (l0_1 : List (S50)) (l0_2 : List ByteArray) (l0_3 : List (S61)) (a1 : Int) : Option (Bool) := if a1 ≥ 1 then (some (decide (a1 ≤ (l0_0.length : Int)))) else (some false)
set_option maxHeartbeats 8000000 in
set_option maxRecDepth 100000 in
theorem net_isClock.calls (A0_0 : Option Addr) (c0_0 : Nat) (l0_0 : List ByteArray) (A0_1 : Option Addr) (c0_1 : Nat) (l0_1 : List (S50)) (A0_2 : Option Addr) (c0_2 : Nat) (l0_2 : List ByteArray) (A0_3 : Option Addr) (c0_3 : Nat) (l0_3 : List (S61)) (a1 : Int) (r : Bool) (w : World) (hr0_0 : Kd.C Kd.string w A0_0 l0_0.length l0_0) (hc0_0 : l0_0.length ≤ c0_0) (hr0_1 : Kd.C k50 w A0_1 l0_1.length l0_1) (hc0_1 : l0_1.length ≤ c0_1) (hr0_2 : Kd.C Kd.string w A0_2 l0_2.length l0_2) (hc0_2 : l0_2.length ≤ c0_2) (hr0_3 : Kd.C k61 w A0_3 l0_3.length l0_3) (hc0_3 : l0_3.length ≤ c0_3) (h : net_isClock.f l0_0 l0_1 l0_2 l0_3 a1 = some r) :
  Calls Tryd.prog 58 #[.agg #[.slice A0_0 l0_0.length c0_0, .slice A0_1 l0_1.length c0_1, .slice A0_2 l0_2.length c0_2, .slice A0_3 l0_3.length c0_3], .int .i64 a1] w fun e w' => e = .returned (.bool r) ∧ Below w.heap.size w w' := by
 have hu26 := Tryd.underlying26
 have HR0_0 := zM hr0_0
 have HC0_0 := zM hc0_0
 clear hr0_0 hc0_0
 have HR0_1 := zM hr0_1
 have HC0_1 := zM hc0_1
 clear hr0_1 hc0_1
 have HR0_2 := zM hr0_2
 have HC0_2 := zM hc0_2
 clear hr0_2 hc0_2
 have HR0_3 := zM hr0_3
 have HC0_3 := zM hc0_3
 clear hr0_3 hc0_3
 have HB := zM (Below.refl w.heap.size w)
 have H : (if a1 ≥ 1 then (some (decide (a1 ≤ (l0_0.length : Int)))) else (some false)) = some r := h
 clear h
 by_cases c3 : a1 ≥ 1
 ·
  rw [if_pos c3] at H
  have c3b0 := dge c3
  clear c3
  obtain rfl := Option.some.inj H
  go_enter Tryd.func58, Tryd.ntmps58
  go_wp2_with (first | ((with_reducible refine gate_dst (N := 2) rfl ?_); (try (refine gate_guard (by rfl) ?_; dsimp only)); refine box_ev (N := 2) (cs := #[.slice A0_0 l0_0.length c0_0, .slice A0_1 l0_1.length c0_1, .slice A0_2 l0_2.length c0_2, .slice A0_3 l0_3.length c0_3]) (t := 26) ?_; intro gb215 hg w4 hbox hb; have BK215 := zM (hbox); have GE215 := zM (box_ge (n := w.heap.size) hg (below_size s8)); replace HB := zM (below_step s8 hb); clear hb hbox hg; obtain ⟨hcz5_0, hcz5_1, hcz5_2, hcz5_3, hfz5_0, hfz5_1, hfz5_2, hfz5_3⟩ := blk4 BK215.out))
  go_ret
  exact ⟨s6, q8_21⟩
 rw [if_neg c3] at H
 have c3b0 := dnge c3
 clear c3
 obtain rfl := Option.some.inj H
 go_enter Tryd.func58, Tryd.ntmps58
 go_wp2_with (first | ((with_reducible refine gate_dst (N := 2) rfl ?_); (try (refine gate_guard (by rfl) ?_; dsimp only)); refine box_ev (N := 2) (cs := #[.slice A0_0 l0_0.length c0_0, .slice A0_1 l0_1.length c0_1, .slice A0_2 l0_2.length c0_2, .slice A0_3 l0_3.length c0_3]) (t := 26) ?_; intro gb215 hg w6 hbox hb; have BK215 := zM (hbox); have GE215 := zM (box_ge (n := w.heap.size) hg (below_size s8)); replace HB := zM (below_step s8 hb); clear hb hbox hg))
 go_ret
 exact ⟨s6, q8_21⟩

/-! ### net_clocksOf: function 55 -/
def net_clocksOf.l0 : Nat → List (S118) → Int → Int → List ByteArray → List (S50) → List ByteArray → List (S61) → Option (Int)
 | 0, _, _, _, _, _, _, _ => none
 | k + 1, x7, x8, x9, x217000, x217001, x217002, x217003 => if x9 < x8 then (if 0 ≤ x9 then (if x9 < (x7.length : Int) then ((net_isClock.f x217000 x217001 x217002 x217003 ((rd_T118 x7 x9).f0)).bind fun t219 => (if t219 = true then (if ((rd_T118 x7 x9).f1) = 0 then (net_clocksOf.l0 k x7 x8 (wrap64 (x9 + 1)) x217000 x217001 x217002 x217003) else ((net_isClock.f x217000 x217001 x217002 x217003 ((rd_T118 x7 x9).f1)).bind fun t220 => (if t220 = true then (net_clocksOf.l0 k x7 x8 (wrap64 (x9 + 1)) x217000 x217001 x217002 x217003) else (some 12)))) else (some 12))) else (none)) else (none)) else (some 0)
def net_clocksOf.f (k : Nat) (l0_0 : List ByteArray) (l0_1 : List (S50)) (l0_2 : List ByteArray) (l0_3 : List (S61)) (l1 : List (S118)) : Option (Int) := net_clocksOf.l0 k l1 (l1.length : Int) 0 l0_0 l0_1 l0_2 l0_3
theorem net_clocksOf.mono_l : ∀ k, (∀ y0 y1 y2 y3 y4 y5 y6, LeO (net_clocksOf.l0 k y0 y1 y2 y3 y4 y5 y6) (net_clocksOf.l0 (k + 1) y0 y1 y2 y3 y4 y5 y6))
 | 0 => fun _ _ _ _ _ _ _ r h => by simp [net_clocksOf.l0] at h
 | k + 1 => by
  have ih0 := net_clocksOf.mono_l k
  ·
   intro y0 y1 y2 y3 y4 y5 y6
   unfold net_clocksOf.l0
   repeat' first | (with_reducible first | exact ih0 _ _ _ _ _ _ _ | exact LeO.refl _ | exact LeO.none _ | refine LeO.ite ?_ ?_ | refine LeO.bind ?_ (fun _ => ?_)) | exact LeO.none _ | refine LeO.ite ?_ ?_ | refine LeO.bind ?_ (fun _ => ?_)
theorem net_clocksOf.mono : ∀ a0 a1 a2 a3 a4 k, LeO (net_clocksOf.f k a0 a1 a2 a3 a4) (net_clocksOf.f (k + 1) a0 a1 a2 a3 a4) := by
 intro a0 a1 a2 a3 a4 k
 have ih0 := net_clocksOf.mono_l k
 unfold net_clocksOf.f
 repeat' first | (with_reducible first | exact ih0 _ _ _ _ _ _ _ | exact LeO.refl _ | exact LeO.none _ | refine LeO.ite ?_ ?_ | refine LeO.bind ?_ (fun _ => ?_)) | exact LeO.none _ | refine LeO.ite ?_ ?_ | refine LeO.bind ?_ (fun _ => ?_)
set_option maxHeartbeats 8000000 in
set_option maxRecDepth 100000 in
theorem net_clocksOf.calls (k : Nat) (A0_0 : Option Addr) (c0_0 : Nat) (l0_0 : List ByteArray) (A0_1 : Option Addr) (c0_1 : Nat) (l0_1 : List (S50)) (A0_2 : Option Addr) (c0_2 : Nat) (l0_2 : List ByteArray) (A0_3 : Option Addr) (c0_3 : Nat) (l0_3 : List (S61)) (A1 : Option Addr) (c1 : Nat) (l1 : List (S118)) (r : Int) (w : World) (hr0_0 : Kd.C Kd.string w A0_0 l0_0.length l0_0) (hc0_0 : l0_0.length ≤ c0_0) (hr0_1 : Kd.C k50 w A0_1 l0_1.length l0_1) (hc0_1 : l0_1.length ≤ c0_1) (hr0_2 : Kd.C Kd.string w A0_2 l0_2.length l0_2) (hc0_2 : l0_2.length ≤ c0_2) (hr0_3 : Kd.C k61 w A0_3 l0_3.length l0_3) (hc0_3 : l0_3.length ≤ c0_3) (hr1 : Kd.C k118 w A1 l1.length l1) (hc1 : l1.length ≤ c1) (h : net_clocksOf.f k l0_0 l0_1 l0_2 l0_3 l1 = some r) :
  Calls Tryd.prog 55 #[.agg #[.slice A0_0 l0_0.length c0_0, .slice A0_1 l0_1.length c0_1, .slice A0_2 l0_2.length c0_2, .slice A0_3 l0_3.length c0_3], .slice A1 l1.length c1] w fun e w' => e = .returned (.int .i64 r) ∧ Below w.heap.size w w' := by
 have hu26 := Tryd.underlying26
 have hu118 := Tryd.underlying118
 have HR0_0 := zM hr0_0
 have HC0_0 := zM hc0_0
 clear hr0_0 hc0_0
 have HR0_1 := zM hr0_1
 have HC0_1 := zM hc0_1
 clear hr0_1 hc0_1
 have HR0_2 := zM hr0_2
 have HC0_2 := zM hc0_2
 clear hr0_2 hc0_2
 have HR0_3 := zM hr0_3
 have HC0_3 := zM hc0_3
 clear hr0_3 hc0_3
 have HR1 := zM hr1
 have HC1 := zM hc1
 clear hr1 hc1
 have HB := zM (Below.refl w.heap.size w)
 have H : (net_clocksOf.l0 k l1 (l1.length : Int) 0 l0_0 l0_1 l0_2 l0_3) = some r := h
 clear h
 have H' := zM H
 clear H
 go_enter Tryd.func55, Tryd.ntmps55
 go_wp2_with (first | ((with_reducible refine gate_dst (N := 2) rfl ?_); refine box_ev (N := 2) (cs := #[.slice A0_0 l0_0.length c0_0, .slice A0_1 l0_1.length c0_1, .slice A0_2 l0_2.length c0_2, .slice A0_3 l0_3.length c0_3]) (t := 26) ?_; intro gb216 hg w3 hbox hb; have BK216 := zM (hbox); have GE216 := zM (box_ge (n := w.heap.size) hg (below_size s8)); replace HB := zM (below_step s8 hb); clear hb hbox hg))
 go_loopg [9] k (fun kq v9 w' => ∃ (x9_1 : Int), v9 = .int .i64 x9_1 ∧ Aside0 (net_clocksOf.l0 kq l1 (l1.length : Int) x9_1 l0_0 l0_1 l0_2 l0_3 = some r) ∧ Aside0 (kq ≤ k) ∧ Aside0 (w'.heap[gb216]? = some (.cells #[(.slice A0_0 l0_0.length c0_0), (.slice A0_1 l0_1.length c0_1), (.slice A0_2 l0_2.length c0_2), (.slice A0_3 l0_3.length c0_3)] 26 (0, 0))) ∧ Aside0 (Below w.heap.size w w'))
 case atStart => exact ⟨(0), s7, H', ⟨Nat.le_refl _⟩, ⟨q8_1⟩, ⟨q8_3⟩⟩
 clear H'
 obtain ⟨x9_1, rfl, HA, HK1, BK216, HB⟩ := hrel
 cases gk with
 | zero => exact absurd HA.out (by simp [net_clocksOf.l0])
 | succ k1 =>
  have H := HA.out
  clear HA
  simp only [net_clocksOf.l0] at H
  by_cases c4 : x9_1 < (l1.length : Int)
  ·
   rw [if_pos c4] at H
   have c4b0 := zD c4
   clear c4
   by_cases c5 : 0 ≤ x9_1
   ·
    rw [if_pos c5] at H
    have c5b0 := zD c5
    clear c5
    by_cases c6 : x9_1 < (l1.length : Int)
    ·
     rw [if_pos c6] at H
     have c6b0 := zD c6
     clear c6
     replace H := Option.bind_eq_some_iff.mp H
     obtain ⟨t219, A70, H⟩ := H
     replace H : (if t219 = true then (if ((rd_T118 l1 x9_1).f1) = 0 then (net_clocksOf.l0 k1 l1 (l1.length : Int) (wrap64 (x9_1 + 1)) l0_0 l0_1 l0_2 l0_3) else ((net_isClock.f l0_0 l0_1 l0_2 l0_3 ((rd_T118 l1 x9_1).f1)).bind fun t220 => (if t220 = true then (net_clocksOf.l0 k1 l1 (l1.length : Int) (wrap64 (x9_1 + 1)) l0_0 l0_1 l0_2 l0_3) else (some 12)))) else (some 12)) = some r := H
     have A7 := zM A70
     clear A70
     by_cases c8 : t219 = true
     ·
      subst c8
      have H1 : (if ((rd_T118 l1 x9_1).f1) = 0 then (net_clocksOf.l0 k1 l1 (l1.length : Int) (wrap64 (x9_1 + 1)) l0_0 l0_1 l0_2 l0_3) else ((net_isClock.f l0_0 l0_1 l0_2 l0_3 ((rd_T118 l1 x9_1).f1)).bind fun t220 => (if t220 = true then (net_clocksOf.l0 k1 l1 (l1.length : Int) (wrap64 (x9_1 + 1)) l0_0 l0_1 l0_2 l0_3) else (some 12)))) = some r := by rw [if_pos rfl] at H; exact H
      clear H
      have H := H1
      clear H1
      by_cases c9 : ((rd_T118 l1 x9_1).f1) = 0
      ·
       rw [if_pos c9] at H
       obtain ⟨c9b0, c9b1⟩ := eqb c9
       clear c9
       have H' := zM H
       clear H
       have p217 : 0 ≤ (x9_1 : Int) := zO s3
       have q217 : x9_1 < (l1.length : Int) := zO s3
       obtain ⟨ad217, e217, hx217_0, hx217_1, hx217_2, hx217_3⟩ := at_T118 HR1.out x9_1 p217 q217
       cases e217
       replace hx217_0 := cell_up HB.out hx217_0
       replace hx217_1 := cell_up HB.out hx217_1
       replace hx217_2 := cell_up HB.out hx217_2
       replace hx217_3 := cell_up HB.out hx217_3
       replace p217 := eq_true p217
       replace q217 := eq_true q217
       go_wp2_with (first | ((with_reducible refine gate_dst (N := 6) rfl ?_); refine box_ev (N := 6) (cs := #[.int .i64 0, .int .i64 0, .int .u8 0, .int .i64 0]) (t := 118) ?_; intro gb218 hg w10 hbox hb; have BK218 := zM (hbox); have GE218 := zM (box_ge (n := w.heap.size) hg (below_size q8_3)); have NB216_218 := zM (box_ne hg (g := gb216) q8_1); have NB218_216 := zM (box_ne' hg (g := gb216) q8_1); replace BK216 := zM (blk_below (g := gb216) q8_1 hb); replace HB := zM (below_step q8_3 hb); clear hb hbox hg; have hnb11 := NB218_216.out; have hnc11 := NB216_218.out; obtain ⟨hcz12_0, hcz12_1, hcz12_2, hcz12_3, hfz12_0, hfz12_1, hfz12_2, hfz12_3⟩ := blk4 BK218.out; obtain ⟨hcz13_0, hcz13_1, hcz13_2, hcz13_3, hfz13_0, hfz13_1, hfz13_2, hfz13_3⟩ := blk4 BK216.out) | ((with_reducible refine gate_callee (f := 58) rfl ?_); refine goesL_ (some 16) rfl rfl Tryd.func58 (by kernel_rfl) rfl #[.agg #[.slice A0_0 l0_0.length c0_0, .slice A0_1 l0_1.length c0_1, .slice A0_2 l0_2.length c0_2, .slice A0_3 l0_3.length c0_3], .int .i64 ((rd_T118 l1 x9_1).f0)] rfl s0 ?_; (with_reducible refine (net_isClock.calls _ _ l0_0 _ _ l0_1 _ _ l0_2 _ _ l0_3 ((rd_T118 l1 x9_1).f0) true _ ?side1 HC0_0.out ?side3 HC0_1.out ?side5 HC0_2.out ?side7 HC0_3.out A7.out).mono ?_); (case side1 => exact q8_26); (case side3 => exact q8_25); (case side5 => exact q8_24); (case side7 => exact q8_23); rintro e w14 ⟨rfl, hb⟩; refine ⟨_, rfl, ?_⟩; replace BK216 := zM (blk_below (g := gb216) (o := .cells #[.slice A0_0 l0_0.length c0_0, .slice A0_1 l0_1.length c0_1, .slice A0_2 l0_2.length c0_2, .slice A0_3 l0_3.length c0_3] 26 (0, 0)) q8_12 hb); replace BK218 := zM (blk_below (g := gb218) (o := .cells #[.int .i64 ((rd_T118 l1 x9_1).f0), .int .i64 ((rd_T118 l1 x9_1).f1), .int .u8 ((rd_T118 l1 x9_1).f2), .int .i64 ((rd_T118 l1 x9_1).f3)] 118 (0, 0)) q8_7 hb); replace HB := zM (below_step q8_0 hb); (try clear hb); obtain ⟨hcz15_0, hcz15_1, hcz15_2, hcz15_3, hfz15_0, hfz15_1, hfz15_2, hfz15_3⟩ := blk4 BK218.out))
       go_roundg k1
       case measure => have := HK1.out; omega
       case rel => exact ⟨(wrap64 (x9_1 + 1)), s7, H', ⟨(by have := HK1.out; omega)⟩, ⟨q8_1⟩, ⟨q8_0⟩⟩
      rw [if_neg c9] at H
      obtain ⟨c9b0, c9b1⟩ := neb c9
      replace H := Option.bind_eq_some_iff.mp H
      obtain ⟨t220, A160, H⟩ := H
      replace H : (if t220 = true then (net_clocksOf.l0 k1 l1 (l1.length : Int) (wrap64 (x9_1 + 1)) l0_0 l0_1 l0_2 l0_3) else (some 12)) = some r := H
      have A16 := zM A160
      clear A160
      by_cases c17 : t220 = true
      ·
       subst c17
       have H1 : (net_clocksOf.l0 k1 l1 (l1.length : Int) (wrap64 (x9_1 + 1)) l0_0 l0_1 l0_2 l0_3) = some r := by rw [if_pos rfl] at H; exact H
       clear H
       have H := H1
       clear H1
       have H' := zM H
       clear H
       have p217 : 0 ≤ (x9_1 : Int) := zO s3
       have q217 : x9_1 < (l1.length : Int) := zO s3
       obtain ⟨ad217, e217, hx217_0, hx217_1, hx217_2, hx217_3⟩ := at_T118 HR1.out x9_1 p217 q217
       cases e217
       replace hx217_0 := cell_up HB.out hx217_0
       replace hx217_1 := cell_up HB.out hx217_1
       replace hx217_2 := cell_up HB.out hx217_2
       replace hx217_3 := cell_up HB.out hx217_3
       replace p217 := eq_true p217
       replace q217 := eq_true q217
       go_wp2_with (first | ((with_reducible refine gate_dst (N := 6) rfl ?_); refine box_ev (N := 6) (cs := #[.int .i64 0, .int .i64 0, .int .u8 0, .int .i64 0]) (t := 118) ?_; intro gb218 hg w18 hbox hb; have BK218 := zM (hbox); have GE218 := zM (box_ge (n := w.heap.size) hg (below_size q8_3)); have NB216_218 := zM (box_ne hg (g := gb216) q8_1); have NB218_216 := zM (box_ne' hg (g := gb216) q8_1); replace BK216 := zM (blk_below (g := gb216) q8_1 hb); replace HB := zM (below_step q8_3 hb); clear hb hbox hg; have hnb19 := NB218_216.out; have hnc19 := NB216_218.out; obtain ⟨hcz20_0, hcz20_1, hcz20_2, hcz20_3, hfz20_0, hfz20_1, hfz20_2, hfz20_3⟩ := blk4 BK218.out; obtain ⟨hcz21_0, hcz21_1, hcz21_2, hcz21_3, hfz21_0, hfz21_1, hfz21_2, hfz21_3⟩ := blk4 BK216.out) | ((with_reducible refine gate_callee (f := 58) rfl ?_); refine goesL_ (some 16) rfl rfl Tryd.func58 (by kernel_rfl) rfl #[.agg #[.slice A0_0 l0_0.length c0_0, .slice A0_1 l0_1.length c0_1, .slice A0_2 l0_2.length c0_2, .slice A0_3 l0_3.length c0_3], .int .i64 ((rd_T118 l1 x9_1).f0)] rfl s0 ?_; (with_reducible refine (net_isClock.calls _ _ l0_0 _ _ l0_1 _ _ l0_2 _ _ l0_3 ((rd_T118 l1 x9_1).f0) true _ ?side1 HC0_0.out ?side3 HC0_1.out ?side5 HC0_2.out ?side7 HC0_3.out A7.out).mono ?_); (case side1 => exact q8_26); (case side3 => exact q8_25); (case side5 => exact q8_24); (case side7 => exact q8_23); rintro e w22 ⟨rfl, hb⟩; refine ⟨_, rfl, ?_⟩; replace BK216 := zM (blk_below (g := gb216) (o := .cells #[.slice A0_0 l0_0.length c0_0, .slice A0_1 l0_1.length c0_1, .slice A0_2 l0_2.length c0_2, .slice A0_3 l0_3.length c0_3] 26 (0, 0)) q8_12 hb); replace BK218 := zM (blk_below (g := gb218) (o := .cells #[.int .i64 ((rd_T118 l1 x9_1).f0), .int .i64 ((rd_T118 l1 x9_1).f1), .int .u8 ((rd_T118 l1 x9_1).f2), .int .i64 ((rd_T118 l1 x9_1).f3)] 118 (0, 0)) q8_7 hb); replace HB := zM (below_step q8_0 hb); (try clear hb); obtain ⟨hcz23_0, hcz23_1, hcz23_2, hcz23_3, hfz23_0, hfz23_1, hfz23_2, hfz23_3⟩ := blk4 BK218.out; obtain ⟨hcz24_0, hcz24_1, hcz24_2, hcz24_3, hfz24_0, hfz24_1, hfz24_2, hfz24_3⟩ := blk4 BK216.out) | (go_at_call 58; (with_reducible refine (net_isClock.calls _ _ l0_0 _ _ l0_1 _ _ l0_2 _ _ l0_3 ((rd_T118 l1 x9_1).f1) true _ ?side1 HC0_0.out ?side3 HC0_1.out ?side5 HC0_2.out ?side7 HC0_3.out A16.out).mono ?_); (case side1 => exact s10); (case side3 => exact s11); (case side5 => exact s12); (case side7 => exact s13); rintro e w25 ⟨rfl, hb⟩; replace BK216 := zM (blk_below (g := gb216) q8_1 hb); replace BK218 := zM (blk_below (g := gb218) q8_22 hb); replace HB := zM (below_step q8_0 hb); (try clear hb)))
       go_roundg k1
       case measure => have := HK1.out; omega
       case rel => exact ⟨(wrap64 (x9_1 + 1)), s7, H', ⟨(by have := HK1.out; omega)⟩, ⟨q8_1⟩, ⟨q8_0⟩⟩
      replace c17 := Bool.eq_false_iff.mpr c17
      subst c17
      have H1 : (some 12) = some r := by rw [if_neg (show ¬ (false = true) by decide)] at H; exact H
      clear H
      have H := H1
      clear H1
      obtain rfl := Option.some.inj H
      have p217 : 0 ≤ (x9_1 : Int) := zO s3
      have q217 : x9_1 < (l1.length : Int) := zO s3
      obtain ⟨ad217, e217, hx217_0, hx217_1, hx217_2, hx217_3⟩ := at_T118 HR1.out x9_1 p217 q217
      cases e217
      replace hx217_0 := cell_up HB.out hx217_0
      replace hx217_1 := cell_up HB.out hx217_1
      replace hx217_2 := cell_up HB.out hx217_2
      replace hx217_3 := cell_up HB.out hx217_3
      replace p217 := eq_true p217
      replace q217 := eq_true q217
      go_wp2_with (first | ((with_reducible refine gate_dst (N := 6) rfl ?_); refine box_ev (N := 6) (cs := #[.int .i64 0, .int .i64 0, .int .u8 0, .int .i64 0]) (t := 118) ?_; intro gb218 hg w26 hbox hb; have BK218 := zM (hbox); have GE218 := zM (box_ge (n := w.heap.size) hg (below_size q8_3)); have NB216_218 := zM (box_ne hg (g := gb216) q8_1); have NB218_216 := zM (box_ne' hg (g := gb216) q8_1); replace BK216 := zM (blk_below (g := gb216) q8_1 hb); replace HB := zM (below_step q8_3 hb); clear hb hbox hg; have hnb27 := NB218_216.out; have hnc27 := NB216_218.out; obtain ⟨hcz28_0, hcz28_1, hcz28_2, hcz28_3, hfz28_0, hfz28_1, hfz28_2, hfz28_3⟩ := blk4 BK218.out; obtain ⟨hcz29_0, hcz29_1, hcz29_2, hcz29_3, hfz29_0, hfz29_1, hfz29_2, hfz29_3⟩ := blk4 BK216.out) | ((with_reducible refine gate_callee (f := 58) rfl ?_); refine goesL_ (some 16) rfl rfl Tryd.func58 (by kernel_rfl) rfl #[.agg #[.slice A0_0 l0_0.length c0_0, .slice A0_1 l0_1.length c0_1, .slice A0_2 l0_2.length c0_2, .slice A0_3 l0_3.length c0_3], .int .i64 ((rd_T118 l1 x9_1).f0)] rfl s0 ?_; (with_reducible refine (net_isClock.calls _ _ l0_0 _ _ l0_1 _ _ l0_2 _ _ l0_3 ((rd_T118 l1 x9_1).f0) true _ ?side1 HC0_0.out ?side3 HC0_1.out ?side5 HC0_2.out ?side7 HC0_3.out A7.out).mono ?_); (case side1 => exact q8_26); (case side3 => exact q8_25); (case side5 => exact q8_24); (case side7 => exact q8_23); rintro e w30 ⟨rfl, hb⟩; refine ⟨_, rfl, ?_⟩; replace BK216 := zM (blk_below (g := gb216) (o := .cells #[.slice A0_0 l0_0.length c0_0, .slice A0_1 l0_1.length c0_1, .slice A0_2 l0_2.length c0_2, .slice A0_3 l0_3.length c0_3] 26 (0, 0)) q8_12 hb); replace BK218 := zM (blk_below (g := gb218) (o := .cells #[.int .i64 ((rd_T118 l1 x9_1).f0), .int .i64 ((rd_T118 l1 x9_1).f1), .int .u8 ((rd_T118 l1 x9_1).f2), .int .i64 ((rd_T118 l1 x9_1).f3)] 118 (0, 0)) q8_7 hb); replace HB := zM (below_step q8_0 hb); (try clear hb); obtain ⟨hcz31_0, hcz31_1, hcz31_2, hcz31_3, hfz31_0, hfz31_1, hfz31_2, hfz31_3⟩ := blk4 BK218.out; obtain ⟨hcz32_0, hcz32_1, hcz32_2, hcz32_3, hfz32_0, hfz32_1, hfz32_2, hfz32_3⟩ := blk4 BK216.out) | (go_at_call 58; (with_reducible refine (net_isClock.calls _ _ l0_0 _ _ l0_1 _ _ l0_2 _ _ l0_3 ((rd_T118 l1 x9_1).f1) false _ ?side1 HC0_0.out ?side3 HC0_1.out ?side5 HC0_2.out ?side7 HC0_3.out A16.out).mono ?_); (case side1 => exact s10); (case side3 => exact s11); (case side5 => exact s12); (case side7 => exact s13); rintro e w33 ⟨rfl, hb⟩; replace BK216 := zM (blk_below (g := gb216) q8_1 hb); replace BK218 := zM (blk_below (g := gb218) q8_22 hb); replace HB := zM (below_step q8_0 hb); (try clear hb)))
      go_ret
      exact ⟨s6, q8_0⟩
     replace c8 := Bool.eq_false_iff.mpr c8
     subst c8
     have H1 : (some 12) = some r := by rw [if_neg (show ¬ (false = true) by decide)] at H; exact H
     clear H
     have H := H1
     clear H1
     obtain rfl := Option.some.inj H
     have p217 : 0 ≤ (x9_1 : Int) := zO s3
     have q217 : x9_1 < (l1.length : Int) := zO s3
     obtain ⟨ad217, e217, hx217_0, hx217_1, hx217_2, hx217_3⟩ := at_T118 HR1.out x9_1 p217 q217
     cases e217
     replace hx217_0 := cell_up HB.out hx217_0
     replace hx217_1 := cell_up HB.out hx217_1
     replace hx217_2 := cell_up HB.out hx217_2
     replace hx217_3 := cell_up HB.out hx217_3
     replace p217 := eq_true p217
     replace q217 := eq_true q217
     go_wp2_with (first | ((with_reducible refine gate_dst (N := 6) rfl ?_); refine box_ev (N := 6) (cs := #[.int .i64 0, .int .i64 0, .int .u8 0, .int .i64 0]) (t := 118) ?_; intro gb218 hg w34 hbox hb; have BK218 := zM (hbox); have GE218 := zM (box_ge (n := w.heap.size) hg (below_size q8_3)); have NB216_218 := zM (box_ne hg (g := gb216) q8_1); have NB218_216 := zM (box_ne' hg (g := gb216) q8_1); replace BK216 := zM (blk_below (g := gb216) q8_1 hb); replace HB := zM (below_step q8_3 hb); clear hb hbox hg; have hnb35 := NB218_216.out; have hnc35 := NB216_218.out; obtain ⟨hcz36_0, hcz36_1, hcz36_2, hcz36_3, hfz36_0, hfz36_1, hfz36_2, hfz36_3⟩ := blk4 BK218.out; obtain ⟨hcz37_0, hcz37_1, hcz37_2, hcz37_3, hfz37_0, hfz37_1, hfz37_2, hfz37_3⟩ := blk4 BK216.out) | ((with_reducible refine gate_callee (f := 58) rfl ?_); refine goesL_ (some 16) rfl rfl Tryd.func58 (by kernel_rfl) rfl #[.agg #[.slice A0_0 l0_0.length c0_0, .slice A0_1 l0_1.length c0_1, .slice A0_2 l0_2.length c0_2, .slice A0_3 l0_3.length c0_3], .int .i64 ((rd_T118 l1 x9_1).f0)] rfl s0 ?_; (with_reducible refine (net_isClock.calls _ _ l0_0 _ _ l0_1 _ _ l0_2 _ _ l0_3 ((rd_T118 l1 x9_1).f0) false _ ?side1 HC0_0.out ?side3 HC0_1.out ?side5 HC0_2.out ?side7 HC0_3.out A7.out).mono ?_); (case side1 => exact q8_26); (case side3 => exact q8_25); (case side5 => exact q8_24); (case side7 => exact q8_23); rintro e w38 ⟨rfl, hb⟩; refine ⟨_, rfl, ?_⟩; replace BK216 := zM (blk_below (g := gb216) (o := .cells #[.slice A0_0 l0_0.length c0_0, .slice A0_1 l0_1.length c0_1, .slice A0_2 l0_2.length c0_2, .slice A0_3 l0_3.length c0_3] 26 (0, 0)) q8_12 hb); replace BK218 := zM (blk_below (g := gb218) (o := .cells #[.int .i64 ((rd_T118 l1 x9_1).f0), .int .i64 ((rd_T118 l1 x9_1).f1), .int .u8 ((rd_T118 l1 x9_1).f2), .int .i64 ((rd_T118 l1 x9_1).f3)] 118 (0, 0)) q8_7 hb); replace HB := zM (below_step q8_0 hb); (try clear hb)))
     go_ret
     exact ⟨s6, q8_0⟩
    rw [if_neg c6] at H
    exact absurd H (by simp)
   rw [if_neg c5] at H
   exact absurd H (by simp)
  rw [if_neg c4] at H
  have c4b0 := decide_eq_false c4
  clear c4
  obtain rfl := Option.some.inj H
  go_wp2
  go_ret
  exact ⟨s6, q8_3⟩

end Go.Proofs.YtpmhfahligjhaaaDoor.POrd
