-- written by wip/tools/xprint.py (over the kit's print.py): not trusted, Lean checks it.
import Derived.Test.YtpmhfahligjhaaaDoorPOrdx0
import Derived.Test.YtpmhfahligjhaaaDoorPOrdx6
-- compact
namespace Go.Proofs.YtpmhfahligjhaaaDoor.POrd
open Go.RowKit Go.Proofs.YtpmhfahligjhaaaDoorW.PrintWords Go.Proofs.YtpmhfahligjhaaaDoorW.PrintLast Go.Proofs.YtpmhfahligjhaaaDoorW.PrintMore Go.Proofs.YtpmhfahligjhaaaDoorXW
attribute [local go_sem high] Option.map_some
attribute [local go_sem] max2_int max_two
set_option linter.unusedVariables false
set_option linter.unusedSimpArgs false

theorem q7_0 {p : Prop} (h : p := by repeat (first | (with_reducible first | exact HB.out | apply below_alloc | apply pw_below_drewN | apply below_drew1 | refine below_set ?_ GE195.out | refine below_set ?_ GE197.out | refine below_set ?_ GE199.out) | exact HB.out)) : p := h
theorem q7_1 {p : Prop} (h : p := by repeat (first | (with_reducible first | exact HB.out | apply below_alloc | apply pw_below_drewN | apply below_drew1 | refine below_set ?_ GE195.out | refine below_set ?_ GE197.out) | exact HB.out)) : p := h
theorem q7_2 {p : Prop} (h : p := by (with_reducible repeat (first | refine blk_drewN ?_ _ | refine blk_drew ?_ | refine blk_alloc ?_ _)); exact BK195.out) : p := h
theorem q7_3 {p : Prop} (h : p := by (with_reducible repeat (first | refine blk_drewN ?_ _ | refine blk_drew ?_ | refine blk_alloc ?_ _)); exact BK197.out) : p := h
theorem q7_5 {p : Prop} (h : p := by repeat (first | (with_reducible first | exact HB.out | apply below_alloc | apply pw_below_drewN | apply below_drew1 | refine below_set ?_ GE195.out) | exact HB.out)) : p := h
theorem q7_9 {p : Prop} (h : p := by exact Kd.C_below HR196_1.out q7_0) : p := h
theorem q7_10 {p : Prop} (h : p := by (iterate 7 ((with_reducible repeat (first | refine blk_drewN ?_ _ | refine blk_drew ?_ | refine blk_alloc ?_ _)); refine blk_far ?_ NB197_199.out _)); (with_reducible repeat (first | refine blk_drewN ?_ _ | refine blk_drew ?_ | refine blk_alloc ?_ _)); exact BK197.out) : p := h
theorem q7_11 {p : Prop} (h : p := by (iterate 7 ((with_reducible repeat (first | refine blk_drewN ?_ _ | refine blk_drew ?_ | refine blk_alloc ?_ _)); refine blk_far ?_ NB195_199.out _)); (with_reducible repeat (first | refine blk_drewN ?_ _ | refine blk_drew ?_ | refine blk_alloc ?_ _)); exact BK195.out) : p := h
/-! ### net_edges: function 42 -/
mutual
def net_edges.l0 : Nat → List (S61) → Int → Int → List ByteArray → List (S50) → List ByteArray → List (S61) → Option (Int)
 | 0, _, _, _, _, _, _, _ => none
 | k + 1, x9, x10, x11, x196000, x196001, x196002, x196003 => if x11 < x10 then (if 0 ≤ x11 then (if x11 < (x9.length : Int) then (net_edges.l1 k x9 x10 x11 ((rd_T61 x9 x11).f2) (((rd_T61 x9 x11).f2).length : Int) 0 x196000 x196001 x196002 x196003 ((rd_T61 x9 x11).f0) ((rd_T61 x9 x11).f1) ((rd_T61 x9 x11).f2)) else (none)) else (none)) else (some 0)
def net_edges.l1 : Nat → List (S61) → Int → Int → List (S90) → Int → Int → List ByteArray → List (S50) → List ByteArray → List (S61) → ByteArray → List (S57) → List (S90) → Option (Int)
 | 0, _, _, _, _, _, _, _, _, _, _, _, _, _ => none
 | k + 1, x9, x10, x11, x17, x18, x19, x196000, x196001, x196002, x196003, x198000, x198001, x198002 => if x19 < x18 then (if 0 ≤ x19 then (if x19 < (x17.length : Int) then ((net_edges_1.f ((rd_T90 x17 x19).f0) x198001).bind fun t200 => (if t200 = true then ((net_edges_1.f ((rd_T90 x17 x19).f1) x198001).bind fun t201 => (if t201 = true then (if ((rd_T90 x17 x19).f4) < 0 then (some 123) else (if ((rd_T90 x17 x19).f4) > (x196002.length : Int) then (some 123) else (if (rd_T90 x17 x19).f5 = true then (if ((rd_T90 x17 x19).f4) = 0 then (some 123) else (net_edges.l1 k x9 x10 x11 x17 x18 (wrap64 (x19 + 1)) x196000 x196001 x196002 x196003 x198000 x198001 x198002)) else (net_edges.l1 k x9 x10 x11 x17 x18 (wrap64 (x19 + 1)) x196000 x196001 x196002 x196003 x198000 x198001 x198002)))) else (some 123))) else (some 123))) else (none)) else (none)) else (net_edges.l0 k x9 x10 (wrap64 (x11 + 1)) x196000 x196001 x196002 x196003)
end
def net_edges.f (k : Nat) (l0_0 : List ByteArray) (l0_1 : List (S50)) (l0_2 : List ByteArray) (l0_3 : List (S61)) : Option (Int) := net_edges.l0 k l0_3 (l0_3.length : Int) 0 l0_0 l0_1 l0_2 l0_3
theorem net_edges.mono_l : ∀ k, (∀ y0 y1 y2 y3 y4 y5 y6, LeO (net_edges.l0 k y0 y1 y2 y3 y4 y5 y6) (net_edges.l0 (k + 1) y0 y1 y2 y3 y4 y5 y6)) ∧ (∀ y0 y1 y2 y3 y4 y5 y6 y7 y8 y9 y10 y11 y12, LeO (net_edges.l1 k y0 y1 y2 y3 y4 y5 y6 y7 y8 y9 y10 y11 y12) (net_edges.l1 (k + 1) y0 y1 y2 y3 y4 y5 y6 y7 y8 y9 y10 y11 y12))
 | 0 => ⟨fun _ _ _ _ _ _ _ r h => by simp [net_edges.l0] at h, fun _ _ _ _ _ _ _ _ _ _ _ _ _ r h => by simp [net_edges.l1] at h⟩
 | k + 1 => by
  obtain ⟨ih0, ih1⟩ := net_edges.mono_l k
  refine ⟨?_, ?_⟩
  all_goals intros
  all_goals first | unfold net_edges.l0 | unfold net_edges.l1
  all_goals repeat' first | (with_reducible first | exact ih0 _ _ _ _ _ _ _ | exact ih1 _ _ _ _ _ _ _ _ _ _ _ _ _ | exact LeO.refl _ | exact LeO.none _ | refine LeO.ite ?_ ?_ | refine LeO.bind ?_ (fun _ => ?_)) | exact LeO.none _ | refine LeO.ite ?_ ?_ | refine LeO.bind ?_ (fun _ => ?_)
theorem net_edges.mono : ∀ a0 a1 a2 a3 k, LeO (net_edges.f k a0 a1 a2 a3) (net_edges.f (k + 1) a0 a1 a2 a3) := by
 intro a0 a1 a2 a3 k
 obtain ⟨ih0, ih1⟩ := net_edges.mono_l k
 unfold net_edges.f
 repeat' first | (with_reducible first | exact ih0 _ _ _ _ _ _ _ | exact ih1 _ _ _ _ _ _ _ _ _ _ _ _ _ | exact LeO.refl _ | exact LeO.none _ | refine LeO.ite ?_ ?_ | refine LeO.bind ?_ (fun _ => ?_)) | exact LeO.none _ | refine LeO.ite ?_ ?_ | refine LeO.bind ?_ (fun _ => ?_)
set_option maxHeartbeats 8000000 in
set_option maxRecDepth 100000 in
theorem net_edges.calls (k : Nat) (A0_0 : Option Addr) (c0_0 : Nat) (l0_0 : List ByteArray) (A0_1 : Option Addr) (c0_1 : Nat) (l0_1 : List (S50)) (A0_2 : Option Addr) (c0_2 : Nat) (l0_2 : List ByteArray) (A0_3 : Option Addr) (c0_3 : Nat) (l0_3 : List (S61)) (r : Int) (w : World) (hr0_0 : Kd.C Kd.string w A0_0 l0_0.length l0_0) (hc0_0 : l0_0.length ≤ c0_0) (hr0_1 : Kd.C k50 w A0_1 l0_1.length l0_1) (hc0_1 : l0_1.length ≤ c0_1) (hr0_2 : Kd.C Kd.string w A0_2 l0_2.length l0_2) (hc0_2 : l0_2.length ≤ c0_2) (hr0_3 : Kd.C k61 w A0_3 l0_3.length l0_3) (hc0_3 : l0_3.length ≤ c0_3) (h : net_edges.f k l0_0 l0_1 l0_2 l0_3 = some r) :
  Calls Tryd.prog 42 #[.agg #[.slice A0_0 l0_0.length c0_0, .slice A0_1 l0_1.length c0_1, .slice A0_2 l0_2.length c0_2, .slice A0_3 l0_3.length c0_3]] w fun e w' => e = .returned (.int .i64 r) ∧ Below w.heap.size w w' := by
 have hu26 := Tryd.underlying26
 have hu61 := Tryd.underlying61
 have hu90 := Tryd.underlying90
 have HR0_0 := zM hr0_0
 have HC0_0 := zM hc0_0
 clear hr0_0 hc0_0
 have HR0_1 := zM hr0_1
 have HC0_1 := zM hc0_1
 clear hr0_1 hc0_1
 have HR0_2 := zM hr0_2
 have HC0_2 := zM hc0_2
 clear hr0_2 hc0_2
 have HR0_3 := zM hr0_3
 have HC0_3 := zM hc0_3
 clear hr0_3 hc0_3
 have HB := zM (Below.refl w.heap.size w)
 have H : (net_edges.l0 k l0_3 (l0_3.length : Int) 0 l0_0 l0_1 l0_2 l0_3) = some r := h
 clear h
 have H' := zM H
 clear H
 go_enter Tryd.func42, Tryd.ntmps42
 go_wp2_with (first | ((with_reducible refine gate_dst (N := 1) rfl ?_); (try (refine gate_guard (by rfl) ?_; dsimp only)); refine box_ev (N := 1) (cs := #[.slice A0_0 l0_0.length c0_0, .slice A0_1 l0_1.length c0_1, .slice A0_2 l0_2.length c0_2, .slice A0_3 l0_3.length c0_3]) (t := 26) ?_; intro gb195 hg w2 hbox hb; have BK195 := zM (hbox); have GE195 := zM (box_ge (n := w.heap.size) hg (below_size s8)); replace HB := zM (below_step s8 hb); clear hb hbox hg; obtain ⟨hcz3_0, hcz3_1, hcz3_2, hcz3_3, hfz3_0, hfz3_1, hfz3_2, hfz3_3⟩ := blk4 BK195.out))
 go_loopg [11] k (fun kq v11 w' => ∃ (x11_1 : Int), v11 = .int .i64 x11_1 ∧ Aside0 (net_edges.l0 kq l0_3 (l0_3.length : Int) x11_1 l0_0 l0_1 l0_2 l0_3 = some r) ∧ Aside0 (kq ≤ k) ∧ Aside0 (w'.heap[gb195]? = some (.cells #[(.slice A0_0 l0_0.length c0_0), (.slice A0_1 l0_1.length c0_1), (.slice A0_2 l0_2.length c0_2), (.slice A0_3 l0_3.length c0_3)] 26 (0, 0))) ∧ Aside0 (Below w.heap.size w w'))
 case atStart => exact ⟨(0), s7, H', ⟨Nat.le_refl _⟩, ⟨q7_2⟩, ⟨q7_5⟩⟩
 clear H'
 obtain ⟨x11_1, rfl, HA, HK1, BK195, HB⟩ := hrel
 cases gk with
 | zero => exact absurd HA.out (by simp [net_edges.l0])
 | succ k1 =>
  have H := HA.out
  clear HA
  simp only [net_edges.l0] at H
  by_cases c4 : x11_1 < (l0_3.length : Int)
  ·
   rw [if_pos c4] at H
   have c4b0 := zD c4
   clear c4
   by_cases c5 : 0 ≤ x11_1
   ·
    rw [if_pos c5] at H
    have c5b0 := zD c5
    clear c5
    by_cases c6 : x11_1 < (l0_3.length : Int)
    ·
     rw [if_pos c6] at H
     have c6b0 := zD c6
     clear c6
     have H' := zM H
     clear H
     have p196 : 0 ≤ (x11_1 : Int) := zO s3
     have q196 : x11_1 < (l0_3.length : Int) := zO s3
     obtain ⟨ad196, A196_1, c196_1, A196_2, c196_2, e196, hx196_0, hx196_1, hx196_2, HC196_1, HR196_1, HC196_2, HR196_2⟩ := as_T61 HR0_3.out x11_1 p196 q196
     cases e196
     replace hx196_0 := cell_up HB.out hx196_0
     replace hx196_1 := cell_up HB.out hx196_1
     replace hx196_2 := cell_up HB.out hx196_2
     replace p196 := eq_true p196
     replace q196 := eq_true q196
     go_wp2_with (first | ((with_reducible refine gate_dst (N := 4) rfl ?_); (try (refine gate_guard (by rfl) ?_; dsimp only)); refine box_ev (N := 4) (cs := #[.string (⟨#[]⟩ : ByteArray), .slice none 0 0, .slice none 0 0]) (t := 61) ?_; intro gb197 hg w7 hbox hb; have BK197 := zM (hbox); have GE197 := zM (box_ge (n := w.heap.size) hg (below_size q7_5)); have NB195_197 := zM (box_ne hg (g := gb195) q7_2); have NB197_195 := zM (box_ne' hg (g := gb195) q7_2); replace BK195 := zM (blk_below (g := gb195) q7_2 hb); replace HB := zM (below_step q7_5 hb); clear hb hbox hg; have hnb8 := NB197_195.out; have hnc8 := NB195_197.out; obtain ⟨hcz9_0, hcz9_1, hcz9_2, hfz9_0, hfz9_1, hfz9_2⟩ := blk3 BK197.out))
     go_loopg [19] k1 (fun kq v19 w' => ∃ (x19_2 : Int), v19 = .int .i64 x19_2 ∧ Aside0 (net_edges.l1 kq l0_3 (l0_3.length : Int) x11_1 ((rd_T61 l0_3 x11_1).f2) (((rd_T61 l0_3 x11_1).f2).length : Int) x19_2 l0_0 l0_1 l0_2 l0_3 ((rd_T61 l0_3 x11_1).f0) ((rd_T61 l0_3 x11_1).f1) ((rd_T61 l0_3 x11_1).f2) = some r) ∧ Aside0 (kq ≤ k1) ∧ Aside0 (w'.heap[gb195]? = some (.cells #[(.slice A0_0 l0_0.length c0_0), (.slice A0_1 l0_1.length c0_1), (.slice A0_2 l0_2.length c0_2), (.slice (some ad196) l0_3.length c0_3)] 26 (0, 0))) ∧ Aside0 (w'.heap[gb197]? = some (.cells #[.string ((rd_T61 l0_3 x11_1).f0), (.slice A196_1 ((rd_T61 l0_3 x11_1).f1).length c196_1), (.slice A196_2 ((rd_T61 l0_3 x11_1).f2).length c196_2)] 61 (0, 0))) ∧ Aside0 (Below w.heap.size w w'))
     case atStart => exact ⟨(0), s7, H', ⟨Nat.le_refl _⟩, ⟨(by (iterate 3 ((with_reducible repeat (first | refine blk_drewN ?_ _ | refine blk_drew ?_ | refine blk_alloc ?_ _)); refine blk_far ?_ NB195_197.out _)); (with_reducible repeat (first | refine blk_drewN ?_ _ | refine blk_drew ?_ | refine blk_alloc ?_ _)); exact BK195.out)⟩, ⟨(by (with_reducible repeat (first | refine blk_drewN ?_ _ | refine blk_drew ?_ | refine blk_alloc ?_ _)); apply blk_fill3; (with_reducible repeat (first | refine blk_drewN ?_ _ | refine blk_drew ?_ | refine blk_alloc ?_ _)); exact BK197.out)⟩, ⟨q7_1⟩⟩
     clear H'
     obtain ⟨x19_2, rfl, HA, HK2, BK195, BK197, HB⟩ := hrel
     cases gk with
     | zero => exact absurd HA.out (by simp [net_edges.l1])
     | succ k2 =>
      have H := HA.out
      clear HA
      simp only [net_edges.l1] at H
      by_cases c10 : x19_2 < (((rd_T61 l0_3 x11_1).f2).length : Int)
      ·
       rw [if_pos c10] at H
       have c10b0 := zD c10
       clear c10
       by_cases c11 : 0 ≤ x19_2
       ·
        rw [if_pos c11] at H
        have c11b0 := zD c11
        clear c11
        by_cases c12 : x19_2 < (((rd_T61 l0_3 x11_1).f2).length : Int)
        ·
         rw [if_pos c12] at H
         have c12b0 := zD c12
         clear c12
         replace H := Option.bind_eq_some_iff.mp H
         obtain ⟨t200, A130, H⟩ := H
         replace H : (if t200 = true then ((net_edges_1.f ((rd_T90 ((rd_T61 l0_3 x11_1).f2) x19_2).f1) ((rd_T61 l0_3 x11_1).f1)).bind fun t201 => (if t201 = true then (if ((rd_T90 ((rd_T61 l0_3 x11_1).f2) x19_2).f4) < 0 then (some 123) else (if ((rd_T90 ((rd_T61 l0_3 x11_1).f2) x19_2).f4) > (l0_2.length : Int) then (some 123) else (if (rd_T90 ((rd_T61 l0_3 x11_1).f2) x19_2).f5 = true then (if ((rd_T90 ((rd_T61 l0_3 x11_1).f2) x19_2).f4) = 0 then (some 123) else (net_edges.l1 k2 l0_3 (l0_3.length : Int) x11_1 ((rd_T61 l0_3 x11_1).f2) (((rd_T61 l0_3 x11_1).f2).length : Int) (wrap64 (x19_2 + 1)) l0_0 l0_1 l0_2 l0_3 ((rd_T61 l0_3 x11_1).f0) ((rd_T61 l0_3 x11_1).f1) ((rd_T61 l0_3 x11_1).f2))) else (net_edges.l1 k2 l0_3 (l0_3.length : Int) x11_1 ((rd_T61 l0_3 x11_1).f2) (((rd_T61 l0_3 x11_1).f2).length : Int) (wrap64 (x19_2 + 1)) l0_0 l0_1 l0_2 l0_3 ((rd_T61 l0_3 x11_1).f0) ((rd_T61 l0_3 x11_1).f1) ((rd_T61 l0_3 x11_1).f2))))) else (some 123))) else (some 123)) = some r := H
         have A13 := zM A130
         clear A130
         by_cases c14 : t200 = true
         ·
          subst c14
          have H1 : ((net_edges_1.f ((rd_T90 ((rd_T61 l0_3 x11_1).f2) x19_2).f1) ((rd_T61 l0_3 x11_1).f1)).bind fun t201 => (if t201 = true then (if ((rd_T90 ((rd_T61 l0_3 x11_1).f2) x19_2).f4) < 0 then (some 123) else (if ((rd_T90 ((rd_T61 l0_3 x11_1).f2) x19_2).f4) > (l0_2.length : Int) then (some 123) else (if (rd_T90 ((rd_T61 l0_3 x11_1).f2) x19_2).f5 = true then (if ((rd_T90 ((rd_T61 l0_3 x11_1).f2) x19_2).f4) = 0 then (some 123) else (net_edges.l1 k2 l0_3 (l0_3.length : Int) x11_1 ((rd_T61 l0_3 x11_1).f2) (((rd_T61 l0_3 x11_1).f2).length : Int) (wrap64 (x19_2 + 1)) l0_0 l0_1 l0_2 l0_3 ((rd_T61 l0_3 x11_1).f0) ((rd_T61 l0_3 x11_1).f1) ((rd_T61 l0_3 x11_1).f2))) else (net_edges.l1 k2 l0_3 (l0_3.length : Int) x11_1 ((rd_T61 l0_3 x11_1).f2) (((rd_T61 l0_3 x11_1).f2).length : Int) (wrap64 (x19_2 + 1)) l0_0 l0_1 l0_2 l0_3 ((rd_T61 l0_3 x11_1).f0) ((rd_T61 l0_3 x11_1).f1) ((rd_T61 l0_3 x11_1).f2))))) else (some 123))) = some r := by rw [if_pos rfl] at H; exact H
          clear H
          have H := H1
          clear H1
          replace H := Option.bind_eq_some_iff.mp H
          obtain ⟨t201, A150, H⟩ := H
          replace H : (if t201 = true then (if ((rd_T90 ((rd_T61 l0_3 x11_1).f2) x19_2).f4) < 0 then (some 123) else (if ((rd_T90 ((rd_T61 l0_3 x11_1).f2) x19_2).f4) > (l0_2.length : Int) then (some 123) else (if (rd_T90 ((rd_T61 l0_3 x11_1).f2) x19_2).f5 = true then (if ((rd_T90 ((rd_T61 l0_3 x11_1).f2) x19_2).f4) = 0 then (some 123) else (net_edges.l1 k2 l0_3 (l0_3.length : Int) x11_1 ((rd_T61 l0_3 x11_1).f2) (((rd_T61 l0_3 x11_1).f2).length : Int) (wrap64 (x19_2 + 1)) l0_0 l0_1 l0_2 l0_3 ((rd_T61 l0_3 x11_1).f0) ((rd_T61 l0_3 x11_1).f1) ((rd_T61 l0_3 x11_1).f2))) else (net_edges.l1 k2 l0_3 (l0_3.length : Int) x11_1 ((rd_T61 l0_3 x11_1).f2) (((rd_T61 l0_3 x11_1).f2).length : Int) (wrap64 (x19_2 + 1)) l0_0 l0_1 l0_2 l0_3 ((rd_T61 l0_3 x11_1).f0) ((rd_T61 l0_3 x11_1).f1) ((rd_T61 l0_3 x11_1).f2))))) else (some 123)) = some r := H
          have A15 := zM A150
          clear A150
          by_cases c16 : t201 = true
          ·
           subst c16
           have H1 : (if ((rd_T90 ((rd_T61 l0_3 x11_1).f2) x19_2).f4) < 0 then (some 123) else (if ((rd_T90 ((rd_T61 l0_3 x11_1).f2) x19_2).f4) > (l0_2.length : Int) then (some 123) else (if (rd_T90 ((rd_T61 l0_3 x11_1).f2) x19_2).f5 = true then (if ((rd_T90 ((rd_T61 l0_3 x11_1).f2) x19_2).f4) = 0 then (some 123) else (net_edges.l1 k2 l0_3 (l0_3.length : Int) x11_1 ((rd_T61 l0_3 x11_1).f2) (((rd_T61 l0_3 x11_1).f2).length : Int) (wrap64 (x19_2 + 1)) l0_0 l0_1 l0_2 l0_3 ((rd_T61 l0_3 x11_1).f0) ((rd_T61 l0_3 x11_1).f1) ((rd_T61 l0_3 x11_1).f2))) else (net_edges.l1 k2 l0_3 (l0_3.length : Int) x11_1 ((rd_T61 l0_3 x11_1).f2) (((rd_T61 l0_3 x11_1).f2).length : Int) (wrap64 (x19_2 + 1)) l0_0 l0_1 l0_2 l0_3 ((rd_T61 l0_3 x11_1).f0) ((rd_T61 l0_3 x11_1).f1) ((rd_T61 l0_3 x11_1).f2))))) = some r := by rw [if_pos rfl] at H; exact H
           clear H
           have H := H1
           clear H1
           by_cases c17 : ((rd_T90 ((rd_T61 l0_3 x11_1).f2) x19_2).f4) < 0
           ·
            rw [if_pos c17] at H
            have c17b0 := zD c17
            clear c17
            obtain rfl := Option.some.inj H
            have p198 : 0 ≤ (x19_2 : Int) := zO s3
            have q198 : x19_2 < (((rd_T61 l0_3 x11_1).f2).length : Int) := zO s3
            obtain ⟨ad198, A198_2, c198_2, A198_3, c198_3, A198_6, c198_6, e198, hx198_0, hx198_1, hx198_2, hx198_3, hx198_4, hx198_5, hx198_6, HC198_2, HR198_2, HC198_3, HR198_3, HC198_6, HR198_6⟩ := as_T90 HR196_2.out x19_2 p198 q198
            cases e198
            replace hx198_0 := cell_up HB.out hx198_0
            replace hx198_1 := cell_up HB.out hx198_1
            replace hx198_2 := cell_up HB.out hx198_2
            replace hx198_3 := cell_up HB.out hx198_3
            replace hx198_4 := cell_up HB.out hx198_4
            replace hx198_5 := cell_up HB.out hx198_5
            replace hx198_6 := cell_up HB.out hx198_6
            replace p198 := eq_true p198
            replace q198 := eq_true q198
            go_wp2_with (first | ((with_reducible refine gate_dst (N := 7) rfl ?_); (try (refine gate_guard (by rfl) ?_; dsimp only)); refine box_ev (N := 7) (cs := #[.int .i64 0, .int .i64 0, .slice none 0 0, .slice none 0 0, .int .i64 0, .bool false, .slice none 0 0]) (t := 90) ?_; intro gb199 hg w18 hbox hb; have BK199 := zM (hbox); have GE199 := zM (box_ge (n := w.heap.size) hg (below_size q7_1)); have NB195_199 := zM (box_ne hg (g := gb195) q7_2); have NB199_195 := zM (box_ne' hg (g := gb195) q7_2); have NB197_199 := zM (box_ne hg (g := gb197) q7_3); have NB199_197 := zM (box_ne' hg (g := gb197) q7_3); replace BK195 := zM (blk_below (g := gb195) q7_2 hb); replace BK197 := zM (blk_below (g := gb197) q7_3 hb); replace HB := zM (below_step q7_1 hb); clear hb hbox hg; have hnb19 := NB199_195.out; have hnc19 := NB195_199.out; have hnb20 := NB199_197.out; have hnc20 := NB197_199.out; obtain ⟨hcz21_0, hcz21_1, hcz21_2, hcz21_3, hcz21_4, hcz21_5, hcz21_6, hfz21_0, hfz21_1, hfz21_2, hfz21_3, hfz21_4, hfz21_5, hfz21_6⟩ := blk7 BK199.out; have hnb22 := NB197_195.out; have hnc22 := NB195_197.out; obtain ⟨hcz23_0, hcz23_1, hcz23_2, hfz23_0, hfz23_1, hfz23_2⟩ := blk3 BK197.out) | (go_at_call 54; (with_reducible refine (net_edges_1.calls ((rd_T90 ((rd_T61 l0_3 x11_1).f2) x19_2).f0) A196_1 c196_1 ((rd_T61 l0_3 x11_1).f1) true _ ?side1 HC196_1.out A13.out).mono ?_); (case side1 => exact q7_9); rintro e w' ⟨rfl, ⟨nd, rfl⟩⟩) | (go_at_call 54; (with_reducible refine (net_edges_1.calls ((rd_T90 ((rd_T61 l0_3 x11_1).f2) x19_2).f1) A196_1 c196_1 ((rd_T61 l0_3 x11_1).f1) true _ ?side1 HC196_1.out A15.out).mono ?_); (case side1 => exact q7_9); rintro e w' ⟨rfl, ⟨nd, rfl⟩⟩))
            go_ret
            exact ⟨s6, q7_0⟩
           rw [if_neg c17] at H
           have c17b0 := decide_eq_false c17
           clear c17
           by_cases c24 : ((rd_T90 ((rd_T61 l0_3 x11_1).f2) x19_2).f4) > (l0_2.length : Int)
           ·
            rw [if_pos c24] at H
            have c24b0 := dgt c24
            clear c24
            obtain rfl := Option.some.inj H
            have p198 : 0 ≤ (x19_2 : Int) := zO s3
            have q198 : x19_2 < (((rd_T61 l0_3 x11_1).f2).length : Int) := zO s3
            obtain ⟨ad198, A198_2, c198_2, A198_3, c198_3, A198_6, c198_6, e198, hx198_0, hx198_1, hx198_2, hx198_3, hx198_4, hx198_5, hx198_6, HC198_2, HR198_2, HC198_3, HR198_3, HC198_6, HR198_6⟩ := as_T90 HR196_2.out x19_2 p198 q198
            cases e198
            replace hx198_0 := cell_up HB.out hx198_0
            replace hx198_1 := cell_up HB.out hx198_1
            replace hx198_2 := cell_up HB.out hx198_2
            replace hx198_3 := cell_up HB.out hx198_3
            replace hx198_4 := cell_up HB.out hx198_4
            replace hx198_5 := cell_up HB.out hx198_5
            replace hx198_6 := cell_up HB.out hx198_6
            replace p198 := eq_true p198
            replace q198 := eq_true q198
            go_wp2_with (first | ((with_reducible refine gate_dst (N := 7) rfl ?_); (try (refine gate_guard (by rfl) ?_; dsimp only)); refine box_ev (N := 7) (cs := #[.int .i64 0, .int .i64 0, .slice none 0 0, .slice none 0 0, .int .i64 0, .bool false, .slice none 0 0]) (t := 90) ?_; intro gb199 hg w25 hbox hb; have BK199 := zM (hbox); have GE199 := zM (box_ge (n := w.heap.size) hg (below_size q7_1)); have NB195_199 := zM (box_ne hg (g := gb195) q7_2); have NB199_195 := zM (box_ne' hg (g := gb195) q7_2); have NB197_199 := zM (box_ne hg (g := gb197) q7_3); have NB199_197 := zM (box_ne' hg (g := gb197) q7_3); replace BK195 := zM (blk_below (g := gb195) q7_2 hb); replace BK197 := zM (blk_below (g := gb197) q7_3 hb); replace HB := zM (below_step q7_1 hb); clear hb hbox hg; have hnb26 := NB199_195.out; have hnc26 := NB195_199.out; have hnb27 := NB199_197.out; have hnc27 := NB197_199.out; obtain ⟨hcz28_0, hcz28_1, hcz28_2, hcz28_3, hcz28_4, hcz28_5, hcz28_6, hfz28_0, hfz28_1, hfz28_2, hfz28_3, hfz28_4, hfz28_5, hfz28_6⟩ := blk7 BK199.out; have hnb29 := NB197_195.out; have hnc29 := NB195_197.out; obtain ⟨hcz30_0, hcz30_1, hcz30_2, hfz30_0, hfz30_1, hfz30_2⟩ := blk3 BK197.out) | (go_at_call 54; (with_reducible refine (net_edges_1.calls ((rd_T90 ((rd_T61 l0_3 x11_1).f2) x19_2).f0) A196_1 c196_1 ((rd_T61 l0_3 x11_1).f1) true _ ?side1 HC196_1.out A13.out).mono ?_); (case side1 => exact q7_9); rintro e w' ⟨rfl, ⟨nd, rfl⟩⟩) | (go_at_call 54; (with_reducible refine (net_edges_1.calls ((rd_T90 ((rd_T61 l0_3 x11_1).f2) x19_2).f1) A196_1 c196_1 ((rd_T61 l0_3 x11_1).f1) true _ ?side1 HC196_1.out A15.out).mono ?_); (case side1 => exact q7_9); rintro e w' ⟨rfl, ⟨nd, rfl⟩⟩; obtain ⟨hcz31_0, hcz31_1, hcz31_2, hcz31_3, hfz31_0, hfz31_1, hfz31_2, hfz31_3⟩ := blk4 BK195.out))
            go_ret
            exact ⟨s6, q7_0⟩
           rw [if_neg c24] at H
           have c24b0 := dngt c24
           clear c24
           obtain ⟨bq32, hbq32⟩ : ∃ b_ : Bool, b_ = ((rd_T90 ((rd_T61 l0_3 x11_1).f2) x19_2).f5) := ⟨_, rfl⟩
           replace H : (if bq32 = true then (if ((rd_T90 ((rd_T61 l0_3 x11_1).f2) x19_2).f4) = 0 then (some 123) else (net_edges.l1 k2 l0_3 (l0_3.length : Int) x11_1 ((rd_T61 l0_3 x11_1).f2) (((rd_T61 l0_3 x11_1).f2).length : Int) (wrap64 (x19_2 + 1)) l0_0 l0_1 l0_2 l0_3 ((rd_T61 l0_3 x11_1).f0) ((rd_T61 l0_3 x11_1).f1) ((rd_T61 l0_3 x11_1).f2))) else (net_edges.l1 k2 l0_3 (l0_3.length : Int) x11_1 ((rd_T61 l0_3 x11_1).f2) (((rd_T61 l0_3 x11_1).f2).length : Int) (wrap64 (x19_2 + 1)) l0_0 l0_1 l0_2 l0_3 ((rd_T61 l0_3 x11_1).f0) ((rd_T61 l0_3 x11_1).f1) ((rd_T61 l0_3 x11_1).f2))) = some r := by rw [← hbq32] at H; exact H
           have Nbq32 := zM hbq32
           clear hbq32
           by_cases c33 : bq32 = true
           ·
            subst c33
            have H1 : (if ((rd_T90 ((rd_T61 l0_3 x11_1).f2) x19_2).f4) = 0 then (some 123) else (net_edges.l1 k2 l0_3 (l0_3.length : Int) x11_1 ((rd_T61 l0_3 x11_1).f2) (((rd_T61 l0_3 x11_1).f2).length : Int) (wrap64 (x19_2 + 1)) l0_0 l0_1 l0_2 l0_3 ((rd_T61 l0_3 x11_1).f0) ((rd_T61 l0_3 x11_1).f1) ((rd_T61 l0_3 x11_1).f2))) = some r := by rw [if_pos rfl] at H; exact H
            clear H
            have H := H1
            clear H1
            by_cases c34 : ((rd_T90 ((rd_T61 l0_3 x11_1).f2) x19_2).f4) = 0
            ·
             rw [if_pos c34] at H
             obtain ⟨c34b0, c34b1⟩ := eqb c34
             clear c34
             obtain rfl := Option.some.inj H
             have p198 : 0 ≤ (x19_2 : Int) := zO s3
             have q198 : x19_2 < (((rd_T61 l0_3 x11_1).f2).length : Int) := zO s3
             obtain ⟨ad198, A198_2, c198_2, A198_3, c198_3, A198_6, c198_6, e198, hx198_0, hx198_1, hx198_2, hx198_3, hx198_4, hx198_5, hx198_6, HC198_2, HR198_2, HC198_3, HR198_3, HC198_6, HR198_6⟩ := as_T90 HR196_2.out x19_2 p198 q198
             (try rw [← Nbq32.out] at hx198_5)
             cases e198
             replace hx198_0 := cell_up HB.out hx198_0
             replace hx198_1 := cell_up HB.out hx198_1
             replace hx198_2 := cell_up HB.out hx198_2
             replace hx198_3 := cell_up HB.out hx198_3
             replace hx198_4 := cell_up HB.out hx198_4
             replace hx198_5 := cell_up HB.out hx198_5
             replace hx198_6 := cell_up HB.out hx198_6
             replace p198 := eq_true p198
             replace q198 := eq_true q198
             go_wp2_with (first | ((with_reducible refine gate_dst (N := 7) rfl ?_); (try (refine gate_guard (by rfl) ?_; dsimp only)); refine box_ev (N := 7) (cs := #[.int .i64 0, .int .i64 0, .slice none 0 0, .slice none 0 0, .int .i64 0, .bool false, .slice none 0 0]) (t := 90) ?_; intro gb199 hg w35 hbox hb; have BK199 := zM (hbox); have GE199 := zM (box_ge (n := w.heap.size) hg (below_size q7_1)); have NB195_199 := zM (box_ne hg (g := gb195) q7_2); have NB199_195 := zM (box_ne' hg (g := gb195) q7_2); have NB197_199 := zM (box_ne hg (g := gb197) q7_3); have NB199_197 := zM (box_ne' hg (g := gb197) q7_3); replace BK195 := zM (blk_below (g := gb195) q7_2 hb); replace BK197 := zM (blk_below (g := gb197) q7_3 hb); replace HB := zM (below_step q7_1 hb); clear hb hbox hg; have hnb36 := NB199_195.out; have hnc36 := NB195_199.out; have hnb37 := NB199_197.out; have hnc37 := NB197_199.out; obtain ⟨hcz38_0, hcz38_1, hcz38_2, hcz38_3, hcz38_4, hcz38_5, hcz38_6, hfz38_0, hfz38_1, hfz38_2, hfz38_3, hfz38_4, hfz38_5, hfz38_6⟩ := blk7 BK199.out; have hnb39 := NB197_195.out; have hnc39 := NB195_197.out; obtain ⟨hcz40_0, hcz40_1, hcz40_2, hfz40_0, hfz40_1, hfz40_2⟩ := blk3 BK197.out) | (go_at_call 54; (with_reducible refine (net_edges_1.calls ((rd_T90 ((rd_T61 l0_3 x11_1).f2) x19_2).f0) A196_1 c196_1 ((rd_T61 l0_3 x11_1).f1) true _ ?side1 HC196_1.out A13.out).mono ?_); (case side1 => exact q7_9); rintro e w' ⟨rfl, ⟨nd, rfl⟩⟩) | (go_at_call 54; (with_reducible refine (net_edges_1.calls ((rd_T90 ((rd_T61 l0_3 x11_1).f2) x19_2).f1) A196_1 c196_1 ((rd_T61 l0_3 x11_1).f1) true _ ?side1 HC196_1.out A15.out).mono ?_); (case side1 => exact q7_9); rintro e w' ⟨rfl, ⟨nd, rfl⟩⟩; obtain ⟨hcz41_0, hcz41_1, hcz41_2, hcz41_3, hfz41_0, hfz41_1, hfz41_2, hfz41_3⟩ := blk4 BK195.out))
             go_ret
             exact ⟨s6, q7_0⟩
            rw [if_neg c34] at H
            obtain ⟨c34b0, c34b1⟩ := neb c34
            have H' := zM H
            clear H
            have p198 : 0 ≤ (x19_2 : Int) := zO s3
            have q198 : x19_2 < (((rd_T61 l0_3 x11_1).f2).length : Int) := zO s3
            obtain ⟨ad198, A198_2, c198_2, A198_3, c198_3, A198_6, c198_6, e198, hx198_0, hx198_1, hx198_2, hx198_3, hx198_4, hx198_5, hx198_6, HC198_2, HR198_2, HC198_3, HR198_3, HC198_6, HR198_6⟩ := as_T90 HR196_2.out x19_2 p198 q198
            (try rw [← Nbq32.out] at hx198_5)
            cases e198
            replace hx198_0 := cell_up HB.out hx198_0
            replace hx198_1 := cell_up HB.out hx198_1
            replace hx198_2 := cell_up HB.out hx198_2
            replace hx198_3 := cell_up HB.out hx198_3
            replace hx198_4 := cell_up HB.out hx198_4
            replace hx198_5 := cell_up HB.out hx198_5
            replace hx198_6 := cell_up HB.out hx198_6
            replace p198 := eq_true p198
            replace q198 := eq_true q198
            go_wp2_with (first | ((with_reducible refine gate_dst (N := 7) rfl ?_); (try (refine gate_guard (by rfl) ?_; dsimp only)); refine box_ev (N := 7) (cs := #[.int .i64 0, .int .i64 0, .slice none 0 0, .slice none 0 0, .int .i64 0, .bool false, .slice none 0 0]) (t := 90) ?_; intro gb199 hg w42 hbox hb; have BK199 := zM (hbox); have GE199 := zM (box_ge (n := w.heap.size) hg (below_size q7_1)); have NB195_199 := zM (box_ne hg (g := gb195) q7_2); have NB199_195 := zM (box_ne' hg (g := gb195) q7_2); have NB197_199 := zM (box_ne hg (g := gb197) q7_3); have NB199_197 := zM (box_ne' hg (g := gb197) q7_3); replace BK195 := zM (blk_below (g := gb195) q7_2 hb); replace BK197 := zM (blk_below (g := gb197) q7_3 hb); replace HB := zM (below_step q7_1 hb); clear hb hbox hg; have hnb43 := NB199_195.out; have hnc43 := NB195_199.out; have hnb44 := NB199_197.out; have hnc44 := NB197_199.out; obtain ⟨hcz45_0, hcz45_1, hcz45_2, hcz45_3, hcz45_4, hcz45_5, hcz45_6, hfz45_0, hfz45_1, hfz45_2, hfz45_3, hfz45_4, hfz45_5, hfz45_6⟩ := blk7 BK199.out; have hnb46 := NB197_195.out; have hnc46 := NB195_197.out; obtain ⟨hcz47_0, hcz47_1, hcz47_2, hfz47_0, hfz47_1, hfz47_2⟩ := blk3 BK197.out) | (go_at_call 54; (with_reducible refine (net_edges_1.calls ((rd_T90 ((rd_T61 l0_3 x11_1).f2) x19_2).f0) A196_1 c196_1 ((rd_T61 l0_3 x11_1).f1) true _ ?side1 HC196_1.out A13.out).mono ?_); (case side1 => exact q7_9); rintro e w' ⟨rfl, ⟨nd, rfl⟩⟩) | (go_at_call 54; (with_reducible refine (net_edges_1.calls ((rd_T90 ((rd_T61 l0_3 x11_1).f2) x19_2).f1) A196_1 c196_1 ((rd_T61 l0_3 x11_1).f1) true _ ?side1 HC196_1.out A15.out).mono ?_); (case side1 => exact q7_9); rintro e w' ⟨rfl, ⟨nd, rfl⟩⟩; obtain ⟨hcz48_0, hcz48_1, hcz48_2, hcz48_3, hfz48_0, hfz48_1, hfz48_2, hfz48_3⟩ := blk4 BK195.out))
            go_roundg k2
            case measure => have := HK1.out; have := HK2.out; omega
            case rel => exact ⟨(wrap64 (x19_2 + 1)), s7, H', ⟨(by have := HK1.out; have := HK2.out; omega)⟩, ⟨q7_11⟩, ⟨q7_10⟩, ⟨q7_0⟩⟩
           replace c33 := Bool.eq_false_iff.mpr c33
           subst c33
           have H1 : (net_edges.l1 k2 l0_3 (l0_3.length : Int) x11_1 ((rd_T61 l0_3 x11_1).f2) (((rd_T61 l0_3 x11_1).f2).length : Int) (wrap64 (x19_2 + 1)) l0_0 l0_1 l0_2 l0_3 ((rd_T61 l0_3 x11_1).f0) ((rd_T61 l0_3 x11_1).f1) ((rd_T61 l0_3 x11_1).f2)) = some r := by rw [if_neg (show ¬ (false = true) by decide)] at H; exact H
           clear H
           have H := H1
           clear H1
           have H' := zM H
           clear H
           have p198 : 0 ≤ (x19_2 : Int) := zO s3
           have q198 : x19_2 < (((rd_T61 l0_3 x11_1).f2).length : Int) := zO s3
           obtain ⟨ad198, A198_2, c198_2, A198_3, c198_3, A198_6, c198_6, e198, hx198_0, hx198_1, hx198_2, hx198_3, hx198_4, hx198_5, hx198_6, HC198_2, HR198_2, HC198_3, HR198_3, HC198_6, HR198_6⟩ := as_T90 HR196_2.out x19_2 p198 q198
           (try rw [← Nbq32.out] at hx198_5)
           cases e198
           replace hx198_0 := cell_up HB.out hx198_0
           replace hx198_1 := cell_up HB.out hx198_1
           replace hx198_2 := cell_up HB.out hx198_2
           replace hx198_3 := cell_up HB.out hx198_3
           replace hx198_4 := cell_up HB.out hx198_4
           replace hx198_5 := cell_up HB.out hx198_5
           replace hx198_6 := cell_up HB.out hx198_6
           replace p198 := eq_true p198
           replace q198 := eq_true q198
           go_wp2_with (first | ((with_reducible refine gate_dst (N := 7) rfl ?_); (try (refine gate_guard (by rfl) ?_; dsimp only)); refine box_ev (N := 7) (cs := #[.int .i64 0, .int .i64 0, .slice none 0 0, .slice none 0 0, .int .i64 0, .bool false, .slice none 0 0]) (t := 90) ?_; intro gb199 hg w49 hbox hb; have BK199 := zM (hbox); have GE199 := zM (box_ge (n := w.heap.size) hg (below_size q7_1)); have NB195_199 := zM (box_ne hg (g := gb195) q7_2); have NB199_195 := zM (box_ne' hg (g := gb195) q7_2); have NB197_199 := zM (box_ne hg (g := gb197) q7_3); have NB199_197 := zM (box_ne' hg (g := gb197) q7_3); replace BK195 := zM (blk_below (g := gb195) q7_2 hb); replace BK197 := zM (blk_below (g := gb197) q7_3 hb); replace HB := zM (below_step q7_1 hb); clear hb hbox hg; have hnb50 := NB199_195.out; have hnc50 := NB195_199.out; have hnb51 := NB199_197.out; have hnc51 := NB197_199.out; obtain ⟨hcz52_0, hcz52_1, hcz52_2, hcz52_3, hcz52_4, hcz52_5, hcz52_6, hfz52_0, hfz52_1, hfz52_2, hfz52_3, hfz52_4, hfz52_5, hfz52_6⟩ := blk7 BK199.out; have hnb53 := NB197_195.out; have hnc53 := NB195_197.out; obtain ⟨hcz54_0, hcz54_1, hcz54_2, hfz54_0, hfz54_1, hfz54_2⟩ := blk3 BK197.out) | (go_at_call 54; (with_reducible refine (net_edges_1.calls ((rd_T90 ((rd_T61 l0_3 x11_1).f2) x19_2).f0) A196_1 c196_1 ((rd_T61 l0_3 x11_1).f1) true _ ?side1 HC196_1.out A13.out).mono ?_); (case side1 => exact q7_9); rintro e w' ⟨rfl, ⟨nd, rfl⟩⟩) | (go_at_call 54; (with_reducible refine (net_edges_1.calls ((rd_T90 ((rd_T61 l0_3 x11_1).f2) x19_2).f1) A196_1 c196_1 ((rd_T61 l0_3 x11_1).f1) true _ ?side1 HC196_1.out A15.out).mono ?_); (case side1 => exact q7_9); rintro e w' ⟨rfl, ⟨nd, rfl⟩⟩; obtain ⟨hcz55_0, hcz55_1, hcz55_2, hcz55_3, hfz55_0, hfz55_1, hfz55_2, hfz55_3⟩ := blk4 BK195.out))
           go_roundg k2
           case measure => have := HK1.out; have := HK2.out; omega
           case rel => exact ⟨(wrap64 (x19_2 + 1)), s7, H', ⟨(by have := HK1.out; have := HK2.out; omega)⟩, ⟨q7_11⟩, ⟨q7_10⟩, ⟨q7_0⟩⟩
          replace c16 := Bool.eq_false_iff.mpr c16
          subst c16
          have H1 : (some 123) = some r := by rw [if_neg (show ¬ (false = true) by decide)] at H; exact H
          clear H
          have H := H1
          clear H1
          obtain rfl := Option.some.inj H
          have p198 : 0 ≤ (x19_2 : Int) := zO s3
          have q198 : x19_2 < (((rd_T61 l0_3 x11_1).f2).length : Int) := zO s3
          obtain ⟨ad198, A198_2, c198_2, A198_3, c198_3, A198_6, c198_6, e198, hx198_0, hx198_1, hx198_2, hx198_3, hx198_4, hx198_5, hx198_6, HC198_2, HR198_2, HC198_3, HR198_3, HC198_6, HR198_6⟩ := as_T90 HR196_2.out x19_2 p198 q198
          cases e198
          replace hx198_0 := cell_up HB.out hx198_0
          replace hx198_1 := cell_up HB.out hx198_1
          replace hx198_2 := cell_up HB.out hx198_2
          replace hx198_3 := cell_up HB.out hx198_3
          replace hx198_4 := cell_up HB.out hx198_4
          replace hx198_5 := cell_up HB.out hx198_5
          replace hx198_6 := cell_up HB.out hx198_6
          replace p198 := eq_true p198
          replace q198 := eq_true q198
          go_wp2_with (first | ((with_reducible refine gate_dst (N := 7) rfl ?_); (try (refine gate_guard (by rfl) ?_; dsimp only)); refine box_ev (N := 7) (cs := #[.int .i64 0, .int .i64 0, .slice none 0 0, .slice none 0 0, .int .i64 0, .bool false, .slice none 0 0]) (t := 90) ?_; intro gb199 hg w56 hbox hb; have BK199 := zM (hbox); have GE199 := zM (box_ge (n := w.heap.size) hg (below_size q7_1)); have NB195_199 := zM (box_ne hg (g := gb195) q7_2); have NB199_195 := zM (box_ne' hg (g := gb195) q7_2); have NB197_199 := zM (box_ne hg (g := gb197) q7_3); have NB199_197 := zM (box_ne' hg (g := gb197) q7_3); replace BK195 := zM (blk_below (g := gb195) q7_2 hb); replace BK197 := zM (blk_below (g := gb197) q7_3 hb); replace HB := zM (below_step q7_1 hb); clear hb hbox hg; have hnb57 := NB199_195.out; have hnc57 := NB195_199.out; have hnb58 := NB199_197.out; have hnc58 := NB197_199.out; obtain ⟨hcz59_0, hcz59_1, hcz59_2, hcz59_3, hcz59_4, hcz59_5, hcz59_6, hfz59_0, hfz59_1, hfz59_2, hfz59_3, hfz59_4, hfz59_5, hfz59_6⟩ := blk7 BK199.out; have hnb60 := NB197_195.out; have hnc60 := NB195_197.out; obtain ⟨hcz61_0, hcz61_1, hcz61_2, hfz61_0, hfz61_1, hfz61_2⟩ := blk3 BK197.out) | (go_at_call 54; (with_reducible refine (net_edges_1.calls ((rd_T90 ((rd_T61 l0_3 x11_1).f2) x19_2).f0) A196_1 c196_1 ((rd_T61 l0_3 x11_1).f1) true _ ?side1 HC196_1.out A13.out).mono ?_); (case side1 => exact q7_9); rintro e w' ⟨rfl, ⟨nd, rfl⟩⟩) | (go_at_call 54; (with_reducible refine (net_edges_1.calls ((rd_T90 ((rd_T61 l0_3 x11_1).f2) x19_2).f1) A196_1 c196_1 ((rd_T61 l0_3 x11_1).f1) false _ ?side1 HC196_1.out A15.out).mono ?_); (case side1 => exact q7_9); rintro e w' ⟨rfl, ⟨nd, rfl⟩⟩))
          go_ret
          exact ⟨s6, q7_0⟩
         replace c14 := Bool.eq_false_iff.mpr c14
         subst c14
         have H1 : (some 123) = some r := by rw [if_neg (show ¬ (false = true) by decide)] at H; exact H
         clear H
         have H := H1
         clear H1
         obtain rfl := Option.some.inj H
         have p198 : 0 ≤ (x19_2 : Int) := zO s3
         have q198 : x19_2 < (((rd_T61 l0_3 x11_1).f2).length : Int) := zO s3
         obtain ⟨ad198, A198_2, c198_2, A198_3, c198_3, A198_6, c198_6, e198, hx198_0, hx198_1, hx198_2, hx198_3, hx198_4, hx198_5, hx198_6, HC198_2, HR198_2, HC198_3, HR198_3, HC198_6, HR198_6⟩ := as_T90 HR196_2.out x19_2 p198 q198
         cases e198
         replace hx198_0 := cell_up HB.out hx198_0
         replace hx198_1 := cell_up HB.out hx198_1
         replace hx198_2 := cell_up HB.out hx198_2
         replace hx198_3 := cell_up HB.out hx198_3
         replace hx198_4 := cell_up HB.out hx198_4
         replace hx198_5 := cell_up HB.out hx198_5
         replace hx198_6 := cell_up HB.out hx198_6
         replace p198 := eq_true p198
         replace q198 := eq_true q198
         go_wp2_with (first | ((with_reducible refine gate_dst (N := 7) rfl ?_); (try (refine gate_guard (by rfl) ?_; dsimp only)); refine box_ev (N := 7) (cs := #[.int .i64 0, .int .i64 0, .slice none 0 0, .slice none 0 0, .int .i64 0, .bool false, .slice none 0 0]) (t := 90) ?_; intro gb199 hg w62 hbox hb; have BK199 := zM (hbox); have GE199 := zM (box_ge (n := w.heap.size) hg (below_size q7_1)); have NB195_199 := zM (box_ne hg (g := gb195) q7_2); have NB199_195 := zM (box_ne' hg (g := gb195) q7_2); have NB197_199 := zM (box_ne hg (g := gb197) q7_3); have NB199_197 := zM (box_ne' hg (g := gb197) q7_3); replace BK195 := zM (blk_below (g := gb195) q7_2 hb); replace BK197 := zM (blk_below (g := gb197) q7_3 hb); replace HB := zM (below_step q7_1 hb); clear hb hbox hg; have hnb63 := NB199_195.out; have hnc63 := NB195_199.out; have hnb64 := NB199_197.out; have hnc64 := NB197_199.out; obtain ⟨hcz65_0, hcz65_1, hcz65_2, hcz65_3, hcz65_4, hcz65_5, hcz65_6, hfz65_0, hfz65_1, hfz65_2, hfz65_3, hfz65_4, hfz65_5, hfz65_6⟩ := blk7 BK199.out; have hnb66 := NB197_195.out; have hnc66 := NB195_197.out; obtain ⟨hcz67_0, hcz67_1, hcz67_2, hfz67_0, hfz67_1, hfz67_2⟩ := blk3 BK197.out) | (go_at_call 54; (with_reducible refine (net_edges_1.calls ((rd_T90 ((rd_T61 l0_3 x11_1).f2) x19_2).f0) A196_1 c196_1 ((rd_T61 l0_3 x11_1).f1) false _ ?side1 HC196_1.out A13.out).mono ?_); (case side1 => exact q7_9); rintro e w' ⟨rfl, ⟨nd, rfl⟩⟩))
         go_ret
         exact ⟨s6, q7_0⟩
        rw [if_neg c12] at H
        exact absurd H (by simp)
       rw [if_neg c11] at H
       exact absurd H (by simp)
      rw [if_neg c10] at H
      have c10b0 := decide_eq_false c10
      clear c10
      have H' := zM H
      clear H
      go_wp2
      go_roundg k2
      case measure => have := HK1.out; have := HK2.out; omega
      case rel => exact ⟨(wrap64 (x11_1 + 1)), s7, H', ⟨(by have := HK1.out; have := HK2.out; omega)⟩, ⟨q7_2⟩, ⟨q7_1⟩⟩
    rw [if_neg c6] at H
    exact absurd H (by simp)
   rw [if_neg c5] at H
   exact absurd H (by simp)
  rw [if_neg c4] at H
  have c4b0 := decide_eq_false c4
  clear c4
  obtain rfl := Option.some.inj H
  go_wp2
  go_ret
  exact ⟨s6, q7_5⟩

end Go.Proofs.YtpmhfahligjhaaaDoor.POrd
