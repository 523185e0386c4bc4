-- written by wip/tools/xprint.py (over the kit's print.py): not trusted, Lean checks it.
import Derived.Test.YtpmhfahligjhaaaDoorPOrdx0
import Derived.Test.YtpmhfahligjhaaaDoorPOrdx13
-- compact
namespace Go.Proofs.YtpmhfahligjhaaaDoor.POrd
open Go.RowKit Go.Proofs.YtpmhfahligjhaaaDoorW.PrintWords Go.Proofs.YtpmhfahligjhaaaDoorW.PrintLast Go.Proofs.YtpmhfahligjhaaaDoorW.PrintMore Go.Proofs.YtpmhfahligjhaaaDoorXW
attribute [local go_sem high] Option.map_some
attribute [local go_sem] max2_int max_two
set_option linter.unusedVariables false
set_option linter.unusedSimpArgs false

theorem q14_1 {p : Prop} (h : p := by (with_reducible repeat (first | refine blk_drewN ?_ _ | refine blk_drew ?_ | refine blk_alloc ?_ _)); exact BK331.out) : p := h
theorem q14_2 {p : Prop} (h : p := by repeat (first | (with_reducible first | exact HB.out | apply below_alloc | apply pw_below_drewN | apply below_drew1 | refine below_set ?_ GE331.out | refine below_set ?_ GE332.out) | exact HB.out)) : p := h
theorem q14_5 {p : Prop} (h : p := by (with_reducible repeat (first | refine blk_drewN ?_ _ | refine blk_drew ?_ | refine blk_alloc ?_ _)); exact BK327.out) : p := h
theorem q14_7 {p : Prop} (h : p := by repeat (first | (with_reducible first | exact HB.out | apply below_alloc | apply pw_below_drewN | apply below_drew1 | refine below_set ?_ GE331.out) | exact HB.out)) : p := h
theorem q14_9 {p : Prop} (h : p := by repeat (first | (with_reducible first | exact HB.out | apply below_alloc | apply pw_below_drewN | apply below_drew1 | refine below_set ?_ GE327.out | refine below_set ?_ GE328.out) | exact HB.out)) : p := h
theorem q14_13 {p : Prop} (h : p := by repeat (first | (with_reducible first | exact HB.out | apply below_alloc | apply pw_below_drewN | apply below_drew1 | refine below_set ?_ GE327.out) | exact HB.out)) : p := h
theorem q14_14 {p : Prop} (h : p := by repeat (first | (with_reducible first | exact HB.out | apply below_alloc | apply pw_below_drewN | apply below_drew1 | refine below_set ?_ GE324.out) | exact HB.out)) : p := h
theorem q14_15 {p : Prop} (h : p := by (with_reducible repeat (first | refine blk_drewN ?_ _ | refine blk_drew ?_ | refine blk_alloc ?_ _)); exact BK332.out) : p := h
theorem q14_19 {p : Prop} (h : p := by (with_reducible repeat (first | refine blk_drewN ?_ _ | refine blk_drew ?_ | refine blk_alloc ?_ _)); exact BK328.out) : p := h
theorem q14_20 {p : Prop} (h : p := by repeat (first | (with_reducible first | exact HB.out | apply below_alloc | apply pw_below_drewN | apply below_drew1 | refine below_set ?_ GE322.out) | exact HB.out)) : p := h
theorem q14_21 {p : Prop} (h : p := by (with_reducible repeat (first | refine blk_drewN ?_ _ | refine blk_drew ?_ | refine blk_alloc ?_ _)); exact BK324.out) : p := h
/-! ### state_is_2: function 35 -/
def state_is_2.f (a0_0 : ByteArray) (a0_1 : Int) (a0_2 : Int) (a0_3 : Int) (a1 : Int) : Option (Bool) := if a1 ≥ a0_1 then (some (decide (a1 ≤ a0_2))) else (some false)
set_option maxHeartbeats 8000000 in
set_option maxRecDepth 100000 in
theorem state_is_2.calls (a0_0 : ByteArray) (a0_1 : Int) (a0_2 : Int) (a0_3 : Int) (a1 : Int) (r : Bool) (w : World) (h : state_is_2.f a0_0 a0_1 a0_2 a0_3 a1 = some r) :
  Calls Tryd.prog 35 #[.agg #[.string a0_0, .int .i64 a0_1, .int .i64 a0_2, .int .i64 a0_3], .int .i64 a1] w fun e w' => e = .returned (.bool r) ∧ Below w.heap.size w w' := by
 have hu50 := Tryd.underlying50
 have HB := zM (Below.refl w.heap.size w)
 have H : (if a1 ≥ a0_1 then (some (decide (a1 ≤ a0_2))) else (some false)) = some r := h
 clear h
 by_cases c3 : a1 ≥ a0_1
 ·
  rw [if_pos c3] at H
  have c3b0 := dge c3
  clear c3
  obtain rfl := Option.some.inj H
  go_enter Tryd.func35, Tryd.ntmps35
  go_wp2_with (first | ((with_reducible refine gate_dst (N := 2) rfl ?_); refine box_ev (N := 2) (cs := #[.string a0_0, .int .i64 a0_1, .int .i64 a0_2, .int .i64 a0_3]) (t := 50) ?_; intro gb322 hg w4 hbox hb; have BK322 := zM (hbox); have GE322 := zM (box_ge (n := w.heap.size) hg (below_size s8)); replace HB := zM (below_step s8 hb); clear hb hbox hg; obtain ⟨hcz5_0, hcz5_1, hcz5_2, hcz5_3, hfz5_0, hfz5_1, hfz5_2, hfz5_3⟩ := blk4 BK322.out))
  go_ret
  exact ⟨s6, q14_20⟩
 rw [if_neg c3] at H
 have c3b0 := dnge c3
 clear c3
 obtain rfl := Option.some.inj H
 go_enter Tryd.func35, Tryd.ntmps35
 go_wp2_with (first | ((with_reducible refine gate_dst (N := 2) rfl ?_); refine box_ev (N := 2) (cs := #[.string a0_0, .int .i64 a0_1, .int .i64 a0_2, .int .i64 a0_3]) (t := 50) ?_; intro gb322 hg w6 hbox hb; have BK322 := zM (hbox); have GE322 := zM (box_ge (n := w.heap.size) hg (below_size s8)); replace HB := zM (below_step s8 hb); clear hb hbox hg; obtain ⟨hcz7_0, hcz7_1, hcz7_2, hcz7_3, hfz7_0, hfz7_1, hfz7_2, hfz7_3⟩ := blk4 BK322.out))
 go_ret
 exact ⟨s6, q14_20⟩

/-! ### api_Variable_int_at35: function 900004 -/
def api_Variable_int_at35.l0 : Nat → List Int → List (S50) → Int → Int → Option (Bool)
 | 0, _, _, _, _ => none
 | k + 1, x1, x14, x15, x16 => if x16 < x15 then (if 0 ≤ x16 then (if x16 < (x14.length : Int) then (if x16 < (x1.length : Int) then ((state_is_2.f ((rd_T50 x14 x16).f0) ((rd_T50 x14 x16).f1) ((rd_T50 x14 x16).f2) ((rd_T50 x14 x16).f3) (rd x1 x16)).bind fun t326 => (if t326 = true then (api_Variable_int_at35.l0 k x1 x14 x15 (wrap64 (x16 + 1))) else (some false))) else (none)) else (none)) else (none)) else (some true)
def api_Variable_int_at35.f (k : Nat) (l0 : List (S50)) (l1 : List Int)  : Option (Bool) := if (l0.length : Int) = (l1.length : Int) then (api_Variable_int_at35.l0 k l1 l0 (l0.length : Int) 0) else (some false)
theorem api_Variable_int_at35.mono_l : ∀ k, (∀ y0 y1 y2 y3, LeO (api_Variable_int_at35.l0 k y0 y1 y2 y3) (api_Variable_int_at35.l0 (k + 1) y0 y1 y2 y3))
 | 0 => fun _ _ _ _ r h => by simp [api_Variable_int_at35.l0] at h
 | k + 1 => by
  have ih0 := api_Variable_int_at35.mono_l k
  ·
   intro y0 y1 y2 y3
   unfold api_Variable_int_at35.l0
   repeat' first | (with_reducible first | exact ih0 _ _ _ _ | exact LeO.refl _ | exact LeO.none _ | refine LeO.ite ?_ ?_ | refine LeO.bind ?_ (fun _ => ?_)) | exact LeO.none _ | refine LeO.ite ?_ ?_ | refine LeO.bind ?_ (fun _ => ?_)
theorem api_Variable_int_at35.mono : ∀ a0 a1 k, LeO (api_Variable_int_at35.f k a0 a1) (api_Variable_int_at35.f (k + 1) a0 a1) := by
 intro a0 a1 k
 have ih0 := api_Variable_int_at35.mono_l k
 unfold api_Variable_int_at35.f
 repeat' first | (with_reducible first | exact ih0 _ _ _ _ | exact LeO.refl _ | exact LeO.none _ | refine LeO.ite ?_ ?_ | refine LeO.bind ?_ (fun _ => ?_)) | exact LeO.none _ | refine LeO.ite ?_ ?_ | refine LeO.bind ?_ (fun _ => ?_)
def api_Variable_int_at35.T6 : Bool × List (List Nat × List Nat) := (true, [([], []), ([], []), ([], []), ([], []), ([2, 3], [2, 3]), ([4], [4]), ([0, 1, 5], [0, 1, 5]), ([6], [6])])
def api_Variable_int_at35.B6 : List Nat := [0, 0, 0, 0, 12, 28, 63, 127]
theorem api_Variable_int_at35.tab6 : rtab .any (opsOf Tryd.f36 6) = api_Variable_int_at35.T6 := by kernel_rfl
theorem api_Variable_int_at35.bits6 : waitsOk api_Variable_int_at35.T6.2 api_Variable_int_at35.B6 = true := by kernel_rfl
set_option maxHeartbeats 8000000 in
set_option maxRecDepth 100000 in
theorem api_Variable_int_at35.calls (k : Nat) (A0 : Option Addr) (c0 : Nat) (l0 : List (S50)) (A1 : Option Addr) (c1 : Nat) (l1 : List Int)  (r : Bool) (w : World) (hr0 : Kd.C k50 w A0 l0.length l0) (hc0 : l0.length ≤ c0) (hr1 : Kd.C (Kd.int .i64) w A1 l1.length l1) (hc1 : l1.length ≤ c1) (h : api_Variable_int_at35.f k l0 l1 = some r) :
  Calls Tryd.prog 36 #[.slice A0 l0.length c0, .slice A1 l1.length c1, .func (.func 35) #[] #[]] w fun e w' => e = .returned (.bool r) ∧ Below w.heap.size w w' := by
 have hu50 := Tryd.underlying50
 have HR0 := zM hr0
 have HC0 := zM hc0
 clear hr0 hc0
 have HR1 := zM hr1
 have HC1 := zM hc1
 clear hr1 hc1
 have HB := zM (Below.refl w.heap.size w)
 have H : (if (l0.length : Int) = (l1.length : Int) then (api_Variable_int_at35.l0 k l1 l0 (l0.length : Int) 0) else (some false)) = some r := h
 clear h
 by_cases c4 : (l0.length : Int) = (l1.length : Int)
 ·
  rw [if_pos c4] at H
  obtain ⟨c4b0, c4b1⟩ := eqb c4
  have c4b2 : (l0.length == l1.length) = true := by first | simpa using c4 | (simp at c4 ⊢; omega)
  clear c4
  have H' := zM H
  clear H
  go_enter Tryd.func36, Tryd.ntmps36
  go_wp2
  go_loopg [16] k (fun kq v16 w' => ∃ (x16_1 : Int), v16 = .int .i64 x16_1 ∧ Aside0 (api_Variable_int_at35.l0 kq l1 l0 (l0.length : Int) x16_1 = some r) ∧ Aside0 (kq ≤ k) ∧ Aside0 (Below w.heap.size w w'))
  case atStart => exact ⟨(0), (by first | rfl | (simp; done) | (simp [*]; done)), H', ⟨Nat.le_refl _⟩, ⟨s8⟩⟩
  clear H'
  obtain ⟨x16_1, rfl, HA, HK1, HB⟩ := hrel
  cases gk with
  | zero => exact absurd HA.out (by simp [api_Variable_int_at35.l0])
  | succ k1 =>
   have H := HA.out
   clear HA
   simp only [api_Variable_int_at35.l0] at H
   by_cases c5 : x16_1 < (l0.length : Int)
   ·
    rw [if_pos c5] at H
    have c5b0 := zD c5
    clear c5
    by_cases c6 : 0 ≤ x16_1
    ·
     rw [if_pos c6] at H
     have c6b0 := zD c6
     clear c6
     by_cases c7 : x16_1 < (l0.length : Int)
     ·
      rw [if_pos c7] at H
      have c7b0 := zD c7
      clear c7
      by_cases c8 : x16_1 < (l1.length : Int)
      ·
       rw [if_pos c8] at H
       have c8b0 := zD c8
       clear c8
       replace H := Option.bind_eq_some_iff.mp H
       obtain ⟨t326, A90, H⟩ := H
       replace H : (if t326 = true then (api_Variable_int_at35.l0 k1 l1 l0 (l0.length : Int) (wrap64 (x16_1 + 1))) else (some false)) = some r := H
       have A9 := zM A90
       clear A90
       by_cases c10 : t326 = true
       ·
        subst c10
        have H1 : (api_Variable_int_at35.l0 k1 l1 l0 (l0.length : Int) (wrap64 (x16_1 + 1))) = some r := by rw [if_pos rfl] at H; exact H
        clear H
        have H := H1
        clear H1
        have H' := zM H
        clear H
        have p323 : 0 ≤ (x16_1 : Int) := zO s3
        have q323 : x16_1 < (l0.length : Int) := zO s3
        obtain ⟨ad323, e323, hx323_0, hx323_1, hx323_2, hx323_3⟩ := at_T50 HR0.out x16_1 p323 q323
        cases e323
        replace hx323_0 := cell_up HB.out hx323_0
        replace hx323_1 := cell_up HB.out hx323_1
        replace hx323_2 := cell_up HB.out hx323_2
        replace hx323_3 := cell_up HB.out hx323_3
        replace p323 := eq_true p323
        replace q323 := eq_true q323
        try go_wp2_with (first | ((with_reducible refine gate_dst (N := 8) rfl ?_); refine box_ev (N := 8) (cs := #[.string (⟨#[]⟩ : ByteArray), .int .i64 0, .int .i64 0, .int .i64 0]) (t := 50) ?_; intro gb324 hg w11 hbox hb; have BK324 := zM (hbox); have GE324 := zM (box_ge (n := w.heap.size) hg (below_size s8)); replace HB := zM (below_step s8 hb); clear hb hbox hg; obtain ⟨hcz12_0, hcz12_1, hcz12_2, hcz12_3, hfz12_0, hfz12_1, hfz12_2, hfz12_3⟩ := blk4 BK324.out))
        have n0_ : Aside0 (((((w11.setCell ⟨gb324, 0, none⟩ (.string ((rd_T50 l0 x16_1).f0))).setCell ⟨gb324, 1, none⟩ (.int .i64 ((rd_T50 l0 x16_1).f1))).setCell ⟨gb324, 2, none⟩ (.int .i64 ((rd_T50 l0 x16_1).f2))).setCell ⟨gb324, 3, none⟩ (.int .i64 ((rd_T50 l0 x16_1).f3))).heap[gb324]? = some (.cells #[.string ((rd_T50 l0 x16_1).f0), .int .i64 ((rd_T50 l0 x16_1).f1), .int .i64 ((rd_T50 l0 x16_1).f2), .int .i64 ((rd_T50 l0 x16_1).f3)] 50 (0, 0))) := ⟨by (with_reducible repeat (first | refine blk_drewN ?_ _ | refine blk_drew ?_ | refine blk_alloc ?_ _)); apply blk_fill4; (with_reducible repeat (first | refine blk_drewN ?_ _ | refine blk_drew ?_ | refine blk_alloc ?_ _)); exact BK324.out⟩
        have n1_ : Aside0 (Below w.heap.size w ((((w11.setCell ⟨gb324, 0, none⟩ (.string ((rd_T50 l0 x16_1).f0))).setCell ⟨gb324, 1, none⟩ (.int .i64 ((rd_T50 l0 x16_1).f1))).setCell ⟨gb324, 2, none⟩ (.int .i64 ((rd_T50 l0 x16_1).f2))).setCell ⟨gb324, 3, none⟩ (.int .i64 ((rd_T50 l0 x16_1).f3)))) := ⟨by repeat (first | (with_reducible first | exact HB.out | apply below_alloc | apply pw_below_drewN | apply below_drew1 | refine below_set ?_ GE324.out) | exact HB.out)⟩
        (try clear BK324)
        (try clear HB)
        generalize ((((w11.setCell ⟨gb324, 0, none⟩ (.string ((rd_T50 l0 x16_1).f0))).setCell ⟨gb324, 1, none⟩ (.int .i64 ((rd_T50 l0 x16_1).f1))).setCell ⟨gb324, 2, none⟩ (.int .i64 ((rd_T50 l0 x16_1).f2))).setCell ⟨gb324, 3, none⟩ (.int .i64 ((rd_T50 l0 x16_1).f3))) = w13 at n0_ n1_ ⊢
        have BK324 := n0_
        have HB := n1_
        clear n0_ n1_
        have n0_ := zM (blk_drew BK324.out)
        have n1_ := zM (below_drew1 HB.out)
        clear BK324
        clear HB
        have BK324 := n0_
        have HB := n1_
        clear n0_ n1_
        have p325 : 0 ≤ (x16_1 : Int) := zO s3
        have q325 : x16_1 < (l1.length : Int) := zO s3
        obtain ⟨ad325, e325, hx325_0⟩ := Kd.at_int HR1.out x16_1 p325 q325
        have hw325_0 := hx325_0
        cases e325
        replace hx325_0 := cell_up HB.out hx325_0
        replace p325 := eq_true p325
        replace q325 := eq_true q325
        refine start_ (n := 8) (S := fun w' => w'.cell? ⟨gb324, 0, none⟩ = some (.string ((rd_T50 l0 x16_1).f0)) ∧ w'.cell? ⟨gb324, 1, none⟩ = some (.int .i64 ((rd_T50 l0 x16_1).f1)) ∧ w'.cell? ⟨gb324, 2, none⟩ = some (.int .i64 ((rd_T50 l0 x16_1).f2)) ∧ w'.cell? ⟨gb324, 3, none⟩ = some (.int .i64 ((rd_T50 l0 x16_1).f3)) ∧ w'.cell? (ad325.add (x16_1).toNat) = some (.int .i64 (rd l1 x16_1))) (ds := []) #[false, false, false, false, false, false, false, false] (by kernel_rfl) rfl rfl ⟨(blk_cell BK324.out 0).trans rfl, (blk_cell BK324.out 1).trans rfl, (blk_cell BK324.out 2).trans rfl, (blk_cell BK324.out 3).trans rfl, ((HB.out.cell (World.block_lt_of_cell? w _ hw325_0)).trans hw325_0)⟩ (fun hHeld => ?_); refine with_tabW api_Variable_int_at35.tab6 api_Variable_int_at35.bits6 (fun HT_ HW_ => ?_)
        generalize w13.drew = w14 at BK324 HB hx325_0 hHeld ⊢
        refine pure_ (i := 0) (N := some 21) (v := ?_) (a' := ?_) #[true, false, false, false, false, false, false, false] rfl rfl (any_of HT_.out (by kernel_rfl)) (fun _ _ _ h => h) (Or.inl ⟨by rfl, ?_⟩) ?_ ?_
        rotate_left
        ·
         intro w'
         go_simp
         with_reducible rfl
        rotate_left
        ·
         simp only [Act.put, List.setIfInBounds_toArray, List.set_cons_zero, List.set_cons_succ, i64_w, i32_w]
         rfl
        refine pure_ (i := 2) (N := some 23) (v := ?_) (a' := ?_) #[true, false, true, false, false, false, false, false] rfl rfl (any_of HT_.out (by kernel_rfl)) (fun _ _ _ h => h) (Or.inl ⟨by rfl, ?_⟩) ?_ ?_
        rotate_left
        ·
         intro w'
         go_simp
         with_reducible rfl
        rotate_left
        ·
         simp only [Act.put, List.setIfInBounds_toArray, List.set_cons_zero, List.set_cons_succ, i64_w, i32_w]
         rfl
        refine pure_ (i := 3) (N := some 24) (v := ?_) (a' := ?_) #[true, false, true, true, false, false, false, false] rfl rfl (any_of HT_.out (by kernel_rfl)) (fun _ _ _ h => h) (Or.inl ⟨by rfl, ?_⟩) ?_ ?_
        rotate_left
        ·
         intro w'
         go_simp
         with_reducible rfl
        rotate_left
        ·
         simp only [Act.put, List.setIfInBounds_toArray, List.set_cons_zero, List.set_cons_succ, i64_w, i32_w]
         rfl
        refine pure_ (i := 4) (N := some 25) (v := ?_) (a' := ?_) #[true, false, true, true, true, false, false, false] rfl rfl (any_of HT_.out (by kernel_rfl)) (fun _ _ _ h => h) (Or.inl ⟨by rfl, ?_⟩) ?_ ?_
        rotate_left
        ·
         intro w'
         go_simp
         with_reducible rfl
        rotate_left
        ·
         simp only [Act.put, List.setIfInBounds_toArray, List.set_cons_zero, List.set_cons_succ, i64_w, i32_w]
         rfl
        refine take_ (i := 1) (N := some 22) (v := ?_) (a' := ?_) #[true, true, true, true, true, false, false, false] rfl rfl (take_ofW HT_.out HW_.out (by kernel_rfl)) (fun _ _ _ h => h) (Or.inl ⟨by rfl, ?_⟩) hHeld ?_ ?_
        rotate_left
        ·
         rintro w' ⟨s0, s1, s2, s3, s4⟩
         go_simp
         with_reducible rfl
        rotate_left
        ·
         simp only [Act.put, List.setIfInBounds_toArray, List.set_cons_zero, List.set_cons_succ, i64_w, i32_w]
         rfl
        refine take_ (i := 5) (N := some 26) (v := ?_) (a' := ?_) #[true, true, true, true, true, true, false, false] rfl rfl (take_ofW HT_.out HW_.out (by kernel_rfl)) (fun _ _ _ h => h) (Or.inl ⟨by rfl, ?_⟩) hHeld ?_ ?_
        rotate_left
        ·
         rintro w' ⟨s0, s1, s2, s3, s4⟩
         go_simp
         with_reducible rfl
        rotate_left
        ·
         simp only [Act.put, List.setIfInBounds_toArray, List.set_cons_zero, List.set_cons_succ, i64_w, i32_w]
         rfl
        refine one_ (i := 6) (N := some 27) #[true, true, true, true, true, true, true, false] rfl rfl (one_of HT_.out (by kernel_rfl)) (by decide) (fun K hK => ?_)
        first
         | (refine goes_ Tryd.func35 (by kernel_rfl) rfl #[.agg #[.string ((rd_T50 l0 x16_1).f0), .int .i64 ((rd_T50 l0 x16_1).f1), .int .i64 ((rd_T50 l0 x16_1).f2), .int .i64 ((rd_T50 l0 x16_1).f3)], .int .i64 (rd l1 x16_1)] (by rfl) rfl rfl s0 ?_)
         | (refine goest_ Tryd.func35 (by kernel_rfl) rfl #[.agg #[.string ((rd_T50 l0 x16_1).f0), .int .i64 ((rd_T50 l0 x16_1).f1), .int .i64 ((rd_T50 l0 x16_1).f2), .int .i64 ((rd_T50 l0 x16_1).f3)], .int .i64 (rd l1 x16_1)] (by rfl) rfl rfl rfl s0 ?_)
        with_reducible refine (state_is_2.calls ((rd_T50 l0 x16_1).f0) ((rd_T50 l0 x16_1).f1) ((rd_T50 l0 x16_1).f2) ((rd_T50 l0 x16_1).f3) (rd l1 x16_1) true _ A9.out).mono ?_
        rintro e w15 ⟨rfl, hb⟩
        refine ⟨_, rfl, ?_⟩
        have n0_ := zM (blk_below (g := gb324) q14_21 hb)
        have n1_ := zM (below_step q14_14 hb)
        clear BK324
        clear HB
        have BK324 := n0_
        have HB := n1_
        clear n0_ n1_
        (try clear hb)
        (try clear hb2)
        (try clear hk)
        (try clear hi)
        refine hK.out _ _ ⟨(blk_cell BK324.out 0).trans rfl, (blk_cell BK324.out 1).trans rfl, (blk_cell BK324.out 2).trans rfl, (blk_cell BK324.out 3).trans rfl, ((HB.out.cell (World.block_lt_of_cell? w _ hw325_0)).trans hw325_0)⟩ (fun hHeld => ?_)
        clear hK K
        refine norm_ (a' := ?_) ?_ ?_
        rotate_left
        ·
         show Act.put _ (some 27) _ = _
         simp only [Act.put, List.setIfInBounds_toArray, List.set_cons_zero, List.set_cons_succ, i64_w, i32_w]
         rfl
        refine pure_ (i := 7) (N := some 28) (v := ?_) (a' := ?_) #[true, true, true, true, true, true, true, true] rfl rfl (any_of HT_.out (by kernel_rfl)) (fun _ _ _ h => h) (Or.inl ⟨by rfl, ?_⟩) ?_ ?_
        rotate_left
        ·
         intro w'
         go_simp
         with_reducible rfl
        rotate_left
        ·
         simp only [Act.put, List.setIfInBounds_toArray, List.set_cons_zero, List.set_cons_succ, i64_w, i32_w]
         rfl
        refine done_ (done_of HT_.out (by kernel_rfl)) ?_
        try go_wp2
        go_roundg k1
        case measure => have := HK1.out; omega
        case rel => exact ⟨(wrap64 (x16_1 + 1)), (by first | rfl | (simp; done) | (simp [*]; done)), H', ⟨(by have := HK1.out; omega)⟩, ⟨q14_14⟩⟩
       replace c10 := Bool.eq_false_iff.mpr c10
       subst c10
       have H1 : (some false) = some r := by rw [if_neg (show ¬ (false = true) by decide)] at H; exact H
       clear H
       have H := H1
       clear H1
       obtain rfl := Option.some.inj H
       have p323 : 0 ≤ (x16_1 : Int) := zO s3
       have q323 : x16_1 < (l0.length : Int) := zO s3
       obtain ⟨ad323, e323, hx323_0, hx323_1, hx323_2, hx323_3⟩ := at_T50 HR0.out x16_1 p323 q323
       cases e323
       replace hx323_0 := cell_up HB.out hx323_0
       replace hx323_1 := cell_up HB.out hx323_1
       replace hx323_2 := cell_up HB.out hx323_2
       replace hx323_3 := cell_up HB.out hx323_3
       replace p323 := eq_true p323
       replace q323 := eq_true q323
       try go_wp2_with (first | ((with_reducible refine gate_dst (N := 8) rfl ?_); refine box_ev (N := 8) (cs := #[.string (⟨#[]⟩ : ByteArray), .int .i64 0, .int .i64 0, .int .i64 0]) (t := 50) ?_; intro gb324 hg w16 hbox hb; have BK324 := zM (hbox); have GE324 := zM (box_ge (n := w.heap.size) hg (below_size s8)); replace HB := zM (below_step s8 hb); clear hb hbox hg; obtain ⟨hcz17_0, hcz17_1, hcz17_2, hcz17_3, hfz17_0, hfz17_1, hfz17_2, hfz17_3⟩ := blk4 BK324.out))
       have n0_ : Aside0 (((((w16.setCell ⟨gb324, 0, none⟩ (.string ((rd_T50 l0 x16_1).f0))).setCell ⟨gb324, 1, none⟩ (.int .i64 ((rd_T50 l0 x16_1).f1))).setCell ⟨gb324, 2, none⟩ (.int .i64 ((rd_T50 l0 x16_1).f2))).setCell ⟨gb324, 3, none⟩ (.int .i64 ((rd_T50 l0 x16_1).f3))).heap[gb324]? = some (.cells #[.string ((rd_T50 l0 x16_1).f0), .int .i64 ((rd_T50 l0 x16_1).f1), .int .i64 ((rd_T50 l0 x16_1).f2), .int .i64 ((rd_T50 l0 x16_1).f3)] 50 (0, 0))) := ⟨by (with_reducible repeat (first | refine blk_drewN ?_ _ | refine blk_drew ?_ | refine blk_alloc ?_ _)); apply blk_fill4; (with_reducible repeat (first | refine blk_drewN ?_ _ | refine blk_drew ?_ | refine blk_alloc ?_ _)); exact BK324.out⟩
       have n1_ : Aside0 (Below w.heap.size w ((((w16.setCell ⟨gb324, 0, none⟩ (.string ((rd_T50 l0 x16_1).f0))).setCell ⟨gb324, 1, none⟩ (.int .i64 ((rd_T50 l0 x16_1).f1))).setCell ⟨gb324, 2, none⟩ (.int .i64 ((rd_T50 l0 x16_1).f2))).setCell ⟨gb324, 3, none⟩ (.int .i64 ((rd_T50 l0 x16_1).f3)))) := ⟨by repeat (first | (with_reducible first | exact HB.out | apply below_alloc | apply pw_below_drewN | apply below_drew1 | refine below_set ?_ GE324.out) | exact HB.out)⟩
       (try clear BK324)
       (try clear HB)
       generalize ((((w16.setCell ⟨gb324, 0, none⟩ (.string ((rd_T50 l0 x16_1).f0))).setCell ⟨gb324, 1, none⟩ (.int .i64 ((rd_T50 l0 x16_1).f1))).setCell ⟨gb324, 2, none⟩ (.int .i64 ((rd_T50 l0 x16_1).f2))).setCell ⟨gb324, 3, none⟩ (.int .i64 ((rd_T50 l0 x16_1).f3))) = w18 at n0_ n1_ ⊢
       have BK324 := n0_
       have HB := n1_
       clear n0_ n1_
       have n0_ := zM (blk_drew BK324.out)
       have n1_ := zM (below_drew1 HB.out)
       clear BK324
       clear HB
       have BK324 := n0_
       have HB := n1_
       clear n0_ n1_
       have p325 : 0 ≤ (x16_1 : Int) := zO s3
       have q325 : x16_1 < (l1.length : Int) := zO s3
       obtain ⟨ad325, e325, hx325_0⟩ := Kd.at_int HR1.out x16_1 p325 q325
       have hw325_0 := hx325_0
       cases e325
       replace hx325_0 := cell_up HB.out hx325_0
       replace p325 := eq_true p325
       replace q325 := eq_true q325
       refine start_ (n := 8) (S := fun w' => w'.cell? ⟨gb324, 0, none⟩ = some (.string ((rd_T50 l0 x16_1).f0)) ∧ w'.cell? ⟨gb324, 1, none⟩ = some (.int .i64 ((rd_T50 l0 x16_1).f1)) ∧ w'.cell? ⟨gb324, 2, none⟩ = some (.int .i64 ((rd_T50 l0 x16_1).f2)) ∧ w'.cell? ⟨gb324, 3, none⟩ = some (.int .i64 ((rd_T50 l0 x16_1).f3)) ∧ w'.cell? (ad325.add (x16_1).toNat) = some (.int .i64 (rd l1 x16_1))) (ds := []) #[false, false, false, false, false, false, false, false] (by kernel_rfl) rfl rfl ⟨(blk_cell BK324.out 0).trans rfl, (blk_cell BK324.out 1).trans rfl, (blk_cell BK324.out 2).trans rfl, (blk_cell BK324.out 3).trans rfl, ((HB.out.cell (World.block_lt_of_cell? w _ hw325_0)).trans hw325_0)⟩ (fun hHeld => ?_); refine with_tabW api_Variable_int_at35.tab6 api_Variable_int_at35.bits6 (fun HT_ HW_ => ?_)
       generalize w18.drew = w19 at BK324 HB hx325_0 hHeld ⊢
       refine pure_ (i := 0) (N := some 21) (v := ?_) (a' := ?_) #[true, false, false, false, false, false, false, false] rfl rfl (any_of HT_.out (by kernel_rfl)) (fun _ _ _ h => h) (Or.inl ⟨by rfl, ?_⟩) ?_ ?_
       rotate_left
       ·
        intro w'
        go_simp
        with_reducible rfl
       rotate_left
       ·
        simp only [Act.put, List.setIfInBounds_toArray, List.set_cons_zero, List.set_cons_succ, i64_w, i32_w]
        rfl
       refine pure_ (i := 2) (N := some 23) (v := ?_) (a' := ?_) #[true, false, true, false, false, false, false, false] rfl rfl (any_of HT_.out (by kernel_rfl)) (fun _ _ _ h => h) (Or.inl ⟨by rfl, ?_⟩) ?_ ?_
       rotate_left
       ·
        intro w'
        go_simp
        with_reducible rfl
       rotate_left
       ·
        simp only [Act.put, List.setIfInBounds_toArray, List.set_cons_zero, List.set_cons_succ, i64_w, i32_w]
        rfl
       refine pure_ (i := 3) (N := some 24) (v := ?_) (a' := ?_) #[true, false, true, true, false, false, false, false] rfl rfl (any_of HT_.out (by kernel_rfl)) (fun _ _ _ h => h) (Or.inl ⟨by rfl, ?_⟩) ?_ ?_
       rotate_left
       ·
        intro w'
        go_simp
        with_reducible rfl
       rotate_left
       ·
        simp only [Act.put, List.setIfInBounds_toArray, List.set_cons_zero, List.set_cons_succ, i64_w, i32_w]
        rfl
       refine pure_ (i := 4) (N := some 25) (v := ?_) (a' := ?_) #[true, false, true, true, true, false, false, false] rfl rfl (any_of HT_.out (by kernel_rfl)) (fun _ _ _ h => h) (Or.inl ⟨by rfl, ?_⟩) ?_ ?_
       rotate_left
       ·
        intro w'
        go_simp
        with_reducible rfl
       rotate_left
       ·
        simp only [Act.put, List.setIfInBounds_toArray, List.set_cons_zero, List.set_cons_succ, i64_w, i32_w]
        rfl
       refine take_ (i := 1) (N := some 22) (v := ?_) (a' := ?_) #[true, true, true, true, true, false, false, false] rfl rfl (take_ofW HT_.out HW_.out (by kernel_rfl)) (fun _ _ _ h => h) (Or.inl ⟨by rfl, ?_⟩) hHeld ?_ ?_
       rotate_left
       ·
        rintro w' ⟨s0, s1, s2, s3, s4⟩
        go_simp
        with_reducible rfl
       rotate_left
       ·
        simp only [Act.put, List.setIfInBounds_toArray, List.set_cons_zero, List.set_cons_succ, i64_w, i32_w]
        rfl
       refine take_ (i := 5) (N := some 26) (v := ?_) (a' := ?_) #[true, true, true, true, true, true, false, false] rfl rfl (take_ofW HT_.out HW_.out (by kernel_rfl)) (fun _ _ _ h => h) (Or.inl ⟨by rfl, ?_⟩) hHeld ?_ ?_
       rotate_left
       ·
        rintro w' ⟨s0, s1, s2, s3, s4⟩
        go_simp
        with_reducible rfl
       rotate_left
       ·
        simp only [Act.put, List.setIfInBounds_toArray, List.set_cons_zero, List.set_cons_succ, i64_w, i32_w]
        rfl
       refine one_ (i := 6) (N := some 27) #[true, true, true, true, true, true, true, false] rfl rfl (one_of HT_.out (by kernel_rfl)) (by decide) (fun K hK => ?_)
       first
        | (refine goes_ Tryd.func35 (by kernel_rfl) rfl #[.agg #[.string ((rd_T50 l0 x16_1).f0), .int .i64 ((rd_T50 l0 x16_1).f1), .int .i64 ((rd_T50 l0 x16_1).f2), .int .i64 ((rd_T50 l0 x16_1).f3)], .int .i64 (rd l1 x16_1)] (by rfl) rfl rfl s0 ?_)
        | (refine goest_ Tryd.func35 (by kernel_rfl) rfl #[.agg #[.string ((rd_T50 l0 x16_1).f0), .int .i64 ((rd_T50 l0 x16_1).f1), .int .i64 ((rd_T50 l0 x16_1).f2), .int .i64 ((rd_T50 l0 x16_1).f3)], .int .i64 (rd l1 x16_1)] (by rfl) rfl rfl rfl s0 ?_)
       with_reducible refine (state_is_2.calls ((rd_T50 l0 x16_1).f0) ((rd_T50 l0 x16_1).f1) ((rd_T50 l0 x16_1).f2) ((rd_T50 l0 x16_1).f3) (rd l1 x16_1) false _ A9.out).mono ?_
       rintro e w20 ⟨rfl, hb⟩
       refine ⟨_, rfl, ?_⟩
       have n0_ := zM (blk_below (g := gb324) q14_21 hb)
       have n1_ := zM (below_step q14_14 hb)
       clear BK324
       clear HB
       have BK324 := n0_
       have HB := n1_
       clear n0_ n1_
       (try clear hb)
       (try clear hb2)
       (try clear hk)
       (try clear hi)
       refine hK.out _ _ ⟨(blk_cell BK324.out 0).trans rfl, (blk_cell BK324.out 1).trans rfl, (blk_cell BK324.out 2).trans rfl, (blk_cell BK324.out 3).trans rfl, ((HB.out.cell (World.block_lt_of_cell? w _ hw325_0)).trans hw325_0)⟩ (fun hHeld => ?_)
       clear hK K
       refine norm_ (a' := ?_) ?_ ?_
       rotate_left
       ·
        show Act.put _ (some 27) _ = _
        simp only [Act.put, List.setIfInBounds_toArray, List.set_cons_zero, List.set_cons_succ, i64_w, i32_w]
        rfl
       refine pure_ (i := 7) (N := some 28) (v := ?_) (a' := ?_) #[true, true, true, true, true, true, true, true] rfl rfl (any_of HT_.out (by kernel_rfl)) (fun _ _ _ h => h) (Or.inl ⟨by rfl, ?_⟩) ?_ ?_
       rotate_left
       ·
        intro w'
        go_simp
        with_reducible rfl
       rotate_left
       ·
        simp only [Act.put, List.setIfInBounds_toArray, List.set_cons_zero, List.set_cons_succ, i64_w, i32_w]
        rfl
       refine done_ (done_of HT_.out (by kernel_rfl)) ?_
       try go_wp2
       go_ret
       exact ⟨s6, q14_14⟩
      rw [if_neg c8] at H
      exact absurd H (by simp)
     rw [if_neg c7] at H
     exact absurd H (by simp)
    rw [if_neg c6] at H
    exact absurd H (by simp)
   rw [if_neg c5] at H
   have c5b0 := decide_eq_false c5
   clear c5
   obtain rfl := Option.some.inj H
   go_wp2
   go_ret
   exact ⟨s6, s8⟩
 rw [if_neg c4] at H
 obtain ⟨c4b0, c4b1⟩ := neb c4
 have c4b2 : (l0.length == l1.length) = false := by first | simpa using c4 | (simp at c4 ⊢; omega)
 obtain rfl := Option.some.inj H
 go_enter Tryd.func36, Tryd.ntmps36
 go_wp2
 go_ret
 exact ⟨s6, s8⟩

/-! ### state_is: function 26 -/
def state_is.f (k : Nat) (l0_0 : List ByteArray) (l0_1 : List (S50)) (l0_2 : List ByteArray) (l0_3 : List (S61)) (l1_0 : List Int) (l1_1 : List Int) : Option (Bool) := (api_Auto_int_at34.f k l0_3 l1_0).bind fun t329 => (if t329 = true then ((api_Variable_int_at35.f k l0_1 l1_1).bind fun t330 => (some t330)) else (some false))
theorem state_is.mono : ∀ a0 a1 a2 a3 a4 a5 k, LeO (state_is.f k a0 a1 a2 a3 a4 a5) (state_is.f (k + 1) a0 a1 a2 a3 a4 a5) := by
 intro a0 a1 a2 a3 a4 a5 k
 unfold state_is.f
 repeat' first | (with_reducible first | exact api_Auto_int_at34.mono _ _ _ | exact api_Variable_int_at35.mono _ _ _ | exact LeO.refl _ | exact LeO.none _ | refine LeO.ite ?_ ?_ | refine LeO.bind ?_ (fun _ => ?_)) | exact LeO.none _ | refine LeO.ite ?_ ?_ | refine LeO.bind ?_ (fun _ => ?_)
set_option maxHeartbeats 8000000 in
set_option maxRecDepth 100000 in
theorem state_is.calls (k : Nat) (A0_0 : Option Addr) (c0_0 : Nat) (l0_0 : List ByteArray) (A0_1 : Option Addr) (c0_1 : Nat) (l0_1 : List (S50)) (A0_2 : Option Addr) (c0_2 : Nat) (l0_2 : List ByteArray) (A0_3 : Option Addr) (c0_3 : Nat) (l0_3 : List (S61)) (A1_0 : Option Addr) (c1_0 : Nat) (l1_0 : List Int) (A1_1 : Option Addr) (c1_1 : Nat) (l1_1 : List Int) (r : Bool) (w : World) (hr0_0 : Kd.C Kd.string w A0_0 l0_0.length l0_0) (hc0_0 : l0_0.length ≤ c0_0) (hr0_1 : Kd.C k50 w A0_1 l0_1.length l0_1) (hc0_1 : l0_1.length ≤ c0_1) (hr0_2 : Kd.C Kd.string w A0_2 l0_2.length l0_2) (hc0_2 : l0_2.length ≤ c0_2) (hr0_3 : Kd.C k61 w A0_3 l0_3.length l0_3) (hc0_3 : l0_3.length ≤ c0_3) (hr1_0 : Kd.C (Kd.int .i64) w A1_0 l1_0.length l1_0) (hc1_0 : l1_0.length ≤ c1_0) (hr1_1 : Kd.C (Kd.int .i64) w A1_1 l1_1.length l1_1) (hc1_1 : l1_1.length ≤ c1_1) (h : state_is.f k l0_0 l0_1 l0_2 l0_3 l1_0 l1_1 = some r) :
  Calls Tryd.prog 26 #[.agg #[.slice A0_0 l0_0.length c0_0, .slice A0_1 l0_1.length c0_1, .slice A0_2 l0_2.length c0_2, .slice A0_3 l0_3.length c0_3], .agg #[.slice A1_0 l1_0.length c1_0, .slice A1_1 l1_1.length c1_1]] w fun e w' => e = .returned (.bool r) ∧ Below w.heap.size w w' := by
 have hu26 := Tryd.underlying26
 have hu29 := Tryd.underlying29
 have HR0_0 := zM hr0_0
 have HC0_0 := zM hc0_0
 clear hr0_0 hc0_0
 have HR0_1 := zM hr0_1
 have HC0_1 := zM hc0_1
 clear hr0_1 hc0_1
 have HR0_2 := zM hr0_2
 have HC0_2 := zM hc0_2
 clear hr0_2 hc0_2
 have HR0_3 := zM hr0_3
 have HC0_3 := zM hc0_3
 clear hr0_3 hc0_3
 have HR1_0 := zM hr1_0
 have HC1_0 := zM hc1_0
 clear hr1_0 hc1_0
 have HR1_1 := zM hr1_1
 have HC1_1 := zM hc1_1
 clear hr1_1 hc1_1
 have HB := zM (Below.refl w.heap.size w)
 have H : ((api_Auto_int_at34.f k l0_3 l1_0).bind fun t329 => (if t329 = true then ((api_Variable_int_at35.f k l0_1 l1_1).bind fun t330 => (some t330)) else (some false))) = some r := h
 clear h
 replace H := Option.bind_eq_some_iff.mp H
 obtain ⟨t329, A30, H⟩ := H
 replace H : (if t329 = true then ((api_Variable_int_at35.f k l0_1 l1_1).bind fun t330 => (some t330)) else (some false)) = some r := H
 have A3 := zM A30
 clear A30
 by_cases c4 : t329 = true
 ·
  subst c4
  have H1 : ((api_Variable_int_at35.f k l0_1 l1_1).bind fun t330 => (some t330)) = some r := by rw [if_pos rfl] at H; exact H
  clear H
  have H := H1
  clear H1
  replace H := Option.bind_eq_some_iff.mp H
  obtain ⟨t330, A50, H⟩ := H
  replace H : (some t330) = some r := H
  have A5 := zM A50
  clear A50
  obtain rfl := Option.some.inj H
  go_enter Tryd.func26, Tryd.ntmps26
  go_wp2_with (first | ((with_reducible refine gate_dst (N := 2) rfl ?_); refine box_ev (N := 2) (cs := #[.slice A0_0 l0_0.length c0_0, .slice A0_1 l0_1.length c0_1, .slice A0_2 l0_2.length c0_2, .slice A0_3 l0_3.length c0_3]) (t := 26) ?_; intro gb327 hg w6 hbox hb; have BK327 := zM (hbox); have GE327 := zM (box_ge (n := w.heap.size) hg (below_size s8)); replace HB := zM (below_step s8 hb); clear hb hbox hg) | ((with_reducible refine gate_dst (N := 3) rfl ?_); refine box_ev (N := 3) (cs := #[.slice A1_0 l1_0.length c1_0, .slice A1_1 l1_1.length c1_1]) (t := 29) ?_; intro gb328 hg w7 hbox hb; have BK328 := zM (hbox); have GE328 := zM (box_ge (n := w.heap.size) hg (below_size q14_13)); have NB327_328 := zM (box_ne hg (g := gb327) q14_5); have NB328_327 := zM (box_ne' hg (g := gb327) q14_5); replace BK327 := zM (blk_below (g := gb327) q14_5 hb); replace HB := zM (below_step q14_13 hb); clear hb hbox hg; have hnb8 := NB327_328.out; have hnc8 := NB328_327.out; obtain ⟨hcz9_0, hcz9_1, hcz9_2, hcz9_3, hfz9_0, hfz9_1, hfz9_2, hfz9_3⟩ := blk4 BK327.out; obtain ⟨hcz10_0, hcz10_1, hfz10_0, hfz10_1⟩ := blk2 BK328.out) | ((with_reducible refine gate_callee (f := 25) rfl ?_); refine goesL_ (some 12) rfl rfl Tryd.func25 (by kernel_rfl) rfl #[.slice A0_3 l0_3.length c0_3, .slice A1_0 l1_0.length c1_0, .func (.func 34) #[] #[]] rfl s0 ?_; (with_reducible refine (api_Auto_int_at34.calls k _ _ l0_3 _ _ l1_0  true _ ?side1 HC0_3.out ?side3 HC1_0.out A3.out).mono ?_); (case side1 => exact s13); (case side3 => exact s14); rintro e w11 ⟨rfl, hb⟩; refine ⟨_, rfl, ?_⟩; replace BK327 := zM (blk_below (g := gb327) q14_5 hb); replace BK328 := zM (blk_below (g := gb328) q14_19 hb); replace HB := zM (below_step q14_9 hb); (try clear hb); obtain ⟨hcz12_0, hcz12_1, hcz12_2, hcz12_3, hfz12_0, hfz12_1, hfz12_2, hfz12_3⟩ := blk4 BK327.out; obtain ⟨hcz13_0, hcz13_1, hfz13_0, hfz13_1⟩ := blk2 BK328.out) | (go_at_call 36; (with_reducible refine (api_Variable_int_at35.calls k _ _ l0_1 _ _ l1_1  t330 _ ?side1 HC0_1.out ?side3 HC1_1.out A5.out).mono ?_); (case side1 => exact s11); (case side3 => exact s15); rintro e w14 ⟨rfl, hb⟩; replace BK327 := zM (blk_below (g := gb327) q14_5 hb); replace BK328 := zM (blk_below (g := gb328) q14_19 hb); replace HB := zM (below_step q14_9 hb); (try clear hb)))
  go_ret
  exact ⟨s6, q14_9⟩
 replace c4 := Bool.eq_false_iff.mpr c4
 subst c4
 have H1 : (some false) = some r := by rw [if_neg (show ¬ (false = true) by decide)] at H; exact H
 clear H
 have H := H1
 clear H1
 obtain rfl := Option.some.inj H
 go_enter Tryd.func26, Tryd.ntmps26
 go_wp2_with (first | ((with_reducible refine gate_dst (N := 2) rfl ?_); refine box_ev (N := 2) (cs := #[.slice A0_0 l0_0.length c0_0, .slice A0_1 l0_1.length c0_1, .slice A0_2 l0_2.length c0_2, .slice A0_3 l0_3.length c0_3]) (t := 26) ?_; intro gb327 hg w15 hbox hb; have BK327 := zM (hbox); have GE327 := zM (box_ge (n := w.heap.size) hg (below_size s8)); replace HB := zM (below_step s8 hb); clear hb hbox hg) | ((with_reducible refine gate_dst (N := 3) rfl ?_); refine box_ev (N := 3) (cs := #[.slice A1_0 l1_0.length c1_0, .slice A1_1 l1_1.length c1_1]) (t := 29) ?_; intro gb328 hg w16 hbox hb; have BK328 := zM (hbox); have GE328 := zM (box_ge (n := w.heap.size) hg (below_size q14_13)); have NB327_328 := zM (box_ne hg (g := gb327) q14_5); have NB328_327 := zM (box_ne' hg (g := gb327) q14_5); replace BK327 := zM (blk_below (g := gb327) q14_5 hb); replace HB := zM (below_step q14_13 hb); clear hb hbox hg; have hnb17 := NB327_328.out; have hnc17 := NB328_327.out; obtain ⟨hcz18_0, hcz18_1, hcz18_2, hcz18_3, hfz18_0, hfz18_1, hfz18_2, hfz18_3⟩ := blk4 BK327.out; obtain ⟨hcz19_0, hcz19_1, hfz19_0, hfz19_1⟩ := blk2 BK328.out) | ((with_reducible refine gate_callee (f := 25) rfl ?_); refine goesL_ (some 12) rfl rfl Tryd.func25 (by kernel_rfl) rfl #[.slice A0_3 l0_3.length c0_3, .slice A1_0 l1_0.length c1_0, .func (.func 34) #[] #[]] rfl s0 ?_; (with_reducible refine (api_Auto_int_at34.calls k _ _ l0_3 _ _ l1_0  false _ ?side1 HC0_3.out ?side3 HC1_0.out A3.out).mono ?_); (case side1 => exact s13); (case side3 => exact s14); rintro e w20 ⟨rfl, hb⟩; refine ⟨_, rfl, ?_⟩; replace BK327 := zM (blk_below (g := gb327) q14_5 hb); replace BK328 := zM (blk_below (g := gb328) q14_19 hb); replace HB := zM (below_step q14_9 hb); (try clear hb)))
 go_ret
 exact ⟨s6, q14_9⟩

/-! ### state_wrong: function 17 -/
def state_wrong.f (k : Nat) (l0_0 : List ByteArray) (l0_1 : List (S50)) (l0_2 : List ByteArray) (l0_3 : List (S61)) (l1_0 : List Int) (l1_1 : List Int) : Option (Int) := (net_Right.f k l0_0 l0_1 l0_2 l0_3).bind fun t333 => (if t333 = true then ((state_is.f k l0_0 l0_1 l0_2 l0_3 l1_0 l1_1).bind fun t334 => (if t334 = true then (some 0) else (some 130))) else (some 7))
theorem state_wrong.mono : ∀ a0 a1 a2 a3 a4 a5 k, LeO (state_wrong.f k a0 a1 a2 a3 a4 a5) (state_wrong.f (k + 1) a0 a1 a2 a3 a4 a5) := by
 intro a0 a1 a2 a3 a4 a5 k
 unfold state_wrong.f
 repeat' first | (with_reducible first | exact net_Right.mono _ _ _ _ _ | exact state_is.mono _ _ _ _ _ _ _ | exact LeO.refl _ | exact LeO.none _ | refine LeO.ite ?_ ?_ | refine LeO.bind ?_ (fun _ => ?_)) | exact LeO.none _ | refine LeO.ite ?_ ?_ | refine LeO.bind ?_ (fun _ => ?_)
set_option maxHeartbeats 8000000 in
set_option maxRecDepth 100000 in
theorem state_wrong.calls (k : Nat) (A0_0 : Option Addr) (c0_0 : Nat) (l0_0 : List ByteArray) (A0_1 : Option Addr) (c0_1 : Nat) (l0_1 : List (S50)) (A0_2 : Option Addr) (c0_2 : Nat) (l0_2 : List ByteArray) (A0_3 : Option Addr) (c0_3 : Nat) (l0_3 : List (S61)) (A1_0 : Option Addr) (c1_0 : Nat) (l1_0 : List Int) (A1_1 : Option Addr) (c1_1 : Nat) (l1_1 : List Int) (r : Int) (w : World) (hG : Glob w) (hr0_0 : Kd.C Kd.string w A0_0 l0_0.length l0_0) (hc0_0 : l0_0.length ≤ c0_0) (hr0_1 : Kd.C k50 w A0_1 l0_1.length l0_1) (hc0_1 : l0_1.length ≤ c0_1) (hr0_2 : Kd.C Kd.string w A0_2 l0_2.length l0_2) (hc0_2 : l0_2.length ≤ c0_2) (hr0_3 : Kd.C k61 w A0_3 l0_3.length l0_3) (hc0_3 : l0_3.length ≤ c0_3) (hr1_0 : Kd.C (Kd.int .i64) w A1_0 l1_0.length l1_0) (hc1_0 : l1_0.length ≤ c1_0) (hr1_1 : Kd.C (Kd.int .i64) w A1_1 l1_1.length l1_1) (hc1_1 : l1_1.length ≤ c1_1) (h : state_wrong.f k l0_0 l0_1 l0_2 l0_3 l1_0 l1_1 = some r) :
  Calls Tryd.prog 17 #[.agg #[.slice A0_0 l0_0.length c0_0, .slice A0_1 l0_1.length c0_1, .slice A0_2 l0_2.length c0_2, .slice A0_3 l0_3.length c0_3], .agg #[.slice A1_0 l1_0.length c1_0, .slice A1_1 l1_1.length c1_1]] w fun e w' => e = .returned (.int .i64 r) ∧ Below w.heap.size w w' := by
 have hu26 := Tryd.underlying26
 have hu29 := Tryd.underlying29
 have HR0_0 := zM hr0_0
 have HC0_0 := zM hc0_0
 clear hr0_0 hc0_0
 have HR0_1 := zM hr0_1
 have HC0_1 := zM hc0_1
 clear hr0_1 hc0_1
 have HR0_2 := zM hr0_2
 have HC0_2 := zM hc0_2
 clear hr0_2 hc0_2
 have HR0_3 := zM hr0_3
 have HC0_3 := zM hc0_3
 clear hr0_3 hc0_3
 have HR1_0 := zM hr1_0
 have HC1_0 := zM hc1_0
 clear hr1_0 hc1_0
 have HR1_1 := zM hr1_1
 have HC1_1 := zM hc1_1
 clear hr1_1 hc1_1
 have HGL := zM hG
 clear hG
 have HB := zM (Below.refl w.heap.size w)
 have H : ((net_Right.f k l0_0 l0_1 l0_2 l0_3).bind fun t333 => (if t333 = true then ((state_is.f k l0_0 l0_1 l0_2 l0_3 l1_0 l1_1).bind fun t334 => (if t334 = true then (some 0) else (some 130))) else (some 7))) = some r := h
 clear h
 replace H := Option.bind_eq_some_iff.mp H
 obtain ⟨t333, A30, H⟩ := H
 replace H : (if t333 = true then ((state_is.f k l0_0 l0_1 l0_2 l0_3 l1_0 l1_1).bind fun t334 => (if t334 = true then (some 0) else (some 130))) else (some 7)) = some r := H
 have A3 := zM A30
 clear A30
 by_cases c4 : t333 = true
 ·
  subst c4
  have H1 : ((state_is.f k l0_0 l0_1 l0_2 l0_3 l1_0 l1_1).bind fun t334 => (if t334 = true then (some 0) else (some 130))) = some r := by rw [if_pos rfl] at H; exact H
  clear H
  have H := H1
  clear H1
  replace H := Option.bind_eq_some_iff.mp H
  obtain ⟨t334, A50, H⟩ := H
  replace H : (if t334 = true then (some 0) else (some 130)) = some r := H
  have A5 := zM A50
  clear A50
  by_cases c6 : t334 = true
  ·
   subst c6
   have H1 : (some 0) = some r := by rw [if_pos rfl] at H; exact H
   clear H
   have H := H1
   clear H1
   obtain rfl := Option.some.inj H
   go_enter Tryd.func17, Tryd.ntmps17
   go_wp2_with (first | ((with_reducible refine gate_dst (N := 2) rfl ?_); refine box_ev (N := 2) (cs := #[.slice A0_0 l0_0.length c0_0, .slice A0_1 l0_1.length c0_1, .slice A0_2 l0_2.length c0_2, .slice A0_3 l0_3.length c0_3]) (t := 26) ?_; intro gb331 hg w7 hbox hb; have BK331 := zM (hbox); have GE331 := zM (box_ge (n := w.heap.size) hg (below_size s8)); replace HB := zM (below_step s8 hb); clear hb hbox hg) | ((with_reducible refine gate_dst (N := 3) rfl ?_); refine box_ev (N := 3) (cs := #[.slice A1_0 l1_0.length c1_0, .slice A1_1 l1_1.length c1_1]) (t := 29) ?_; intro gb332 hg w8 hbox hb; have BK332 := zM (hbox); have GE332 := zM (box_ge (n := w.heap.size) hg (below_size q14_7)); have NB331_332 := zM (box_ne hg (g := gb331) q14_1); have NB332_331 := zM (box_ne' hg (g := gb331) q14_1); replace BK331 := zM (blk_below (g := gb331) q14_1 hb); replace HB := zM (below_step q14_7 hb); clear hb hbox hg; have hnb9 := NB331_332.out; have hnc9 := NB332_331.out; obtain ⟨hcz10_0, hcz10_1, hcz10_2, hcz10_3, hfz10_0, hfz10_1, hfz10_2, hfz10_3⟩ := blk4 BK331.out) | ((with_reducible refine gate_callee (f := 19) rfl ?_); refine goesL_ (some 7) rfl rfl Tryd.func19 (by kernel_rfl) rfl #[.agg #[.slice A0_0 l0_0.length c0_0, .slice A0_1 l0_1.length c0_1, .slice A0_2 l0_2.length c0_2, .slice A0_3 l0_3.length c0_3]] rfl s0 ?_; (with_reducible refine (net_Right.calls k _ _ l0_0 _ _ l0_1 _ _ l0_2 _ _ l0_3 true _ ?side9 ?side1 HC0_0.out ?side3 HC0_1.out ?side5 HC0_2.out ?side7 HC0_3.out A3.out).mono ?_); (case side1 => exact s10); (case side3 => exact s11); (case side5 => exact s12); (case side7 => exact s13); (case side9 => exact s9); rintro e w11 ⟨rfl, hb⟩; refine ⟨_, rfl, ?_⟩; replace BK331 := zM (blk_below (g := gb331) q14_1 hb); replace BK332 := zM (blk_below (g := gb332) q14_15 hb); replace HB := zM (below_step q14_2 hb); (try clear hb); obtain ⟨hcz12_0, hcz12_1, hcz12_2, hcz12_3, hfz12_0, hfz12_1, hfz12_2, hfz12_3⟩ := blk4 BK331.out; obtain ⟨hcz13_0, hcz13_1, hfz13_0, hfz13_1⟩ := blk2 BK332.out) | ((with_reducible refine gate_callee (f := 26) rfl ?_); refine goesL_ (some 12) rfl rfl Tryd.func26 (by kernel_rfl) rfl #[.agg #[.slice A0_0 l0_0.length c0_0, .slice A0_1 l0_1.length c0_1, .slice A0_2 l0_2.length c0_2, .slice A0_3 l0_3.length c0_3], .agg #[.slice A1_0 l1_0.length c1_0, .slice A1_1 l1_1.length c1_1]] rfl s0 ?_; (with_reducible refine (state_is.calls k _ _ l0_0 _ _ l0_1 _ _ l0_2 _ _ l0_3 _ _ l1_0 _ _ l1_1 true _ ?side1 HC0_0.out ?side3 HC0_1.out ?side5 HC0_2.out ?side7 HC0_3.out ?side9 HC1_0.out ?side11 HC1_1.out A5.out).mono ?_); (case side1 => exact s10); (case side3 => exact s11); (case side5 => exact s12); (case side7 => exact s13); (case side9 => exact s14); (case side11 => exact s15); rintro e w14 ⟨rfl, hb⟩; refine ⟨_, rfl, ?_⟩; replace BK331 := zM (blk_below (g := gb331) q14_1 hb); replace BK332 := zM (blk_below (g := gb332) q14_15 hb); replace HB := zM (below_step q14_2 hb); (try clear hb)))
   go_ret
   exact ⟨s6, q14_2⟩
  replace c6 := Bool.eq_false_iff.mpr c6
  subst c6
  have H1 : (some 130) = some r := by rw [if_neg (show ¬ (false = true) by decide)] at H; exact H
  clear H
  have H := H1
  clear H1
  obtain rfl := Option.some.inj H
  go_enter Tryd.func17, Tryd.ntmps17
  go_wp2_with (first | ((with_reducible refine gate_dst (N := 2) rfl ?_); refine box_ev (N := 2) (cs := #[.slice A0_0 l0_0.length c0_0, .slice A0_1 l0_1.length c0_1, .slice A0_2 l0_2.length c0_2, .slice A0_3 l0_3.length c0_3]) (t := 26) ?_; intro gb331 hg w15 hbox hb; have BK331 := zM (hbox); have GE331 := zM (box_ge (n := w.heap.size) hg (below_size s8)); replace HB := zM (below_step s8 hb); clear hb hbox hg) | ((with_reducible refine gate_dst (N := 3) rfl ?_); refine box_ev (N := 3) (cs := #[.slice A1_0 l1_0.length c1_0, .slice A1_1 l1_1.length c1_1]) (t := 29) ?_; intro gb332 hg w16 hbox hb; have BK332 := zM (hbox); have GE332 := zM (box_ge (n := w.heap.size) hg (below_size q14_7)); have NB331_332 := zM (box_ne hg (g := gb331) q14_1); have NB332_331 := zM (box_ne' hg (g := gb331) q14_1); replace BK331 := zM (blk_below (g := gb331) q14_1 hb); replace HB := zM (below_step q14_7 hb); clear hb hbox hg; have hnb17 := NB331_332.out; have hnc17 := NB332_331.out; obtain ⟨hcz18_0, hcz18_1, hcz18_2, hcz18_3, hfz18_0, hfz18_1, hfz18_2, hfz18_3⟩ := blk4 BK331.out) | ((with_reducible refine gate_callee (f := 19) rfl ?_); refine goesL_ (some 7) rfl rfl Tryd.func19 (by kernel_rfl) rfl #[.agg #[.slice A0_0 l0_0.length c0_0, .slice A0_1 l0_1.length c0_1, .slice A0_2 l0_2.length c0_2, .slice A0_3 l0_3.length c0_3]] rfl s0 ?_; (with_reducible refine (net_Right.calls k _ _ l0_0 _ _ l0_1 _ _ l0_2 _ _ l0_3 true _ ?side9 ?side1 HC0_0.out ?side3 HC0_1.out ?side5 HC0_2.out ?side7 HC0_3.out A3.out).mono ?_); (case side1 => exact s10); (case side3 => exact s11); (case side5 => exact s12); (case side7 => exact s13); (case side9 => exact s9); rintro e w19 ⟨rfl, hb⟩; refine ⟨_, rfl, ?_⟩; replace BK331 := zM (blk_below (g := gb331) q14_1 hb); replace BK332 := zM (blk_below (g := gb332) q14_15 hb); replace HB := zM (below_step q14_2 hb); (try clear hb); obtain ⟨hcz20_0, hcz20_1, hcz20_2, hcz20_3, hfz20_0, hfz20_1, hfz20_2, hfz20_3⟩ := blk4 BK331.out; obtain ⟨hcz21_0, hcz21_1, hfz21_0, hfz21_1⟩ := blk2 BK332.out) | ((with_reducible refine gate_callee (f := 26) rfl ?_); refine goesL_ (some 12) rfl rfl Tryd.func26 (by kernel_rfl) rfl #[.agg #[.slice A0_0 l0_0.length c0_0, .slice A0_1 l0_1.length c0_1, .slice A0_2 l0_2.length c0_2, .slice A0_3 l0_3.length c0_3], .agg #[.slice A1_0 l1_0.length c1_0, .slice A1_1 l1_1.length c1_1]] rfl s0 ?_; (with_reducible refine (state_is.calls k _ _ l0_0 _ _ l0_1 _ _ l0_2 _ _ l0_3 _ _ l1_0 _ _ l1_1 false _ ?side1 HC0_0.out ?side3 HC0_1.out ?side5 HC0_2.out ?side7 HC0_3.out ?side9 HC1_0.out ?side11 HC1_1.out A5.out).mono ?_); (case side1 => exact s10); (case side3 => exact s11); (case side5 => exact s12); (case side7 => exact s13); (case side9 => exact s14); (case side11 => exact s15); rintro e w22 ⟨rfl, hb⟩; refine ⟨_, rfl, ?_⟩; replace BK331 := zM (blk_below (g := gb331) q14_1 hb); replace BK332 := zM (blk_below (g := gb332) q14_15 hb); replace HB := zM (below_step q14_2 hb); (try clear hb)))
  go_ret
  exact ⟨s6, q14_2⟩
 replace c4 := Bool.eq_false_iff.mpr c4
 subst c4
 have H1 : (some 7) = some r := by rw [if_neg (show ¬ (false = true) by decide)] at H; exact H
 clear H
 have H := H1
 clear H1
 obtain rfl := Option.some.inj H
 go_enter Tryd.func17, Tryd.ntmps17
 go_wp2_with (first | ((with_reducible refine gate_dst (N := 2) rfl ?_); refine box_ev (N := 2) (cs := #[.slice A0_0 l0_0.length c0_0, .slice A0_1 l0_1.length c0_1, .slice A0_2 l0_2.length c0_2, .slice A0_3 l0_3.length c0_3]) (t := 26) ?_; intro gb331 hg w23 hbox hb; have BK331 := zM (hbox); have GE331 := zM (box_ge (n := w.heap.size) hg (below_size s8)); replace HB := zM (below_step s8 hb); clear hb hbox hg) | ((with_reducible refine gate_dst (N := 3) rfl ?_); refine box_ev (N := 3) (cs := #[.slice A1_0 l1_0.length c1_0, .slice A1_1 l1_1.length c1_1]) (t := 29) ?_; intro gb332 hg w24 hbox hb; have BK332 := zM (hbox); have GE332 := zM (box_ge (n := w.heap.size) hg (below_size q14_7)); have NB331_332 := zM (box_ne hg (g := gb331) q14_1); have NB332_331 := zM (box_ne' hg (g := gb331) q14_1); replace BK331 := zM (blk_below (g := gb331) q14_1 hb); replace HB := zM (below_step q14_7 hb); clear hb hbox hg; have hnb25 := NB331_332.out; have hnc25 := NB332_331.out; obtain ⟨hcz26_0, hcz26_1, hcz26_2, hcz26_3, hfz26_0, hfz26_1, hfz26_2, hfz26_3⟩ := blk4 BK331.out) | ((with_reducible refine gate_callee (f := 19) rfl ?_); refine goesL_ (some 7) rfl rfl Tryd.func19 (by kernel_rfl) rfl #[.agg #[.slice A0_0 l0_0.length c0_0, .slice A0_1 l0_1.length c0_1, .slice A0_2 l0_2.length c0_2, .slice A0_3 l0_3.length c0_3]] rfl s0 ?_; (with_reducible refine (net_Right.calls k _ _ l0_0 _ _ l0_1 _ _ l0_2 _ _ l0_3 false _ ?side9 ?side1 HC0_0.out ?side3 HC0_1.out ?side5 HC0_2.out ?side7 HC0_3.out A3.out).mono ?_); (case side1 => exact s10); (case side3 => exact s11); (case side5 => exact s12); (case side7 => exact s13); (case side9 => exact s9); rintro e w27 ⟨rfl, hb⟩; refine ⟨_, rfl, ?_⟩; replace BK331 := zM (blk_below (g := gb331) q14_1 hb); replace BK332 := zM (blk_below (g := gb332) q14_15 hb); replace HB := zM (below_step q14_2 hb); (try clear hb)))
 go_ret
 exact ⟨s6, q14_2⟩

/-! ### strconv_Itoa: function 20 -/
def strconv_Itoa.f (a0 : Int) : Option ByteArray := if -9223372036854775808 ≤ a0 ∧ a0 ≤ 9223372036854775807 then some ⟨(Lib.itoa a0).toArray⟩ else none
theorem strconv_Itoa.calls (a0 : Int) (r : ByteArray) (w : World) (hG : Glob w) (h : strconv_Itoa.f a0 = some r) :
    Calls Tryd.prog 20 #[.int .i64 a0] w fun e w' => e = .returned (.string r) ∧ Below w.heap.size w w' := by
  unfold strconv_Itoa.f at h
  split at h
  · rename_i hr
    obtain rfl := Option.some.inj h
    exact (Tryd.strconv_Itoa a0 hr.1 hr.2 w hG.t_tab_internal_strconv_uint64pow10).mono fun e w' ⟨he, k, os, hw⟩ => ⟨he, by subst hw; exact Go.Lib.below_grow _ w (Nat.le_refl _) k os⟩
  · cases h

/-! ### strings_Join: function 21 -/
def strings_Join.f (l0 : List ByteArray) (a1 : ByteArray) : Option ByteArray :=
  if l0.length ≤ 140737488355328 ∧ (Lib.join (l0.map (·.data.toList)) a1.data.toList).length ≤ 140737488355328 then some ⟨(Lib.join (l0.map (·.data.toList)) a1.data.toList).toArray⟩ else none
theorem strings_Join.calls (A0 : Option Addr) (c0 : Nat) (l0 : List ByteArray) (a1 : ByteArray) (r : ByteArray) (w : World) (hr0 : Kd.C Kd.string w A0 l0.length l0) (hc0 : l0.length ≤ c0) (h : strings_Join.f l0 a1 = some r) :
    Calls Tryd.prog 21 #[.slice A0 l0.length c0, .string a1] w fun e w' => e = .returned (.string r) ∧ Below w.heap.size w w' := by
  unfold strings_Join.f at h
  split at h
  · rename_i hlen
    obtain rfl := Option.some.inj h
    rcases Nat.eq_zero_or_pos l0.length with hz | hz
    · obtain rfl := List.eq_nil_of_length_eq_zero hz
      exact (Tryd.strings_Join_none A0 c0 a1 w).mono fun e w' ⟨he, hw⟩ => ⟨he, by subst hw; exact Below.refl _ _⟩
    · obtain ⟨b, o, rfl, hb, hcells⟩ := C_strs hr0 hz
      exact Tryd.strings_Join b o c0 l0 a1 w hcells hb hlen.1 hc0 hlen.2
  · cases h

end Go.Proofs.YtpmhfahligjhaaaDoor.POrd
