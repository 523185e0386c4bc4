-- written by wip/tools/xprint.py (over the kit's print.py): not trusted, Lean checks it.
import Derived.Test.YtpmhfahligjhaaaDoorPOrdx0
import Derived.Test.YtpmhfahligjhaaaDoorPOrdx16
-- compact
namespace Go.Proofs.YtpmhfahligjhaaaDoor.POrd
open Go.RowKit Go.Proofs.YtpmhfahligjhaaaDoorW.PrintWords Go.Proofs.YtpmhfahligjhaaaDoorW.PrintLast Go.Proofs.YtpmhfahligjhaaaDoorW.PrintMore Go.Proofs.YtpmhfahligjhaaaDoorXW
attribute [local go_sem high] Option.map_some
attribute [local go_sem] max2_int max_two
set_option linter.unusedVariables false
set_option linter.unusedSimpArgs false

theorem q17_1 {p : Prop} (h : p := by (with_reducible repeat (first | refine blk_drewN ?_ _ | refine blk_drew ?_ | refine blk_alloc ?_ _)); exact BK373.out) : p := h
theorem q17_2 {p : Prop} (h : p := by repeat (first | (with_reducible first | exact HB.out | apply below_alloc | apply pw_below_drewN | apply below_drew1 | refine below_set ?_ GE373.out | refine below_set ?_ GE374.out) | exact HB.out)) : p := h
theorem q17_4 {p : Prop} (h : p := by repeat (first | (with_reducible first | exact HB.out | apply below_alloc | apply pw_below_drewN | apply below_drew1 | refine below_set ?_ GE373.out) | exact HB.out)) : p := h
theorem q17_5 {p : Prop} (h : p := by repeat (first | (with_reducible first | exact HB.out | apply below_alloc | apply pw_below_drewN | apply below_drew1 | refine below_set ?_ GE370.out) | exact HB.out)) : p := h
theorem q17_10 {p : Prop} (h : p := by (with_reducible repeat (first | refine blk_drewN ?_ _ | refine blk_drew ?_ | refine blk_alloc ?_ _)); exact BK374.out) : p := h
theorem q17_11 {p : Prop} (h : p := by repeat (first | exact (Kd.C_below HR369_2.out HB.out) | (with_reducible refine Kd.C_alloc ?_ _) | (with_reducible refine Kd.C_drewN ?_ _) | (with_reducible refine Kd.C_drew ?_))) : p := h
theorem q17_12 {p : Prop} (h : p := by repeat (first | exact (Kd.C_below HR369_1.out HB.out) | (with_reducible refine Kd.C_alloc ?_ _) | (with_reducible refine Kd.C_drewN ?_ _) | (with_reducible refine Kd.C_drew ?_))) : p := h
theorem q17_18 {p : Prop} (h : p := by (with_reducible repeat (first | refine blk_drewN ?_ _ | refine blk_drew ?_ | refine blk_alloc ?_ _)); exact BK370.out) : p := h
/-! ### api_Auto_int_at23: function 900005 -/
def api_Auto_int_at23.l0 : Nat → List Int → List (S61) → Int → Int → Option (Bool)
 | 0, _, _, _, _ => none
 | k + 1, x1, x14, x15, x16 => if x16 < x15 then (if 0 ≤ x16 then (if x16 < (x14.length : Int) then (if x16 < (x1.length : Int) then ((state_Stays_1.f ((rd_T61 x14 x16).f0) ((rd_T61 x14 x16).f1) ((rd_T61 x14 x16).f2) (rd x1 x16)).bind fun t372 => (if t372 = true then (api_Auto_int_at23.l0 k x1 x14 x15 (wrap64 (x16 + 1))) else (some false))) else (none)) else (none)) else (none)) else (some true)
def api_Auto_int_at23.f (k : Nat) (l0 : List (S61)) (l1 : List Int)  : Option (Bool) := if (l0.length : Int) = (l1.length : Int) then (api_Auto_int_at23.l0 k l1 l0 (l0.length : Int) 0) else (some false)
theorem api_Auto_int_at23.mono_l : ∀ k, (∀ y0 y1 y2 y3, LeO (api_Auto_int_at23.l0 k y0 y1 y2 y3) (api_Auto_int_at23.l0 (k + 1) y0 y1 y2 y3))
 | 0 => fun _ _ _ _ r h => by simp [api_Auto_int_at23.l0] at h
 | k + 1 => by
  have ih0 := api_Auto_int_at23.mono_l k
  ·
   intro y0 y1 y2 y3
   unfold api_Auto_int_at23.l0
   repeat' first | (with_reducible first | exact ih0 _ _ _ _ | exact LeO.refl _ | exact LeO.none _ | refine LeO.ite ?_ ?_ | refine LeO.bind ?_ (fun _ => ?_)) | exact LeO.none _ | refine LeO.ite ?_ ?_ | refine LeO.bind ?_ (fun _ => ?_)
theorem api_Auto_int_at23.mono : ∀ a0 a1 k, LeO (api_Auto_int_at23.f k a0 a1) (api_Auto_int_at23.f (k + 1) a0 a1) := by
 intro a0 a1 k
 have ih0 := api_Auto_int_at23.mono_l k
 unfold api_Auto_int_at23.f
 repeat' first | (with_reducible first | exact ih0 _ _ _ _ | exact LeO.refl _ | exact LeO.none _ | refine LeO.ite ?_ ?_ | refine LeO.bind ?_ (fun _ => ?_)) | exact LeO.none _ | refine LeO.ite ?_ ?_ | refine LeO.bind ?_ (fun _ => ?_)
def api_Auto_int_at23.T6 : Bool × List (List Nat × List Nat) := (true, [([], []), ([], []), ([], []), ([], []), ([2, 3], [2, 3]), ([4], [4]), ([0, 1, 5], [0, 1, 5]), ([6], [6])])
def api_Auto_int_at23.B6 : List Nat := [0, 0, 0, 0, 12, 28, 63, 127]
theorem api_Auto_int_at23.tab6 : rtab .any (opsOf Tryd.f25 6) = api_Auto_int_at23.T6 := by kernel_rfl
theorem api_Auto_int_at23.bits6 : waitsOk api_Auto_int_at23.T6.2 api_Auto_int_at23.B6 = true := by kernel_rfl
set_option maxHeartbeats 8000000 in
set_option maxRecDepth 100000 in
theorem api_Auto_int_at23.calls (k : Nat) (A0 : Option Addr) (c0 : Nat) (l0 : List (S61)) (A1 : Option Addr) (c1 : Nat) (l1 : List Int)  (r : Bool) (w : World) (hr0 : Kd.C k61 w A0 l0.length l0) (hc0 : l0.length ≤ c0) (hr1 : Kd.C (Kd.int .i64) w A1 l1.length l1) (hc1 : l1.length ≤ c1) (h : api_Auto_int_at23.f k l0 l1 = some r) :
  Calls Tryd.prog 25 #[.slice A0 l0.length c0, .slice A1 l1.length c1, .func (.func 23) #[] #[]] w fun e w' => e = .returned (.bool r) ∧ Below w.heap.size w w' := by
 have hu61 := Tryd.underlying61
 have HR0 := zM hr0
 have HC0 := zM hc0
 clear hr0 hc0
 have HR1 := zM hr1
 have HC1 := zM hc1
 clear hr1 hc1
 have HB := zM (Below.refl w.heap.size w)
 have H : (if (l0.length : Int) = (l1.length : Int) then (api_Auto_int_at23.l0 k l1 l0 (l0.length : Int) 0) else (some false)) = some r := h
 clear h
 by_cases c4 : (l0.length : Int) = (l1.length : Int)
 ·
  rw [if_pos c4] at H
  obtain ⟨c4b0, c4b1⟩ := eqb c4
  have c4b2 : (l0.length == l1.length) = true := by first | simpa using c4 | (simp at c4 ⊢; omega)
  clear c4
  have H' := zM H
  clear H
  go_enter Tryd.func25, Tryd.ntmps25
  go_wp2
  go_loopg [16] k (fun kq v16 w' => ∃ (x16_1 : Int), v16 = .int .i64 x16_1 ∧ Aside0 (api_Auto_int_at23.l0 kq l1 l0 (l0.length : Int) x16_1 = some r) ∧ Aside0 (kq ≤ k) ∧ Aside0 (Below w.heap.size w w'))
  case atStart => exact ⟨(0), (by first | rfl | (simp; done) | (simp [*]; done)), H', ⟨Nat.le_refl _⟩, ⟨s8⟩⟩
  clear H'
  obtain ⟨x16_1, rfl, HA, HK1, HB⟩ := hrel
  cases gk with
  | zero => exact absurd HA.out (by simp [api_Auto_int_at23.l0])
  | succ k1 =>
   have H := HA.out
   clear HA
   simp only [api_Auto_int_at23.l0] at H
   by_cases c5 : x16_1 < (l0.length : Int)
   ·
    rw [if_pos c5] at H
    have c5b0 := zD c5
    clear c5
    by_cases c6 : 0 ≤ x16_1
    ·
     rw [if_pos c6] at H
     have c6b0 := zD c6
     clear c6
     by_cases c7 : x16_1 < (l0.length : Int)
     ·
      rw [if_pos c7] at H
      have c7b0 := zD c7
      clear c7
      by_cases c8 : x16_1 < (l1.length : Int)
      ·
       rw [if_pos c8] at H
       have c8b0 := zD c8
       clear c8
       replace H := Option.bind_eq_some_iff.mp H
       obtain ⟨t372, A90, H⟩ := H
       replace H : (if t372 = true then (api_Auto_int_at23.l0 k1 l1 l0 (l0.length : Int) (wrap64 (x16_1 + 1))) else (some false)) = some r := H
       have A9 := zM A90
       clear A90
       by_cases c10 : t372 = true
       ·
        subst c10
        have H1 : (api_Auto_int_at23.l0 k1 l1 l0 (l0.length : Int) (wrap64 (x16_1 + 1))) = some r := by rw [if_pos rfl] at H; exact H
        clear H
        have H := H1
        clear H1
        have H' := zM H
        clear H
        have p369 : 0 ≤ (x16_1 : Int) := zO s3
        have q369 : x16_1 < (l0.length : Int) := zO s3
        obtain ⟨ad369, A369_1, c369_1, A369_2, c369_2, e369, hx369_0, hx369_1, hx369_2, HC369_1, HR369_1, HC369_2, HR369_2⟩ := as_T61 HR0.out x16_1 p369 q369
        cases e369
        replace hx369_0 := cell_up HB.out hx369_0
        replace hx369_1 := cell_up HB.out hx369_1
        replace hx369_2 := cell_up HB.out hx369_2
        replace p369 := eq_true p369
        replace q369 := eq_true q369
        try go_wp2_with (first | ((with_reducible refine gate_dst (N := 8) rfl ?_); refine box_ev (N := 8) (cs := #[.string (⟨#[]⟩ : ByteArray), .slice none 0 0, .slice none 0 0]) (t := 61) ?_; intro gb370 hg w11 hbox hb; have BK370 := zM (hbox); have GE370 := zM (box_ge (n := w.heap.size) hg (below_size s8)); replace HB := zM (below_step s8 hb); clear hb hbox hg; obtain ⟨hcz12_0, hcz12_1, hcz12_2, hfz12_0, hfz12_1, hfz12_2⟩ := blk3 BK370.out))
        have n0_ : Aside0 ((((w11.setCell ⟨gb370, 0, none⟩ (.string ((rd_T61 l0 x16_1).f0))).setCell ⟨gb370, 1, none⟩ (.slice A369_1 ((rd_T61 l0 x16_1).f1).length c369_1)).setCell ⟨gb370, 2, none⟩ (.slice A369_2 ((rd_T61 l0 x16_1).f2).length c369_2)).heap[gb370]? = some (.cells #[.string ((rd_T61 l0 x16_1).f0), .slice A369_1 ((rd_T61 l0 x16_1).f1).length c369_1, .slice A369_2 ((rd_T61 l0 x16_1).f2).length c369_2] 61 (0, 0))) := ⟨by (with_reducible repeat (first | refine blk_drewN ?_ _ | refine blk_drew ?_ | refine blk_alloc ?_ _)); apply blk_fill3; (with_reducible repeat (first | refine blk_drewN ?_ _ | refine blk_drew ?_ | refine blk_alloc ?_ _)); exact BK370.out⟩
        have n1_ : Aside0 (Below w.heap.size w (((w11.setCell ⟨gb370, 0, none⟩ (.string ((rd_T61 l0 x16_1).f0))).setCell ⟨gb370, 1, none⟩ (.slice A369_1 ((rd_T61 l0 x16_1).f1).length c369_1)).setCell ⟨gb370, 2, none⟩ (.slice A369_2 ((rd_T61 l0 x16_1).f2).length c369_2))) := ⟨by repeat (first | (with_reducible first | exact HB.out | apply below_alloc | apply pw_below_drewN | apply below_drew1 | refine below_set ?_ GE370.out) | exact HB.out)⟩
        (try clear BK370)
        (try clear HB)
        generalize (((w11.setCell ⟨gb370, 0, none⟩ (.string ((rd_T61 l0 x16_1).f0))).setCell ⟨gb370, 1, none⟩ (.slice A369_1 ((rd_T61 l0 x16_1).f1).length c369_1)).setCell ⟨gb370, 2, none⟩ (.slice A369_2 ((rd_T61 l0 x16_1).f2).length c369_2)) = w13 at n0_ n1_ ⊢
        have BK370 := n0_
        have HB := n1_
        clear n0_ n1_
        have n0_ := zM (blk_drew BK370.out)
        have n1_ := zM (below_drew1 HB.out)
        clear BK370
        clear HB
        have BK370 := n0_
        have HB := n1_
        clear n0_ n1_
        have p371 : 0 ≤ (x16_1 : Int) := zO s3
        have q371 : x16_1 < (l1.length : Int) := zO s3
        obtain ⟨ad371, e371, hx371_0⟩ := Kd.at_int HR1.out x16_1 p371 q371
        have hw371_0 := hx371_0
        cases e371
        replace hx371_0 := cell_up HB.out hx371_0
        replace p371 := eq_true p371
        replace q371 := eq_true q371
        refine start_ (n := 8) (S := fun w' => w'.cell? ⟨gb370, 0, none⟩ = some (.string ((rd_T61 l0 x16_1).f0)) ∧ w'.cell? ⟨gb370, 1, none⟩ = some (.slice A369_1 ((rd_T61 l0 x16_1).f1).length c369_1) ∧ w'.cell? ⟨gb370, 2, none⟩ = some (.slice A369_2 ((rd_T61 l0 x16_1).f2).length c369_2) ∧ w'.cell? (ad371.add (x16_1).toNat) = some (.int .i64 (rd l1 x16_1))) (ds := []) #[false, false, false, false, false, false, false, false] (by kernel_rfl) rfl rfl ⟨(blk_cell BK370.out 0).trans rfl, (blk_cell BK370.out 1).trans rfl, (blk_cell BK370.out 2).trans rfl, ((HB.out.cell (World.block_lt_of_cell? w _ hw371_0)).trans hw371_0)⟩ (fun hHeld => ?_); refine with_tabW api_Auto_int_at23.tab6 api_Auto_int_at23.bits6 (fun HT_ HW_ => ?_)
        generalize w13.drew = w14 at BK370 HB hx371_0 hHeld ⊢
        refine pure_ (i := 0) (N := some 21) (v := ?_) (a' := ?_) #[true, false, false, false, false, false, false, false] rfl rfl (any_of HT_.out (by kernel_rfl)) (fun _ _ _ h => h) (Or.inl ⟨by rfl, ?_⟩) ?_ ?_
        rotate_left
        ·
         intro w'
         go_simp
         with_reducible rfl
        rotate_left
        ·
         simp only [Act.put, List.setIfInBounds_toArray, List.set_cons_zero, List.set_cons_succ, i64_w, i32_w]
         rfl
        refine pure_ (i := 2) (N := some 23) (v := ?_) (a' := ?_) #[true, false, true, false, false, false, false, false] rfl rfl (any_of HT_.out (by kernel_rfl)) (fun _ _ _ h => h) (Or.inl ⟨by rfl, ?_⟩) ?_ ?_
        rotate_left
        ·
         intro w'
         go_simp
         with_reducible rfl
        rotate_left
        ·
         simp only [Act.put, List.setIfInBounds_toArray, List.set_cons_zero, List.set_cons_succ, i64_w, i32_w]
         rfl
        refine pure_ (i := 3) (N := some 24) (v := ?_) (a' := ?_) #[true, false, true, true, false, false, false, false] rfl rfl (any_of HT_.out (by kernel_rfl)) (fun _ _ _ h => h) (Or.inl ⟨by rfl, ?_⟩) ?_ ?_
        rotate_left
        ·
         intro w'
         go_simp
         with_reducible rfl
        rotate_left
        ·
         simp only [Act.put, List.setIfInBounds_toArray, List.set_cons_zero, List.set_cons_succ, i64_w, i32_w]
         rfl
        refine pure_ (i := 4) (N := some 25) (v := ?_) (a' := ?_) #[true, false, true, true, true, false, false, false] rfl rfl (any_of HT_.out (by kernel_rfl)) (fun _ _ _ h => h) (Or.inl ⟨by rfl, ?_⟩) ?_ ?_
        rotate_left
        ·
         intro w'
         go_simp
         with_reducible rfl
        rotate_left
        ·
         simp only [Act.put, List.setIfInBounds_toArray, List.set_cons_zero, List.set_cons_succ, i64_w, i32_w]
         rfl
        refine take_ (i := 1) (N := some 22) (v := ?_) (a' := ?_) #[true, true, true, true, true, false, false, false] rfl rfl (take_ofW HT_.out HW_.out (by kernel_rfl)) (fun _ _ _ h => h) (Or.inl ⟨by rfl, ?_⟩) hHeld ?_ ?_
        rotate_left
        ·
         rintro w' ⟨s0, s1, s2, s3⟩
         go_simp
         with_reducible rfl
        rotate_left
        ·
         simp only [Act.put, List.setIfInBounds_toArray, List.set_cons_zero, List.set_cons_succ, i64_w, i32_w]
         rfl
        refine take_ (i := 5) (N := some 26) (v := ?_) (a' := ?_) #[true, true, true, true, true, true, false, false] rfl rfl (take_ofW HT_.out HW_.out (by kernel_rfl)) (fun _ _ _ h => h) (Or.inl ⟨by rfl, ?_⟩) hHeld ?_ ?_
        rotate_left
        ·
         rintro w' ⟨s0, s1, s2, s3⟩
         go_simp
         with_reducible rfl
        rotate_left
        ·
         simp only [Act.put, List.setIfInBounds_toArray, List.set_cons_zero, List.set_cons_succ, i64_w, i32_w]
         rfl
        refine one_ (i := 6) (N := some 27) #[true, true, true, true, true, true, true, false] rfl rfl (one_of HT_.out (by kernel_rfl)) (by decide) (fun K hK => ?_)
        first
         | (refine goes_ Tryd.func23 (by kernel_rfl) rfl #[.agg #[.string ((rd_T61 l0 x16_1).f0), .slice A369_1 ((rd_T61 l0 x16_1).f1).length c369_1, .slice A369_2 ((rd_T61 l0 x16_1).f2).length c369_2], .int .i64 (rd l1 x16_1)] (by rfl) rfl rfl s0 ?_)
         | (refine goest_ Tryd.func23 (by kernel_rfl) rfl #[.agg #[.string ((rd_T61 l0 x16_1).f0), .slice A369_1 ((rd_T61 l0 x16_1).f1).length c369_1, .slice A369_2 ((rd_T61 l0 x16_1).f2).length c369_2], .int .i64 (rd l1 x16_1)] (by rfl) rfl rfl rfl s0 ?_)
        with_reducible refine (state_Stays_1.calls ((rd_T61 l0 x16_1).f0) _ _ ((rd_T61 l0 x16_1).f1) _ _ ((rd_T61 l0 x16_1).f2) (rd l1 x16_1) true _ ?side1 ?side2 ?side3 ?side4 A9.out).mono ?_
        (case side1 => exact q17_12)
        (case side2 => exact HC369_1.out)
        (case side3 => exact q17_11)
        (case side4 => exact HC369_2.out)
        rintro e w15 ⟨rfl, hb⟩
        refine ⟨_, rfl, ?_⟩
        have n0_ := zM (blk_below (g := gb370) q17_18 hb)
        have n1_ := zM (below_step q17_5 hb)
        clear BK370
        clear HB
        have BK370 := n0_
        have HB := n1_
        clear n0_ n1_
        (try clear hb)
        (try clear hb2)
        (try clear hk)
        (try clear hi)
        refine hK.out _ _ ⟨(blk_cell BK370.out 0).trans rfl, (blk_cell BK370.out 1).trans rfl, (blk_cell BK370.out 2).trans rfl, ((HB.out.cell (World.block_lt_of_cell? w _ hw371_0)).trans hw371_0)⟩ (fun hHeld => ?_)
        clear hK K
        refine norm_ (a' := ?_) ?_ ?_
        rotate_left
        ·
         show Act.put _ (some 27) _ = _
         simp only [Act.put, List.setIfInBounds_toArray, List.set_cons_zero, List.set_cons_succ, i64_w, i32_w]
         rfl
        refine pure_ (i := 7) (N := some 28) (v := ?_) (a' := ?_) #[true, true, true, true, true, true, true, true] rfl rfl (any_of HT_.out (by kernel_rfl)) (fun _ _ _ h => h) (Or.inl ⟨by rfl, ?_⟩) ?_ ?_
        rotate_left
        ·
         intro w'
         go_simp
         with_reducible rfl
        rotate_left
        ·
         simp only [Act.put, List.setIfInBounds_toArray, List.set_cons_zero, List.set_cons_succ, i64_w, i32_w]
         rfl
        refine done_ (done_of HT_.out (by kernel_rfl)) ?_
        try go_wp2
        go_roundg k1
        case measure => have := HK1.out; omega
        case rel => exact ⟨(wrap64 (x16_1 + 1)), (by first | rfl | (simp; done) | (simp [*]; done)), H', ⟨(by have := HK1.out; omega)⟩, ⟨q17_5⟩⟩
       replace c10 := Bool.eq_false_iff.mpr c10
       subst c10
       have H1 : (some false) = some r := by rw [if_neg (show ¬ (false = true) by decide)] at H; exact H
       clear H
       have H := H1
       clear H1
       obtain rfl := Option.some.inj H
       have p369 : 0 ≤ (x16_1 : Int) := zO s3
       have q369 : x16_1 < (l0.length : Int) := zO s3
       obtain ⟨ad369, A369_1, c369_1, A369_2, c369_2, e369, hx369_0, hx369_1, hx369_2, HC369_1, HR369_1, HC369_2, HR369_2⟩ := as_T61 HR0.out x16_1 p369 q369
       cases e369
       replace hx369_0 := cell_up HB.out hx369_0
       replace hx369_1 := cell_up HB.out hx369_1
       replace hx369_2 := cell_up HB.out hx369_2
       replace p369 := eq_true p369
       replace q369 := eq_true q369
       try go_wp2_with (first | ((with_reducible refine gate_dst (N := 8) rfl ?_); refine box_ev (N := 8) (cs := #[.string (⟨#[]⟩ : ByteArray), .slice none 0 0, .slice none 0 0]) (t := 61) ?_; intro gb370 hg w16 hbox hb; have BK370 := zM (hbox); have GE370 := zM (box_ge (n := w.heap.size) hg (below_size s8)); replace HB := zM (below_step s8 hb); clear hb hbox hg; obtain ⟨hcz17_0, hcz17_1, hcz17_2, hfz17_0, hfz17_1, hfz17_2⟩ := blk3 BK370.out))
       have n0_ : Aside0 ((((w16.setCell ⟨gb370, 0, none⟩ (.string ((rd_T61 l0 x16_1).f0))).setCell ⟨gb370, 1, none⟩ (.slice A369_1 ((rd_T61 l0 x16_1).f1).length c369_1)).setCell ⟨gb370, 2, none⟩ (.slice A369_2 ((rd_T61 l0 x16_1).f2).length c369_2)).heap[gb370]? = some (.cells #[.string ((rd_T61 l0 x16_1).f0), .slice A369_1 ((rd_T61 l0 x16_1).f1).length c369_1, .slice A369_2 ((rd_T61 l0 x16_1).f2).length c369_2] 61 (0, 0))) := ⟨by (with_reducible repeat (first | refine blk_drewN ?_ _ | refine blk_drew ?_ | refine blk_alloc ?_ _)); apply blk_fill3; (with_reducible repeat (first | refine blk_drewN ?_ _ | refine blk_drew ?_ | refine blk_alloc ?_ _)); exact BK370.out⟩
       have n1_ : Aside0 (Below w.heap.size w (((w16.setCell ⟨gb370, 0, none⟩ (.string ((rd_T61 l0 x16_1).f0))).setCell ⟨gb370, 1, none⟩ (.slice A369_1 ((rd_T61 l0 x16_1).f1).length c369_1)).setCell ⟨gb370, 2, none⟩ (.slice A369_2 ((rd_T61 l0 x16_1).f2).length c369_2))) := ⟨by repeat (first | (with_reducible first | exact HB.out | apply below_alloc | apply pw_below_drewN | apply below_drew1 | refine below_set ?_ GE370.out) | exact HB.out)⟩
       (try clear BK370)
       (try clear HB)
       generalize (((w16.setCell ⟨gb370, 0, none⟩ (.string ((rd_T61 l0 x16_1).f0))).setCell ⟨gb370, 1, none⟩ (.slice A369_1 ((rd_T61 l0 x16_1).f1).length c369_1)).setCell ⟨gb370, 2, none⟩ (.slice A369_2 ((rd_T61 l0 x16_1).f2).length c369_2)) = w18 at n0_ n1_ ⊢
       have BK370 := n0_
       have HB := n1_
       clear n0_ n1_
       have n0_ := zM (blk_drew BK370.out)
       have n1_ := zM (below_drew1 HB.out)
       clear BK370
       clear HB
       have BK370 := n0_
       have HB := n1_
       clear n0_ n1_
       have p371 : 0 ≤ (x16_1 : Int) := zO s3
       have q371 : x16_1 < (l1.length : Int) := zO s3
       obtain ⟨ad371, e371, hx371_0⟩ := Kd.at_int HR1.out x16_1 p371 q371
       have hw371_0 := hx371_0
       cases e371
       replace hx371_0 := cell_up HB.out hx371_0
       replace p371 := eq_true p371
       replace q371 := eq_true q371
       refine start_ (n := 8) (S := fun w' => w'.cell? ⟨gb370, 0, none⟩ = some (.string ((rd_T61 l0 x16_1).f0)) ∧ w'.cell? ⟨gb370, 1, none⟩ = some (.slice A369_1 ((rd_T61 l0 x16_1).f1).length c369_1) ∧ w'.cell? ⟨gb370, 2, none⟩ = some (.slice A369_2 ((rd_T61 l0 x16_1).f2).length c369_2) ∧ w'.cell? (ad371.add (x16_1).toNat) = some (.int .i64 (rd l1 x16_1))) (ds := []) #[false, false, false, false, false, false, false, false] (by kernel_rfl) rfl rfl ⟨(blk_cell BK370.out 0).trans rfl, (blk_cell BK370.out 1).trans rfl, (blk_cell BK370.out 2).trans rfl, ((HB.out.cell (World.block_lt_of_cell? w _ hw371_0)).trans hw371_0)⟩ (fun hHeld => ?_); refine with_tabW api_Auto_int_at23.tab6 api_Auto_int_at23.bits6 (fun HT_ HW_ => ?_)
       generalize w18.drew = w19 at BK370 HB hx371_0 hHeld ⊢
       refine pure_ (i := 0) (N := some 21) (v := ?_) (a' := ?_) #[true, false, false, false, false, false, false, false] rfl rfl (any_of HT_.out (by kernel_rfl)) (fun _ _ _ h => h) (Or.inl ⟨by rfl, ?_⟩) ?_ ?_
       rotate_left
       ·
        intro w'
        go_simp
        with_reducible rfl
       rotate_left
       ·
        simp only [Act.put, List.setIfInBounds_toArray, List.set_cons_zero, List.set_cons_succ, i64_w, i32_w]
        rfl
       refine pure_ (i := 2) (N := some 23) (v := ?_) (a' := ?_) #[true, false, true, false, false, false, false, false] rfl rfl (any_of HT_.out (by kernel_rfl)) (fun _ _ _ h => h) (Or.inl ⟨by rfl, ?_⟩) ?_ ?_
       rotate_left
       ·
        intro w'
        go_simp
        with_reducible rfl
       rotate_left
       ·
        simp only [Act.put, List.setIfInBounds_toArray, List.set_cons_zero, List.set_cons_succ, i64_w, i32_w]
        rfl
       refine pure_ (i := 3) (N := some 24) (v := ?_) (a' := ?_) #[true, false, true, true, false, false, false, false] rfl rfl (any_of HT_.out (by kernel_rfl)) (fun _ _ _ h => h) (Or.inl ⟨by rfl, ?_⟩) ?_ ?_
       rotate_left
       ·
        intro w'
        go_simp
        with_reducible rfl
       rotate_left
       ·
        simp only [Act.put, List.setIfInBounds_toArray, List.set_cons_zero, List.set_cons_succ, i64_w, i32_w]
        rfl
       refine pure_ (i := 4) (N := some 25) (v := ?_) (a' := ?_) #[true, false, true, true, true, false, false, false] rfl rfl (any_of HT_.out (by kernel_rfl)) (fun _ _ _ h => h) (Or.inl ⟨by rfl, ?_⟩) ?_ ?_
       rotate_left
       ·
        intro w'
        go_simp
        with_reducible rfl
       rotate_left
       ·
        simp only [Act.put, List.setIfInBounds_toArray, List.set_cons_zero, List.set_cons_succ, i64_w, i32_w]
        rfl
       refine take_ (i := 1) (N := some 22) (v := ?_) (a' := ?_) #[true, true, true, true, true, false, false, false] rfl rfl (take_ofW HT_.out HW_.out (by kernel_rfl)) (fun _ _ _ h => h) (Or.inl ⟨by rfl, ?_⟩) hHeld ?_ ?_
       rotate_left
       ·
        rintro w' ⟨s0, s1, s2, s3⟩
        go_simp
        with_reducible rfl
       rotate_left
       ·
        simp only [Act.put, List.setIfInBounds_toArray, List.set_cons_zero, List.set_cons_succ, i64_w, i32_w]
        rfl
       refine take_ (i := 5) (N := some 26) (v := ?_) (a' := ?_) #[true, true, true, true, true, true, false, false] rfl rfl (take_ofW HT_.out HW_.out (by kernel_rfl)) (fun _ _ _ h => h) (Or.inl ⟨by rfl, ?_⟩) hHeld ?_ ?_
       rotate_left
       ·
        rintro w' ⟨s0, s1, s2, s3⟩
        go_simp
        with_reducible rfl
       rotate_left
       ·
        simp only [Act.put, List.setIfInBounds_toArray, List.set_cons_zero, List.set_cons_succ, i64_w, i32_w]
        rfl
       refine one_ (i := 6) (N := some 27) #[true, true, true, true, true, true, true, false] rfl rfl (one_of HT_.out (by kernel_rfl)) (by decide) (fun K hK => ?_)
       first
        | (refine goes_ Tryd.func23 (by kernel_rfl) rfl #[.agg #[.string ((rd_T61 l0 x16_1).f0), .slice A369_1 ((rd_T61 l0 x16_1).f1).length c369_1, .slice A369_2 ((rd_T61 l0 x16_1).f2).length c369_2], .int .i64 (rd l1 x16_1)] (by rfl) rfl rfl s0 ?_)
        | (refine goest_ Tryd.func23 (by kernel_rfl) rfl #[.agg #[.string ((rd_T61 l0 x16_1).f0), .slice A369_1 ((rd_T61 l0 x16_1).f1).length c369_1, .slice A369_2 ((rd_T61 l0 x16_1).f2).length c369_2], .int .i64 (rd l1 x16_1)] (by rfl) rfl rfl rfl s0 ?_)
       with_reducible refine (state_Stays_1.calls ((rd_T61 l0 x16_1).f0) _ _ ((rd_T61 l0 x16_1).f1) _ _ ((rd_T61 l0 x16_1).f2) (rd l1 x16_1) false _ ?side1 ?side2 ?side3 ?side4 A9.out).mono ?_
       (case side1 => exact q17_12)
       (case side2 => exact HC369_1.out)
       (case side3 => exact q17_11)
       (case side4 => exact HC369_2.out)
       rintro e w20 ⟨rfl, hb⟩
       refine ⟨_, rfl, ?_⟩
       have n0_ := zM (blk_below (g := gb370) q17_18 hb)
       have n1_ := zM (below_step q17_5 hb)
       clear BK370
       clear HB
       have BK370 := n0_
       have HB := n1_
       clear n0_ n1_
       (try clear hb)
       (try clear hb2)
       (try clear hk)
       (try clear hi)
       refine hK.out _ _ ⟨(blk_cell BK370.out 0).trans rfl, (blk_cell BK370.out 1).trans rfl, (blk_cell BK370.out 2).trans rfl, ((HB.out.cell (World.block_lt_of_cell? w _ hw371_0)).trans hw371_0)⟩ (fun hHeld => ?_)
       clear hK K
       refine norm_ (a' := ?_) ?_ ?_
       rotate_left
       ·
        show Act.put _ (some 27) _ = _
        simp only [Act.put, List.setIfInBounds_toArray, List.set_cons_zero, List.set_cons_succ, i64_w, i32_w]
        rfl
       refine pure_ (i := 7) (N := some 28) (v := ?_) (a' := ?_) #[true, true, true, true, true, true, true, true] rfl rfl (any_of HT_.out (by kernel_rfl)) (fun _ _ _ h => h) (Or.inl ⟨by rfl, ?_⟩) ?_ ?_
       rotate_left
       ·
        intro w'
        go_simp
        with_reducible rfl
       rotate_left
       ·
        simp only [Act.put, List.setIfInBounds_toArray, List.set_cons_zero, List.set_cons_succ, i64_w, i32_w]
        rfl
       refine done_ (done_of HT_.out (by kernel_rfl)) ?_
       try go_wp2
       go_ret
       exact ⟨s6, q17_5⟩
      rw [if_neg c8] at H
      exact absurd H (by simp)
     rw [if_neg c7] at H
     exact absurd H (by simp)
    rw [if_neg c6] at H
    exact absurd H (by simp)
   rw [if_neg c5] at H
   have c5b0 := decide_eq_false c5
   clear c5
   obtain rfl := Option.some.inj H
   go_wp2
   go_ret
   exact ⟨s6, s8⟩
 rw [if_neg c4] at H
 obtain ⟨c4b0, c4b1⟩ := neb c4
 have c4b2 : (l0.length == l1.length) = false := by first | simpa using c4 | (simp at c4 ⊢; omega)
 obtain rfl := Option.some.inj H
 go_enter Tryd.func25, Tryd.ntmps25
 go_wp2
 go_ret
 exact ⟨s6, s8⟩

/-! ### state_Stays: function 15 -/
def state_Stays.f (k : Nat) (l0_0 : List ByteArray) (l0_1 : List (S50)) (l0_2 : List ByteArray) (l0_3 : List (S61)) (l1_0 : List Int) (l1_1 : List Int) : Option (Bool) := (state_Right.f k l0_0 l0_1 l0_2 l0_3 l1_0 l1_1).bind fun t375 => (if t375 = true then ((api_Auto_int_at23.f k l0_3 l1_0).bind fun t376 => (some t376)) else (some false))
theorem state_Stays.mono : ∀ a0 a1 a2 a3 a4 a5 k, LeO (state_Stays.f k a0 a1 a2 a3 a4 a5) (state_Stays.f (k + 1) a0 a1 a2 a3 a4 a5) := by
 intro a0 a1 a2 a3 a4 a5 k
 unfold state_Stays.f
 repeat' first | (with_reducible first | exact api_Auto_int_at23.mono _ _ _ | exact state_Right.mono _ _ _ _ _ _ _ | exact LeO.refl _ | exact LeO.none _ | refine LeO.ite ?_ ?_ | refine LeO.bind ?_ (fun _ => ?_)) | exact LeO.none _ | refine LeO.ite ?_ ?_ | refine LeO.bind ?_ (fun _ => ?_)
set_option maxHeartbeats 8000000 in
set_option maxRecDepth 100000 in
theorem state_Stays.calls (k : Nat) (A0_0 : Option Addr) (c0_0 : Nat) (l0_0 : List ByteArray) (A0_1 : Option Addr) (c0_1 : Nat) (l0_1 : List (S50)) (A0_2 : Option Addr) (c0_2 : Nat) (l0_2 : List ByteArray) (A0_3 : Option Addr) (c0_3 : Nat) (l0_3 : List (S61)) (A1_0 : Option Addr) (c1_0 : Nat) (l1_0 : List Int) (A1_1 : Option Addr) (c1_1 : Nat) (l1_1 : List Int) (r : Bool) (w : World) (hG : Glob w) (hr0_0 : Kd.C Kd.string w A0_0 l0_0.length l0_0) (hc0_0 : l0_0.length ≤ c0_0) (hr0_1 : Kd.C k50 w A0_1 l0_1.length l0_1) (hc0_1 : l0_1.length ≤ c0_1) (hr0_2 : Kd.C Kd.string w A0_2 l0_2.length l0_2) (hc0_2 : l0_2.length ≤ c0_2) (hr0_3 : Kd.C k61 w A0_3 l0_3.length l0_3) (hc0_3 : l0_3.length ≤ c0_3) (hr1_0 : Kd.C (Kd.int .i64) w A1_0 l1_0.length l1_0) (hc1_0 : l1_0.length ≤ c1_0) (hr1_1 : Kd.C (Kd.int .i64) w A1_1 l1_1.length l1_1) (hc1_1 : l1_1.length ≤ c1_1) (h : state_Stays.f k l0_0 l0_1 l0_2 l0_3 l1_0 l1_1 = some r) :
  Calls Tryd.prog 15 #[.agg #[.slice A0_0 l0_0.length c0_0, .slice A0_1 l0_1.length c0_1, .slice A0_2 l0_2.length c0_2, .slice A0_3 l0_3.length c0_3], .agg #[.slice A1_0 l1_0.length c1_0, .slice A1_1 l1_1.length c1_1]] w fun e w' => e = .returned (.bool r) ∧ Below w.heap.size w w' := by
 have hu26 := Tryd.underlying26
 have hu29 := Tryd.underlying29
 have HR0_0 := zM hr0_0
 have HC0_0 := zM hc0_0
 clear hr0_0 hc0_0
 have HR0_1 := zM hr0_1
 have HC0_1 := zM hc0_1
 clear hr0_1 hc0_1
 have HR0_2 := zM hr0_2
 have HC0_2 := zM hc0_2
 clear hr0_2 hc0_2
 have HR0_3 := zM hr0_3
 have HC0_3 := zM hc0_3
 clear hr0_3 hc0_3
 have HR1_0 := zM hr1_0
 have HC1_0 := zM hc1_0
 clear hr1_0 hc1_0
 have HR1_1 := zM hr1_1
 have HC1_1 := zM hc1_1
 clear hr1_1 hc1_1
 have HGL := zM hG
 clear hG
 have HB := zM (Below.refl w.heap.size w)
 have H : ((state_Right.f k l0_0 l0_1 l0_2 l0_3 l1_0 l1_1).bind fun t375 => (if t375 = true then ((api_Auto_int_at23.f k l0_3 l1_0).bind fun t376 => (some t376)) else (some false))) = some r := h
 clear h
 replace H := Option.bind_eq_some_iff.mp H
 obtain ⟨t375, A30, H⟩ := H
 replace H : (if t375 = true then ((api_Auto_int_at23.f k l0_3 l1_0).bind fun t376 => (some t376)) else (some false)) = some r := H
 have A3 := zM A30
 clear A30
 by_cases c4 : t375 = true
 ·
  subst c4
  have H1 : ((api_Auto_int_at23.f k l0_3 l1_0).bind fun t376 => (some t376)) = some r := by rw [if_pos rfl] at H; exact H
  clear H
  have H := H1
  clear H1
  replace H := Option.bind_eq_some_iff.mp H
  obtain ⟨t376, A50, H⟩ := H
  replace H : (some t376) = some r := H
  have A5 := zM A50
  clear A50
  obtain rfl := Option.some.inj H
  go_enter Tryd.func15, Tryd.ntmps15
  go_wp2_with (first | ((with_reducible refine gate_dst (N := 2) rfl ?_); refine box_ev (N := 2) (cs := #[.slice A0_0 l0_0.length c0_0, .slice A0_1 l0_1.length c0_1, .slice A0_2 l0_2.length c0_2, .slice A0_3 l0_3.length c0_3]) (t := 26) ?_; intro gb373 hg w6 hbox hb; have BK373 := zM (hbox); have GE373 := zM (box_ge (n := w.heap.size) hg (below_size s8)); replace HB := zM (below_step s8 hb); clear hb hbox hg) | ((with_reducible refine gate_dst (N := 3) rfl ?_); refine box_ev (N := 3) (cs := #[.slice A1_0 l1_0.length c1_0, .slice A1_1 l1_1.length c1_1]) (t := 29) ?_; intro gb374 hg w7 hbox hb; have BK374 := zM (hbox); have GE374 := zM (box_ge (n := w.heap.size) hg (below_size q17_4)); have NB373_374 := zM (box_ne hg (g := gb373) q17_1); have NB374_373 := zM (box_ne' hg (g := gb373) q17_1); replace BK373 := zM (blk_below (g := gb373) q17_1 hb); replace HB := zM (below_step q17_4 hb); clear hb hbox hg; have hnb8 := NB373_374.out; have hnc8 := NB374_373.out; obtain ⟨hcz9_0, hcz9_1, hcz9_2, hcz9_3, hfz9_0, hfz9_1, hfz9_2, hfz9_3⟩ := blk4 BK373.out; obtain ⟨hcz10_0, hcz10_1, hfz10_0, hfz10_1⟩ := blk2 BK374.out) | ((with_reducible refine gate_callee (f := 24) rfl ?_); refine goesL_ (some 8) rfl rfl Tryd.func24 (by kernel_rfl) rfl #[.agg #[.slice A0_0 l0_0.length c0_0, .slice A0_1 l0_1.length c0_1, .slice A0_2 l0_2.length c0_2, .slice A0_3 l0_3.length c0_3], .agg #[.slice A1_0 l1_0.length c1_0, .slice A1_1 l1_1.length c1_1]] rfl s0 ?_; (with_reducible refine (state_Right.calls k _ _ l0_0 _ _ l0_1 _ _ l0_2 _ _ l0_3 _ _ l1_0 _ _ l1_1 true _ ?side13 ?side1 HC0_0.out ?side3 HC0_1.out ?side5 HC0_2.out ?side7 HC0_3.out ?side9 HC1_0.out ?side11 HC1_1.out A3.out).mono ?_); (case side1 => exact s10); (case side3 => exact s11); (case side5 => exact s12); (case side7 => exact s13); (case side9 => exact s14); (case side11 => exact s15); (case side13 => exact s9); rintro e w11 ⟨rfl, hb⟩; refine ⟨_, rfl, ?_⟩; replace BK373 := zM (blk_below (g := gb373) q17_1 hb); replace BK374 := zM (blk_below (g := gb374) q17_10 hb); replace HB := zM (below_step q17_2 hb); (try clear hb); obtain ⟨hcz12_0, hcz12_1, hcz12_2, hcz12_3, hfz12_0, hfz12_1, hfz12_2, hfz12_3⟩ := blk4 BK373.out; obtain ⟨hcz13_0, hcz13_1, hfz13_0, hfz13_1⟩ := blk2 BK374.out) | (go_at_call 25; (with_reducible refine (api_Auto_int_at23.calls k _ _ l0_3 _ _ l1_0  t376 _ ?side1 HC0_3.out ?side3 HC1_0.out A5.out).mono ?_); (case side1 => exact s13); (case side3 => exact s14); rintro e w14 ⟨rfl, hb⟩; replace BK373 := zM (blk_below (g := gb373) q17_1 hb); replace BK374 := zM (blk_below (g := gb374) q17_10 hb); replace HB := zM (below_step q17_2 hb); (try clear hb)))
  go_ret
  exact ⟨s6, q17_2⟩
 replace c4 := Bool.eq_false_iff.mpr c4
 subst c4
 have H1 : (some false) = some r := by rw [if_neg (show ¬ (false = true) by decide)] at H; exact H
 clear H
 have H := H1
 clear H1
 obtain rfl := Option.some.inj H
 go_enter Tryd.func15, Tryd.ntmps15
 go_wp2_with (first | ((with_reducible refine gate_dst (N := 2) rfl ?_); refine box_ev (N := 2) (cs := #[.slice A0_0 l0_0.length c0_0, .slice A0_1 l0_1.length c0_1, .slice A0_2 l0_2.length c0_2, .slice A0_3 l0_3.length c0_3]) (t := 26) ?_; intro gb373 hg w15 hbox hb; have BK373 := zM (hbox); have GE373 := zM (box_ge (n := w.heap.size) hg (below_size s8)); replace HB := zM (below_step s8 hb); clear hb hbox hg) | ((with_reducible refine gate_dst (N := 3) rfl ?_); refine box_ev (N := 3) (cs := #[.slice A1_0 l1_0.length c1_0, .slice A1_1 l1_1.length c1_1]) (t := 29) ?_; intro gb374 hg w16 hbox hb; have BK374 := zM (hbox); have GE374 := zM (box_ge (n := w.heap.size) hg (below_size q17_4)); have NB373_374 := zM (box_ne hg (g := gb373) q17_1); have NB374_373 := zM (box_ne' hg (g := gb373) q17_1); replace BK373 := zM (blk_below (g := gb373) q17_1 hb); replace HB := zM (below_step q17_4 hb); clear hb hbox hg; have hnb17 := NB373_374.out; have hnc17 := NB374_373.out; obtain ⟨hcz18_0, hcz18_1, hcz18_2, hcz18_3, hfz18_0, hfz18_1, hfz18_2, hfz18_3⟩ := blk4 BK373.out; obtain ⟨hcz19_0, hcz19_1, hfz19_0, hfz19_1⟩ := blk2 BK374.out) | ((with_reducible refine gate_callee (f := 24) rfl ?_); refine goesL_ (some 8) rfl rfl Tryd.func24 (by kernel_rfl) rfl #[.agg #[.slice A0_0 l0_0.length c0_0, .slice A0_1 l0_1.length c0_1, .slice A0_2 l0_2.length c0_2, .slice A0_3 l0_3.length c0_3], .agg #[.slice A1_0 l1_0.length c1_0, .slice A1_1 l1_1.length c1_1]] rfl s0 ?_; (with_reducible refine (state_Right.calls k _ _ l0_0 _ _ l0_1 _ _ l0_2 _ _ l0_3 _ _ l1_0 _ _ l1_1 false _ ?side13 ?side1 HC0_0.out ?side3 HC0_1.out ?side5 HC0_2.out ?side7 HC0_3.out ?side9 HC1_0.out ?side11 HC1_1.out A3.out).mono ?_); (case side1 => exact s10); (case side3 => exact s11); (case side5 => exact s12); (case side7 => exact s13); (case side9 => exact s14); (case side11 => exact s15); (case side13 => exact s9); rintro e w20 ⟨rfl, hb⟩; refine ⟨_, rfl, ?_⟩; replace BK373 := zM (blk_below (g := gb373) q17_1 hb); replace BK374 := zM (blk_below (g := gb374) q17_10 hb); replace HB := zM (below_step q17_2 hb); (try clear hb)))
 go_ret
 exact ⟨s6, q17_2⟩

end Go.Proofs.YtpmhfahligjhaaaDoor.POrd
