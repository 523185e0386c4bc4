-- written by wip/tools/xprint.py (over the kit's print.py): not trusted, Lean checks it.
import Derived.Test.YtjoefhhfppijaaaDoorPAllx0
import Derived.Test.YtjoefhhfppijaaaDoorPAllx2
import Derived.Test.YtjoefhhfppijaaaDoorPAllx4
namespace Go.Proofs.YtjoefhhfppijaaaDoor.PAll
open Go.RowKit Go.Proofs.YtjoefhhfppijaaaDoorW.PrintWords Go.Proofs.YtjoefhhfppijaaaDoorW.PrintLast Go.Proofs.YtjoefhhfppijaaaDoorW.PrintMore Go.Proofs.YtjoefhhfppijaaaDoorXW
attribute [local go_sem high] cell_set_map Option.map_some
attribute [local go_sem] max2_int min2_int max_two min_two max_three min_three max_four min_four   -- for this text's walks alone
set_option linter.unusedVariables false
set_option linter.unusedSimpArgs false

theorem q5_0 {p : Prop} (h : p := by repeat (first | (with_reducible first | exact HB.out | apply below_alloc | apply pw_below_drewN | apply below_drew1) | exact HB.out)) : p := h
theorem q5_1 {p : Prop} (h : p := by repeat (first | exact (Kd.C_below HR0.out HB.out) | (with_reducible refine Kd.C_alloc ?_ _) | (with_reducible refine Kd.C_drewN ?_ _) | (with_reducible refine Kd.C_drew ?_))) : p := h
theorem q5_2 {p : Prop} (h : p := by repeat (first | exact (HGL.out.below HB.out) | (with_reducible refine Glob.alloc ?_ _) | (with_reducible refine Glob.drewN ?_ _) | (with_reducible refine Glob.drew ?_))) : p := h
theorem q5_3 {p : Prop} (h : p := by (try simp only [List.map_toArray, List.map_cons, List.map_nil]); first | done | rfl | (simp only [List.length_drop, List.length_take]; rfl)) : p := h
theorem q5_4 {p : Prop} (h : p := by repeat (first | exact (Kd.C_below HR1.out HB.out) | (with_reducible refine Kd.C_alloc ?_ _) | (with_reducible refine Kd.C_drewN ?_ _) | (with_reducible refine Kd.C_drew ?_))) : p := h
theorem q5_5 {p : Prop} (h : p := by first | rfl | (simp; done) | (simp [*]; done)) : p := h
theorem q5_6 {p : Prop} (h : p := by first | (go_simp; done) | (go_simp; rfl)) : p := h
/-! ### expr_Holds: function 8 -/
def expr_Holds.j0 : Nat → List (S96) → List Int → Bool → Option (Bool × Int)
 | 0, _, _, _ => none
 | k + 1, x0, x1, x11 => if x11 = true then (some (false, 121)) else ((expr_reckon.f k x0 0 x1).bind fun bt167 => (if bt167.2.2 = true then (some (false, 20)) else (some (bt167.2.1, 0))))
def expr_Holds.f (k : Nat) (l0 : List (S96)) (l1 : List Int) : Option (Bool × Int) := if (l0.length : Int) = 0 then (some (true, 0)) else ((expr_Right.f k l0 (l1.length : Int)).bind fun t165 => (if t165 = 0 then ((expr_IsTruth.f l0).bind fun t166 => (expr_Holds.j0 k l0 l1 (!t166))) else (expr_Holds.j0 k l0 l1 true)))
theorem expr_Holds.mono_l : ∀ k, (∀ y0 y1 y2, LeO (expr_Holds.j0 k y0 y1 y2) (expr_Holds.j0 (k + 1) y0 y1 y2))
 | 0 => fun _ _ _ r h => by simp [expr_Holds.j0] at h
 | k + 1 => by
  have ih0 := expr_Holds.mono_l k
  ·
   intro y0 y1 y2
   unfold expr_Holds.j0
   repeat' first
   | (with_reducible exact ih0 _ _ _)
   | (with_reducible exact expr_Right.mono _ _ _)
   | (with_reducible exact expr_reckon.mono _ _ _ _)
   | (with_reducible exact LeO.refl _)
   | (with_reducible exact LeO.none _)
   | (with_reducible refine LeO.ite ?_ ?_)
   | (with_reducible refine LeO.bind ?_ (fun _ => ?_))
   | exact ih0 _ _ _
   | exact expr_Right.mono _ _ _
   | exact expr_reckon.mono _ _ _ _
   | exact LeO.none _
   | refine LeO.ite ?_ ?_
   | refine LeO.bind ?_ (fun _ => ?_)
theorem expr_Holds.mono : ∀ a0 a1 k, LeO (expr_Holds.f k a0 a1) (expr_Holds.f (k + 1) a0 a1) := by
 intro a0 a1 k
 have ih0 := expr_Holds.mono_l k
 unfold expr_Holds.f
 repeat' first
   | (with_reducible exact ih0 _ _ _)
   | (with_reducible exact expr_Right.mono _ _ _)
   | (with_reducible exact expr_reckon.mono _ _ _ _)
   | (with_reducible exact LeO.refl _)
   | (with_reducible exact LeO.none _)
   | (with_reducible refine LeO.ite ?_ ?_)
   | (with_reducible refine LeO.bind ?_ (fun _ => ?_))
   | exact ih0 _ _ _
   | exact expr_Right.mono _ _ _
   | exact expr_reckon.mono _ _ _ _
   | exact LeO.none _
   | refine LeO.ite ?_ ?_
   | refine LeO.bind ?_ (fun _ => ?_)
set_option maxHeartbeats 8000000 in
set_option maxRecDepth 100000 in
theorem expr_Holds.calls (k : Nat) (A0 : Option Addr) (c0 : Nat) (l0 : List (S96)) (A1 : Option Addr) (c1 : Nat) (l1 : List Int) (r1 : Bool) (r2 : Int) (w : World) (hG : Glob w) (hr0 : Kd.C k96 w A0 l0.length l0) (hc0 : l0.length ≤ c0) (hr1 : Kd.C (Kd.int .i64) w A1 l1.length l1) (hc1 : l1.length ≤ c1) (h : expr_Holds.f k l0 l1 = some (r1, r2)) :
  Calls Tryd.prog 8 #[.slice A0 l0.length c0, .slice A1 l1.length c1] w fun e w' => e = .returned (.tuple #[.bool r1, .int .i64 r2]) ∧ Below w.heap.size w w' := by
 have hu92 := Tryd.underlying92
 have HR0 := Aside0.mk hr0
 have HC0 := Aside0.mk hc0
 clear hr0 hc0
 have HR1 := Aside0.mk hr1
 have HC1 := Aside0.mk hc1
 clear hr1 hc1
 have HGL := Aside0.mk hG
 clear hG
 have HB := Aside0.mk (Below.refl w.heap.size w)
 have H : (if (l0.length : Int) = 0 then (some (true, 0)) else ((expr_Right.f k l0 (l1.length : Int)).bind fun t165 => (if t165 = 0 then ((expr_IsTruth.f l0).bind fun t166 => (expr_Holds.j0 k l0 l1 (!t166))) else (expr_Holds.j0 k l0 l1 true)))) = some (r1, r2) := h
 clear h
 by_cases c3 : (l0.length : Int) = 0
 ·
  rw [if_pos c3] at H
  have c3b0 : ((l0.length : Int) == 0) = true := beq_iff_eq.mpr c3
  have c3b1 : ((l0.length : Int) != 0) = false := bne_eq_false_iff_eq.mpr c3
  clear c3
  simp only [Option.some.injEq, Prod.mk.injEq] at H
  obtain ⟨rfl, rfl⟩ := H
  go_enter Tryd.func8, Tryd.ntmps8
  go_wp2
  go_ret2
  exact ⟨by first | rfl | (simp [errW_none, errW_some] <;> rfl) | (simp [*, errW_none, errW_some] <;> rfl), by repeat (first | (with_reducible first | exact HB.out | apply below_alloc | apply pw_below_drewN | apply below_drew1) | exact HB.out)⟩
 ·
  rw [if_neg c3] at H
  have c3b0 : ((l0.length : Int) == 0) = false := beq_eq_false_iff_ne.mpr c3
  have c3b1 : ((l0.length : Int) != 0) = true := bne_iff_ne.mpr c3
  have c3b2 : ¬ (l0 = []) := fun h_ => c3 (by rw [h_]; rfl)
  have HC4 := Aside0.mk H
  clear H
  go_enter Tryd.func8, Tryd.ntmps8
  go_upto_region 3 with (fail)
  go_cut [11] (fun v11 wc => ∃ (kq : Nat) (x11_3 : Bool), v11 = .bool x11_3 ∧ Aside0 (expr_Holds.j0 kq l0 l1 x11_3 = some (r1, r2)) ∧ Aside0 (kq ≤ k) ∧ Aside0 (Below w.heap.size w wc))
  case first =>
   have H := HC4.out
   clear HC4
   replace H := Option.bind_eq_some_iff.mp H
   obtain ⟨t165, A50, H⟩ := H
   replace H : (if t165 = 0 then ((expr_IsTruth.f l0).bind fun t166 => (expr_Holds.j0 k l0 l1 (!t166))) else (expr_Holds.j0 k l0 l1 true)) = some (r1, r2) := H
   have A5 := Aside0.mk A50
   clear A50
   by_cases c6 : t165 = 0
   ·
    rw [if_pos c6] at H
    have c6b0 : (t165 == 0) = true := beq_iff_eq.mpr c6
    have c6b1 : (t165 != 0) = false := bne_eq_false_iff_eq.mpr c6
    clear c6
    (first | rw [c6b0] | (simp only [i64_w, i32_w]; rw [c6b0]) | skip)
    replace H := Option.bind_eq_some_iff.mp H
    obtain ⟨t166, A70, H⟩ := H
    replace H : (expr_Holds.j0 k l0 l1 (!t166)) = some (r1, r2) := H
    have A7 := Aside0.mk A70
    clear A70
    have H' := Aside0.mk H
    clear H
    go_wp2_with (first | ((with_reducible refine gate_callee (f := 39) rfl ?_); refine goesL_ (some 15) rfl rfl Tryd.func39 (by kernel_rfl) rfl #[.slice A0 l0.length c0, .int .i64 (l1.length : Int)] rfl q5_3 ?_; (with_reducible refine (expr_Right.calls k _ _ l0 (l1.length : Int) t165 _ ?side3 ?side1 ?side2 A5.out).mono ?_); (case side1 => exact q5_1); (case side2 => exact HC0.out); (case side3 => exact q5_2); rintro e w8 ⟨rfl, hb⟩; refine ⟨_, rfl, ?_⟩; have n0_ := Aside0.mk (below_step q5_0 hb); clear HB; have HB := n0_; clear n0_; (try clear hb); (try clear hb2); (try clear hk); (try clear hi)) | (go_at_call 40; (with_reducible refine (expr_IsTruth.calls _ _ l0 t166 _ ?side3 ?side1 ?side2 A7.out).mono ?_); (case side1 => exact q5_1); (case side2 => exact HC0.out); (case side3 => exact q5_2); rintro e w9 ⟨rfl, hb⟩; have n0_ := Aside0.mk (below_step q5_0 hb); clear HB; have HB := n0_; clear n0_; (try clear hb); (try clear hb2); (try clear hk); (try clear hi)))
    go_meet
    case rel => exact ⟨_, (!t166), q5_5, H', ⟨by first | omega | exact Nat.le_refl _⟩, ⟨by repeat (first | (with_reducible first | exact HB.out | apply below_alloc | apply pw_below_drewN | apply below_drew1) | exact HB.out)⟩⟩
   ·
    rw [if_neg c6] at H
    have c6b0 : (t165 == 0) = false := beq_eq_false_iff_ne.mpr c6
    have c6b1 : (t165 != 0) = true := bne_iff_ne.mpr c6
    (first | rw [c6b0] | (simp only [i64_w, i32_w]; rw [c6b0]) | skip)
    have H' := Aside0.mk H
    clear H
    go_wp2_with (first | ((with_reducible refine gate_callee (f := 39) rfl ?_); refine goesL_ (some 15) rfl rfl Tryd.func39 (by kernel_rfl) rfl #[.slice A0 l0.length c0, .int .i64 (l1.length : Int)] rfl q5_3 ?_; (with_reducible refine (expr_Right.calls k _ _ l0 (l1.length : Int) t165 _ ?side3 ?side1 ?side2 A5.out).mono ?_); (case side1 => exact q5_1); (case side2 => exact HC0.out); (case side3 => exact q5_2); rintro e w10 ⟨rfl, hb⟩; refine ⟨_, rfl, ?_⟩; have n0_ := Aside0.mk (below_step q5_0 hb); clear HB; have HB := n0_; clear n0_; (try clear hb); (try clear hb2); (try clear hk); (try clear hi)))
    go_meet
    case rel => exact ⟨_, (true), q5_5, H', ⟨by first | omega | exact Nat.le_refl _⟩, ⟨by repeat (first | (with_reducible first | exact HB.out | apply below_alloc | apply pw_below_drewN | apply below_drew1) | exact HB.out)⟩⟩
  case rest =>
   clear HC4
   try clear c1
   try clear p2
   try clear c3
   try clear c3b0
   try clear c3b1
   try clear c3b2
   try clear c6
   try clear c6b0
   try clear c6b1
   try clear c8
   obtain ⟨kq, x11_3, rfl, HA, HJ3, HB⟩ := hcut
   cases kq with
   | zero => exact absurd HA.out (by simp [expr_Holds.j0])
   | succ kj3 =>
    have H := HA.out
    clear HA
    simp only [expr_Holds.j0] at H
    by_cases c11 : x11_3 = true
    ·
     subst c11
     have H1 : (some (false, 121)) = some (r1, r2) := by rw [if_pos rfl] at H; exact H
     clear H
     have H := H1
     clear H1
     simp only [Option.some.injEq, Prod.mk.injEq] at H
     obtain ⟨rfl, rfl⟩ := H
     go_wp2
     go_ret2
     exact ⟨by first | rfl | (simp [errW_none, errW_some] <;> rfl) | (simp [*, errW_none, errW_some] <;> rfl), by repeat (first | (with_reducible first | exact HB.out | apply below_alloc | apply pw_below_drewN | apply below_drew1) | exact HB.out)⟩
    ·
     replace c11 := Bool.eq_false_iff.mpr c11
     subst c11
     have H1 : ((expr_reckon.f kj3 l0 0 l1).bind fun bt167 => (if bt167.2.2 = true then (some (false, 20)) else (some (bt167.2.1, 0)))) = some (r1, r2) := by rw [if_neg (show ¬ (false = true) by decide)] at H; exact H
     clear H
     have H := H1
     clear H1
     replace H := Option.bind_eq_some_iff.mp H
     obtain ⟨⟨t167, t168, t169⟩, A120, H⟩ := H
     replace H : (if t169 = true then (some (false, 20)) else (some (t168, 0))) = some (r1, r2) := H
     have A12 := Aside0.mk A120
     clear A120
     by_cases c13 : t169 = true
     ·
      subst c13
      have H1 : (some (false, 20)) = some (r1, r2) := by rw [if_pos rfl] at H; exact H
      clear H
      have H := H1
      clear H1
      simp only [Option.some.injEq, Prod.mk.injEq] at H
      obtain ⟨rfl, rfl⟩ := H
      go_wp2_with (first | ((with_reducible refine gate_callee (f := 41) rfl ?_); refine goesL_ (some 24) rfl rfl Tryd.func41 (by kernel_rfl) rfl #[.slice A0 l0.length c0, .int .i64 0, .slice A1 l1.length c1] rfl q5_3 ?_; (with_reducible refine (expr_reckon.calls kj3 _ _ l0 0 _ _ l1 t167 t168 true _ ?side5 ?side1 ?side2 ?side3 ?side4 A12.out).mono ?_); (case side1 => exact q5_1); (case side2 => exact HC0.out); (case side3 => exact q5_4); (case side4 => exact HC1.out); (case side5 => exact q5_2); rintro e w14 ⟨rfl, hb⟩; refine ⟨_, rfl, ?_⟩; have n0_ := Aside0.mk (below_step q5_0 hb); clear HB; have HB := n0_; clear n0_; (try clear hb); (try clear hb2); (try clear hk); (try clear hi)) | ((with_reducible refine gate_dst (N := 6) rfl ?_); refine box_event ?hg (N := 6) ?hd (cs := #[.int .i64 0, .bool false, .bool false]) (t := 92) ?hr ?_; (case hd => rfl); (case hg => rfl); (case hr => exact q5_6); intro gb170 hg w15 hbox hb; have n0_ := Aside0.mk (below_step q5_0 hb); have n1_ := Aside0.mk (hbox); have n2_ := Aside0.mk ((by rw [hg]; exact (below_size q5_0) : w.heap.size ≤ gb170)); have n3_ := Aside0.mk ((by rw [hg]; exact (below_size q5_0) : w.heap.size ≤ gb170)); clear HB; have HB := n0_; have BK170 := n1_; have GW170 := n2_; have GE170 := n3_; clear n0_ n1_ n2_ n3_; clear hb hbox hg; have hcz16_0 : w15.cell? ⟨gb170, 0, none⟩ = some (.int .i64 0) := (blk_cell BK170.out 0).trans rfl; have hcz16_1 : w15.cell? ⟨gb170, 1, none⟩ = some (.bool false) := (blk_cell BK170.out 1).trans rfl; have hcz16_2 : w15.cell? ⟨gb170, 2, none⟩ = some (.bool false) := (blk_cell BK170.out 2).trans rfl; have hfz16_0 := blk_frozen BK170.out 0; have hfz16_1 := blk_frozen BK170.out 1; have hfz16_2 := blk_frozen BK170.out 2))
      go_ret2
      exact ⟨by first | rfl | (simp [errW_none, errW_some] <;> rfl) | (simp [*, errW_none, errW_some] <;> rfl), by repeat (first | (with_reducible first | exact HB.out | apply below_alloc | apply pw_below_drewN | apply below_drew1 | refine below_set ?_ GE170.out) | exact HB.out)⟩
     ·
      replace c13 := Bool.eq_false_iff.mpr c13
      subst c13
      have H1 : (some (t168, 0)) = some (r1, r2) := by rw [if_neg (show ¬ (false = true) by decide)] at H; exact H
      clear H
      have H := H1
      clear H1
      simp only [Option.some.injEq, Prod.mk.injEq] at H
      obtain ⟨rfl, rfl⟩ := H
      go_wp2_with (first | ((with_reducible refine gate_callee (f := 41) rfl ?_); refine goesL_ (some 24) rfl rfl Tryd.func41 (by kernel_rfl) rfl #[.slice A0 l0.length c0, .int .i64 0, .slice A1 l1.length c1] rfl q5_3 ?_; (with_reducible refine (expr_reckon.calls kj3 _ _ l0 0 _ _ l1 t167 t168 false _ ?side5 ?side1 ?side2 ?side3 ?side4 A12.out).mono ?_); (case side1 => exact q5_1); (case side2 => exact HC0.out); (case side3 => exact q5_4); (case side4 => exact HC1.out); (case side5 => exact q5_2); rintro e w17 ⟨rfl, hb⟩; refine ⟨_, rfl, ?_⟩; have n0_ := Aside0.mk (below_step q5_0 hb); clear HB; have HB := n0_; clear n0_; (try clear hb); (try clear hb2); (try clear hk); (try clear hi)) | ((with_reducible refine gate_dst (N := 6) rfl ?_); refine box_event ?hg (N := 6) ?hd (cs := #[.int .i64 0, .bool false, .bool false]) (t := 92) ?hr ?_; (case hd => rfl); (case hg => rfl); (case hr => exact q5_6); intro gb170 hg w18 hbox hb; have n0_ := Aside0.mk (below_step q5_0 hb); have n1_ := Aside0.mk (hbox); have n2_ := Aside0.mk ((by rw [hg]; exact (below_size q5_0) : w.heap.size ≤ gb170)); have n3_ := Aside0.mk ((by rw [hg]; exact (below_size q5_0) : w.heap.size ≤ gb170)); clear HB; have HB := n0_; have BK170 := n1_; have GW170 := n2_; have GE170 := n3_; clear n0_ n1_ n2_ n3_; clear hb hbox hg; have hcz19_0 : w18.cell? ⟨gb170, 0, none⟩ = some (.int .i64 0) := (blk_cell BK170.out 0).trans rfl; have hcz19_1 : w18.cell? ⟨gb170, 1, none⟩ = some (.bool false) := (blk_cell BK170.out 1).trans rfl; have hcz19_2 : w18.cell? ⟨gb170, 2, none⟩ = some (.bool false) := (blk_cell BK170.out 2).trans rfl; have hfz19_0 := blk_frozen BK170.out 0; have hfz19_1 := blk_frozen BK170.out 1; have hfz19_2 := blk_frozen BK170.out 2))
      go_ret2
      exact ⟨by first | rfl | (simp [errW_none, errW_some] <;> rfl) | (simp [*, errW_none, errW_some] <;> rfl), by repeat (first | (with_reducible first | exact HB.out | apply below_alloc | apply pw_below_drewN | apply below_drew1 | refine below_set ?_ GE170.out) | exact HB.out)⟩

/-! ### expr_Value: function 42 -/
def expr_Value.j0 : Nat → List (S96) → List Int → Bool → Option (Int × Int)
 | 0, _, _, _ => none
 | k + 1, x0, x1, x15 => if x15 = true then (some (0, 121)) else ((expr_reckon.f k x0 0 x1).bind fun bt173 => (if bt173.2.2 = true then (some (0, 20)) else (some (bt173.1, 0))))
def expr_Value.f (k : Nat) (l0 : List (S96)) (l1 : List Int) : Option (Int × Int) := (expr_Right.f k l0 (l1.length : Int)).bind fun t171 => (if t171 = 0 then ((expr_IsTruth.f l0).bind fun t172 => (expr_Value.j0 k l0 l1 t172)) else (expr_Value.j0 k l0 l1 true))
theorem expr_Value.mono_l : ∀ k, (∀ y0 y1 y2, LeO (expr_Value.j0 k y0 y1 y2) (expr_Value.j0 (k + 1) y0 y1 y2))
 | 0 => fun _ _ _ r h => by simp [expr_Value.j0] at h
 | k + 1 => by
  have ih0 := expr_Value.mono_l k
  ·
   intro y0 y1 y2
   unfold expr_Value.j0
   repeat' first
   | (with_reducible exact ih0 _ _ _)
   | (with_reducible exact expr_Right.mono _ _ _)
   | (with_reducible exact expr_reckon.mono _ _ _ _)
   | (with_reducible exact LeO.refl _)
   | (with_reducible exact LeO.none _)
   | (with_reducible refine LeO.ite ?_ ?_)
   | (with_reducible refine LeO.bind ?_ (fun _ => ?_))
   | exact ih0 _ _ _
   | exact expr_Right.mono _ _ _
   | exact expr_reckon.mono _ _ _ _
   | exact LeO.none _
   | refine LeO.ite ?_ ?_
   | refine LeO.bind ?_ (fun _ => ?_)
theorem expr_Value.mono : ∀ a0 a1 k, LeO (expr_Value.f k a0 a1) (expr_Value.f (k + 1) a0 a1) := by
 intro a0 a1 k
 have ih0 := expr_Value.mono_l k
 unfold expr_Value.f
 repeat' first
   | (with_reducible exact ih0 _ _ _)
   | (with_reducible exact expr_Right.mono _ _ _)
   | (with_reducible exact expr_reckon.mono _ _ _ _)
   | (with_reducible exact LeO.refl _)
   | (with_reducible exact LeO.none _)
   | (with_reducible refine LeO.ite ?_ ?_)
   | (with_reducible refine LeO.bind ?_ (fun _ => ?_))
   | exact ih0 _ _ _
   | exact expr_Right.mono _ _ _
   | exact expr_reckon.mono _ _ _ _
   | exact LeO.none _
   | refine LeO.ite ?_ ?_
   | refine LeO.bind ?_ (fun _ => ?_)
set_option maxHeartbeats 8000000 in
set_option maxRecDepth 100000 in
theorem expr_Value.calls (k : Nat) (A0 : Option Addr) (c0 : Nat) (l0 : List (S96)) (A1 : Option Addr) (c1 : Nat) (l1 : List Int) (r1 : Int) (r2 : Int) (w : World) (hG : Glob w) (hr0 : Kd.C k96 w A0 l0.length l0) (hc0 : l0.length ≤ c0) (hr1 : Kd.C (Kd.int .i64) w A1 l1.length l1) (hc1 : l1.length ≤ c1) (h : expr_Value.f k l0 l1 = some (r1, r2)) :
  Calls Tryd.prog 42 #[.slice A0 l0.length c0, .slice A1 l1.length c1] w fun e w' => e = .returned (.tuple #[.int .i64 r1, .int .i64 r2]) ∧ Below w.heap.size w w' := by
 have hu92 := Tryd.underlying92
 have HR0 := Aside0.mk hr0
 have HC0 := Aside0.mk hc0
 clear hr0 hc0
 have HR1 := Aside0.mk hr1
 have HC1 := Aside0.mk hc1
 clear hr1 hc1
 have HGL := Aside0.mk hG
 clear hG
 have HB := Aside0.mk (Below.refl w.heap.size w)
 have H : ((expr_Right.f k l0 (l1.length : Int)).bind fun t171 => (if t171 = 0 then ((expr_IsTruth.f l0).bind fun t172 => (expr_Value.j0 k l0 l1 t172)) else (expr_Value.j0 k l0 l1 true))) = some (r1, r2) := h
 clear h
 have HC3 := Aside0.mk H
 clear H
 go_enter Tryd.func42, Tryd.ntmps42
 go_upto_region 1 with (fail)
 go_cut [15] (fun v15 wc => ∃ (kq : Nat) (x15_2 : Bool), v15 = .bool x15_2 ∧ Aside0 (expr_Value.j0 kq l0 l1 x15_2 = some (r1, r2)) ∧ Aside0 (kq ≤ k) ∧ Aside0 (Below w.heap.size w wc))
 case first =>
  have H := HC3.out
  clear HC3
  replace H := Option.bind_eq_some_iff.mp H
  obtain ⟨t171, A40, H⟩ := H
  replace H : (if t171 = 0 then ((expr_IsTruth.f l0).bind fun t172 => (expr_Value.j0 k l0 l1 t172)) else (expr_Value.j0 k l0 l1 true)) = some (r1, r2) := H
  have A4 := Aside0.mk A40
  clear A40
  by_cases c5 : t171 = 0
  ·
   rw [if_pos c5] at H
   have c5b0 : (t171 == 0) = true := beq_iff_eq.mpr c5
   have c5b1 : (t171 != 0) = false := bne_eq_false_iff_eq.mpr c5
   clear c5
   (first | rw [c5b0] | (simp only [i64_w, i32_w]; rw [c5b0]) | skip)
   replace H := Option.bind_eq_some_iff.mp H
   obtain ⟨t172, A60, H⟩ := H
   replace H : (expr_Value.j0 k l0 l1 t172) = some (r1, r2) := H
   have A6 := Aside0.mk A60
   clear A60
   have H' := Aside0.mk H
   clear H
   go_wp2_with (first | ((with_reducible refine gate_callee (f := 39) rfl ?_); refine goesL_ (some 10) rfl rfl Tryd.func39 (by kernel_rfl) rfl #[.slice A0 l0.length c0, .int .i64 (l1.length : Int)] rfl q5_3 ?_; (with_reducible refine (expr_Right.calls k _ _ l0 (l1.length : Int) t171 _ ?side3 ?side1 ?side2 A4.out).mono ?_); (case side1 => exact q5_1); (case side2 => exact HC0.out); (case side3 => exact q5_2); rintro e w7 ⟨rfl, hb⟩; refine ⟨_, rfl, ?_⟩; have n0_ := Aside0.mk (below_step q5_0 hb); clear HB; have HB := n0_; clear n0_; (try clear hb); (try clear hb2); (try clear hk); (try clear hi)) | (go_at_call 40; (with_reducible refine (expr_IsTruth.calls _ _ l0 t172 _ ?side3 ?side1 ?side2 A6.out).mono ?_); (case side1 => exact q5_1); (case side2 => exact HC0.out); (case side3 => exact q5_2); rintro e w8 ⟨rfl, hb⟩; have n0_ := Aside0.mk (below_step q5_0 hb); clear HB; have HB := n0_; clear n0_; (try clear hb); (try clear hb2); (try clear hk); (try clear hi)))
   go_meet
   case rel => exact ⟨_, (t172), q5_5, H', ⟨by first | omega | exact Nat.le_refl _⟩, ⟨by repeat (first | (with_reducible first | exact HB.out | apply below_alloc | apply pw_below_drewN | apply below_drew1) | exact HB.out)⟩⟩
  ·
   rw [if_neg c5] at H
   have c5b0 : (t171 == 0) = false := beq_eq_false_iff_ne.mpr c5
   have c5b1 : (t171 != 0) = true := bne_iff_ne.mpr c5
   (first | rw [c5b0] | (simp only [i64_w, i32_w]; rw [c5b0]) | skip)
   have H' := Aside0.mk H
   clear H
   go_wp2_with (first | ((with_reducible refine gate_callee (f := 39) rfl ?_); refine goesL_ (some 10) rfl rfl Tryd.func39 (by kernel_rfl) rfl #[.slice A0 l0.length c0, .int .i64 (l1.length : Int)] rfl q5_3 ?_; (with_reducible refine (expr_Right.calls k _ _ l0 (l1.length : Int) t171 _ ?side3 ?side1 ?side2 A4.out).mono ?_); (case side1 => exact q5_1); (case side2 => exact HC0.out); (case side3 => exact q5_2); rintro e w9 ⟨rfl, hb⟩; refine ⟨_, rfl, ?_⟩; have n0_ := Aside0.mk (below_step q5_0 hb); clear HB; have HB := n0_; clear n0_; (try clear hb); (try clear hb2); (try clear hk); (try clear hi)))
   go_meet
   case rel => exact ⟨_, (true), q5_5, H', ⟨by first | omega | exact Nat.le_refl _⟩, ⟨by repeat (first | (with_reducible first | exact HB.out | apply below_alloc | apply pw_below_drewN | apply below_drew1) | exact HB.out)⟩⟩
 case rest =>
  clear HC3
  try clear c1
  try clear p2
  try clear c3
  try clear c4
  try clear c5
  try clear c5b0
  try clear c5b1
  obtain ⟨kq, x15_2, rfl, HA, HJ2, HB⟩ := hcut
  cases kq with
  | zero => exact absurd HA.out (by simp [expr_Value.j0])
  | succ kj2 =>
   have H := HA.out
   clear HA
   simp only [expr_Value.j0] at H
   by_cases c10 : x15_2 = true
   ·
    subst c10
    have H1 : (some (0, 121)) = some (r1, r2) := by rw [if_pos rfl] at H; exact H
    clear H
    have H := H1
    clear H1
    simp only [Option.some.injEq, Prod.mk.injEq] at H
    obtain ⟨rfl, rfl⟩ := H
    go_wp2
    go_ret2
    exact ⟨by first | rfl | (simp [errW_none, errW_some] <;> rfl) | (simp [*, errW_none, errW_some] <;> rfl), by repeat (first | (with_reducible first | exact HB.out | apply below_alloc | apply pw_below_drewN | apply below_drew1) | exact HB.out)⟩
   ·
    replace c10 := Bool.eq_false_iff.mpr c10
    subst c10
    have H1 : ((expr_reckon.f kj2 l0 0 l1).bind fun bt173 => (if bt173.2.2 = true then (some (0, 20)) else (some (bt173.1, 0)))) = some (r1, r2) := by rw [if_neg (show ¬ (false = true) by decide)] at H; exact H
    clear H
    have H := H1
    clear H1
    replace H := Option.bind_eq_some_iff.mp H
    obtain ⟨⟨t173, t174, t175⟩, A110, H⟩ := H
    replace H : (if t175 = true then (some (0, 20)) else (some (t173, 0))) = some (r1, r2) := H
    have A11 := Aside0.mk A110
    clear A110
    by_cases c12 : t175 = true
    ·
     subst c12
     have H1 : (some (0, 20)) = some (r1, r2) := by rw [if_pos rfl] at H; exact H
     clear H
     have H := H1
     clear H1
     simp only [Option.some.injEq, Prod.mk.injEq] at H
     obtain ⟨rfl, rfl⟩ := H
     go_wp2_with (first | ((with_reducible refine gate_callee (f := 41) rfl ?_); refine goesL_ (some 18) rfl rfl Tryd.func41 (by kernel_rfl) rfl #[.slice A0 l0.length c0, .int .i64 0, .slice A1 l1.length c1] rfl q5_3 ?_; (with_reducible refine (expr_reckon.calls kj2 _ _ l0 0 _ _ l1 t173 t174 true _ ?side5 ?side1 ?side2 ?side3 ?side4 A11.out).mono ?_); (case side1 => exact q5_1); (case side2 => exact HC0.out); (case side3 => exact q5_4); (case side4 => exact HC1.out); (case side5 => exact q5_2); rintro e w13 ⟨rfl, hb⟩; refine ⟨_, rfl, ?_⟩; have n0_ := Aside0.mk (below_step q5_0 hb); clear HB; have HB := n0_; clear n0_; (try clear hb); (try clear hb2); (try clear hk); (try clear hi)) | ((with_reducible refine gate_dst (N := 6) rfl ?_); refine box_event ?hg (N := 6) ?hd (cs := #[.int .i64 0, .bool false, .bool false]) (t := 92) ?hr ?_; (case hd => rfl); (case hg => rfl); (case hr => exact q5_6); intro gb176 hg w14 hbox hb; have n0_ := Aside0.mk (below_step q5_0 hb); have n1_ := Aside0.mk (hbox); have n2_ := Aside0.mk ((by rw [hg]; exact (below_size q5_0) : w.heap.size ≤ gb176)); have n3_ := Aside0.mk ((by rw [hg]; exact (below_size q5_0) : w.heap.size ≤ gb176)); clear HB; have HB := n0_; have BK176 := n1_; have GW176 := n2_; have GE176 := n3_; clear n0_ n1_ n2_ n3_; clear hb hbox hg; have hcz15_0 : w14.cell? ⟨gb176, 0, none⟩ = some (.int .i64 0) := (blk_cell BK176.out 0).trans rfl; have hcz15_1 : w14.cell? ⟨gb176, 1, none⟩ = some (.bool false) := (blk_cell BK176.out 1).trans rfl; have hcz15_2 : w14.cell? ⟨gb176, 2, none⟩ = some (.bool false) := (blk_cell BK176.out 2).trans rfl; have hfz15_0 := blk_frozen BK176.out 0; have hfz15_1 := blk_frozen BK176.out 1; have hfz15_2 := blk_frozen BK176.out 2))
     go_ret2
     exact ⟨by first | rfl | (simp [errW_none, errW_some] <;> rfl) | (simp [*, errW_none, errW_some] <;> rfl), by repeat (first | (with_reducible first | exact HB.out | apply below_alloc | apply pw_below_drewN | apply below_drew1 | refine below_set ?_ GE176.out) | exact HB.out)⟩
    ·
     replace c12 := Bool.eq_false_iff.mpr c12
     subst c12
     have H1 : (some (t173, 0)) = some (r1, r2) := by rw [if_neg (show ¬ (false = true) by decide)] at H; exact H
     clear H
     have H := H1
     clear H1
     simp only [Option.some.injEq, Prod.mk.injEq] at H
     obtain ⟨rfl, rfl⟩ := H
     go_wp2_with (first | ((with_reducible refine gate_callee (f := 41) rfl ?_); refine goesL_ (some 18) rfl rfl Tryd.func41 (by kernel_rfl) rfl #[.slice A0 l0.length c0, .int .i64 0, .slice A1 l1.length c1] rfl q5_3 ?_; (with_reducible refine (expr_reckon.calls kj2 _ _ l0 0 _ _ l1 t173 t174 false _ ?side5 ?side1 ?side2 ?side3 ?side4 A11.out).mono ?_); (case side1 => exact q5_1); (case side2 => exact HC0.out); (case side3 => exact q5_4); (case side4 => exact HC1.out); (case side5 => exact q5_2); rintro e w16 ⟨rfl, hb⟩; refine ⟨_, rfl, ?_⟩; have n0_ := Aside0.mk (below_step q5_0 hb); clear HB; have HB := n0_; clear n0_; (try clear hb); (try clear hb2); (try clear hk); (try clear hi)) | ((with_reducible refine gate_dst (N := 6) rfl ?_); refine box_event ?hg (N := 6) ?hd (cs := #[.int .i64 0, .bool false, .bool false]) (t := 92) ?hr ?_; (case hd => rfl); (case hg => rfl); (case hr => exact q5_6); intro gb176 hg w17 hbox hb; have n0_ := Aside0.mk (below_step q5_0 hb); have n1_ := Aside0.mk (hbox); have n2_ := Aside0.mk ((by rw [hg]; exact (below_size q5_0) : w.heap.size ≤ gb176)); have n3_ := Aside0.mk ((by rw [hg]; exact (below_size q5_0) : w.heap.size ≤ gb176)); clear HB; have HB := n0_; have BK176 := n1_; have GW176 := n2_; have GE176 := n3_; clear n0_ n1_ n2_ n3_; clear hb hbox hg; have hcz18_0 : w17.cell? ⟨gb176, 0, none⟩ = some (.int .i64 0) := (blk_cell BK176.out 0).trans rfl; have hcz18_1 : w17.cell? ⟨gb176, 1, none⟩ = some (.bool false) := (blk_cell BK176.out 1).trans rfl; have hcz18_2 : w17.cell? ⟨gb176, 2, none⟩ = some (.bool false) := (blk_cell BK176.out 2).trans rfl; have hfz18_0 := blk_frozen BK176.out 0; have hfz18_1 := blk_frozen BK176.out 1; have hfz18_2 := blk_frozen BK176.out 2))
     go_ret2
     exact ⟨by first | rfl | (simp [errW_none, errW_some] <;> rfl) | (simp [*, errW_none, errW_some] <;> rfl), by repeat (first | (with_reducible first | exact HB.out | apply below_alloc | apply pw_below_drewN | apply below_drew1 | refine below_set ?_ GE176.out) | exact HB.out)⟩

/-! ### strconv_Itoa: function 81 -/
def strconv_Itoa.f (a0 : Int) : Option ByteArray := if -9223372036854775808 ≤ a0 ∧ a0 ≤ 9223372036854775807 then some ⟨(Lib.itoa a0).toArray⟩ else none
theorem strconv_Itoa.calls (a0 : Int) (r : ByteArray) (w : World) (hG : Glob w) (h : strconv_Itoa.f a0 = some r) :
    Calls Tryd.prog 81 #[.int .i64 a0] w fun e w' => e = .returned (.string r) ∧ Below w.heap.size w w' := by
  unfold strconv_Itoa.f at h
  split at h
  · rename_i hr
    obtain rfl := Option.some.inj h
    exact (Tryd.strconv_Itoa a0 hr.1 hr.2 w hG.t_tab_internal_strconv_uint64pow10).mono fun e w' ⟨he, k, os, hw⟩ => ⟨he, by subst hw; exact Go.Lib.below_grow _ w (Nat.le_refl _) k os⟩
  · cases h

-- expr_part: beside expr_text

end Go.Proofs.YtjoefhhfppijaaaDoor.PAll
