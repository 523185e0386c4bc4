-- written by wip/tools/xprint.py (over the kit's print.py): not trusted, Lean checks it.
import Derived.Test.YtgkcjefbagnkpaaDoorPValx0
namespace Go.Proofs.YtgkcjefbagnkpaaDoor.PVal
open Go.RowKit Go.Proofs.YtgkcjefbagnkpaaDoorW.PrintWords Go.Proofs.YtgkcjefbagnkpaaDoorW.PrintLast Go.Proofs.YtgkcjefbagnkpaaDoorW.PrintMore Go.Proofs.YtgkcjefbagnkpaaDoorXW
attribute [local go_sem high] cell_set_map Option.map_some
attribute [local go_sem] max2_int min2_int max_two min_two max_three min_three max_four min_four   -- for this text's walks alone
set_option linter.unusedVariables false
set_option linter.unusedSimpArgs false

/-! ### expr_of: function 77 -/
abbrev KindT := Int × Bool × Bool × ByteArray × Int
def kindL : List KindT := [(0, false, false, ⟨#[]⟩, 0), (0, false, false, ⟨#[]⟩, 9), (0, false, false, ⟨#[]⟩, 9), (1, false, false, ⟨#[45]⟩, 6), (2, false, false, ⟨#[43]⟩, 4), (2, false, false, ⟨#[45]⟩, 4), (2, false, false, ⟨#[42]⟩, 5), (0, true, false, ⟨#[116, 114, 117, 101]⟩, 9), (2, true, false, ⟨#[60]⟩, 3), (2, true, false, ⟨#[60, 61]⟩, 3), (2, true, false, ⟨#[61, 61]⟩, 3), (2, true, false, ⟨#[33, 61]⟩, 3), (1, true, true, ⟨#[33]⟩, 9), (2, true, true, ⟨#[38, 38]⟩, 2), (2, true, true, ⟨#[124, 124]⟩, 1)]
def kindAt (a0 : Int) : KindT := kindL.getD a0.toNat (0, false, false, ⟨#[]⟩, 0)
def expr_of.f (a0 : Int) : Option (Int × Bool × Bool × ByteArray × Int × Bool) :=
  if a0 < 1 then some (0, false, false, ⟨#[]⟩, 0, false) else if a0 > 14 then some (0, false, false, ⟨#[]⟩, 0, false) else
    some ((kindAt a0).1, (kindAt a0).2.1, (kindAt a0).2.2.1, (kindAt a0).2.2.2.1, (kindAt a0).2.2.2.2, true)
theorem kind_cells {w : World} (hG : Glob w) (i : Nat) (hi : i < 15) : w.cell? ⟨2, 5 * i, none⟩ = some (.int .i64 (kindAt (i : Int)).1) ∧ w.cell? ⟨2, 5 * i + 1, none⟩ = some (.bool (kindAt (i : Int)).2.1) ∧ w.cell? ⟨2, 5 * i + 2, none⟩ = some (.bool (kindAt (i : Int)).2.2.1) ∧
    w.cell? ⟨2, 5 * i + 3, none⟩ = some (.string (kindAt (i : Int)).2.2.2.1) ∧ w.cell? ⟨2, 5 * i + 4, none⟩ = some (.int .i64 (kindAt (i : Int)).2.2.2.2) := by
  have h : ∀ j, j < 5 → w.cell? ⟨2, 5 * i + j, none⟩ = tab_gnomon_expr_kinds[5 * i + j]? := fun j hj => hG.g_tab_gnomon_expr_kinds _ (by omega)
  have h0 := h 0 (by omega)
  rw [Nat.add_zero] at h0
  rw [h0, h 1 (by omega), h 2 (by omega), h 3 (by omega), h 4 (by omega)]
  have : i = 0 ∨ i = 1 ∨ i = 2 ∨ i = 3 ∨ i = 4 ∨ i = 5 ∨ i = 6 ∨ i = 7 ∨ i = 8 ∨ i = 9 ∨ i = 10 ∨ i = 11 ∨ i = 12 ∨ i = 13 ∨ i = 14 := by omega
  rcases this with rfl | rfl | rfl | rfl | rfl | rfl | rfl | rfl | rfl | rfl | rfl | rfl | rfl | rfl | rfl <;> exact ⟨rfl, rfl, rfl, rfl, rfl⟩
set_option maxHeartbeats 4000000 in
theorem expr_of.calls (a0 : Int) (r1 : Int) (r2 r3 : Bool) (r4 : ByteArray) (r5 : Int) (r6 : Bool) (w : World) (hG : Glob w) (h : expr_of.f a0 = some (r1, r2, r3, r4, r5, r6)) :
    Calls Tryd.prog 77 #[.int .u8 a0] w fun e w' => e = .returned (.tuple #[.agg #[.int .i64 r1, .bool r2, .bool r3, .string r4, .int .i64 r5], .bool r6]) ∧ Below w.heap.size w w' := by
  have hu := Tryd.underlying111
  have HB := Aside0.mk (Below.refl w.heap.size w)
  unfold expr_of.f at h
  by_cases c1 : a0 < 1
  · rw [if_pos c1] at h
    simp only [Option.some.injEq, Prod.mk.injEq] at h
    obtain ⟨rfl, rfl, rfl, rfl, rfl, rfl⟩ := h
    have e1 : decide (a0 < 1) = true := decide_eq_true c1
    clear hG
    go_enter Tryd.func77, Tryd.ntmps77
    go_wp2
    refine bodyPost_ret (results_ct rfl _ _ w.heap.size 111 _ (0, 0) _ rfl (blk_new w _) Tryd.underlying111 rfl (by kernel_rfl)) rfl ?_
    exact ⟨by first | rfl | (simp; done) | (simp [*]; done), by repeat (first | (with_reducible first | exact HB.out | apply below_alloc | apply pw_below_drewN | apply below_drew1) | exact HB.out)⟩
  · rw [if_neg c1] at h
    by_cases c2 : a0 > 14
    · rw [if_pos c2] at h
      simp only [Option.some.injEq, Prod.mk.injEq] at h
      obtain ⟨rfl, rfl, rfl, rfl, rfl, rfl⟩ := h
      have e1 : decide (a0 < 1) = false := decide_eq_false c1
      have e2 : decide (a0 > 14) = true := decide_eq_true c2
      have e3 : decide (14 < a0) = true := decide_eq_true c2
      clear hG
      go_enter Tryd.func77, Tryd.ntmps77
      go_wp2
      refine bodyPost_ret (results_ct rfl _ _ w.heap.size 111 _ (0, 0) _ rfl (blk_new w _) Tryd.underlying111 rfl (by kernel_rfl)) rfl ?_
      exact ⟨by first | rfl | (simp; done) | (simp [*]; done), by repeat (first | (with_reducible first | exact HB.out | apply below_alloc | apply pw_below_drewN | apply below_drew1) | exact HB.out)⟩
    · rw [if_neg c2] at h
      simp only [Option.some.injEq, Prod.mk.injEq] at h
      obtain ⟨rfl, rfl, rfl, rfl, rfl, rfl⟩ := h
      obtain ⟨i, rfl, hi⟩ : ∃ i : Nat, a0 = (i : Int) ∧ i < 15 := ⟨a0.toNat, by omega, by omega⟩
      have hk := fun o => kind_cells (hG.alloc o) i hi
      clear hG
      have : i = 1 ∨ i = 2 ∨ i = 3 ∨ i = 4 ∨ i = 5 ∨ i = 6 ∨ i = 7 ∨ i = 8 ∨ i = 9 ∨ i = 10 ∨ i = 11 ∨ i = 12 ∨ i = 13 ∨ i = 14 := by omega
      have k0 := fun o => (hk o).1
      have k1 := fun o => (hk o).2.1
      have k2 := fun o => (hk o).2.2.1
      have k3 := fun o => (hk o).2.2.2.1
      have k4 := fun o => (hk o).2.2.2.2
      clear hk c1 c2 hi
      rcases this with rfl | rfl | rfl | rfl | rfl | rfl | rfl | rfl | rfl | rfl | rfl | rfl | rfl | rfl <;>
      · simp only [Nat.reduceMul, Nat.reduceAdd] at k0 k1 k2 k3 k4
        go_enter Tryd.func77, Tryd.ntmps77
        go_wp2
        refine bodyPost_ret (results_ct rfl _ _ w.heap.size 111 _ (0, 0) _ rfl (blk_new w _) Tryd.underlying111 rfl (by kernel_rfl)) rfl ?_
        exact ⟨by first | rfl | (simp; done) | (simp [*]; done), by repeat (first | (with_reducible first | exact HB.out | apply below_alloc | apply pw_below_drewN | apply below_drew1) | exact HB.out)⟩


/-! ### expr_End: function 76 -/
def expr_End.l0 : Nat → List (S68) → Int → Int → Option (Int)
 | 0, _, _, _ => none
 | k + 1, x0, x1, x5 => if x5 > 0 then (if x1 ≥ (x0.length : Int) then (some 0) else (if 0 ≤ x1 then (if x1 < (x0.length : Int) then ((expr_of.f ((rd_T68 x0 x1).f0)).bind fun bt102 => (expr_End.l0 k x0 (wrap64 (x1 + 1)) (wrap64 ((wrap64 (x5 + bt102.1)) - 1)))) else (none)) else (none))) else (some x1)
def expr_End.f (k : Nat) (l0 : List (S68)) (a1 : Int) : Option (Int) := if a1 < 0 then (some 0) else (expr_End.l0 k l0 a1 1)
theorem expr_End.mono_l : ∀ k, (∀ y0 y1 y2, LeO (expr_End.l0 k y0 y1 y2) (expr_End.l0 (k + 1) y0 y1 y2))
 | 0 => fun _ _ _ r h => by simp [expr_End.l0] at h
 | k + 1 => by
  have ih0 := expr_End.mono_l k
  ·
   intro y0 y1 y2
   unfold expr_End.l0
   repeat' first
   | (with_reducible exact ih0 _ _ _)
   | (with_reducible exact LeO.refl _)
   | (with_reducible exact LeO.none _)
   | (with_reducible refine LeO.ite ?_ ?_)
   | (with_reducible refine LeO.bind ?_ (fun _ => ?_))
   | exact ih0 _ _ _
   | exact LeO.none _
   | refine LeO.ite ?_ ?_
   | refine LeO.bind ?_ (fun _ => ?_)
theorem expr_End.mono : ∀ a0 a1 k, LeO (expr_End.f k a0 a1) (expr_End.f (k + 1) a0 a1) := by
 intro a0 a1 k
 have ih0 := expr_End.mono_l k
 unfold expr_End.f
 repeat' first
   | (with_reducible exact ih0 _ _ _)
   | (with_reducible exact LeO.refl _)
   | (with_reducible exact LeO.none _)
   | (with_reducible refine LeO.ite ?_ ?_)
   | (with_reducible refine LeO.bind ?_ (fun _ => ?_))
   | exact ih0 _ _ _
   | exact LeO.none _
   | refine LeO.ite ?_ ?_
   | refine LeO.bind ?_ (fun _ => ?_)
set_option maxHeartbeats 8000000 in
set_option maxRecDepth 100000 in
theorem expr_End.calls (k : Nat) (A0 : Option Addr) (c0 : Nat) (l0 : List (S68)) (a1 : Int) (r : Int) (w : World) (hG : Glob w) (hr0 : Kd.C k68 w A0 l0.length l0) (hc0 : l0.length ≤ c0) (h : expr_End.f k l0 a1 = some r) :
  Calls Tryd.prog 76 #[.slice A0 l0.length c0, .int .i64 a1] w fun e w' => e = .returned (.int .i64 r) ∧ Below w.heap.size w w' := by
 have hu111 := Tryd.underlying111
 have HR0 := Aside0.mk hr0
 have HC0 := Aside0.mk hc0
 clear hr0 hc0
 have HGL := Aside0.mk hG
 clear hG
 have HB := Aside0.mk (Below.refl w.heap.size w)
 have H : (if a1 < 0 then (some 0) else (expr_End.l0 k l0 a1 1)) = some r := h
 clear h
 by_cases c3 : a1 < 0
 ·
  rw [if_pos c3] at H
  have c3b0 : decide (a1 < 0) = true := decide_eq_true c3
  clear c3
  obtain rfl := Option.some.inj H
  go_enter Tryd.func76, Tryd.ntmps76
  go_wp2
  go_ret
  exact ⟨by first | rfl | (simp [errW_none, errW_some] <;> rfl) | (simp [*, errW_none, errW_some] <;> rfl), by repeat (first | (with_reducible first | exact HB.out | apply below_alloc | apply pw_below_drewN | apply below_drew1) | exact HB.out)⟩
 ·
  rw [if_neg c3] at H
  have c3b0 : decide (a1 < 0) = false := decide_eq_false c3
  clear c3
  have H' := Aside0.mk H
  clear H
  go_enter Tryd.func76, Tryd.ntmps76
  go_wp2
  go_loopg [1, 5] k (fun kq v1 v5 w' => ∃ (x1_1 : Int) (x5_1 : Int), v1 = .int .i64 x1_1 ∧ v5 = .int .i64 x5_1 ∧ Aside0 (expr_End.l0 kq l0 x1_1 x5_1 = some r) ∧ Aside0 (kq ≤ k) ∧ Aside0 (Below w.heap.size w w'))
  case atStart => exact ⟨(a1), (1), (by first | rfl | (simp; done) | (simp [*]; done)), (by first | rfl | (simp; done) | (simp [*]; done)), H', ⟨Nat.le_refl _⟩, ⟨by repeat (first | (with_reducible first | exact HB.out | apply below_alloc | apply pw_below_drewN | apply below_drew1) | exact HB.out)⟩⟩
  case round =>
   clear H'
   try clear p2
   try clear c3
   try clear c3b0
   obtain ⟨x1_1, x5_1, rfl, rfl, HA, HK1, HB⟩ := hrel
   cases gk with
   | zero => exact absurd HA.out (by simp [expr_End.l0])
   | succ k1 =>
    have H := HA.out
    clear HA
    simp only [expr_End.l0] at H
    by_cases c4 : x5_1 > 0
    ·
     rw [if_pos c4] at H
     have c4b0 : decide (0 < x5_1) = true := decide_eq_true c4
     clear c4
     by_cases c5 : x1_1 ≥ (l0.length : Int)
     ·
      rw [if_pos c5] at H
      have c5b0 : decide ((l0.length : Int) ≤ x1_1) = true := decide_eq_true c5
      clear c5
      obtain rfl := Option.some.inj H
      go_wp2
      go_ret
      exact ⟨by first | rfl | (simp [errW_none, errW_some] <;> rfl) | (simp [*, errW_none, errW_some] <;> rfl), by repeat (first | (with_reducible first | exact HB.out | apply below_alloc | apply pw_below_drewN | apply below_drew1) | exact HB.out)⟩
     ·
      rw [if_neg c5] at H
      have c5b0 : decide ((l0.length : Int) ≤ x1_1) = false := decide_eq_false c5
      clear c5
      by_cases c6 : 0 ≤ x1_1
      ·
       rw [if_pos c6] at H
       have c6b0 : decide (0 ≤ x1_1) = true := decide_eq_true c6
       clear c6
       by_cases c7 : x1_1 < (l0.length : Int)
       ·
        rw [if_pos c7] at H
        have c7b0 : decide (x1_1 < (l0.length : Int)) = true := decide_eq_true c7
        clear c7
        replace H := Option.bind_eq_some_iff.mp H
        obtain ⟨⟨t102, t103, t104, t105, t106, t107⟩, A80, H⟩ := H
        replace H : (expr_End.l0 k1 l0 (wrap64 (x1_1 + 1)) (wrap64 ((wrap64 (x5_1 + t102)) - 1))) = some r := H
        have A8 := Aside0.mk A80
        clear A80
        have H' := Aside0.mk H
        clear H
        have p101 : 0 ≤ (x1_1 : Int) := of_decide_eq_true (by first | (with_reducible assumption) | assumption)
        have q101 : x1_1 < (l0.length : Int) := of_decide_eq_true (by first | (with_reducible assumption) | assumption)
        obtain ⟨ad101, e101, hx101_0, hx101_1⟩ := at_T68 HR0.out x1_1 p101 q101
        cases e101
        replace hx101_0 := (HB.out.cell (World.block_lt_of_cell? w _ hx101_0)).trans hx101_0
        replace hx101_1 := (HB.out.cell (World.block_lt_of_cell? w _ hx101_1)).trans hx101_1
        replace p101 := eq_true p101
        replace q101 := eq_true q101
        go_wp2_with (first | ((with_reducible refine gate_callee (f := 77) rfl ?_); refine goesL_ (some 24) rfl rfl Tryd.func77 (by kernel_rfl) rfl #[.int .u8 ((rd_T68 l0 x1_1).f0)] rfl (by (try simp only [List.map_toArray, List.map_cons, List.map_nil]); first | done | rfl | (simp only [List.length_drop, List.length_take]; rfl)) ?_; (with_reducible refine (expr_of.calls ((rd_T68 l0 x1_1).f0) t102 t103 t104 t105 t106 t107 _ ?side1 A8.out).mono ?_); (case side1 => repeat (first | exact (HGL.out.below HB.out) | (with_reducible refine Glob.alloc ?_ _) | (with_reducible refine Glob.drewN ?_ _) | (with_reducible refine Glob.drew ?_))); rintro e w9 ⟨rfl, hb⟩; refine ⟨_, rfl, ?_⟩; have n0_ := Aside0.mk (below_step (by repeat (first | (with_reducible first | exact HB.out | apply below_alloc | apply pw_below_drewN | apply below_drew1) | exact HB.out)) hb); clear HB; have HB := n0_; clear n0_; (try clear hb); (try clear hb2); (try clear hk); (try clear hi)) | ((with_reducible refine gate_dst (N := 6) rfl ?_); refine box_event ?hg (N := 6) ?hd (cs := #[.int .i64 0, .bool false, .bool false, .string (⟨#[]⟩ : ByteArray), .int .i64 0]) (t := 111) ?hr ?_; (case hd => rfl); (case hg => rfl); (case hr => first | (go_simp; done) | (go_simp; rfl)); intro gb108 hg w10 hbox hb; have n0_ := Aside0.mk (below_step (by repeat (first | (with_reducible first | exact HB.out | apply below_alloc | apply pw_below_drewN | apply below_drew1) | exact HB.out)) hb); have n1_ := Aside0.mk (hbox); have n2_ := Aside0.mk ((by rw [hg]; exact (below_size (by repeat (first | (with_reducible first | exact HB.out | apply below_alloc | apply pw_below_drewN | apply below_drew1) | exact HB.out))) : w.heap.size ≤ gb108)); have n3_ := Aside0.mk ((by rw [hg]; exact (below_size (by repeat (first | (with_reducible first | exact HB.out | apply below_alloc | apply pw_below_drewN | apply below_drew1) | exact HB.out))) : w.heap.size ≤ gb108)); clear HB; have HB := n0_; have BK108 := n1_; have GW108 := n2_; have GE108 := n3_; clear n0_ n1_ n2_ n3_; clear hb hbox hg; have hcz11_0 : w10.cell? ⟨gb108, 0, none⟩ = some (.int .i64 0) := (blk_cell BK108.out 0).trans rfl; have hcz11_1 : w10.cell? ⟨gb108, 1, none⟩ = some (.bool false) := (blk_cell BK108.out 1).trans rfl; have hcz11_2 : w10.cell? ⟨gb108, 2, none⟩ = some (.bool false) := (blk_cell BK108.out 2).trans rfl; have hcz11_3 : w10.cell? ⟨gb108, 3, none⟩ = some (.string (⟨#[]⟩ : ByteArray)) := (blk_cell BK108.out 3).trans rfl; have hcz11_4 : w10.cell? ⟨gb108, 4, none⟩ = some (.int .i64 0) := (blk_cell BK108.out 4).trans rfl; have hfz11_0 := blk_frozen BK108.out 0; have hfz11_1 := blk_frozen BK108.out 1; have hfz11_2 := blk_frozen BK108.out 2; have hfz11_3 := blk_frozen BK108.out 3; have hfz11_4 := blk_frozen BK108.out 4))
        go_roundg k1
        case measure => have := HK1.out; omega
        case rel => exact ⟨(wrap64 (x1_1 + 1)), (wrap64 ((wrap64 (x5_1 + t102)) - 1)), (by first | rfl | (simp; done) | (simp [*]; done)), (by first | rfl | (simp; done) | (simp [*]; done)), H', ⟨by have := HK1.out; omega⟩, ⟨by repeat (first | (with_reducible first | exact HB.out | apply below_alloc | apply pw_below_drewN | apply below_drew1 | refine below_set ?_ GE108.out) | exact HB.out)⟩⟩
       ·
        rw [if_neg c7] at H
        exact absurd H (by simp)
      ·
       rw [if_neg c6] at H
       exact absurd H (by simp)
    ·
     rw [if_neg c4] at H
     have c4b0 : decide (0 < x5_1) = false := decide_eq_false c4
     clear c4
     obtain rfl := Option.some.inj H
     go_wp2
     go_ret
     exact ⟨by first | rfl | (simp [errW_none, errW_some] <;> rfl) | (simp [*, errW_none, errW_some] <;> rfl), by repeat (first | (with_reducible first | exact HB.out | apply below_alloc | apply pw_below_drewN | apply below_drew1) | exact HB.out)⟩

end Go.Proofs.YtgkcjefbagnkpaaDoor.PVal
