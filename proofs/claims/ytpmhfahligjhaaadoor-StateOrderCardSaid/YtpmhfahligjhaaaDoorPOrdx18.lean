-- written by wip/tools/xprint.py (over the kit's print.py): not trusted, Lean checks it.
import Derived.Test.YtpmhfahligjhaaaDoorPOrdx0
import Derived.Test.YtpmhfahligjhaaaDoorPOrdx1
import Derived.Test.YtpmhfahligjhaaaDoorPOrdx13
import Derived.Test.YtpmhfahligjhaaaDoorPOrdx15
import Derived.Test.YtpmhfahligjhaaaDoorPOrdx16
import Derived.Test.YtpmhfahligjhaaaDoorPOrdx17
-- compact
namespace Go.Proofs.YtpmhfahligjhaaaDoor.POrd
open Go.RowKit Go.Proofs.YtpmhfahligjhaaaDoorW.PrintWords Go.Proofs.YtpmhfahligjhaaaDoorW.PrintLast Go.Proofs.YtpmhfahligjhaaaDoorW.PrintMore Go.Proofs.YtpmhfahligjhaaaDoorXW
attribute [local go_sem high] Option.map_some
attribute [local go_sem] max2_int max_two
set_option linter.unusedVariables false
set_option linter.unusedSimpArgs false

theorem q18_0 {p : Prop} (h : p := by repeat (first | (with_reducible first | exact HB.out | apply below_alloc | apply pw_below_drewN | apply below_drew1 | refine below_set ?_ GE396.out) | exact HB.out)) : p := h
theorem q18_1 {p : Prop} (h : p := by (with_reducible repeat (first | apply Kd.R_alloc | apply Kd.R_drewN | apply Kd.R_drew)); exact HO385.out) : p := h
theorem q18_2 {p : Prop} (h : p := by (with_reducible repeat (first | apply Kd.R_alloc | apply Kd.R_drewN | apply Kd.R_drew)); exact HO379.out) : p := h
theorem q18_3 {p : Prop} (h : p := by (with_reducible repeat (first | apply Kd.R_alloc | apply Kd.R_drewN | apply Kd.R_drew)); exact HO382.out) : p := h
theorem q18_5 {p : Prop} (h : p := by (with_reducible repeat (first | apply Kd.R_alloc | apply Kd.R_drewN | apply Kd.R_drew)); exact HO405.out) : p := h
theorem q18_6 {p : Prop} (h : p := by (with_reducible repeat (first | apply Kd.R_alloc | apply Kd.R_drewN | apply Kd.R_drew)); exact HO399.out) : p := h
theorem q18_7 {p : Prop} (h : p := by (with_reducible repeat (first | apply Kd.N_alloc | apply Kd.N_drewN | apply Kd.N_drew)); exact HO388.out) : p := h
theorem q18_9 {p : Prop} (h : p := by (with_reducible repeat (first | refine blk_drewN ?_ _ | refine blk_drew ?_ | refine blk_alloc ?_ _)); exact BK396.out) : p := h
theorem q18_10 {p : Prop} (h : p := by (with_reducible repeat (first | apply Kd.R_alloc | apply Kd.R_drewN | apply Kd.R_drew)); exact HO394.out) : p := h
theorem q18_11 {p : Prop} (h : p := by (with_reducible repeat (first | apply Kd.R_alloc | apply Kd.R_drewN | apply Kd.R_drew)); exact HO391.out) : p := h
theorem q18_12 {p : Prop} (h : p := by (with_reducible repeat (first | apply Kd.R_alloc | apply Kd.R_drewN | apply Kd.R_drew)); exact HO402.out) : p := h
theorem q18_13 {p : Prop} (h : p := by (with_reducible repeat (first | apply Kd.N_alloc | apply Kd.N_drewN | apply Kd.N_drew)); exact HO408.out) : p := h
theorem q18_15 {p : Prop} (h : p := by (with_reducible repeat (first | apply Kd.R_alloc | apply Kd.R_drewN | apply Kd.R_drew)); exact HO419.out) : p := h
theorem q18_16 {p : Prop} (h : p := by (with_reducible repeat (first | apply Kd.R_alloc | apply Kd.R_drewN | apply Kd.R_drew)); exact HO413.out) : p := h
theorem q18_17 {p : Prop} (h : p := by (with_reducible repeat (first | apply Kd.R_alloc | apply Kd.R_drewN | apply Kd.R_drew)); exact HO416.out) : p := h
theorem q18_18 {p : Prop} (h : p := by (with_reducible repeat (first | apply Kd.N_alloc | apply Kd.N_drewN | apply Kd.N_drew)); exact HO422.out) : p := h
theorem q18_19 {p : Prop} (h : p := by repeat (first | exact (Kd.R_reads' HO394.out).2.2 | (with_reducible refine Kd.C_alloc ?_ _) | (with_reducible refine Kd.C_drewN ?_ _) | (with_reducible refine Kd.C_drew ?_))) : p := h
theorem q18_20 {p : Prop} (h : p := by repeat (first | exact (Kd.R_reads' HO391.out).2.2 | (with_reducible refine Kd.C_alloc ?_ _) | (with_reducible refine Kd.C_drewN ?_ _) | (with_reducible refine Kd.C_drew ?_))) : p := h
/-! ### gnomonlaw13_live: function 5 -/
def gnomonlaw13_live.f (k : Nat)  : Option (Bool) := (gnomonlaw13_net.f).bind fun bt377 => ((state_First.f k bt377.1 bt377.2.1 bt377.2.2.1 bt377.2.2.2).bind fun bt389 => ((gnomonlaw13_net.f).bind fun bt397 => ((state_Print.f k bt397.1 bt397.2.1 bt397.2.2.1 bt397.2.2.2 bt389.1 bt389.2.1).bind fun bt409 => (if bt389.2.2 = 0 then (if bt409.2 = 0 then (if bt409.1.toList = ([65, 46, 97, 59, 110, 61, 48] : List UInt8) then ((gnomonlaw13_net.f).bind fun bt411 => ((state_Count.f k bt411.1 bt411.2.1 bt411.2.2.1 bt411.2.2.2).bind fun t423 => (if t423 = 10 then ((gnomonlaw13_net.f).bind fun bt424 => ((state_Stays.f k bt424.1 bt424.2.1 bt424.2.2.1 bt424.2.2.2 bt389.1 bt389.2.1).bind fun t436 => (some t436))) else (none)))) else (none)) else (none)) else (none)))))
theorem gnomonlaw13_live.mono : ∀ k, LeO (gnomonlaw13_live.f k ) (gnomonlaw13_live.f (k + 1) ) := by
 intro  k
 unfold gnomonlaw13_live.f
 repeat' first | (with_reducible first | exact state_Count.mono _ _ _ _ _ | exact state_First.mono _ _ _ _ _ | exact state_Print.mono _ _ _ _ _ _ _ | exact state_Stays.mono _ _ _ _ _ _ _ | exact LeO.refl _ | exact LeO.none _ | refine LeO.ite ?_ ?_ | refine LeO.bind ?_ (fun _ => ?_)) | exact LeO.none _ | refine LeO.ite ?_ ?_ | refine LeO.bind ?_ (fun _ => ?_)
def gnomonlaw13_live.T2 : Bool × List (List Nat × List Nat) := (true, [([], []), ([], []), ([0, 1, 0], [0, 1]), ([2], [2]), ([3], [3]), ([3], [3]), ([4, 2, 0, 1, 2, 3, 4], [4]), ([5, 6, 0, 1, 2, 3, 4, 5, 6], [5])])
def gnomonlaw13_live.B2 : List Nat := [0, 0, 3, 7, 15, 15, 31, 127]
theorem gnomonlaw13_live.tab2 : rtab .any (opsOf Tryd.f5 2) = gnomonlaw13_live.T2 := by kernel_rfl
theorem gnomonlaw13_live.bits2 : waitsOk gnomonlaw13_live.T2.2 gnomonlaw13_live.B2 = true := by kernel_rfl
def gnomonlaw13_live.T3 : Bool × List (List Nat × List Nat) := (true, [([], []), ([0], [0]), ([1], [1]), ([2], [2]), ([3, 2], [2, 3]), ([2, 4], [2, 4]), ([5, 2], [5]), ([6], [6]), ([7, 6], [6, 7]), ([6, 8], [6, 8]), ([9, 6], [9]), ([10, 10], [10]), ([11, 11, 10], [10, 11]), ([12, 10], [10, 12]), ([10, 13], [10, 13]), ([14, 12], [14]), ([15, 15], [15]), ([15], [15]), ([16, 17, 16, 15], [15, 16, 17]), ([15, 18], [15, 18]), ([19, 18, 0, 1, 2, 3, 4, 5, 6, 7, 8, 9, 10, 11, 12, 13, 14, 15, 16, 17, 18, 19], [19])])
def gnomonlaw13_live.B3 : List Nat := [0, 1, 3, 7, 15, 31, 63, 127, 255, 511, 1023, 2047, 4095, 8191, 16383, 32767, 65535, 65535, 262143, 524287, 1048575]
theorem gnomonlaw13_live.tab3 : rtab .any (opsOf Tryd.f5 3) = gnomonlaw13_live.T3 := by kernel_rfl
theorem gnomonlaw13_live.bits3 : waitsOk gnomonlaw13_live.T3.2 gnomonlaw13_live.B3 = true := by kernel_rfl
set_option maxHeartbeats 8000000 in
set_option maxRecDepth 100000 in
theorem gnomonlaw13_live.calls (k : Nat)  (r : Bool) (w : World) (hG : Glob w) (h : gnomonlaw13_live.f k  = some r) :
  Calls Tryd.prog 5 #[] w fun e w' => e = .returned (.bool r) ∧ Below w.heap.size w w' := by
 have hu29 := Tryd.underlying29
 have HGL := zM hG
 clear hG
 have HB := zM (Below.refl w.heap.size w)
 have H : ((gnomonlaw13_net.f).bind fun bt377 => ((state_First.f k bt377.1 bt377.2.1 bt377.2.2.1 bt377.2.2.2).bind fun bt389 => ((gnomonlaw13_net.f).bind fun bt397 => ((state_Print.f k bt397.1 bt397.2.1 bt397.2.2.1 bt397.2.2.2 bt389.1 bt389.2.1).bind fun bt409 => (if bt389.2.2 = 0 then (if bt409.2 = 0 then (if bt409.1.toList = ([65, 46, 97, 59, 110, 61, 48] : List UInt8) then ((gnomonlaw13_net.f).bind fun bt411 => ((state_Count.f k bt411.1 bt411.2.1 bt411.2.2.1 bt411.2.2.2).bind fun t423 => (if t423 = 10 then ((gnomonlaw13_net.f).bind fun bt424 => ((state_Stays.f k bt424.1 bt424.2.1 bt424.2.2.1 bt424.2.2.2 bt389.1 bt389.2.1).bind fun t436 => (some t436))) else (none)))) else (none)) else (none)) else (none)))))) = some r := h
 clear h
 replace H := Option.bind_eq_some_iff.mp H
 obtain ⟨⟨t377, t380, t383, t386⟩, A10, H⟩ := H
 replace H : ((state_First.f k t377 t380 t383 t386).bind fun bt389 => ((gnomonlaw13_net.f).bind fun bt397 => ((state_Print.f k bt397.1 bt397.2.1 bt397.2.2.1 bt397.2.2.2 bt389.1 bt389.2.1).bind fun bt409 => (if bt389.2.2 = 0 then (if bt409.2 = 0 then (if bt409.1.toList = ([65, 46, 97, 59, 110, 61, 48] : List UInt8) then ((gnomonlaw13_net.f).bind fun bt411 => ((state_Count.f k bt411.1 bt411.2.1 bt411.2.2.1 bt411.2.2.2).bind fun t423 => (if t423 = 10 then ((gnomonlaw13_net.f).bind fun bt424 => ((state_Stays.f k bt424.1 bt424.2.1 bt424.2.2.1 bt424.2.2.2 bt389.1 bt389.2.1).bind fun t436 => (some t436))) else (none)))) else (none)) else (none)) else (none))))) = some r := H
 have A1 := zM A10
 clear A10
 replace H := Option.bind_eq_some_iff.mp H
 obtain ⟨⟨t389, t392, t395⟩, A20, H⟩ := H
 replace H : ((gnomonlaw13_net.f).bind fun bt397 => ((state_Print.f k bt397.1 bt397.2.1 bt397.2.2.1 bt397.2.2.2 t389 t392).bind fun bt409 => (if t395 = 0 then (if bt409.2 = 0 then (if bt409.1.toList = ([65, 46, 97, 59, 110, 61, 48] : List UInt8) then ((gnomonlaw13_net.f).bind fun bt411 => ((state_Count.f k bt411.1 bt411.2.1 bt411.2.2.1 bt411.2.2.2).bind fun t423 => (if t423 = 10 then ((gnomonlaw13_net.f).bind fun bt424 => ((state_Stays.f k bt424.1 bt424.2.1 bt424.2.2.1 bt424.2.2.2 t389 t392).bind fun t436 => (some t436))) else (none)))) else (none)) else (none)) else (none)))) = some r := H
 have A2 := zM A20
 clear A20
 replace H := Option.bind_eq_some_iff.mp H
 obtain ⟨⟨t397, t400, t403, t406⟩, A30, H⟩ := H
 replace H : ((state_Print.f k t397 t400 t403 t406 t389 t392).bind fun bt409 => (if t395 = 0 then (if bt409.2 = 0 then (if bt409.1.toList = ([65, 46, 97, 59, 110, 61, 48] : List UInt8) then ((gnomonlaw13_net.f).bind fun bt411 => ((state_Count.f k bt411.1 bt411.2.1 bt411.2.2.1 bt411.2.2.2).bind fun t423 => (if t423 = 10 then ((gnomonlaw13_net.f).bind fun bt424 => ((state_Stays.f k bt424.1 bt424.2.1 bt424.2.2.1 bt424.2.2.2 t389 t392).bind fun t436 => (some t436))) else (none)))) else (none)) else (none)) else (none))) = some r := H
 have A3 := zM A30
 clear A30
 replace H := Option.bind_eq_some_iff.mp H
 obtain ⟨⟨t409, t410⟩, A40, H⟩ := H
 replace H : (if t395 = 0 then (if t410 = 0 then (if t409.toList = ([65, 46, 97, 59, 110, 61, 48] : List UInt8) then ((gnomonlaw13_net.f).bind fun bt411 => ((state_Count.f k bt411.1 bt411.2.1 bt411.2.2.1 bt411.2.2.2).bind fun t423 => (if t423 = 10 then ((gnomonlaw13_net.f).bind fun bt424 => ((state_Stays.f k bt424.1 bt424.2.1 bt424.2.2.1 bt424.2.2.2 t389 t392).bind fun t436 => (some t436))) else (none)))) else (none)) else (none)) else (none)) = some r := H
 have A4 := zM A40
 clear A40
 by_cases c5 : t395 = 0
 ·
  rw [if_pos c5] at H
  obtain ⟨c5b0, c5b1⟩ := eqb c5
  clear c5
  by_cases c6 : t410 = 0
  ·
   rw [if_pos c6] at H
   obtain ⟨c6b0, c6b1⟩ := eqb c6
   clear c6
   by_cases c7 : t409.toList = ([65, 46, 97, 59, 110, 61, 48] : List UInt8)
   ·
    rw [if_pos c7] at H
    obtain ⟨c7b0, c7b1⟩ := eqb c7
    clear c7
    replace H := Option.bind_eq_some_iff.mp H
    obtain ⟨⟨t411, t414, t417, t420⟩, A80, H⟩ := H
    replace H : ((state_Count.f k t411 t414 t417 t420).bind fun t423 => (if t423 = 10 then ((gnomonlaw13_net.f).bind fun bt424 => ((state_Stays.f k bt424.1 bt424.2.1 bt424.2.2.1 bt424.2.2.2 t389 t392).bind fun t436 => (some t436))) else (none))) = some r := H
    have A8 := zM A80
    clear A80
    replace H := Option.bind_eq_some_iff.mp H
    obtain ⟨t423, A90, H⟩ := H
    replace H : (if t423 = 10 then ((gnomonlaw13_net.f).bind fun bt424 => ((state_Stays.f k bt424.1 bt424.2.1 bt424.2.2.1 bt424.2.2.2 t389 t392).bind fun t436 => (some t436))) else (none)) = some r := H
    have A9 := zM A90
    clear A90
    by_cases c10 : t423 = 10
    ·
     rw [if_pos c10] at H
     obtain ⟨c10b0, c10b1⟩ := eqb c10
     clear c10
     replace H := Option.bind_eq_some_iff.mp H
     obtain ⟨⟨t424, t427, t430, t433⟩, A110, H⟩ := H
     replace H : ((state_Stays.f k t424 t427 t430 t433 t389 t392).bind fun t436 => (some t436)) = some r := H
     have A11 := zM A110
     clear A110
     replace H := Option.bind_eq_some_iff.mp H
     obtain ⟨t436, A120, H⟩ := H
     replace H : (some t436) = some r := H
     have A12 := zM A120
     clear A120
     obtain rfl := Option.some.inj H
     go_enter Tryd.func5, Tryd.ntmps5
     try go_wp2_with (first | ((with_reducible refine gate_callee (f := 12) rfl ?_); refine goesL_ (some 6) rfl rfl Tryd.func12 (by kernel_rfl) rfl #[] rfl s0 ?_; (with_reducible refine (gnomonlaw13_net.calls  t377 t380 t383 t386 _ A1.out).mono ?_); rintro e w13 ⟨v378, v381, v384, v387, rfl, ho0, ho1, ho2, ho3, hb⟩; refine ⟨_, rfl, ?_⟩; have HO379 := zM (Kd.R_lower (Kd.R_mono (ok' := fun k_ => some k_ ≠ (v384 : Value).ownBlock) ho0 (fun _ hk_ => hk_.2)) (below_size s8)); have HO382 := zM (Kd.R_lower (Kd.R_mono (ok' := fun k_ => True) ho1 (fun _ hk_ => trivial)) (below_size s8)); have HO385 := zM (Kd.R_lower (Kd.R_mono (ok' := fun k_ => some k_ ≠ (v378 : Value).ownBlock) ho2 (fun _ hk_ => hk_.2)) (below_size s8)); have HO388 := zM (Kd.N_lower (Kd.N_mono (ok' := fun k_ => some k_ ≠ (v378 : Value).ownBlock ∧ some k_ ≠ (v381 : Value).ownBlock ∧ some k_ ≠ (v384 : Value).ownBlock) ho3 (fun k_ hk_ => ⟨hk_.2.1, hk_.2.2.1, hk_.2.2.2⟩)) (below_size s8)); replace HB := zM (below_step s8 hb); (try clear hb); (try clear ho0); (try clear ho1); (try clear ho2); (try clear ho3); obtain ⟨Ao14, co14, eo14⟩ := Kd.R_slice HO379.out; subst eo14; obtain ⟨Ao15, co15, eo15⟩ := Kd.R_slice HO382.out; subst eo15; obtain ⟨Ao16, co16, eo16⟩ := Kd.R_slice HO385.out; subst eo16; obtain ⟨Ao17, co17, eo17⟩ := Kd.N_slice HO388.out; subst eo17) | ((with_reducible refine gate_callee (f := 11) rfl ?_); refine goesL_ (some 7) rfl rfl Tryd.func11 (by kernel_rfl) rfl #[.agg #[.slice Ao14 t377.length co14, .slice Ao15 t380.length co15, .slice Ao16 t383.length co16, .slice Ao17 t386.length co17]] rfl s0 ?_; (with_reducible refine (state_First.calls k _ _ t377 _ _ t380 _ _ t383 _ _ t386 t389 t392 t395 _ ?side9 ?side1 ?side2 ?side3 ?side4 ?side5 ?side6 ?side7 ?side8 A2.out).mono ?_); (case side1 => repeat (first | exact (Kd.R_reads' HO379.out).2.2 | (with_reducible refine Kd.C_alloc ?_ _) | (with_reducible refine Kd.C_drewN ?_ _) | (with_reducible refine Kd.C_drew ?_))); (case side2 => exact (Kd.R_reads' HO379.out).2.1); (case side3 => repeat (first | exact (Kd.R_reads' HO382.out).2.2 | (with_reducible refine Kd.C_alloc ?_ _) | (with_reducible refine Kd.C_drewN ?_ _) | (with_reducible refine Kd.C_drew ?_))); (case side4 => exact (Kd.R_reads' HO382.out).2.1); (case side5 => repeat (first | exact (Kd.R_reads' HO385.out).2.2 | (with_reducible refine Kd.C_alloc ?_ _) | (with_reducible refine Kd.C_drewN ?_ _) | (with_reducible refine Kd.C_drew ?_))); (case side6 => exact (Kd.R_reads' HO385.out).2.1); (case side7 => repeat (first | exact (Kd.N_reads' HO388.out).2.2 | (with_reducible refine Kd.C_alloc ?_ _) | (with_reducible refine Kd.C_drewN ?_ _) | (with_reducible refine Kd.C_drew ?_))); (case side8 => exact (Kd.N_reads' HO388.out).2.1); (case side9 => exact s9); rintro e w18 ⟨v390, v393, rfl, ho0, ho1, hb⟩; refine ⟨_, rfl, ?_⟩; have HO391 := zM (Kd.R_lower ho0 (below_size s8)); have HO394 := zM (Kd.R_lower ho1 (below_size s8)); replace HO379 := zM (Kd.R_below q18_2 hb); replace HO382 := zM (Kd.R_below q18_3 hb); replace HO385 := zM (Kd.R_below q18_1 hb); replace HO388 := zM (Kd.N_mono (Kd.N_told (Kd.N_told (Kd.N_old q18_7 hb) (Kd.R_base ho0)) (Kd.R_base ho1)) (fun _ h_ => h_.1)); replace HB := zM (below_step s8 hb); (try clear hb); (try clear ho0); (try clear ho1)) | ((with_reducible refine gate_dst (N := 1) rfl ?_); refine box_ev (N := 1) (cs := #[.slice none 0 0, .slice none 0 0]) (t := 29) ?_; intro gb396 hg w19 hbox hb; have BK396 := zM (hbox); have GE396 := zM (box_ge (n := w.heap.size) hg (below_size s8)); replace HO379 := zM (Kd.R_below q18_2 hb); replace HO382 := zM (Kd.R_below q18_3 hb); replace HO385 := zM (Kd.R_below q18_1 hb); replace HO388 := zM (Kd.N_below (Kd.N_elderB q18_7 gb396 (Nat.le_of_eq hg.symm)) hb); replace HO391 := zM (Kd.R_below q18_11 hb); replace HO394 := zM (Kd.R_below q18_10 hb); replace HB := zM (below_step s8 hb); clear hb hbox hg; obtain ⟨Ao20, co20, eo20⟩ := Kd.R_slice HO391.out; subst eo20; obtain ⟨hcz21_0, hcz21_1, hfz21_0, hfz21_1⟩ := blk2 BK396.out; obtain ⟨Ao22, co22, eo22⟩ := Kd.R_slice HO394.out; subst eo22))
     have n0_ : Aside0 (Kd.R Kd.string 9 ((w19.setCell ⟨gb396, 0, none⟩ (.slice Ao20 t389.length co20)).setCell ⟨gb396, 1, none⟩ (.slice Ao22 t392.length co22)) w.heap.size (fun k_ => some k_ ≠ (.slice Ao16 t383.length co16 : Value).ownBlock) (.slice Ao14 t377.length co14) t377) := ⟨by (with_reducible repeat (first | apply Kd.R_alloc | apply Kd.R_drewN | apply Kd.R_drew)); exact Kd.R_mono (Kd.R_far (p := ⟨gb396, 1, none⟩) (Kd.R_far (p := ⟨gb396, 0, none⟩) (Kd.R_types HO379.out BK396.out (by decide)) (fun _ hk => hk.2) (.slice Ao20 t389.length co20)) (fun _ hk => hk.2) (.slice Ao22 t392.length co22)) (fun _ hk => hk.1)⟩
     have n1_ : Aside0 (Kd.R k50 50 ((w19.setCell ⟨gb396, 0, none⟩ (.slice Ao20 t389.length co20)).setCell ⟨gb396, 1, none⟩ (.slice Ao22 t392.length co22)) w.heap.size (fun _ => True) (.slice Ao15 t380.length co15) t380) := ⟨by (with_reducible repeat (first | apply Kd.R_alloc | apply Kd.R_drewN | apply Kd.R_drew)); exact Kd.R_mono (Kd.R_far (p := ⟨gb396, 1, none⟩) (Kd.R_far (p := ⟨gb396, 0, none⟩) (Kd.R_types HO382.out BK396.out (by decide)) (fun _ hk => hk.2) (.slice Ao20 t389.length co20)) (fun _ hk => hk.2) (.slice Ao22 t392.length co22)) (fun _ hk => trivial)⟩
     have n2_ : Aside0 (Kd.R Kd.string 9 ((w19.setCell ⟨gb396, 0, none⟩ (.slice Ao20 t389.length co20)).setCell ⟨gb396, 1, none⟩ (.slice Ao22 t392.length co22)) w.heap.size (fun k_ => some k_ ≠ (.slice Ao14 t377.length co14 : Value).ownBlock) (.slice Ao16 t383.length co16) t383) := ⟨by (with_reducible repeat (first | apply Kd.R_alloc | apply Kd.R_drewN | apply Kd.R_drew)); exact Kd.R_mono (Kd.R_far (p := ⟨gb396, 1, none⟩) (Kd.R_far (p := ⟨gb396, 0, none⟩) (Kd.R_types HO385.out BK396.out (by decide)) (fun _ hk => hk.2) (.slice Ao20 t389.length co20)) (fun _ hk => hk.2) (.slice Ao22 t392.length co22)) (fun _ hk => hk.1)⟩
     have n3_ : Aside0 (Kd.N k61 61 ((w19.setCell ⟨gb396, 0, none⟩ (.slice Ao20 t389.length co20)).setCell ⟨gb396, 1, none⟩ (.slice Ao22 t392.length co22)) w.heap.size (fun k_ => some k_ ≠ (.slice Ao14 t377.length co14 : Value).ownBlock ∧ some k_ ≠ (.slice Ao15 t380.length co15 : Value).ownBlock ∧ some k_ ≠ (.slice Ao16 t383.length co16 : Value).ownBlock ∧ some k_ ≠ (.slice Ao20 t389.length co20 : Value).ownBlock ∧ some k_ ≠ (.slice Ao22 t392.length co22 : Value).ownBlock ∧ k_ ≠ gb396) (.slice Ao17 t386.length co17) t386) := ⟨by (with_reducible repeat (first | apply Kd.N_alloc | apply Kd.N_drewN | apply Kd.N_drew)); exact Kd.N_mono (Kd.N_far (p := ⟨gb396, 1, none⟩) (Kd.N_far (p := ⟨gb396, 0, none⟩) (Kd.N_mono HO388.out (fun k_ hk => (⟨hk, hk.2⟩ : _ ∧ k_ ≠ gb396))) (fun _ hk => hk.2) (.slice Ao20 t389.length co20)) (fun _ hk => hk.2) (.slice Ao22 t392.length co22)) (fun _ hk => ⟨hk.1.1.1.1.1, ⟨hk.1.1.1.1.2.1, ⟨hk.1.1.1.1.2.2, ⟨hk.1.1.1.2, ⟨hk.1.1.2, hk.1.2⟩⟩⟩⟩⟩)⟩
     have n4_ : Aside0 (Kd.R (Kd.int .i64) 3 ((w19.setCell ⟨gb396, 0, none⟩ (.slice Ao20 t389.length co20)).setCell ⟨gb396, 1, none⟩ (.slice Ao22 t392.length co22)) w.heap.size (fun k_ => some k_ ≠ (.slice Ao22 t392.length co22 : Value).ownBlock) (.slice Ao20 t389.length co20) t389) := ⟨by (with_reducible repeat (first | apply Kd.R_alloc | apply Kd.R_drewN | apply Kd.R_drew)); exact Kd.R_mono (Kd.R_far (p := ⟨gb396, 1, none⟩) (Kd.R_far (p := ⟨gb396, 0, none⟩) (Kd.R_types HO391.out BK396.out (by decide)) (fun _ hk => hk.2) (.slice Ao20 t389.length co20)) (fun _ hk => hk.2) (.slice Ao22 t392.length co22)) (fun _ hk => hk.1)⟩
     have n5_ : Aside0 (Kd.R (Kd.int .i64) 3 ((w19.setCell ⟨gb396, 0, none⟩ (.slice Ao20 t389.length co20)).setCell ⟨gb396, 1, none⟩ (.slice Ao22 t392.length co22)) w.heap.size (fun k_ => some k_ ≠ (.slice Ao20 t389.length co20 : Value).ownBlock) (.slice Ao22 t392.length co22) t392) := ⟨by (with_reducible repeat (first | apply Kd.R_alloc | apply Kd.R_drewN | apply Kd.R_drew)); exact Kd.R_mono (Kd.R_far (p := ⟨gb396, 1, none⟩) (Kd.R_far (p := ⟨gb396, 0, none⟩) (Kd.R_types HO394.out BK396.out (by decide)) (fun _ hk => hk.2) (.slice Ao20 t389.length co20)) (fun _ hk => hk.2) (.slice Ao22 t392.length co22)) (fun _ hk => hk.1)⟩
     have n6_ : Aside0 (((w19.setCell ⟨gb396, 0, none⟩ (.slice Ao20 t389.length co20)).setCell ⟨gb396, 1, none⟩ (.slice Ao22 t392.length co22)).heap[gb396]? = some (.cells #[.slice Ao20 t389.length co20, .slice Ao22 t392.length co22] 29 (0, 0))) := ⟨by (with_reducible repeat (first | refine blk_drewN ?_ _ | refine blk_drew ?_ | refine blk_alloc ?_ _)); apply blk_fill2; (with_reducible repeat (first | refine blk_drewN ?_ _ | refine blk_drew ?_ | refine blk_alloc ?_ _)); exact BK396.out⟩
     have n7_ : Aside0 (Below w.heap.size w ((w19.setCell ⟨gb396, 0, none⟩ (.slice Ao20 t389.length co20)).setCell ⟨gb396, 1, none⟩ (.slice Ao22 t392.length co22))) := ⟨by repeat (first | (with_reducible first | exact HB.out | apply below_alloc | apply pw_below_drewN | apply below_drew1 | refine below_set ?_ GE396.out) | exact HB.out)⟩
     (try clear HO379)
     (try clear HO382)
     (try clear HO385)
     (try clear HO388)
     (try clear HO391)
     (try clear HO394)
     (try clear BK396)
     (try clear HB)
     generalize ((w19.setCell ⟨gb396, 0, none⟩ (.slice Ao20 t389.length co20)).setCell ⟨gb396, 1, none⟩ (.slice Ao22 t392.length co22)) = w23 at n0_ n1_ n2_ n3_ n4_ n5_ n6_ n7_ ⊢
     have HO379 := n0_
     have HO382 := n1_
     have HO385 := n2_
     have HO388 := n3_
     have HO391 := n4_
     have HO394 := n5_
     have BK396 := n6_
     have HB := n7_
     clear n0_ n1_ n2_ n3_ n4_ n5_ n6_ n7_
     have n0_ := zM (Kd.R_drew HO379.out)
     have n1_ := zM (Kd.R_drew HO382.out)
     have n2_ := zM (Kd.R_drew HO385.out)
     have n3_ := zM (Kd.N_drew HO388.out)
     have n4_ := zM (Kd.R_drew HO391.out)
     have n5_ := zM (Kd.R_drew HO394.out)
     have n6_ := zM (blk_drew BK396.out)
     have n7_ := zM (below_drew1 HB.out)
     clear HO379
     clear HO382
     clear HO385
     clear HO388
     clear HO391
     clear HO394
     clear BK396
     clear HB
     have HO379 := n0_
     have HO382 := n1_
     have HO385 := n2_
     have HO388 := n3_
     have HO391 := n4_
     have HO394 := n5_
     have BK396 := n6_
     have HB := n7_
     clear n0_ n1_ n2_ n3_ n4_ n5_ n6_ n7_
     refine start_ (n := 8) (S := fun w' => w'.cell? ⟨gb396, 0, none⟩ = some (.slice Ao20 t389.length co20) ∧ w'.cell? ⟨gb396, 1, none⟩ = some (.slice Ao22 t392.length co22)) (ds := []) #[false, false, false, false, false, false, false, false] (by kernel_rfl) rfl rfl ⟨(blk_cell BK396.out 0).trans rfl, (blk_cell BK396.out 1).trans rfl⟩ (fun hHeld => ?_); refine with_tabW gnomonlaw13_live.tab2 gnomonlaw13_live.bits2 (fun HT_ HW_ => ?_)
     generalize w23.drew = w24 at HO379 HO382 HO385 HO388 HO391 HO394 BK396 HB hHeld ⊢
     refine take_ (i := 1) (N := some 12) (v := ?_) (a' := ?_) #[false, true, false, false, false, false, false, false] rfl rfl (take_ofW HT_.out HW_.out (by kernel_rfl)) (fun _ _ _ h => h) (Or.inl ⟨by rfl, ?_⟩) hHeld ?_ ?_
     rotate_left
     ·
      rintro w' ⟨s0, s1⟩
      go_simp
      with_reducible rfl
     rotate_left
     ·
      simp only [Act.put, List.setIfInBounds_toArray, List.set_cons_zero, List.set_cons_succ, i64_w, i32_w]
      rfl
     refine one_ (i := 0) (N := some 11) #[true, true, false, false, false, false, false, false] rfl rfl (one_of HT_.out (by kernel_rfl)) (by decide) (fun K hK => ?_)
     refine goes_ Tryd.func12 (by kernel_rfl) rfl #[] (by rfl) rfl rfl s0 ?_
     with_reducible refine (gnomonlaw13_net.calls  t397 t400 t403 t406 _ A3.out).mono ?_
     rintro e w25 ⟨v398, v401, v404, v407, rfl, ho0, ho1, ho2, ho3, hb⟩
     refine ⟨_, rfl, ?_⟩
     have n0_ := zM (Kd.R_mono (Kd.R_told (Kd.R_told (Kd.R_old q18_2 hb) (Kd.R_base ho0)) (Kd.R_base ho2)) (fun _ h_ => h_.1))
     have n1_ := zM (Kd.R_elder' q18_3 (Kd.R_base ho1) hb)
     have n2_ := zM (Kd.R_mono (Kd.R_told (Kd.R_told (Kd.R_old q18_1 hb) (Kd.R_base ho0)) (Kd.R_base ho2)) (fun _ h_ => h_.1))
     have n3_ := zM (Kd.N_mono (Kd.N_told (Kd.N_told (Kd.N_told (Kd.N_told (Kd.N_old q18_7 hb) (Kd.R_base ho0)) (Kd.R_base ho1)) (Kd.R_base ho2)) (Kd.N_base ho3)) (fun _ h_ => h_.1))
     have n4_ := zM (Kd.R_below q18_11 hb)
     have n5_ := zM (Kd.R_below q18_10 hb)
     have n6_ := zM (Kd.R_lower (Kd.R_new' (Kd.R_new' (Kd.R_mono (ok' := fun k_ => some k_ ≠ (v404 : Value).ownBlock) ho0 (fun _ hk_ => hk_.2)) (Kd.R_lt q18_2)) (Kd.R_lt q18_1)) (below_size q18_0))
     have n7_ := zM (Kd.R_lower (Kd.R_new' (Kd.R_mono (ok' := fun k_ => True) ho1 (fun _ hk_ => trivial)) (Kd.R_lt q18_3)) (below_size q18_0))
     have n8_ := zM (Kd.R_lower (Kd.R_new' (Kd.R_new' (Kd.R_mono (ok' := fun k_ => some k_ ≠ (v398 : Value).ownBlock) ho2 (fun _ hk_ => hk_.2)) (Kd.R_lt q18_2)) (Kd.R_lt q18_1)) (below_size q18_0))
     have n9_ := zM (Kd.N_lower (Kd.N_mono (ok' := fun k_ => some k_ ≠ (v398 : Value).ownBlock ∧ some k_ ≠ (v401 : Value).ownBlock ∧ some k_ ≠ (v404 : Value).ownBlock ∧ some k_ ≠ (.slice Ao14 t377.length co14 : Value).ownBlock ∧ some k_ ≠ (.slice Ao15 t380.length co15 : Value).ownBlock ∧ some k_ ≠ (.slice Ao16 t383.length co16 : Value).ownBlock ∧ some k_ ≠ (.slice Ao17 t386.length co17 : Value).ownBlock ∧ some k_ ≠ (.slice Ao20 t389.length co20 : Value).ownBlock ∧ some k_ ≠ (.slice Ao22 t392.length co22 : Value).ownBlock ∧ k_ ≠ gb396) ho3 (fun k_ hk_ => ⟨hk_.2.1, hk_.2.2.1, hk_.2.2.2, (Kd.fresh' (Kd.R_lt q18_2) k_ hk_.1), (Kd.fresh' (Kd.R_lt q18_3) k_ hk_.1), (Kd.fresh' (Kd.R_lt q18_1) k_ hk_.1), (Kd.fresh' (Kd.N_lt q18_7) k_ hk_.1), (Kd.fresh' (Kd.R_lt q18_11) k_ hk_.1), (Kd.fresh' (Kd.R_lt q18_10) k_ hk_.1), (Kd.freshB (g := gb396) (o := .cells #[.slice Ao20 t389.length co20, .slice Ao22 t392.length co22] 29 (0, 0)) q18_9 k_ hk_.1)⟩)) (below_size q18_0))
     have n10_ := zM (blk_below (g := gb396) q18_9 hb)
     have n11_ := zM (below_step q18_0 hb)
     clear HO379
     clear HO382
     clear HO385
     clear HO388
     clear HO391
     clear HO394
     clear BK396
     clear HB
     have HO379 := n0_
     have HO382 := n1_
     have HO385 := n2_
     have HO388 := n3_
     have HO391 := n4_
     have HO394 := n5_
     have HO399 := n6_
     have HO402 := n7_
     have HO405 := n8_
     have HO408 := n9_
     have BK396 := n10_
     have HB := n11_
     clear n0_ n1_ n2_ n3_ n4_ n5_ n6_ n7_ n8_ n9_ n10_ n11_
     (try clear hb)
     (try clear hb2)
     (try clear hk)
     (try clear hi)
     (try clear ho0)
     (try clear ho1)
     (try clear ho2)
     (try clear ho3)
     obtain ⟨Ao26, co26, eo26⟩ := Kd.R_slice HO399.out
     (first | subst eo26 | (injection eo26 with f1_ f2_ f3_; have f4_ := f1_.symm; have f5_ := f3_.symm; clear f1_ f2_ f3_; subst f4_; subst f5_))
     obtain ⟨Ao27, co27, eo27⟩ := Kd.R_slice HO402.out
     (first | subst eo27 | (injection eo27 with f1_ f2_ f3_; have f4_ := f1_.symm; have f5_ := f3_.symm; clear f1_ f2_ f3_; subst f4_; subst f5_))
     obtain ⟨Ao28, co28, eo28⟩ := Kd.R_slice HO405.out
     (first | subst eo28 | (injection eo28 with f1_ f2_ f3_; have f4_ := f1_.symm; have f5_ := f3_.symm; clear f1_ f2_ f3_; subst f4_; subst f5_))
     obtain ⟨Ao29, co29, eo29⟩ := Kd.N_slice HO408.out
     (first | subst eo29 | (injection eo29 with f1_ f2_ f3_; have f4_ := f1_.symm; have f5_ := f3_.symm; clear f1_ f2_ f3_; subst f4_; subst f5_))
     refine hK.out _ _ ⟨(blk_cell BK396.out 0).trans rfl, (blk_cell BK396.out 1).trans rfl⟩ (fun hHeld => ?_)
     clear hK K
     refine norm_ (a' := ?_) ?_ ?_
     rotate_left
     ·
      show Act.put _ (some 11) _ = _
      simp only [Act.put, List.setIfInBounds_toArray, List.set_cons_zero, List.set_cons_succ, i64_w, i32_w]
      rfl
     refine one_ (i := 2) (N := some 13) #[true, true, true, false, false, false, false, false] rfl rfl (one_of HT_.out (by kernel_rfl)) (by decide) (fun K hK => ?_)
     refine goes_ Tryd.func13 (by kernel_rfl) rfl #[.agg #[.slice Ao26 t397.length co26, .slice Ao27 t400.length co27, .slice Ao28 t403.length co28, .slice Ao29 t406.length co29], .agg #[.slice Ao20 t389.length co20, .slice Ao22 t392.length co22]] (by rfl) rfl rfl s0 ?_
     with_reducible refine (state_Print.calls k _ _ t397 _ _ t400 _ _ t403 _ _ t406 _ _ t389 _ _ t392 t409 t410 _ ?side13 ?side1 ?side2 ?side3 ?side4 ?side5 ?side6 ?side7 ?side8 ?side9 ?side10 ?side11 ?side12 A4.out).mono ?_
     (case side1 => repeat (first | exact (Kd.R_reads' HO399.out).2.2 | (with_reducible refine Kd.C_alloc ?_ _) | (with_reducible refine Kd.C_drewN ?_ _) | (with_reducible refine Kd.C_drew ?_)))
     (case side2 => exact (Kd.R_reads' HO399.out).2.1)
     (case side3 => repeat (first | exact (Kd.R_reads' HO402.out).2.2 | (with_reducible refine Kd.C_alloc ?_ _) | (with_reducible refine Kd.C_drewN ?_ _) | (with_reducible refine Kd.C_drew ?_)))
     (case side4 => exact (Kd.R_reads' HO402.out).2.1)
     (case side5 => repeat (first | exact (Kd.R_reads' HO405.out).2.2 | (with_reducible refine Kd.C_alloc ?_ _) | (with_reducible refine Kd.C_drewN ?_ _) | (with_reducible refine Kd.C_drew ?_)))
     (case side6 => exact (Kd.R_reads' HO405.out).2.1)
     (case side7 => repeat (first | exact (Kd.N_reads' HO408.out).2.2 | (with_reducible refine Kd.C_alloc ?_ _) | (with_reducible refine Kd.C_drewN ?_ _) | (with_reducible refine Kd.C_drew ?_)))
     (case side8 => exact (Kd.N_reads' HO408.out).2.1)
     (case side9 => exact q18_20)
     (case side10 => exact (Kd.R_reads' HO391.out).2.1)
     (case side11 => exact q18_19)
     (case side12 => exact (Kd.R_reads' HO394.out).2.1)
     (case side13 => exact s9)
     rintro e w30 ⟨rfl, hb⟩
     refine ⟨_, rfl, ?_⟩
     have n0_ := zM (Kd.R_below q18_2 hb)
     have n1_ := zM (Kd.R_below q18_3 hb)
     have n2_ := zM (Kd.R_below q18_1 hb)
     have n3_ := zM (Kd.N_below q18_7 hb)
     have n4_ := zM (Kd.R_below q18_11 hb)
     have n5_ := zM (Kd.R_below q18_10 hb)
     have n6_ := zM (Kd.R_below q18_6 hb)
     have n7_ := zM (Kd.R_below q18_12 hb)
     have n8_ := zM (Kd.R_below q18_5 hb)
     have n9_ := zM (Kd.N_below q18_13 hb)
     have n10_ := zM (blk_below (g := gb396) q18_9 hb)
     have n11_ := zM (below_step q18_0 hb)
     clear HO379
     clear HO382
     clear HO385
     clear HO388
     clear HO391
     clear HO394
     clear HO399
     clear HO402
     clear HO405
     clear HO408
     clear BK396
     clear HB
     have HO379 := n0_
     have HO382 := n1_
     have HO385 := n2_
     have HO388 := n3_
     have HO391 := n4_
     have HO394 := n5_
     have HO399 := n6_
     have HO402 := n7_
     have HO405 := n8_
     have HO408 := n9_
     have BK396 := n10_
     have HB := n11_
     clear n0_ n1_ n2_ n3_ n4_ n5_ n6_ n7_ n8_ n9_ n10_ n11_
     (try clear hb)
     (try clear hb2)
     (try clear hk)
     (try clear hi)
     refine hK.out _ _ ⟨(blk_cell BK396.out 0).trans rfl, (blk_cell BK396.out 1).trans rfl⟩ (fun hHeld => ?_)
     clear hK K
     refine norm_ (a' := ?_) ?_ ?_
     rotate_left
     ·
      show Act.put _ (some 13) _ = _
      simp only [Act.put, List.setIfInBounds_toArray, List.set_cons_zero, List.set_cons_succ, i64_w, i32_w]
      rfl
     refine pure_ (i := 3) (N := some 10) (v := ?_) (a' := ?_) #[true, true, true, true, false, false, false, false] rfl rfl (any_of HT_.out (by kernel_rfl)) (fun _ _ _ h => h) (Or.inl ⟨by rfl, ?_⟩) ?_ ?_
     rotate_left
     ·
      intro w'
      go_simp
      with_reducible rfl
     rotate_left
     ·
      simp only [Act.put, List.setIfInBounds_toArray, List.set_cons_zero, List.set_cons_succ, i64_w, i32_w]
      rfl
     refine pure_ (i := 4) (N := some 14) (v := ?_) (a' := ?_) #[true, true, true, true, true, false, false, false] rfl rfl (any_of HT_.out (by kernel_rfl)) (fun _ _ _ h => h) (Or.inl ⟨by rfl, ?_⟩) ?_ ?_
     rotate_left
     ·
      intro w'
      go_simp
      with_reducible rfl
     rotate_left
     ·
      simp only [Act.put, List.setIfInBounds_toArray, List.set_cons_zero, List.set_cons_succ, i64_w, i32_w]
      rfl
     refine pure_ (i := 5) (N := some 15) (v := ?_) (a' := ?_) #[true, true, true, true, true, true, false, false] rfl rfl (any_of HT_.out (by kernel_rfl)) (fun _ _ _ h => h) (Or.inl ⟨by rfl, ?_⟩) ?_ ?_
     rotate_left
     ·
      intro w'
      go_simp
      with_reducible rfl
     rotate_left
     ·
      simp only [Act.put, List.setIfInBounds_toArray, List.set_cons_zero, List.set_cons_succ, i64_w, i32_w]
      rfl
     refine pure_ (i := 6) (N := some 3) (v := ?_) (a' := ?_) #[true, true, true, true, true, true, true, false] rfl rfl (any_of HT_.out (by kernel_rfl)) (fun _ _ _ h => h) (Or.inl ⟨by rfl, ?_⟩) ?_ ?_
     rotate_left
     ·
      intro w'
      go_simp
      with_reducible rfl
     rotate_left
     ·
      simp only [Act.put, List.setIfInBounds_toArray, List.set_cons_zero, List.set_cons_succ, i64_w, i32_w]
      rfl
     refine pure_ (i := 7) (N := some 4) (v := ?_) (a' := ?_) #[true, true, true, true, true, true, true, true] rfl rfl (any_of HT_.out (by kernel_rfl)) (fun _ _ _ h => h) (Or.inl ⟨by rfl, ?_⟩) ?_ ?_
     rotate_left
     ·
      intro w'
      go_simp
      with_reducible rfl
     rotate_left
     ·
      simp only [Act.put, List.setIfInBounds_toArray, List.set_cons_zero, List.set_cons_succ, i64_w, i32_w]
      rfl
     refine done_ (done_of HT_.out (by kernel_rfl)) ?_
     try go_wp2
     have n0_ := zM (Kd.R_drew HO379.out)
     have n1_ := zM (Kd.R_drew HO382.out)
     have n2_ := zM (Kd.R_drew HO385.out)
     have n3_ := zM (Kd.N_drew HO388.out)
     have n4_ := zM (Kd.R_drew HO391.out)
     have n5_ := zM (Kd.R_drew HO394.out)
     have n6_ := zM (Kd.R_drew HO399.out)
     have n7_ := zM (Kd.R_drew HO402.out)
     have n8_ := zM (Kd.R_drew HO405.out)
     have n9_ := zM (Kd.N_drew HO408.out)
     have n10_ := zM (blk_drew BK396.out)
     have n11_ := zM (below_drew1 HB.out)
     clear HO379
     clear HO382
     clear HO385
     clear HO388
     clear HO391
     clear HO394
     clear HO399
     clear HO402
     clear HO405
     clear HO408
     clear BK396
     clear HB
     have HO379 := n0_
     have HO382 := n1_
     have HO385 := n2_
     have HO388 := n3_
     have HO391 := n4_
     have HO394 := n5_
     have HO399 := n6_
     have HO402 := n7_
     have HO405 := n8_
     have HO408 := n9_
     have BK396 := n10_
     have HB := n11_
     clear n0_ n1_ n2_ n3_ n4_ n5_ n6_ n7_ n8_ n9_ n10_ n11_
     refine start_ (n := 21) (S := fun w' => w'.cell? ⟨gb396, 0, none⟩ = some (.slice Ao20 t389.length co20) ∧ w'.cell? ⟨gb396, 1, none⟩ = some (.slice Ao22 t392.length co22)) (ds := []) #[false, false, false, false, false, false, false, false, false, false, false, false, false, false, false, false, false, false, false, false, false] (by kernel_rfl) rfl rfl ⟨(blk_cell BK396.out 0).trans rfl, (blk_cell BK396.out 1).trans rfl⟩ (fun hHeld => ?_); refine with_tabW gnomonlaw13_live.tab3 gnomonlaw13_live.bits3 (fun HT_ HW_ => ?_)
     generalize w30.drew = w31 at HO379 HO382 HO385 HO388 HO391 HO394 HO399 HO402 HO405 HO408 BK396 HB hHeld ⊢
     refine pure_ (i := 0) (N := some 16) (v := ?_) (a' := ?_) #[true, false, false, false, false, false, false, false, false, false, false, false, false, false, false, false, false, false, false, false, false] rfl rfl (any_of HT_.out (by kernel_rfl)) (fun _ _ _ h => h) (Or.inl ⟨by rfl, ?_⟩) ?_ ?_
     rotate_left
     ·
      intro w'
      go_simp
      with_reducible rfl
     rotate_left
     ·
      simp only [Act.put, List.setIfInBounds_toArray, List.set_cons_zero, List.set_cons_succ, i64_w, i32_w]
      rfl
     refine pure_ (i := 1) (N := some 17) (v := ?_) (a' := ?_) #[true, true, false, false, false, false, false, false, false, false, false, false, false, false, false, false, false, false, false, false, false] rfl rfl (any_of HT_.out (by kernel_rfl)) (fun _ _ _ h => h) (Or.inl ⟨by rfl, ?_⟩) ?_ ?_
     rotate_left
     ·
      intro w'
      go_simp
      with_reducible rfl
     rotate_left
     ·
      simp only [Act.put, List.setIfInBounds_toArray, List.set_cons_zero, List.set_cons_succ, i64_w, i32_w]
      rfl
     refine pure_ (i := 2) (N := some 18) (v := ?_) (a' := ?_) #[true, true, true, false, false, false, false, false, false, false, false, false, false, false, false, false, false, false, false, false, false] rfl rfl (any_of HT_.out (by kernel_rfl)) (fun _ _ _ h => h) (Or.inl ⟨by rfl, ?_⟩) ?_ ?_
     rotate_left
     ·
      intro w'
      go_simp
      with_reducible rfl
     rotate_left
     ·
      simp only [Act.put, List.setIfInBounds_toArray, List.set_cons_zero, List.set_cons_succ, i64_w, i32_w]
      rfl
     refine pure_ (i := 3) (N := some 19) (v := ?_) (a' := ?_) #[true, true, true, true, false, false, false, false, false, false, false, false, false, false, false, false, false, false, false, false, false] rfl rfl (any_of HT_.out (by kernel_rfl)) (fun _ _ _ h => h) (Or.inl ⟨by rfl, ?_⟩) ?_ ?_
     rotate_left
     ·
      intro w'
      go_simp
      with_reducible rfl
     rotate_left
     ·
      simp only [Act.put, List.setIfInBounds_toArray, List.set_cons_zero, List.set_cons_succ, i64_w, i32_w]
      rfl
     refine pure_ (i := 4) (N := some 20) (v := ?_) (a' := ?_) #[true, true, true, true, true, false, false, false, false, false, false, false, false, false, false, false, false, false, false, false, false] rfl rfl (any_of HT_.out (by kernel_rfl)) (fun _ _ _ h => h) (Or.inl ⟨by rfl, ?_⟩) ?_ ?_
     rotate_left
     ·
      intro w'
      go_simp
      with_reducible rfl
     rotate_left
     ·
      simp only [Act.put, List.setIfInBounds_toArray, List.set_cons_zero, List.set_cons_succ, i64_w, i32_w]
      rfl
     refine pure_ (i := 5) (N := some 21) (v := ?_) (a' := ?_) #[true, true, true, true, true, true, false, false, false, false, false, false, false, false, false, false, false, false, false, false, false] rfl rfl (any_of HT_.out (by kernel_rfl)) (fun _ _ _ h => h) (Or.inl ⟨by rfl, ?_⟩) ?_ ?_
     rotate_left
     ·
      intro w'
      go_simp
      with_reducible rfl
     rotate_left
     ·
      simp only [Act.put, List.setIfInBounds_toArray, List.set_cons_zero, List.set_cons_succ, i64_w, i32_w]
      rfl
     refine pure_ (i := 6) (N := some 22) (v := ?_) (a' := ?_) #[true, true, true, true, true, true, true, false, false, false, false, false, false, false, false, false, false, false, false, false, false] rfl rfl (any_of HT_.out (by kernel_rfl)) (fun _ _ _ h => h) (Or.inl ⟨by rfl, ?_⟩) ?_ ?_
     rotate_left
     ·
      intro w'
      go_simp
      with_reducible rfl
     rotate_left
     ·
      simp only [Act.put, List.setIfInBounds_toArray, List.set_cons_zero, List.set_cons_succ, i64_w, i32_w]
      rfl
     refine pure_ (i := 7) (N := some 23) (v := ?_) (a' := ?_) #[true, true, true, true, true, true, true, true, false, false, false, false, false, false, false, false, false, false, false, false, false] rfl rfl (any_of HT_.out (by kernel_rfl)) (fun _ _ _ h => h) (Or.inl ⟨by rfl, ?_⟩) ?_ ?_
     rotate_left
     ·
      intro w'
      go_simp
      with_reducible rfl
     rotate_left
     ·
      simp only [Act.put, List.setIfInBounds_toArray, List.set_cons_zero, List.set_cons_succ, i64_w, i32_w]
      rfl
     refine pure_ (i := 8) (N := some 24) (v := ?_) (a' := ?_) #[true, true, true, true, true, true, true, true, true, false, false, false, false, false, false, false, false, false, false, false, false] rfl rfl (any_of HT_.out (by kernel_rfl)) (fun _ _ _ h => h) (Or.inl ⟨by rfl, ?_⟩) ?_ ?_
     rotate_left
     ·
      intro w'
      go_simp
      with_reducible rfl
     rotate_left
     ·
      simp only [Act.put, List.setIfInBounds_toArray, List.set_cons_zero, List.set_cons_succ, i64_w, i32_w]
      rfl
     refine pure_ (i := 9) (N := some 25) (v := ?_) (a' := ?_) #[true, true, true, true, true, true, true, true, true, true, false, false, false, false, false, false, false, false, false, false, false] rfl rfl (any_of HT_.out (by kernel_rfl)) (fun _ _ _ h => h) (Or.inl ⟨by rfl, ?_⟩) ?_ ?_
     rotate_left
     ·
      intro w'
      go_simp
      with_reducible rfl
     rotate_left
     ·
      simp only [Act.put, List.setIfInBounds_toArray, List.set_cons_zero, List.set_cons_succ, i64_w, i32_w]
      rfl
     refine pure_ (i := 10) (N := some 26) (v := ?_) (a' := ?_) #[true, true, true, true, true, true, true, true, true, true, true, false, false, false, false, false, false, false, false, false, false] rfl rfl (any_of HT_.out (by kernel_rfl)) (fun _ _ _ h => h) (Or.inl ⟨by rfl, ?_⟩) ?_ ?_
     rotate_left
     ·
      intro w'
      go_simp
      with_reducible rfl
     rotate_left
     ·
      simp only [Act.put, List.setIfInBounds_toArray, List.set_cons_zero, List.set_cons_succ, i64_w, i32_w]
      rfl
     refine one_ (i := 11) (N := some 27) #[true, true, true, true, true, true, true, true, true, true, true, true, false, false, false, false, false, false, false, false, false] rfl rfl (one_of HT_.out (by kernel_rfl)) (by decide) (fun K hK => ?_)
     refine goes_ Tryd.func12 (by kernel_rfl) rfl #[] (by rfl) rfl rfl s0 ?_
     with_reducible refine (gnomonlaw13_net.calls  t411 t414 t417 t420 _ A8.out).mono ?_
     rintro e w32 ⟨v412, v415, v418, v421, rfl, ho0, ho1, ho2, ho3, hb⟩
     refine ⟨_, rfl, ?_⟩
     have n0_ := zM (Kd.R_mono (Kd.R_told (Kd.R_told (Kd.R_old q18_2 hb) (Kd.R_base ho0)) (Kd.R_base ho2)) (fun _ h_ => h_.1))
     have n1_ := zM (Kd.R_elder' q18_3 (Kd.R_base ho1) hb)
     have n2_ := zM (Kd.R_mono (Kd.R_told (Kd.R_told (Kd.R_old q18_1 hb) (Kd.R_base ho0)) (Kd.R_base ho2)) (fun _ h_ => h_.1))
     have n3_ := zM (Kd.N_mono (Kd.N_told (Kd.N_told (Kd.N_told (Kd.N_told (Kd.N_old q18_7 hb) (Kd.R_base ho0)) (Kd.R_base ho1)) (Kd.R_base ho2)) (Kd.N_base ho3)) (fun _ h_ => h_.1))
     have n4_ := zM (Kd.R_below q18_11 hb)
     have n5_ := zM (Kd.R_below q18_10 hb)
     have n6_ := zM (Kd.R_mono (Kd.R_told (Kd.R_told (Kd.R_old q18_6 hb) (Kd.R_base ho0)) (Kd.R_base ho2)) (fun _ h_ => h_.1))
     have n7_ := zM (Kd.R_elder' q18_12 (Kd.R_base ho1) hb)
     have n8_ := zM (Kd.R_mono (Kd.R_told (Kd.R_told (Kd.R_old q18_5 hb) (Kd.R_base ho0)) (Kd.R_base ho2)) (fun _ h_ => h_.1))
     have n9_ := zM (Kd.N_mono (Kd.N_told (Kd.N_told (Kd.N_told (Kd.N_told (Kd.N_old q18_13 hb) (Kd.R_base ho0)) (Kd.R_base ho1)) (Kd.R_base ho2)) (Kd.N_base ho3)) (fun _ h_ => h_.1))
     have n10_ := zM (Kd.R_lower (Kd.R_new' (Kd.R_new' (Kd.R_new' (Kd.R_new' (Kd.R_mono (ok' := fun k_ => some k_ ≠ (v418 : Value).ownBlock) ho0 (fun _ hk_ => hk_.2)) (Kd.R_lt q18_2)) (Kd.R_lt q18_1)) (Kd.R_lt q18_6)) (Kd.R_lt q18_5)) (below_size q18_0))
     have n11_ := zM (Kd.R_lower (Kd.R_new' (Kd.R_new' (Kd.R_mono (ok' := fun k_ => True) ho1 (fun _ hk_ => trivial)) (Kd.R_lt q18_3)) (Kd.R_lt q18_12)) (below_size q18_0))
     have n12_ := zM (Kd.R_lower (Kd.R_new' (Kd.R_new' (Kd.R_new' (Kd.R_new' (Kd.R_mono (ok' := fun k_ => some k_ ≠ (v412 : Value).ownBlock) ho2 (fun _ hk_ => hk_.2)) (Kd.R_lt q18_2)) (Kd.R_lt q18_1)) (Kd.R_lt q18_6)) (Kd.R_lt q18_5)) (below_size q18_0))
     have n13_ := zM (Kd.N_lower (Kd.N_mono (ok' := fun k_ => some k_ ≠ (v412 : Value).ownBlock ∧ some k_ ≠ (v415 : Value).ownBlock ∧ some k_ ≠ (v418 : Value).ownBlock ∧ some k_ ≠ (.slice Ao14 t377.length co14 : Value).ownBlock ∧ some k_ ≠ (.slice Ao15 t380.length co15 : Value).ownBlock ∧ some k_ ≠ (.slice Ao16 t383.length co16 : Value).ownBlock ∧ some k_ ≠ (.slice Ao17 t386.length co17 : Value).ownBlock ∧ some k_ ≠ (.slice Ao20 t389.length co20 : Value).ownBlock ∧ some k_ ≠ (.slice Ao22 t392.length co22 : Value).ownBlock ∧ some k_ ≠ (.slice Ao26 t397.length co26 : Value).ownBlock ∧ some k_ ≠ (.slice Ao27 t400.length co27 : Value).ownBlock ∧ some k_ ≠ (.slice Ao28 t403.length co28 : Value).ownBlock ∧ some k_ ≠ (.slice Ao29 t406.length co29 : Value).ownBlock ∧ k_ ≠ gb396) ho3 (fun k_ hk_ => ⟨hk_.2.1, hk_.2.2.1, hk_.2.2.2, (Kd.fresh' (Kd.R_lt q18_2) k_ hk_.1), (Kd.fresh' (Kd.R_lt q18_3) k_ hk_.1), (Kd.fresh' (Kd.R_lt q18_1) k_ hk_.1), (Kd.fresh' (Kd.N_lt q18_7) k_ hk_.1), (Kd.fresh' (Kd.R_lt q18_11) k_ hk_.1), (Kd.fresh' (Kd.R_lt q18_10) k_ hk_.1), (Kd.fresh' (Kd.R_lt q18_6) k_ hk_.1), (Kd.fresh' (Kd.R_lt q18_12) k_ hk_.1), (Kd.fresh' (Kd.R_lt q18_5) k_ hk_.1), (Kd.fresh' (Kd.N_lt q18_13) k_ hk_.1), (Kd.freshB (g := gb396) (o := .cells #[.slice Ao20 t389.length co20, .slice Ao22 t392.length co22] 29 (0, 0)) q18_9 k_ hk_.1)⟩)) (below_size q18_0))
     have n14_ := zM (blk_below (g := gb396) q18_9 hb)
     have n15_ := zM (below_step q18_0 hb)
     clear HO379
     clear HO382
     clear HO385
     clear HO388
     clear HO391
     clear HO394
     clear HO399
     clear HO402
     clear HO405
     clear HO408
     clear BK396
     clear HB
     have HO379 := n0_
     have HO382 := n1_
     have HO385 := n2_
     have HO388 := n3_
     have HO391 := n4_
     have HO394 := n5_
     have HO399 := n6_
     have HO402 := n7_
     have HO405 := n8_
     have HO408 := n9_
     have HO413 := n10_
     have HO416 := n11_
     have HO419 := n12_
     have HO422 := n13_
     have BK396 := n14_
     have HB := n15_
     clear n0_ n1_ n2_ n3_ n4_ n5_ n6_ n7_ n8_ n9_ n10_ n11_ n12_ n13_ n14_ n15_
     (try clear hb)
     (try clear hb2)
     (try clear hk)
     (try clear hi)
     (try clear ho0)
     (try clear ho1)
     (try clear ho2)
     (try clear ho3)
     obtain ⟨Ao33, co33, eo33⟩ := Kd.R_slice HO413.out
     (first | subst eo33 | (injection eo33 with f1_ f2_ f3_; have f4_ := f1_.symm; have f5_ := f3_.symm; clear f1_ f2_ f3_; subst f4_; subst f5_))
     obtain ⟨Ao34, co34, eo34⟩ := Kd.R_slice HO416.out
     (first | subst eo34 | (injection eo34 with f1_ f2_ f3_; have f4_ := f1_.symm; have f5_ := f3_.symm; clear f1_ f2_ f3_; subst f4_; subst f5_))
     obtain ⟨Ao35, co35, eo35⟩ := Kd.R_slice HO419.out
     (first | subst eo35 | (injection eo35 with f1_ f2_ f3_; have f4_ := f1_.symm; have f5_ := f3_.symm; clear f1_ f2_ f3_; subst f4_; subst f5_))
     obtain ⟨Ao36, co36, eo36⟩ := Kd.N_slice HO422.out
     (first | subst eo36 | (injection eo36 with f1_ f2_ f3_; have f4_ := f1_.symm; have f5_ := f3_.symm; clear f1_ f2_ f3_; subst f4_; subst f5_))
     refine hK.out _ _ ⟨(blk_cell BK396.out 0).trans rfl, (blk_cell BK396.out 1).trans rfl⟩ (fun hHeld => ?_)
     clear hK K
     refine norm_ (a' := ?_) ?_ ?_
     rotate_left
     ·
      show Act.put _ (some 27) _ = _
      simp only [Act.put, List.setIfInBounds_toArray, List.set_cons_zero, List.set_cons_succ, i64_w, i32_w]
      rfl
     refine one_ (i := 12) (N := some 28) #[true, true, true, true, true, true, true, true, true, true, true, true, true, false, false, false, false, false, false, false, false] rfl rfl (one_of HT_.out (by kernel_rfl)) (by decide) (fun K hK => ?_)
     refine goes_ Tryd.func14 (by kernel_rfl) rfl #[.agg #[.slice Ao33 t411.length co33, .slice Ao34 t414.length co34, .slice Ao35 t417.length co35, .slice Ao36 t420.length co36]] (by rfl) rfl rfl s0 ?_
     with_reducible refine (state_Count.calls k _ _ t411 _ _ t414 _ _ t417 _ _ t420 t423 _ ?side9 ?side1 ?side2 ?side3 ?side4 ?side5 ?side6 ?side7 ?side8 A9.out).mono ?_
     (case side1 => repeat (first | exact (Kd.R_reads' HO413.out).2.2 | (with_reducible refine Kd.C_alloc ?_ _) | (with_reducible refine Kd.C_drewN ?_ _) | (with_reducible refine Kd.C_drew ?_)))
     (case side2 => exact (Kd.R_reads' HO413.out).2.1)
     (case side3 => repeat (first | exact (Kd.R_reads' HO416.out).2.2 | (with_reducible refine Kd.C_alloc ?_ _) | (with_reducible refine Kd.C_drewN ?_ _) | (with_reducible refine Kd.C_drew ?_)))
     (case side4 => exact (Kd.R_reads' HO416.out).2.1)
     (case side5 => repeat (first | exact (Kd.R_reads' HO419.out).2.2 | (with_reducible refine Kd.C_alloc ?_ _) | (with_reducible refine Kd.C_drewN ?_ _) | (with_reducible refine Kd.C_drew ?_)))
     (case side6 => exact (Kd.R_reads' HO419.out).2.1)
     (case side7 => repeat (first | exact (Kd.N_reads' HO422.out).2.2 | (with_reducible refine Kd.C_alloc ?_ _) | (with_reducible refine Kd.C_drewN ?_ _) | (with_reducible refine Kd.C_drew ?_)))
     (case side8 => exact (Kd.N_reads' HO422.out).2.1)
     (case side9 => exact s9)
     rintro e w37 ⟨rfl, hb⟩
     refine ⟨_, rfl, ?_⟩
     have n0_ := zM (Kd.R_below q18_2 hb)
     have n1_ := zM (Kd.R_below q18_3 hb)
     have n2_ := zM (Kd.R_below q18_1 hb)
     have n3_ := zM (Kd.N_below q18_7 hb)
     have n4_ := zM (Kd.R_below q18_11 hb)
     have n5_ := zM (Kd.R_below q18_10 hb)
     have n6_ := zM (Kd.R_below q18_6 hb)
     have n7_ := zM (Kd.R_below q18_12 hb)
     have n8_ := zM (Kd.R_below q18_5 hb)
     have n9_ := zM (Kd.N_below q18_13 hb)
     have n10_ := zM (Kd.R_below q18_16 hb)
     have n11_ := zM (Kd.R_below q18_17 hb)
     have n12_ := zM (Kd.R_below q18_15 hb)
     have n13_ := zM (Kd.N_below q18_18 hb)
     have n14_ := zM (blk_below (g := gb396) q18_9 hb)
     have n15_ := zM (below_step q18_0 hb)
     clear HO379
     clear HO382
     clear HO385
     clear HO388
     clear HO391
     clear HO394
     clear HO399
     clear HO402
     clear HO405
     clear HO408
     clear HO413
     clear HO416
     clear HO419
     clear HO422
     clear BK396
     clear HB
     have HO379 := n0_
     have HO382 := n1_
     have HO385 := n2_
     have HO388 := n3_
     have HO391 := n4_
     have HO394 := n5_
     have HO399 := n6_
     have HO402 := n7_
     have HO405 := n8_
     have HO408 := n9_
     have HO413 := n10_
     have HO416 := n11_
     have HO419 := n12_
     have HO422 := n13_
     have BK396 := n14_
     have HB := n15_
     clear n0_ n1_ n2_ n3_ n4_ n5_ n6_ n7_ n8_ n9_ n10_ n11_ n12_ n13_ n14_ n15_
     (try clear hb)
     (try clear hb2)
     (try clear hk)
     (try clear hi)
     refine hK.out _ _ ⟨(blk_cell BK396.out 0).trans rfl, (blk_cell BK396.out 1).trans rfl⟩ (fun hHeld => ?_)
     clear hK K
     refine norm_ (a' := ?_) ?_ ?_
     rotate_left
     ·
      show Act.put _ (some 28) _ = _
      simp only [Act.put, List.setIfInBounds_toArray, List.set_cons_zero, List.set_cons_succ, i64_w, i32_w]
      rfl
     refine pure_ (i := 13) (N := some 29) (v := ?_) (a' := ?_) #[true, true, true, true, true, true, true, true, true, true, true, true, true, true, false, false, false, false, false, false, false] rfl rfl (any_of HT_.out (by kernel_rfl)) (fun _ _ _ h => h) (Or.inl ⟨by rfl, ?_⟩) ?_ ?_
     rotate_left
     ·
      intro w'
      go_simp
      with_reducible rfl
     rotate_left
     ·
      simp only [Act.put, List.setIfInBounds_toArray, List.set_cons_zero, List.set_cons_succ, i64_w, i32_w]
      rfl
     refine pure_ (i := 14) (N := some 30) (v := ?_) (a' := ?_) #[true, true, true, true, true, true, true, true, true, true, true, true, true, true, true, false, false, false, false, false, false] rfl rfl (any_of HT_.out (by kernel_rfl)) (fun _ _ _ h => h) (Or.inl ⟨by rfl, ?_⟩) ?_ ?_
     rotate_left
     ·
      intro w'
      go_simp
      with_reducible rfl
     rotate_left
     ·
      simp only [Act.put, List.setIfInBounds_toArray, List.set_cons_zero, List.set_cons_succ, i64_w, i32_w]
      rfl
     refine pure_ (i := 15) (N := some 31) (v := ?_) (a' := ?_) #[true, true, true, true, true, true, true, true, true, true, true, true, true, true, true, true, false, false, false, false, false] rfl rfl (any_of HT_.out (by kernel_rfl)) (fun _ _ _ h => h) (Or.inl ⟨by rfl, ?_⟩) ?_ ?_
     rotate_left
     ·
      intro w'
      go_simp
      with_reducible rfl
     rotate_left
     ·
      simp only [Act.put, List.setIfInBounds_toArray, List.set_cons_zero, List.set_cons_succ, i64_w, i32_w]
      rfl
     refine take_ (i := 17) (N := some 33) (v := ?_) (a' := ?_) #[true, true, true, true, true, true, true, true, true, true, true, true, true, true, true, true, false, true, false, false, false] rfl rfl (take_ofW HT_.out HW_.out (by kernel_rfl)) (fun _ _ _ h => h) (Or.inl ⟨by rfl, ?_⟩) hHeld ?_ ?_
     rotate_left
     ·
      rintro w' ⟨s0, s1⟩
      go_simp
      with_reducible rfl
     rotate_left
     ·
      simp only [Act.put, List.setIfInBounds_toArray, List.set_cons_zero, List.set_cons_succ, i64_w, i32_w]
      rfl
     refine one_ (i := 16) (N := some 32) #[true, true, true, true, true, true, true, true, true, true, true, true, true, true, true, true, true, true, false, false, false] rfl rfl (one_of HT_.out (by kernel_rfl)) (by decide) (fun K hK => ?_)
     refine goes_ Tryd.func12 (by kernel_rfl) rfl #[] (by rfl) rfl rfl s0 ?_
     with_reducible refine (gnomonlaw13_net.calls  t424 t427 t430 t433 _ A11.out).mono ?_
     rintro e w38 ⟨v425, v428, v431, v434, rfl, ho0, ho1, ho2, ho3, hb⟩
     refine ⟨_, rfl, ?_⟩
     have n0_ := zM (Kd.R_mono (Kd.R_told (Kd.R_told (Kd.R_old q18_2 hb) (Kd.R_base ho0)) (Kd.R_base ho2)) (fun _ h_ => h_.1))
     have n1_ := zM (Kd.R_elder' q18_3 (Kd.R_base ho1) hb)
     have n2_ := zM (Kd.R_mono (Kd.R_told (Kd.R_told (Kd.R_old q18_1 hb) (Kd.R_base ho0)) (Kd.R_base ho2)) (fun _ h_ => h_.1))
     have n3_ := zM (Kd.N_mono (Kd.N_told (Kd.N_told (Kd.N_told (Kd.N_told (Kd.N_old q18_7 hb) (Kd.R_base ho0)) (Kd.R_base ho1)) (Kd.R_base ho2)) (Kd.N_base ho3)) (fun _ h_ => h_.1))
     have n4_ := zM (Kd.R_below q18_11 hb)
     have n5_ := zM (Kd.R_below q18_10 hb)
     have n6_ := zM (Kd.R_mono (Kd.R_told (Kd.R_told (Kd.R_old q18_6 hb) (Kd.R_base ho0)) (Kd.R_base ho2)) (fun _ h_ => h_.1))
     have n7_ := zM (Kd.R_elder' q18_12 (Kd.R_base ho1) hb)
     have n8_ := zM (Kd.R_mono (Kd.R_told (Kd.R_told (Kd.R_old q18_5 hb) (Kd.R_base ho0)) (Kd.R_base ho2)) (fun _ h_ => h_.1))
     have n9_ := zM (Kd.N_mono (Kd.N_told (Kd.N_told (Kd.N_told (Kd.N_told (Kd.N_old q18_13 hb) (Kd.R_base ho0)) (Kd.R_base ho1)) (Kd.R_base ho2)) (Kd.N_base ho3)) (fun _ h_ => h_.1))
     have n10_ := zM (Kd.R_mono (Kd.R_told (Kd.R_told (Kd.R_old q18_16 hb) (Kd.R_base ho0)) (Kd.R_base ho2)) (fun _ h_ => h_.1))
     have n11_ := zM (Kd.R_elder' q18_17 (Kd.R_base ho1) hb)
     have n12_ := zM (Kd.R_mono (Kd.R_told (Kd.R_told (Kd.R_old q18_15 hb) (Kd.R_base ho0)) (Kd.R_base ho2)) (fun _ h_ => h_.1))
     have n13_ := zM (Kd.N_mono (Kd.N_told (Kd.N_told (Kd.N_told (Kd.N_told (Kd.N_old q18_18 hb) (Kd.R_base ho0)) (Kd.R_base ho1)) (Kd.R_base ho2)) (Kd.N_base ho3)) (fun _ h_ => h_.1))
     have n14_ := zM (Kd.R_lower (Kd.R_new' (Kd.R_new' (Kd.R_new' (Kd.R_new' (Kd.R_new' (Kd.R_new' (Kd.R_mono (ok' := fun k_ => some k_ ≠ (v431 : Value).ownBlock) ho0 (fun _ hk_ => hk_.2)) (Kd.R_lt q18_2)) (Kd.R_lt q18_1)) (Kd.R_lt q18_6)) (Kd.R_lt q18_5)) (Kd.R_lt q18_16)) (Kd.R_lt q18_15)) (below_size q18_0))
     have n15_ := zM (Kd.R_lower (Kd.R_new' (Kd.R_new' (Kd.R_new' (Kd.R_mono (ok' := fun k_ => True) ho1 (fun _ hk_ => trivial)) (Kd.R_lt q18_3)) (Kd.R_lt q18_12)) (Kd.R_lt q18_17)) (below_size q18_0))
     have n16_ := zM (Kd.R_lower (Kd.R_new' (Kd.R_new' (Kd.R_new' (Kd.R_new' (Kd.R_new' (Kd.R_new' (Kd.R_mono (ok' := fun k_ => some k_ ≠ (v425 : Value).ownBlock) ho2 (fun _ hk_ => hk_.2)) (Kd.R_lt q18_2)) (Kd.R_lt q18_1)) (Kd.R_lt q18_6)) (Kd.R_lt q18_5)) (Kd.R_lt q18_16)) (Kd.R_lt q18_15)) (below_size q18_0))
     have n17_ := zM (Kd.N_lower (Kd.N_mono (ok' := fun k_ => some k_ ≠ (v425 : Value).ownBlock ∧ some k_ ≠ (v428 : Value).ownBlock ∧ some k_ ≠ (v431 : Value).ownBlock ∧ some k_ ≠ (.slice Ao14 t377.length co14 : Value).ownBlock ∧ some k_ ≠ (.slice Ao15 t380.length co15 : Value).ownBlock ∧ some k_ ≠ (.slice Ao16 t383.length co16 : Value).ownBlock ∧ some k_ ≠ (.slice Ao17 t386.length co17 : Value).ownBlock ∧ some k_ ≠ (.slice Ao20 t389.length co20 : Value).ownBlock ∧ some k_ ≠ (.slice Ao22 t392.length co22 : Value).ownBlock ∧ some k_ ≠ (.slice Ao26 t397.length co26 : Value).ownBlock ∧ some k_ ≠ (.slice Ao27 t400.length co27 : Value).ownBlock ∧ some k_ ≠ (.slice Ao28 t403.length co28 : Value).ownBlock ∧ some k_ ≠ (.slice Ao29 t406.length co29 : Value).ownBlock ∧ some k_ ≠ (.slice Ao33 t411.length co33 : Value).ownBlock ∧ some k_ ≠ (.slice Ao34 t414.length co34 : Value).ownBlock ∧ some k_ ≠ (.slice Ao35 t417.length co35 : Value).ownBlock ∧ some k_ ≠ (.slice Ao36 t420.length co36 : Value).ownBlock ∧ k_ ≠ gb396) ho3 (fun k_ hk_ => ⟨hk_.2.1, hk_.2.2.1, hk_.2.2.2, (Kd.fresh' (Kd.R_lt q18_2) k_ hk_.1), (Kd.fresh' (Kd.R_lt q18_3) k_ hk_.1), (Kd.fresh' (Kd.R_lt q18_1) k_ hk_.1), (Kd.fresh' (Kd.N_lt q18_7) k_ hk_.1), (Kd.fresh' (Kd.R_lt q18_11) k_ hk_.1), (Kd.fresh' (Kd.R_lt q18_10) k_ hk_.1), (Kd.fresh' (Kd.R_lt q18_6) k_ hk_.1), (Kd.fresh' (Kd.R_lt q18_12) k_ hk_.1), (Kd.fresh' (Kd.R_lt q18_5) k_ hk_.1), (Kd.fresh' (Kd.N_lt q18_13) k_ hk_.1), (Kd.fresh' (Kd.R_lt q18_16) k_ hk_.1), (Kd.fresh' (Kd.R_lt q18_17) k_ hk_.1), (Kd.fresh' (Kd.R_lt q18_15) k_ hk_.1), (Kd.fresh' (Kd.N_lt q18_18) k_ hk_.1), (Kd.freshB (g := gb396) (o := .cells #[.slice Ao20 t389.length co20, .slice Ao22 t392.length co22] 29 (0, 0)) q18_9 k_ hk_.1)⟩)) (below_size q18_0))
     have n18_ := zM (blk_below (g := gb396) q18_9 hb)
     have n19_ := zM (below_step q18_0 hb)
     clear HO379
     clear HO382
     clear HO385
     clear HO388
     clear HO391
     clear HO394
     clear HO399
     clear HO402
     clear HO405
     clear HO408
     clear HO413
     clear HO416
     clear HO419
     clear HO422
     clear BK396
     clear HB
     have HO379 := n0_
     have HO382 := n1_
     have HO385 := n2_
     have HO388 := n3_
     have HO391 := n4_
     have HO394 := n5_
     have HO399 := n6_
     have HO402 := n7_
     have HO405 := n8_
     have HO408 := n9_
     have HO413 := n10_
     have HO416 := n11_
     have HO419 := n12_
     have HO422 := n13_
     have HO426 := n14_
     have HO429 := n15_
     have HO432 := n16_
     have HO435 := n17_
     have BK396 := n18_
     have HB := n19_
     clear n0_ n1_ n2_ n3_ n4_ n5_ n6_ n7_ n8_ n9_ n10_ n11_ n12_ n13_ n14_ n15_ n16_ n17_ n18_ n19_
     (try clear hb)
     (try clear hb2)
     (try clear hk)
     (try clear hi)
     (try clear ho0)
     (try clear ho1)
     (try clear ho2)
     (try clear ho3)
     obtain ⟨Ao39, co39, eo39⟩ := Kd.R_slice HO426.out
     (first | subst eo39 | (injection eo39 with f1_ f2_ f3_; have f4_ := f1_.symm; have f5_ := f3_.symm; clear f1_ f2_ f3_; subst f4_; subst f5_))
     obtain ⟨Ao40, co40, eo40⟩ := Kd.R_slice HO429.out
     (first | subst eo40 | (injection eo40 with f1_ f2_ f3_; have f4_ := f1_.symm; have f5_ := f3_.symm; clear f1_ f2_ f3_; subst f4_; subst f5_))
     obtain ⟨Ao41, co41, eo41⟩ := Kd.R_slice HO432.out
     (first | subst eo41 | (injection eo41 with f1_ f2_ f3_; have f4_ := f1_.symm; have f5_ := f3_.symm; clear f1_ f2_ f3_; subst f4_; subst f5_))
     obtain ⟨Ao42, co42, eo42⟩ := Kd.N_slice HO435.out
     (first | subst eo42 | (injection eo42 with f1_ f2_ f3_; have f4_ := f1_.symm; have f5_ := f3_.symm; clear f1_ f2_ f3_; subst f4_; subst f5_))
     refine hK.out _ _ ⟨(blk_cell BK396.out 0).trans rfl, (blk_cell BK396.out 1).trans rfl⟩ (fun hHeld => ?_)
     clear hK K
     refine norm_ (a' := ?_) ?_ ?_
     rotate_left
     ·
      show Act.put _ (some 32) _ = _
      simp only [Act.put, List.setIfInBounds_toArray, List.set_cons_zero, List.set_cons_succ, i64_w, i32_w]
      rfl
     refine one_ (i := 18) (N := some 34) #[true, true, true, true, true, true, true, true, true, true, true, true, true, true, true, true, true, true, true, false, false] rfl rfl (one_of HT_.out (by kernel_rfl)) (by decide) (fun K hK => ?_)
     refine goes_ Tryd.func15 (by kernel_rfl) rfl #[.agg #[.slice Ao39 t424.length co39, .slice Ao40 t427.length co40, .slice Ao41 t430.length co41, .slice Ao42 t433.length co42], .agg #[.slice Ao20 t389.length co20, .slice Ao22 t392.length co22]] (by rfl) rfl rfl s0 ?_
     with_reducible refine (state_Stays.calls k _ _ t424 _ _ t427 _ _ t430 _ _ t433 _ _ t389 _ _ t392 t436 _ ?side13 ?side1 ?side2 ?side3 ?side4 ?side5 ?side6 ?side7 ?side8 ?side9 ?side10 ?side11 ?side12 A12.out).mono ?_
     (case side1 => repeat (first | exact (Kd.R_reads' HO426.out).2.2 | (with_reducible refine Kd.C_alloc ?_ _) | (with_reducible refine Kd.C_drewN ?_ _) | (with_reducible refine Kd.C_drew ?_)))
     (case side2 => exact (Kd.R_reads' HO426.out).2.1)
     (case side3 => repeat (first | exact (Kd.R_reads' HO429.out).2.2 | (with_reducible refine Kd.C_alloc ?_ _) | (with_reducible refine Kd.C_drewN ?_ _) | (with_reducible refine Kd.C_drew ?_)))
     (case side4 => exact (Kd.R_reads' HO429.out).2.1)
     (case side5 => repeat (first | exact (Kd.R_reads' HO432.out).2.2 | (with_reducible refine Kd.C_alloc ?_ _) | (with_reducible refine Kd.C_drewN ?_ _) | (with_reducible refine Kd.C_drew ?_)))
     (case side6 => exact (Kd.R_reads' HO432.out).2.1)
     (case side7 => repeat (first | exact (Kd.N_reads' HO435.out).2.2 | (with_reducible refine Kd.C_alloc ?_ _) | (with_reducible refine Kd.C_drewN ?_ _) | (with_reducible refine Kd.C_drew ?_)))
     (case side8 => exact (Kd.N_reads' HO435.out).2.1)
     (case side9 => exact q18_20)
     (case side10 => exact (Kd.R_reads' HO391.out).2.1)
     (case side11 => exact q18_19)
     (case side12 => exact (Kd.R_reads' HO394.out).2.1)
     (case side13 => exact s9)
     rintro e w43 ⟨rfl, hb⟩
     refine ⟨_, rfl, ?_⟩
     have n0_ := zM (Kd.R_below q18_2 hb)
     have n1_ := zM (Kd.R_below q18_3 hb)
     have n2_ := zM (Kd.R_below q18_1 hb)
     have n3_ := zM (Kd.N_below q18_7 hb)
     have n4_ := zM (Kd.R_below q18_11 hb)
     have n5_ := zM (Kd.R_below q18_10 hb)
     have n6_ := zM (Kd.R_below q18_6 hb)
     have n7_ := zM (Kd.R_below q18_12 hb)
     have n8_ := zM (Kd.R_below q18_5 hb)
     have n9_ := zM (Kd.N_below q18_13 hb)
     have n10_ := zM (Kd.R_below q18_16 hb)
     have n11_ := zM (Kd.R_below q18_17 hb)
     have n12_ := zM (Kd.R_below q18_15 hb)
     have n13_ := zM (Kd.N_below q18_18 hb)
     have n14_ := zM (Kd.R_below (by (with_reducible repeat (first | apply Kd.R_alloc | apply Kd.R_drewN | apply Kd.R_drew)); exact HO426.out) hb)
     have n15_ := zM (Kd.R_below (by (with_reducible repeat (first | apply Kd.R_alloc | apply Kd.R_drewN | apply Kd.R_drew)); exact HO429.out) hb)
     have n16_ := zM (Kd.R_below (by (with_reducible repeat (first | apply Kd.R_alloc | apply Kd.R_drewN | apply Kd.R_drew)); exact HO432.out) hb)
     have n17_ := zM (Kd.N_below (by (with_reducible repeat (first | apply Kd.N_alloc | apply Kd.N_drewN | apply Kd.N_drew)); exact HO435.out) hb)
     have n18_ := zM (blk_below (g := gb396) q18_9 hb)
     have n19_ := zM (below_step q18_0 hb)
     clear HO379
     clear HO382
     clear HO385
     clear HO388
     clear HO391
     clear HO394
     clear HO399
     clear HO402
     clear HO405
     clear HO408
     clear HO413
     clear HO416
     clear HO419
     clear HO422
     clear HO426
     clear HO429
     clear HO432
     clear HO435
     clear BK396
     clear HB
     have HO379 := n0_
     have HO382 := n1_
     have HO385 := n2_
     have HO388 := n3_
     have HO391 := n4_
     have HO394 := n5_
     have HO399 := n6_
     have HO402 := n7_
     have HO405 := n8_
     have HO408 := n9_
     have HO413 := n10_
     have HO416 := n11_
     have HO419 := n12_
     have HO422 := n13_
     have HO426 := n14_
     have HO429 := n15_
     have HO432 := n16_
     have HO435 := n17_
     have BK396 := n18_
     have HB := n19_
     clear n0_ n1_ n2_ n3_ n4_ n5_ n6_ n7_ n8_ n9_ n10_ n11_ n12_ n13_ n14_ n15_ n16_ n17_ n18_ n19_
     (try clear hb)
     (try clear hb2)
     (try clear hk)
     (try clear hi)
     refine hK.out _ _ ⟨(blk_cell BK396.out 0).trans rfl, (blk_cell BK396.out 1).trans rfl⟩ (fun hHeld => ?_)
     clear hK K
     refine norm_ (a' := ?_) ?_ ?_
     rotate_left
     ·
      show Act.put _ (some 34) _ = _
      simp only [Act.put, List.setIfInBounds_toArray, List.set_cons_zero, List.set_cons_succ, i64_w, i32_w]
      rfl
     refine pure_ (i := 19) (N := some 35) (v := ?_) (a' := ?_) #[true, true, true, true, true, true, true, true, true, true, true, true, true, true, true, true, true, true, true, true, false] rfl rfl (any_of HT_.out (by kernel_rfl)) (fun _ _ _ h => h) (Or.inl ⟨by rfl, ?_⟩) ?_ ?_
     rotate_left
     ·
      intro w'
      go_simp
      with_reducible rfl
     rotate_left
     ·
      simp only [Act.put, List.setIfInBounds_toArray, List.set_cons_zero, List.set_cons_succ, i64_w, i32_w]
      rfl
     refine pure_ (i := 20) (N := some 0) (v := ?_) (a' := ?_) #[true, true, true, true, true, true, true, true, true, true, true, true, true, true, true, true, true, true, true, true, true] rfl rfl (any_of HT_.out (by kernel_rfl)) (fun _ _ _ h => h) (Or.inl ⟨by rfl, ?_⟩) ?_ ?_
     rotate_left
     ·
      intro w'
      go_simp
      with_reducible rfl
     rotate_left
     ·
      simp only [Act.put, List.setIfInBounds_toArray, List.set_cons_zero, List.set_cons_succ, i64_w, i32_w]
      rfl
     refine done_ (done_of HT_.out (by kernel_rfl)) ?_
     try go_wp2
     go_ret
     exact ⟨(by first | rfl | (simp [errW_none, errW_some] <;> rfl) | (simp [*, errW_none, errW_some] <;> rfl)), q18_0⟩
    rw [if_neg c10] at H
    obtain ⟨c10b0, c10b1⟩ := neb c10
    exact absurd H (by simp)
   rw [if_neg c7] at H
   obtain ⟨c7b0, c7b1⟩ := neb c7
   exact absurd H (by simp)
  rw [if_neg c6] at H
  obtain ⟨c6b0, c6b1⟩ := neb c6
  exact absurd H (by simp)
 rw [if_neg c5] at H
 obtain ⟨c5b0, c5b1⟩ := neb c5
 exact absurd H (by simp)

end Go.Proofs.YtpmhfahligjhaaaDoor.POrd
