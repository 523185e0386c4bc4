-- written by wip/tools/xprint.py (over the kit's print.py): not trusted, Lean checks it.
import Derived.Test.YtgkcjefbagnkpaaDoorPValx0
import Derived.Test.YtgkcjefbagnkpaaDoorPValx5
namespace Go.Proofs.YtgkcjefbagnkpaaDoor.PVal
open Go.RowKit Go.Proofs.YtgkcjefbagnkpaaDoorW.PrintWords Go.Proofs.YtgkcjefbagnkpaaDoorW.PrintLast Go.Proofs.YtgkcjefbagnkpaaDoorW.PrintMore Go.Proofs.YtgkcjefbagnkpaaDoorXW
attribute [local go_sem high] cell_set_map Option.map_some
attribute [local go_sem] max2_int min2_int max_two min_two max_three min_three max_four min_four   -- for this text's walks alone
set_option linter.unusedVariables false
set_option linter.unusedSimpArgs false

/-! ### gnomonref08_product: function 90 -/
mutual
def gnomonref08_product.j0 : Nat → Int → Bool → Int → Option (Int × Bool)
 | 0, _, _, _ => none
 | k + 1, x1, x6, x7 => if x1 < 0 then (gnomonref08_product.j1 k x6 x7 (IntKind.u64.wrap (-(IntKind.u64.wrap (x1))))) else (gnomonref08_product.j1 k x6 x7 (IntKind.u64.wrap (x1)))
def gnomonref08_product.j1 : Nat → Bool → Int → Int → Option (Int × Bool)
 | 0, _, _, _ => none
 | k + 1, x6, x7, x8 => (bits_Mul64.f x7 x8).bind fun bt245 => (if bt245.1 = 0 then (if bt245.2 > 9223372036854775808 then (gnomonref08_product.j2 k x6 bt245.2 true) else (if bt245.2 = 9223372036854775808 then (gnomonref08_product.j2 k x6 bt245.2 (!x6)) else (gnomonref08_product.j2 k x6 bt245.2 false))) else (gnomonref08_product.j2 k x6 bt245.2 true))
def gnomonref08_product.j2 : Nat → Bool → Int → Bool → Option (Int × Bool)
 | 0, _, _, _ => none
 | k + 1, x6, x10, x47 => if x47 = true then (some (0, false)) else (if x6 = true then (some (wrap64 (IntKind.u64.wrap (-x10)), true)) else (some (wrap64 (x10), true)))
end
def gnomonref08_product.f (k : Nat) (a0 : Int) (a1 : Int) : Option (Int × Bool) := if a0 < 0 then (gnomonref08_product.j0 k a1 ((decide (a0 < 0)) != (decide (a1 < 0))) (IntKind.u64.wrap (-(IntKind.u64.wrap (a0))))) else (gnomonref08_product.j0 k a1 ((decide (a0 < 0)) != (decide (a1 < 0))) (IntKind.u64.wrap (a0)))
theorem gnomonref08_product.mono_l : ∀ k, (∀ y0 y1 y2, LeO (gnomonref08_product.j0 k y0 y1 y2) (gnomonref08_product.j0 (k + 1) y0 y1 y2)) ∧ (∀ y0 y1 y2, LeO (gnomonref08_product.j1 k y0 y1 y2) (gnomonref08_product.j1 (k + 1) y0 y1 y2)) ∧ (∀ y0 y1 y2, LeO (gnomonref08_product.j2 k y0 y1 y2) (gnomonref08_product.j2 (k + 1) y0 y1 y2))
 | 0 => ⟨fun _ _ _ r h => by simp [gnomonref08_product.j0] at h, fun _ _ _ r h => by simp [gnomonref08_product.j1] at h, fun _ _ _ r h => by simp [gnomonref08_product.j2] at h⟩
 | k + 1 => by
  obtain ⟨ih0, ih1, ih2⟩ := gnomonref08_product.mono_l k
  refine ⟨?_, ?_, ?_⟩
  ·
   intro y0 y1 y2
   unfold gnomonref08_product.j0
   repeat' first
   | (with_reducible exact ih0 _ _ _)
   | (with_reducible exact ih1 _ _ _)
   | (with_reducible exact ih2 _ _ _)
   | (with_reducible exact LeO.refl _)
   | (with_reducible exact LeO.none _)
   | (with_reducible refine LeO.ite ?_ ?_)
   | (with_reducible refine LeO.bind ?_ (fun _ => ?_))
   | exact ih0 _ _ _
   | exact ih1 _ _ _
   | exact ih2 _ _ _
   | exact LeO.none _
   | refine LeO.ite ?_ ?_
   | refine LeO.bind ?_ (fun _ => ?_)
  ·
   intro y0 y1 y2
   unfold gnomonref08_product.j1
   repeat' first
   | (with_reducible exact ih0 _ _ _)
   | (with_reducible exact ih1 _ _ _)
   | (with_reducible exact ih2 _ _ _)
   | (with_reducible exact LeO.refl _)
   | (with_reducible exact LeO.none _)
   | (with_reducible refine LeO.ite ?_ ?_)
   | (with_reducible refine LeO.bind ?_ (fun _ => ?_))
   | exact ih0 _ _ _
   | exact ih1 _ _ _
   | exact ih2 _ _ _
   | exact LeO.none _
   | refine LeO.ite ?_ ?_
   | refine LeO.bind ?_ (fun _ => ?_)
  ·
   intro y0 y1 y2
   unfold gnomonref08_product.j2
   repeat' first
   | (with_reducible exact ih0 _ _ _)
   | (with_reducible exact ih1 _ _ _)
   | (with_reducible exact ih2 _ _ _)
   | (with_reducible exact LeO.refl _)
   | (with_reducible exact LeO.none _)
   | (with_reducible refine LeO.ite ?_ ?_)
   | (with_reducible refine LeO.bind ?_ (fun _ => ?_))
   | exact ih0 _ _ _
   | exact ih1 _ _ _
   | exact ih2 _ _ _
   | exact LeO.none _
   | refine LeO.ite ?_ ?_
   | refine LeO.bind ?_ (fun _ => ?_)
theorem gnomonref08_product.mono : ∀ a0 a1 k, LeO (gnomonref08_product.f k a0 a1) (gnomonref08_product.f (k + 1) a0 a1) := by
 intro a0 a1 k
 obtain ⟨ih0, ih1, ih2⟩ := gnomonref08_product.mono_l k
 unfold gnomonref08_product.f
 repeat' first
   | (with_reducible exact ih0 _ _ _)
   | (with_reducible exact ih1 _ _ _)
   | (with_reducible exact ih2 _ _ _)
   | (with_reducible exact LeO.refl _)
   | (with_reducible exact LeO.none _)
   | (with_reducible refine LeO.ite ?_ ?_)
   | (with_reducible refine LeO.bind ?_ (fun _ => ?_))
   | exact ih0 _ _ _
   | exact ih1 _ _ _
   | exact ih2 _ _ _
   | exact LeO.none _
   | refine LeO.ite ?_ ?_
   | refine LeO.bind ?_ (fun _ => ?_)
set_option maxHeartbeats 8000000 in
set_option maxRecDepth 100000 in
theorem gnomonref08_product.calls (k : Nat) (a0 : Int) (a1 : Int) (r1 : Int) (r2 : Bool) (w : World) (h : gnomonref08_product.f k a0 a1 = some (r1, r2)) :
  Calls Tryd.prog 90 #[.int .i64 a0, .int .i64 a1] w fun e w' => e = .returned (.tuple #[.int .i64 r1, .bool r2]) ∧ Drawn0 w w' := by
 have H : (if a0 < 0 then (gnomonref08_product.j0 k a1 ((decide (a0 < 0)) != (decide (a1 < 0))) (IntKind.u64.wrap (-(IntKind.u64.wrap (a0))))) else (gnomonref08_product.j0 k a1 ((decide (a0 < 0)) != (decide (a1 < 0))) (IntKind.u64.wrap (a0)))) = some (r1, r2) := h
 clear h
 have HC3 := Aside0.mk H
 clear H
 go_enter Tryd.func90, Tryd.ntmps90
 go_upto_if 19 with (fail)
 go_cut [7] (fun v7 wc => ∃ (kq : Nat) (x7_2 : Int), v7 = .int .u64 x7_2 ∧ Aside0 (gnomonref08_product.j0 kq a1 ((decide (a0 < 0)) != (decide (a1 < 0))) x7_2 = some (r1, r2)) ∧ Aside0 (kq ≤ k) ∧ Drawn0 w wc)
 case first =>
  have H := HC3.out
  clear HC3
  by_cases c4 : a0 < 0
  ·
   rw [if_pos c4] at H
   have c4b0 : decide (a0 < 0) = true := decide_eq_true c4
   clear c4
   (first | rw [c4b0] | (simp only [i64_w, i32_w]; rw [c4b0]) | skip)
   have H' := Aside0.mk H
   clear H
   go_wp2
   try rw [show (!true == decide (a1 < 0)) = (!decide (a0 < 0) == decide (a1 < 0)) from by rw [show decide (a0 < 0) = true from by assumption]]
   try rw [show (!false == decide (a1 < 0)) = (!decide (a0 < 0) == decide (a1 < 0)) from by rw [show decide (a0 < 0) = false from by assumption]]
   try rw [show (!decide (a0 < 0) == true) = (!decide (a0 < 0) == decide (a1 < 0)) from by rw [show decide (a1 < 0) = true from by assumption]]
   try rw [show (!decide (a0 < 0) == false) = (!decide (a0 < 0) == decide (a1 < 0)) from by rw [show decide (a1 < 0) = false from by assumption]]
   go_meet
   case rel => exact ⟨_, (IntKind.u64.wrap (-(IntKind.u64.wrap (a0)))), (by first | rfl | (simp; done) | (simp [*]; done) | (simp [bne]; done)), H', ⟨by first | omega | exact Nat.le_refl _⟩, by repeat (first | exact Drawn0.refl _ | apply Drawn0.step)⟩
  ·
   rw [if_neg c4] at H
   have c4b0 : decide (a0 < 0) = false := decide_eq_false c4
   clear c4
   (first | rw [c4b0] | (simp only [i64_w, i32_w]; rw [c4b0]) | skip)
   have H' := Aside0.mk H
   clear H
   go_wp2
   try rw [show (!true == decide (a1 < 0)) = (!decide (a0 < 0) == decide (a1 < 0)) from by rw [show decide (a0 < 0) = true from by assumption]]
   try rw [show (!false == decide (a1 < 0)) = (!decide (a0 < 0) == decide (a1 < 0)) from by rw [show decide (a0 < 0) = false from by assumption]]
   try rw [show (!decide (a0 < 0) == true) = (!decide (a0 < 0) == decide (a1 < 0)) from by rw [show decide (a1 < 0) = true from by assumption]]
   try rw [show (!decide (a0 < 0) == false) = (!decide (a0 < 0) == decide (a1 < 0)) from by rw [show decide (a1 < 0) = false from by assumption]]
   go_meet
   case rel => exact ⟨_, (IntKind.u64.wrap (a0)), (by first | rfl | (simp; done) | (simp [*]; done) | (simp [bne]; done)), H', ⟨by first | omega | exact Nat.le_refl _⟩, by repeat (first | exact Drawn0.refl _ | apply Drawn0.step)⟩
 case rest =>
  clear HC3
  try clear p2
  try clear c4
  try clear c4b0
  obtain ⟨kq, x7_2, rfl, HA, HJ2, ⟨mc2, rfl⟩⟩ := hcut
  cases kq with
  | zero => exact absurd HA.out (by simp [gnomonref08_product.j0])
  | succ kj2 =>
   have H := HA.out
   clear HA
   simp only [gnomonref08_product.j0] at H
   have HC5 := Aside0.mk H
   clear H
   go_upto_if 25 with (fail)
   go_cut [8] (fun v8 wc => ∃ (kq : Nat) (x8_4 : Int), v8 = .int .u64 x8_4 ∧ Aside0 (gnomonref08_product.j1 kq ((decide (a0 < 0)) != (decide (a1 < 0))) x7_2 x8_4 = some (r1, r2)) ∧ Aside0 (kq ≤ kj2) ∧ Drawn0 w wc)
   case first =>
    have H := HC5.out
    clear HC5
    by_cases c6 : a1 < 0
    ·
     rw [if_pos c6] at H
     have c6b0 : decide (a1 < 0) = true := decide_eq_true c6
     clear c6
     (first | rw [c6b0] | (simp only [i64_w, i32_w]; rw [c6b0]) | skip)
     have H' := Aside0.mk H
     clear H
     go_wp2
     try rw [show (!true == decide (a1 < 0)) = (!decide (a0 < 0) == decide (a1 < 0)) from by rw [show decide (a0 < 0) = true from by assumption]]
     try rw [show (!false == decide (a1 < 0)) = (!decide (a0 < 0) == decide (a1 < 0)) from by rw [show decide (a0 < 0) = false from by assumption]]
     try rw [show (!decide (a0 < 0) == true) = (!decide (a0 < 0) == decide (a1 < 0)) from by rw [show decide (a1 < 0) = true from by assumption]]
     try rw [show (!decide (a0 < 0) == false) = (!decide (a0 < 0) == decide (a1 < 0)) from by rw [show decide (a1 < 0) = false from by assumption]]
     go_meet
     case rel => exact ⟨_, (IntKind.u64.wrap (-(IntKind.u64.wrap (a1)))), (by first | rfl | (simp; done) | (simp [*]; done) | (simp [bne]; done)), H', ⟨by have := HJ2.out; first | omega | exact Nat.le_refl _⟩, by repeat (first | exact Drawn0.refl _ | apply Drawn0.step)⟩
    ·
     rw [if_neg c6] at H
     have c6b0 : decide (a1 < 0) = false := decide_eq_false c6
     clear c6
     (first | rw [c6b0] | (simp only [i64_w, i32_w]; rw [c6b0]) | skip)
     have H' := Aside0.mk H
     clear H
     go_wp2
     try rw [show (!true == decide (a1 < 0)) = (!decide (a0 < 0) == decide (a1 < 0)) from by rw [show decide (a0 < 0) = true from by assumption]]
     try rw [show (!false == decide (a1 < 0)) = (!decide (a0 < 0) == decide (a1 < 0)) from by rw [show decide (a0 < 0) = false from by assumption]]
     try rw [show (!decide (a0 < 0) == true) = (!decide (a0 < 0) == decide (a1 < 0)) from by rw [show decide (a1 < 0) = true from by assumption]]
     try rw [show (!decide (a0 < 0) == false) = (!decide (a0 < 0) == decide (a1 < 0)) from by rw [show decide (a1 < 0) = false from by assumption]]
     go_meet
     case rel => exact ⟨_, (IntKind.u64.wrap (a1)), (by first | rfl | (simp; done) | (simp [*]; done) | (simp [bne]; done)), H', ⟨by have := HJ2.out; first | omega | exact Nat.le_refl _⟩, by repeat (first | exact Drawn0.refl _ | apply Drawn0.step)⟩
   case rest =>
    clear HC5
    try clear c2
    try clear p2
    try clear c4
    try clear c4b0
    try clear c6
    try clear c6b0
    try clear p2
    obtain ⟨kq, x8_4, rfl, HA, HJ4, ⟨mc4, rfl⟩⟩ := hcut
    cases kq with
    | zero => exact absurd HA.out (by simp [gnomonref08_product.j1])
    | succ kj4 =>
     have H := HA.out
     clear HA
     simp only [gnomonref08_product.j1] at H
     replace H := Option.bind_eq_some_iff.mp H
     obtain ⟨⟨t245, t246⟩, A70, H⟩ := H
     replace H : (if t245 = 0 then (if t246 > 9223372036854775808 then (gnomonref08_product.j2 kj4 ((decide (a0 < 0)) != (decide (a1 < 0))) t246 true) else (if t246 = 9223372036854775808 then (gnomonref08_product.j2 kj4 ((decide (a0 < 0)) != (decide (a1 < 0))) t246 (!((decide (a0 < 0)) != (decide (a1 < 0))))) else (gnomonref08_product.j2 kj4 ((decide (a0 < 0)) != (decide (a1 < 0))) t246 false))) else (gnomonref08_product.j2 kj4 ((decide (a0 < 0)) != (decide (a1 < 0))) t246 true)) = some (r1, r2) := H
     have A7 := Aside0.mk A70
     clear A70
     have HC8 := Aside0.mk H
     clear H
     go_upto_region 9 with (first | ((with_reducible refine gate_callee (f := 97) rfl ?_); refine goesL_ (some 31) rfl rfl Tryd.func97 (by kernel_rfl) rfl #[.int .u64 x7_2, .int .u64 x8_4] rfl (by (try simp only [List.map_toArray, List.map_cons, List.map_nil]); first | done | rfl | (simp only [List.length_drop, List.length_take]; rfl)) ?_; (with_reducible refine (bits_Mul64.calls x7_2 x8_4 t245 t246 _ A7.out).mono ?_); rintro e w' ⟨rfl, ⟨nd, rfl⟩⟩; refine ⟨_, rfl, ?_⟩))
     (try simp only [Act.put, List.setIfInBounds_toArray, List.set_cons_zero, List.set_cons_succ])
     go_cut [47] (fun v47 wc => ∃ (kq : Nat) (x47_7 : Bool), v47 = .bool x47_7 ∧ Aside0 (gnomonref08_product.j2 kq ((decide (a0 < 0)) != (decide (a1 < 0))) t246 x47_7 = some (r1, r2)) ∧ Aside0 (kq ≤ kj4) ∧ Drawn0 w wc)
     case first =>
      have H := HC8.out
      clear HC8
      by_cases c9 : t245 = 0
      ·
       rw [if_pos c9] at H
       have c9b0 : (t245 == 0) = true := beq_iff_eq.mpr c9
       have c9b1 : (t245 != 0) = false := bne_eq_false_iff_eq.mpr c9
       clear c9
       (first | rw [c9b0] | (simp only [i64_w, i32_w]; rw [c9b0]) | skip)
       by_cases c10 : t246 > 9223372036854775808
       ·
        rw [if_pos c10] at H
        have c10b0 : decide (9223372036854775808 < t246) = true := decide_eq_true c10
        clear c10
        have H' := Aside0.mk H
        clear H
        go_wp2
        try rw [show (!true == decide (a1 < 0)) = (!decide (a0 < 0) == decide (a1 < 0)) from by rw [show decide (a0 < 0) = true from by assumption]]
        try rw [show (!false == decide (a1 < 0)) = (!decide (a0 < 0) == decide (a1 < 0)) from by rw [show decide (a0 < 0) = false from by assumption]]
        try rw [show (!decide (a0 < 0) == true) = (!decide (a0 < 0) == decide (a1 < 0)) from by rw [show decide (a1 < 0) = true from by assumption]]
        try rw [show (!decide (a0 < 0) == false) = (!decide (a0 < 0) == decide (a1 < 0)) from by rw [show decide (a1 < 0) = false from by assumption]]
        go_meet
        case rel => exact ⟨_, (true), (by first | rfl | (simp; done) | (simp [*]; done) | (simp [bne]; done)), H', ⟨by have := HJ2.out; have := HJ4.out; first | omega | exact Nat.le_refl _⟩, by repeat (first | exact Drawn0.refl _ | apply Drawn0.step)⟩
       ·
        rw [if_neg c10] at H
        have c10b0 : decide (9223372036854775808 < t246) = false := decide_eq_false c10
        clear c10
        by_cases c11 : t246 = 9223372036854775808
        ·
         rw [if_pos c11] at H
         have c11b0 : (t246 == 9223372036854775808) = true := beq_iff_eq.mpr c11
         have c11b1 : (t246 != 9223372036854775808) = false := bne_eq_false_iff_eq.mpr c11
         clear c11
         have H' := Aside0.mk H
         clear H
         go_wp2
         try rw [show (!true == decide (a1 < 0)) = (!decide (a0 < 0) == decide (a1 < 0)) from by rw [show decide (a0 < 0) = true from by assumption]]
         try rw [show (!false == decide (a1 < 0)) = (!decide (a0 < 0) == decide (a1 < 0)) from by rw [show decide (a0 < 0) = false from by assumption]]
         try rw [show (!decide (a0 < 0) == true) = (!decide (a0 < 0) == decide (a1 < 0)) from by rw [show decide (a1 < 0) = true from by assumption]]
         try rw [show (!decide (a0 < 0) == false) = (!decide (a0 < 0) == decide (a1 < 0)) from by rw [show decide (a1 < 0) = false from by assumption]]
         go_meet
         case rel => exact ⟨_, (!((decide (a0 < 0)) != (decide (a1 < 0)))), (by first | rfl | (simp; done) | (simp [*]; done) | (simp [bne]; done)), H', ⟨by have := HJ2.out; have := HJ4.out; first | omega | exact Nat.le_refl _⟩, by repeat (first | exact Drawn0.refl _ | apply Drawn0.step)⟩
        ·
         rw [if_neg c11] at H
         have c11b0 : (t246 == 9223372036854775808) = false := beq_eq_false_iff_ne.mpr c11
         have c11b1 : (t246 != 9223372036854775808) = true := bne_iff_ne.mpr c11
         have H' := Aside0.mk H
         clear H
         go_wp2
         try rw [show (!true == decide (a1 < 0)) = (!decide (a0 < 0) == decide (a1 < 0)) from by rw [show decide (a0 < 0) = true from by assumption]]
         try rw [show (!false == decide (a1 < 0)) = (!decide (a0 < 0) == decide (a1 < 0)) from by rw [show decide (a0 < 0) = false from by assumption]]
         try rw [show (!decide (a0 < 0) == true) = (!decide (a0 < 0) == decide (a1 < 0)) from by rw [show decide (a1 < 0) = true from by assumption]]
         try rw [show (!decide (a0 < 0) == false) = (!decide (a0 < 0) == decide (a1 < 0)) from by rw [show decide (a1 < 0) = false from by assumption]]
         go_meet
         case rel => exact ⟨_, (false), (by first | rfl | (simp; done) | (simp [*]; done) | (simp [bne]; done)), H', ⟨by have := HJ2.out; have := HJ4.out; first | omega | exact Nat.le_refl _⟩, by repeat (first | exact Drawn0.refl _ | apply Drawn0.step)⟩
      ·
       rw [if_neg c9] at H
       have c9b0 : (t245 == 0) = false := beq_eq_false_iff_ne.mpr c9
       have c9b1 : (t245 != 0) = true := bne_iff_ne.mpr c9
       (first | rw [c9b0] | (simp only [i64_w, i32_w]; rw [c9b0]) | skip)
       have H' := Aside0.mk H
       clear H
       go_wp2
       try rw [show (!true == decide (a1 < 0)) = (!decide (a0 < 0) == decide (a1 < 0)) from by rw [show decide (a0 < 0) = true from by assumption]]
       try rw [show (!false == decide (a1 < 0)) = (!decide (a0 < 0) == decide (a1 < 0)) from by rw [show decide (a0 < 0) = false from by assumption]]
       try rw [show (!decide (a0 < 0) == true) = (!decide (a0 < 0) == decide (a1 < 0)) from by rw [show decide (a1 < 0) = true from by assumption]]
       try rw [show (!decide (a0 < 0) == false) = (!decide (a0 < 0) == decide (a1 < 0)) from by rw [show decide (a1 < 0) = false from by assumption]]
       go_meet
       case rel => exact ⟨_, (true), (by first | rfl | (simp; done) | (simp [*]; done) | (simp [bne]; done)), H', ⟨by have := HJ2.out; have := HJ4.out; first | omega | exact Nat.le_refl _⟩, by repeat (first | exact Drawn0.refl _ | apply Drawn0.step)⟩
     case rest =>
      clear HC8
      try clear c1
      try clear c2
      try clear p2
      try clear c4
      try clear c4b0
      try clear c6
      try clear c6b0
      try clear c9
      try clear c9b0
      try clear c9b1
      try clear c10
      try clear c10b0
      try clear c11
      try clear c11b0
      try clear c11b1
      try clear p2
      obtain ⟨kq, x47_7, rfl, HA, HJ7, ⟨mc7, rfl⟩⟩ := hcut
      cases kq with
      | zero => exact absurd HA.out (by simp [gnomonref08_product.j2])
      | succ kj7 =>
       have H := HA.out
       clear HA
       simp only [gnomonref08_product.j2] at H
       by_cases c12 : x47_7 = true
       ·
        subst c12
        have H1 : (some (0, false)) = some (r1, r2) := by rw [if_pos rfl] at H; exact H
        clear H
        have H := H1
        clear H1
        simp only [Option.some.injEq, Prod.mk.injEq] at H
        obtain ⟨rfl, rfl⟩ := H
        go_wp2
        go_ret2
        exact ⟨by first | rfl | (simp; done) | (simp [*]; done), by repeat (first | exact Drawn0.refl _ | apply Drawn0.step)⟩
       ·
        replace c12 := Bool.eq_false_iff.mpr c12
        subst c12
        have H1 : (if ((decide (a0 < 0)) != (decide (a1 < 0))) = true then (some (wrap64 (IntKind.u64.wrap (-t246)), true)) else (some (wrap64 (t246), true))) = some (r1, r2) := by rw [if_neg (show ¬ (false = true) by decide)] at H; exact H
        clear H
        have H := H1
        clear H1
        by_cases c13 : ((decide (a0 < 0)) != (decide (a1 < 0))) = true
        ·
         rw [if_pos c13] at H
         have c13b0 : ((decide (a0 < 0)) != (decide (a1 < 0))) = true := c13
         have c13b5 : ((decide (a0 < 0)) == (decide (a1 < 0))) = false := by have h_ := c13b0; revert h_; generalize (decide (a0 < 0)) = x_; generalize (decide (a1 < 0)) = y_; cases x_ <;> cases y_ <;> decide
         try rw [show (!((decide (a0 < 0)) == (decide (a1 < 0)))) = true from c13b0]
         have c13b4 : (!((decide (a0 < 0)) == (decide (a1 < 0)))) = true := c13b0
         (try (have c13b1 : decide ((decide (a0 < 0)) = (decide (a1 < 0))) = false := by simpa using c13))
         (try (have c13b2 : ((decide (a0 < 0)) == (decide (a1 < 0))) = false := by simpa using c13))
         (try (have c13b3 : ¬ ((decide (a0 < 0)) = (decide (a1 < 0))) := by simpa using c13))
         clear c13
         simp only [Option.some.injEq, Prod.mk.injEq] at H
         obtain ⟨rfl, rfl⟩ := H
         go_wp2
         go_ret2
         exact ⟨by first | rfl | (simp; done) | (simp [*]; done), by repeat (first | exact Drawn0.refl _ | apply Drawn0.step)⟩
        ·
         rw [if_neg c13] at H
         have c13b0 : ((decide (a0 < 0)) != (decide (a1 < 0))) = false := by simpa using c13
         have c13b5 : ((decide (a0 < 0)) == (decide (a1 < 0))) = true := by have h_ := c13b0; revert h_; generalize (decide (a0 < 0)) = x_; generalize (decide (a1 < 0)) = y_; cases x_ <;> cases y_ <;> decide
         try rw [show (!((decide (a0 < 0)) == (decide (a1 < 0)))) = false from c13b0]
         have c13b4 : (!((decide (a0 < 0)) == (decide (a1 < 0)))) = false := c13b0
         (try (have c13b1 : decide ((decide (a0 < 0)) = (decide (a1 < 0))) = true := by simpa using c13))
         (try (have c13b2 : ((decide (a0 < 0)) == (decide (a1 < 0))) = true := by simpa using c13))
         clear c13
         simp only [Option.some.injEq, Prod.mk.injEq] at H
         obtain ⟨rfl, rfl⟩ := H
         go_wp2
         go_ret2
         exact ⟨by first | rfl | (simp; done) | (simp [*]; done), by repeat (first | exact Drawn0.refl _ | apply Drawn0.step)⟩

/-! ### gnomonref08_sum: function 91 -/
def gnomonref08_sum.f (a0 : Int) (a1 : Int) : Option (Int × Bool) := if a1 ≥ 0 then (if (wrap64 (a0 + a1)) ≥ a0 then (some (wrap64 (a0 + a1), true)) else (if a1 < 0 then (some (wrap64 (a0 + a1), decide ((wrap64 (a0 + a1)) < a0))) else (some (wrap64 (a0 + a1), false)))) else (if a1 < 0 then (some (wrap64 (a0 + a1), decide ((wrap64 (a0 + a1)) < a0))) else (some (wrap64 (a0 + a1), false)))
set_option maxHeartbeats 8000000 in
set_option maxRecDepth 100000 in
theorem gnomonref08_sum.calls (a0 : Int) (a1 : Int) (r1 : Int) (r2 : Bool) (w : World) (h : gnomonref08_sum.f a0 a1 = some (r1, r2)) :
  Calls Tryd.prog 91 #[.int .i64 a0, .int .i64 a1] w fun e w' => e = .returned (.tuple #[.int .i64 r1, .bool r2]) ∧ Drawn0 w w' := by
 have H : (if a1 ≥ 0 then (if (wrap64 (a0 + a1)) ≥ a0 then (some (wrap64 (a0 + a1), true)) else (if a1 < 0 then (some (wrap64 (a0 + a1), decide ((wrap64 (a0 + a1)) < a0))) else (some (wrap64 (a0 + a1), false)))) else (if a1 < 0 then (some (wrap64 (a0 + a1), decide ((wrap64 (a0 + a1)) < a0))) else (some (wrap64 (a0 + a1), false)))) = some (r1, r2) := h
 clear h
 by_cases c3 : a1 ≥ 0
 ·
  rw [if_pos c3] at H
  have c3b0 : decide (0 ≤ a1) = true := decide_eq_true c3
  clear c3
  by_cases c4 : (wrap64 (a0 + a1)) ≥ a0
  ·
   rw [if_pos c4] at H
   have c4b0 : decide (a0 ≤ (wrap64 (a0 + a1))) = true := decide_eq_true c4
   clear c4
   simp only [Option.some.injEq, Prod.mk.injEq] at H
   obtain ⟨rfl, rfl⟩ := H
   go_enter Tryd.func91, Tryd.ntmps91
   go_wp2
   go_ret2
   exact ⟨by first | rfl | (simp; done) | (simp [*]; done), by repeat (first | exact Drawn0.refl _ | apply Drawn0.step)⟩
  ·
   rw [if_neg c4] at H
   have c4b0 : decide (a0 ≤ (wrap64 (a0 + a1))) = false := decide_eq_false c4
   clear c4
   by_cases c5 : a1 < 0
   ·
    rw [if_pos c5] at H
    have c5b0 : decide (a1 < 0) = true := decide_eq_true c5
    clear c5
    simp only [Option.some.injEq, Prod.mk.injEq] at H
    obtain ⟨rfl, rfl⟩ := H
    go_enter Tryd.func91, Tryd.ntmps91
    go_wp2
    go_ret2
    exact ⟨by first | rfl | (simp; done) | (simp [*]; done), by repeat (first | exact Drawn0.refl _ | apply Drawn0.step)⟩
   ·
    rw [if_neg c5] at H
    have c5b0 : decide (a1 < 0) = false := decide_eq_false c5
    clear c5
    simp only [Option.some.injEq, Prod.mk.injEq] at H
    obtain ⟨rfl, rfl⟩ := H
    go_enter Tryd.func91, Tryd.ntmps91
    go_wp2
    go_ret2
    exact ⟨by first | rfl | (simp; done) | (simp [*]; done), by repeat (first | exact Drawn0.refl _ | apply Drawn0.step)⟩
 ·
  rw [if_neg c3] at H
  have c3b0 : decide (0 ≤ a1) = false := decide_eq_false c3
  clear c3
  by_cases c6 : a1 < 0
  ·
   rw [if_pos c6] at H
   have c6b0 : decide (a1 < 0) = true := decide_eq_true c6
   clear c6
   simp only [Option.some.injEq, Prod.mk.injEq] at H
   obtain ⟨rfl, rfl⟩ := H
   go_enter Tryd.func91, Tryd.ntmps91
   go_wp2
   go_ret2
   exact ⟨by first | rfl | (simp; done) | (simp [*]; done), by repeat (first | exact Drawn0.refl _ | apply Drawn0.step)⟩
  ·
   rw [if_neg c6] at H
   have c6b0 : decide (a1 < 0) = false := decide_eq_false c6
   clear c6
   simp only [Option.some.injEq, Prod.mk.injEq] at H
   obtain ⟨rfl, rfl⟩ := H
   go_enter Tryd.func91, Tryd.ntmps91
   go_wp2
   go_ret2
   exact ⟨by first | rfl | (simp; done) | (simp [*]; done), by repeat (first | exact Drawn0.refl _ | apply Drawn0.step)⟩

end Go.Proofs.YtgkcjefbagnkpaaDoor.PVal
