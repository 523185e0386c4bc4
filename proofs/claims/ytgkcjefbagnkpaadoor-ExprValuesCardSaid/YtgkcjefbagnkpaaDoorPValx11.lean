-- written by wip/tools/xprint.py (over the kit's print.py): not trusted, Lean checks it.
import Derived.Test.YtgkcjefbagnkpaaDoorPValx0
import Derived.Test.YtgkcjefbagnkpaaDoorPValx8
import Derived.Test.YtgkcjefbagnkpaaDoorPValx9
import Derived.Test.YtgkcjefbagnkpaaDoorPValx10
namespace Go.Proofs.YtgkcjefbagnkpaaDoor.PVal
open Go.RowKit Go.Proofs.YtgkcjefbagnkpaaDoorW.PrintWords Go.Proofs.YtgkcjefbagnkpaaDoorW.PrintLast Go.Proofs.YtgkcjefbagnkpaaDoorW.PrintMore Go.Proofs.YtgkcjefbagnkpaaDoorXW
attribute [local go_sem high] cell_set_map Option.map_some
attribute [local go_sem] max2_int min2_int max_two min_two max_three min_three max_four min_four   -- for this text's walks alone
set_option linter.unusedVariables false
set_option linter.unusedSimpArgs false

/-! ### gnomonref08_value: function 62 -/
mutual
def gnomonref08_value.j0 : Nat → List (S68) → Int → List Int → Int → Int → Bool → Option (Int × Bool)
 | 0, _, _, _, _, _, _ => none
 | k + 1, x0, x1, x2, x8, x9, x72 => if x72 = true then (some (x9, true)) else ((gnomonref08_End.f k x0 (wrap64 (x1 + 1))).bind fun t255 => ((gnomonref08_value.f k x0 t255 x2).bind fun bt256 => (if bt256.2 = true then (if x8 = 4 then ((gnomonref08_sum.f x9 bt256.1).bind fun bt258 => (some (bt258.1, bt258.2))) else (if x8 = 5 then (if bt256.1 ≥ 0 then (if (wrap64 (x9 - bt256.1)) ≤ x9 then (some (wrap64 (x9 - bt256.1), true)) else (if bt256.1 < 0 then (some (wrap64 (x9 - bt256.1), decide ((wrap64 (x9 - bt256.1)) > x9))) else (some (wrap64 (x9 - bt256.1), false)))) else (if bt256.1 < 0 then (some (wrap64 (x9 - bt256.1), decide ((wrap64 (x9 - bt256.1)) > x9))) else (some (wrap64 (x9 - bt256.1), false)))) else (if x8 = 6 then ((gnomonref08_product.f k x9 bt256.1).bind fun bt260 => (some (bt260.1, bt260.2))) else (if x8 = 8 then (if x9 < bt256.1 then (some (1, true)) else (some (0, true))) else (if x8 = 9 then (if x9 ≤ bt256.1 then (some (1, true)) else (some (0, true))) else (if x8 = 10 then (if x9 = bt256.1 then (some (1, true)) else (some (0, true))) else (if x8 = 11 then (if x9 = bt256.1 then (some (0, true)) else (some (1, true))) else (some (bt256.1, true))))))))) else (some (0, false)))))
def gnomonref08_value.f : Nat → List (S68) → Int → List Int → Option (Int × Bool)
 | 0, _, _, _ => none
 | k + 1, l0, a1, l2 => if 0 ≤ a1 then (if a1 < (l0.length : Int) then (if ((rd_T68 l0 a1).f0) = 1 then (some ((rd_T68 l0 a1).f1, true)) else (if ((rd_T68 l0 a1).f0) = 2 then (if 0 ≤ ((rd_T68 l0 a1).f1) then (if ((rd_T68 l0 a1).f1) < (l2.length : Int) then (some (rd l2 ((rd_T68 l0 a1).f1), true)) else (none)) else (none)) else (if ((rd_T68 l0 a1).f0) = 7 then (some (1, true)) else ((gnomonref08_value.f k l0 (wrap64 (a1 + 1)) l2).bind fun bt251 => (if bt251.2 = true then (if ((rd_T68 l0 a1).f0) = 3 then ((gnomonref08_product.f k bt251.1 (-1)).bind fun bt253 => (some (bt253.1, bt253.2))) else (if ((rd_T68 l0 a1).f0) = 12 then (some (wrap64 (1 - bt251.1), true)) else (if ((rd_T68 l0 a1).f0) = 13 then (if bt251.1 = 0 then (gnomonref08_value.j0 k l0 a1 l2 ((rd_T68 l0 a1).f0) bt251.1 true) else (if ((rd_T68 l0 a1).f0) = 14 then (gnomonref08_value.j0 k l0 a1 l2 ((rd_T68 l0 a1).f0) bt251.1 (bt251.1 == 1)) else (gnomonref08_value.j0 k l0 a1 l2 ((rd_T68 l0 a1).f0) bt251.1 false))) else (if ((rd_T68 l0 a1).f0) = 14 then (gnomonref08_value.j0 k l0 a1 l2 ((rd_T68 l0 a1).f0) bt251.1 (bt251.1 == 1)) else (gnomonref08_value.j0 k l0 a1 l2 ((rd_T68 l0 a1).f0) bt251.1 false))))) else (some (0, false))))))) else (none)) else (none)
end
theorem gnomonref08_value.mono_l : ∀ k, (∀ y0 y1 y2, LeO (gnomonref08_value.f k y0 y1 y2) (gnomonref08_value.f (k + 1) y0 y1 y2)) ∧ (∀ y0 y1 y2 y3 y4 y5, LeO (gnomonref08_value.j0 k y0 y1 y2 y3 y4 y5) (gnomonref08_value.j0 (k + 1) y0 y1 y2 y3 y4 y5))
 | 0 => ⟨fun _ _ _ r h => by simp [gnomonref08_value.f] at h, fun _ _ _ _ _ _ r h => by simp [gnomonref08_value.j0] at h⟩
 | k + 1 => by
  obtain ⟨ih0, ih1⟩ := gnomonref08_value.mono_l k
  refine ⟨?_, ?_⟩
  ·
   intro y0 y1 y2
   unfold gnomonref08_value.f
   repeat' first
   | (with_reducible exact ih0 _ _ _)
   | (with_reducible exact ih1 _ _ _ _ _ _)
   | (with_reducible exact gnomonref08_End.mono _ _ _)
   | (with_reducible exact gnomonref08_product.mono _ _ _)
   | (with_reducible exact LeO.refl _)
   | (with_reducible exact LeO.none _)
   | (with_reducible refine LeO.ite ?_ ?_)
   | (with_reducible refine LeO.bind ?_ (fun _ => ?_))
   | exact ih0 _ _ _
   | exact ih1 _ _ _ _ _ _
   | exact gnomonref08_End.mono _ _ _
   | exact gnomonref08_product.mono _ _ _
   | exact LeO.none _
   | refine LeO.ite ?_ ?_
   | refine LeO.bind ?_ (fun _ => ?_)
  ·
   intro y0 y1 y2 y3 y4 y5
   unfold gnomonref08_value.j0
   repeat' first
   | (with_reducible exact ih0 _ _ _)
   | (with_reducible exact ih1 _ _ _ _ _ _)
   | (with_reducible exact gnomonref08_End.mono _ _ _)
   | (with_reducible exact gnomonref08_product.mono _ _ _)
   | (with_reducible exact LeO.refl _)
   | (with_reducible exact LeO.none _)
   | (with_reducible refine LeO.ite ?_ ?_)
   | (with_reducible refine LeO.bind ?_ (fun _ => ?_))
   | exact ih0 _ _ _
   | exact ih1 _ _ _ _ _ _
   | exact gnomonref08_End.mono _ _ _
   | exact gnomonref08_product.mono _ _ _
   | exact LeO.none _
   | refine LeO.ite ?_ ?_
   | refine LeO.bind ?_ (fun _ => ?_)
theorem gnomonref08_value.mono : ∀ a0 a1 a2 k, LeO (gnomonref08_value.f k a0 a1 a2) (gnomonref08_value.f (k + 1) a0 a1 a2) := by
 intro a0 a1 a2 k
 obtain ⟨ih0, ih1⟩ := gnomonref08_value.mono_l k
 exact ih0 a0 a1 a2
set_option maxHeartbeats 8000000 in
set_option maxRecDepth 100000 in
theorem gnomonref08_value.calls (k : Nat) : ∀ (A0 : Option Addr) (c0 : Nat) (l0 : List (S68)) (a1 : Int) (A2 : Option Addr) (c2 : Nat) (l2 : List Int) (r1 : Int) (r2 : Bool) (w : World) (hr0 : Kd.C k68 w A0 l0.length l0) (hc0 : l0.length ≤ c0) (hr2 : Kd.C (Kd.int .i64) w A2 l2.length l2) (hc2 : l2.length ≤ c2) (h : gnomonref08_value.f k l0 a1 l2 = some (r1, r2)),
  Calls Tryd.prog 62 #[.slice A0 l0.length c0, .int .i64 a1, .slice A2 l2.length c2] w fun e w' => e = .returned (.tuple #[.int .i64 r1, .bool r2]) ∧ Drawn0 w w' := by
 induction k using Nat.strongRecOn with
 | _ k ih =>
 intro A0 c0 l0 a1 A2 c2 l2 r1 r2 w hr0 hc0 hr2 hc2 h
 cases k with
 | zero => exact absurd h (by simp [gnomonref08_value.f])
 | succ k =>
 simp only [gnomonref08_value.f] at h
 have HR0 := Aside0.mk hr0
 have HC0 := Aside0.mk hc0
 clear hr0 hc0
 have HR2 := Aside0.mk hr2
 have HC2 := Aside0.mk hc2
 clear hr2 hc2
 have H : (if 0 ≤ a1 then (if a1 < (l0.length : Int) then (if ((rd_T68 l0 a1).f0) = 1 then (some ((rd_T68 l0 a1).f1, true)) else (if ((rd_T68 l0 a1).f0) = 2 then (if 0 ≤ ((rd_T68 l0 a1).f1) then (if ((rd_T68 l0 a1).f1) < (l2.length : Int) then (some (rd l2 ((rd_T68 l0 a1).f1), true)) else (none)) else (none)) else (if ((rd_T68 l0 a1).f0) = 7 then (some (1, true)) else ((gnomonref08_value.f k l0 (wrap64 (a1 + 1)) l2).bind fun bt251 => (if bt251.2 = true then (if ((rd_T68 l0 a1).f0) = 3 then ((gnomonref08_product.f k bt251.1 (-1)).bind fun bt253 => (some (bt253.1, bt253.2))) else (if ((rd_T68 l0 a1).f0) = 12 then (some (wrap64 (1 - bt251.1), true)) else (if ((rd_T68 l0 a1).f0) = 13 then (if bt251.1 = 0 then (gnomonref08_value.j0 k l0 a1 l2 ((rd_T68 l0 a1).f0) bt251.1 true) else (if ((rd_T68 l0 a1).f0) = 14 then (gnomonref08_value.j0 k l0 a1 l2 ((rd_T68 l0 a1).f0) bt251.1 (bt251.1 == 1)) else (gnomonref08_value.j0 k l0 a1 l2 ((rd_T68 l0 a1).f0) bt251.1 false))) else (if ((rd_T68 l0 a1).f0) = 14 then (gnomonref08_value.j0 k l0 a1 l2 ((rd_T68 l0 a1).f0) bt251.1 (bt251.1 == 1)) else (gnomonref08_value.j0 k l0 a1 l2 ((rd_T68 l0 a1).f0) bt251.1 false))))) else (some (0, false))))))) else (none)) else (none)) = some (r1, r2) := h
 clear h
 by_cases c4 : 0 ≤ a1
 ·
  rw [if_pos c4] at H
  have c4b0 : decide (0 ≤ a1) = true := decide_eq_true c4
  clear c4
  by_cases c5 : a1 < (l0.length : Int)
  ·
   rw [if_pos c5] at H
   have c5b0 : decide (a1 < (l0.length : Int)) = true := decide_eq_true c5
   clear c5
   by_cases c6 : ((rd_T68 l0 a1).f0) = 1
   ·
    rw [if_pos c6] at H
    have c6b0 : (((rd_T68 l0 a1).f0) == 1) = true := beq_iff_eq.mpr c6
    have c6b1 : (((rd_T68 l0 a1).f0) != 1) = false := bne_eq_false_iff_eq.mpr c6
    clear c6
    simp only [Option.some.injEq, Prod.mk.injEq] at H
    obtain ⟨rfl, rfl⟩ := H
    have p247 : 0 ≤ (a1 : Int) := of_decide_eq_true (by first | (with_reducible assumption) | assumption)
    have q247 : a1 < (l0.length : Int) := of_decide_eq_true (by first | (with_reducible assumption) | assumption)
    obtain ⟨ad247, e247, hx247_0, hx247_1⟩ := at_T68 HR0.out a1 p247 q247
    cases e247
    replace p247 := eq_true p247
    replace q247 := eq_true q247
    have p248 : 0 ≤ (a1 : Int) := of_decide_eq_true (by first | (with_reducible assumption) | assumption)
    have q248 : a1 < (l0.length : Int) := of_decide_eq_true (by first | (with_reducible assumption) | assumption)
    obtain ⟨ad248, e248, hx248_0, hx248_1⟩ := at_T68 HR0.out a1 p248 q248
    obtain rfl : ad247 = ad248 := (by injection e248)
    replace p248 := eq_true p248
    replace q248 := eq_true q248
    go_enter Tryd.func62, Tryd.ntmps62
    go_wp2
    go_ret2
    exact ⟨by first | rfl | (simp; done) | (simp [*]; done), by repeat (first | exact Drawn0.refl _ | apply Drawn0.step)⟩
   ·
    rw [if_neg c6] at H
    have c6b0 : (((rd_T68 l0 a1).f0) == 1) = false := beq_eq_false_iff_ne.mpr c6
    have c6b1 : (((rd_T68 l0 a1).f0) != 1) = true := bne_iff_ne.mpr c6
    by_cases c7 : ((rd_T68 l0 a1).f0) = 2
    ·
     rw [if_pos c7] at H
     have c7b0 : (((rd_T68 l0 a1).f0) == 2) = true := beq_iff_eq.mpr c7
     have c7b1 : (((rd_T68 l0 a1).f0) != 2) = false := bne_eq_false_iff_eq.mpr c7
     clear c7
     by_cases c8 : 0 ≤ ((rd_T68 l0 a1).f1)
     ·
      rw [if_pos c8] at H
      have c8b0 : decide (0 ≤ ((rd_T68 l0 a1).f1)) = true := decide_eq_true c8
      clear c8
      by_cases c9 : ((rd_T68 l0 a1).f1) < (l2.length : Int)
      ·
       rw [if_pos c9] at H
       have c9b0 : decide (((rd_T68 l0 a1).f1) < (l2.length : Int)) = true := decide_eq_true c9
       clear c9
       simp only [Option.some.injEq, Prod.mk.injEq] at H
       obtain ⟨rfl, rfl⟩ := H
       have p247 : 0 ≤ (a1 : Int) := of_decide_eq_true (by first | (with_reducible assumption) | assumption)
       have q247 : a1 < (l0.length : Int) := of_decide_eq_true (by first | (with_reducible assumption) | assumption)
       obtain ⟨ad247, e247, hx247_0, hx247_1⟩ := at_T68 HR0.out a1 p247 q247
       cases e247
       replace p247 := eq_true p247
       replace q247 := eq_true q247
       have p249 : 0 ≤ (a1 : Int) := of_decide_eq_true (by first | (with_reducible assumption) | assumption)
       have q249 : a1 < (l0.length : Int) := of_decide_eq_true (by first | (with_reducible assumption) | assumption)
       obtain ⟨ad249, e249, hx249_0, hx249_1⟩ := at_T68 HR0.out a1 p249 q249
       obtain rfl : ad247 = ad249 := (by injection e249)
       replace p249 := eq_true p249
       replace q249 := eq_true q249
       have p250 : 0 ≤ (((rd_T68 l0 a1).f1) : Int) := of_decide_eq_true (by first | (with_reducible assumption) | assumption)
       have q250 : ((rd_T68 l0 a1).f1) < (l2.length : Int) := of_decide_eq_true (by first | (with_reducible assumption) | assumption)
       obtain ⟨ad250, e250, hx250_0⟩ := Kd.at_int HR2.out ((rd_T68 l0 a1).f1) p250 q250
       cases e250
       replace p250 := eq_true p250
       replace q250 := eq_true q250
       go_enter Tryd.func62, Tryd.ntmps62
       go_wp2
       go_ret2
       exact ⟨by first | rfl | (simp; done) | (simp [*]; done), by repeat (first | exact Drawn0.refl _ | apply Drawn0.step)⟩
      ·
       rw [if_neg c9] at H
       exact absurd H (by simp)
     ·
      rw [if_neg c8] at H
      exact absurd H (by simp)
    ·
     rw [if_neg c7] at H
     have c7b0 : (((rd_T68 l0 a1).f0) == 2) = false := beq_eq_false_iff_ne.mpr c7
     have c7b1 : (((rd_T68 l0 a1).f0) != 2) = true := bne_iff_ne.mpr c7
     by_cases c10 : ((rd_T68 l0 a1).f0) = 7
     ·
      rw [if_pos c10] at H
      have c10b0 : (((rd_T68 l0 a1).f0) == 7) = true := beq_iff_eq.mpr c10
      have c10b1 : (((rd_T68 l0 a1).f0) != 7) = false := bne_eq_false_iff_eq.mpr c10
      clear c10
      simp only [Option.some.injEq, Prod.mk.injEq] at H
      obtain ⟨rfl, rfl⟩ := H
      have p247 : 0 ≤ (a1 : Int) := of_decide_eq_true (by first | (with_reducible assumption) | assumption)
      have q247 : a1 < (l0.length : Int) := of_decide_eq_true (by first | (with_reducible assumption) | assumption)
      obtain ⟨ad247, e247, hx247_0, hx247_1⟩ := at_T68 HR0.out a1 p247 q247
      cases e247
      replace p247 := eq_true p247
      replace q247 := eq_true q247
      go_enter Tryd.func62, Tryd.ntmps62
      go_wp2
      go_ret2
      exact ⟨by first | rfl | (simp; done) | (simp [*]; done), by repeat (first | exact Drawn0.refl _ | apply Drawn0.step)⟩
     ·
      rw [if_neg c10] at H
      have c10b0 : (((rd_T68 l0 a1).f0) == 7) = false := beq_eq_false_iff_ne.mpr c10
      have c10b1 : (((rd_T68 l0 a1).f0) != 7) = true := bne_iff_ne.mpr c10
      replace H := Option.bind_eq_some_iff.mp H
      obtain ⟨⟨t251, t252⟩, A110, H⟩ := H
      replace H : (if t252 = true then (if ((rd_T68 l0 a1).f0) = 3 then ((gnomonref08_product.f k t251 (-1)).bind fun bt253 => (some (bt253.1, bt253.2))) else (if ((rd_T68 l0 a1).f0) = 12 then (some (wrap64 (1 - t251), true)) else (if ((rd_T68 l0 a1).f0) = 13 then (if t251 = 0 then (gnomonref08_value.j0 k l0 a1 l2 ((rd_T68 l0 a1).f0) t251 true) else (if ((rd_T68 l0 a1).f0) = 14 then (gnomonref08_value.j0 k l0 a1 l2 ((rd_T68 l0 a1).f0) t251 (t251 == 1)) else (gnomonref08_value.j0 k l0 a1 l2 ((rd_T68 l0 a1).f0) t251 false))) else (if ((rd_T68 l0 a1).f0) = 14 then (gnomonref08_value.j0 k l0 a1 l2 ((rd_T68 l0 a1).f0) t251 (t251 == 1)) else (gnomonref08_value.j0 k l0 a1 l2 ((rd_T68 l0 a1).f0) t251 false))))) else (some (0, false))) = some (r1, r2) := H
      have A11 := Aside0.mk A110
      clear A110
      by_cases c12 : t252 = true
      ·
       subst c12
       have H1 : (if ((rd_T68 l0 a1).f0) = 3 then ((gnomonref08_product.f k t251 (-1)).bind fun bt253 => (some (bt253.1, bt253.2))) else (if ((rd_T68 l0 a1).f0) = 12 then (some (wrap64 (1 - t251), true)) else (if ((rd_T68 l0 a1).f0) = 13 then (if t251 = 0 then (gnomonref08_value.j0 k l0 a1 l2 ((rd_T68 l0 a1).f0) t251 true) else (if ((rd_T68 l0 a1).f0) = 14 then (gnomonref08_value.j0 k l0 a1 l2 ((rd_T68 l0 a1).f0) t251 (t251 == 1)) else (gnomonref08_value.j0 k l0 a1 l2 ((rd_T68 l0 a1).f0) t251 false))) else (if ((rd_T68 l0 a1).f0) = 14 then (gnomonref08_value.j0 k l0 a1 l2 ((rd_T68 l0 a1).f0) t251 (t251 == 1)) else (gnomonref08_value.j0 k l0 a1 l2 ((rd_T68 l0 a1).f0) t251 false))))) = some (r1, r2) := by rw [if_pos rfl] at H; exact H
       clear H
       have H := H1
       clear H1
       by_cases c13 : ((rd_T68 l0 a1).f0) = 3
       ·
        rw [if_pos c13] at H
        have c13b0 : (((rd_T68 l0 a1).f0) == 3) = true := beq_iff_eq.mpr c13
        have c13b1 : (((rd_T68 l0 a1).f0) != 3) = false := bne_eq_false_iff_eq.mpr c13
        clear c13
        replace H := Option.bind_eq_some_iff.mp H
        obtain ⟨⟨t253, t254⟩, A140, H⟩ := H
        replace H : (some (t253, t254)) = some (r1, r2) := H
        have A14 := Aside0.mk A140
        clear A140
        simp only [Option.some.injEq, Prod.mk.injEq] at H
        obtain ⟨rfl, rfl⟩ := H
        have p247 : 0 ≤ (a1 : Int) := of_decide_eq_true (by first | (with_reducible assumption) | assumption)
        have q247 : a1 < (l0.length : Int) := of_decide_eq_true (by first | (with_reducible assumption) | assumption)
        obtain ⟨ad247, e247, hx247_0, hx247_1⟩ := at_T68 HR0.out a1 p247 q247
        cases e247
        replace p247 := eq_true p247
        replace q247 := eq_true q247
        go_enter Tryd.func62, Tryd.ntmps62
        go_wp2_with (first | ((with_reducible refine gate_callee (f := 62) rfl ?_); refine goesL_ (some 44) rfl rfl Tryd.func62 (by kernel_rfl) rfl #[.slice (some ad247) l0.length c0, .int .i64 (wrap64 (a1 + 1)), .slice A2 l2.length c2] rfl (by (try simp only [List.map_toArray, List.map_cons, List.map_nil]); first | done | rfl | (simp only [List.length_drop, List.length_take]; rfl)) ?_; (with_reducible refine (ih k (by omega) _ _ l0 (wrap64 (a1 + 1)) _ _ l2 t251 true _ ?side1 ?side2 ?side3 ?side4 A11.out).mono ?_); (case side1 => repeat (first | exact HR0.out | (with_reducible refine Kd.C_alloc ?_ _) | (with_reducible refine Kd.C_drewN ?_ _) | (with_reducible refine Kd.C_drew ?_))); (case side2 => exact HC0.out); (case side3 => repeat (first | exact HR2.out | (with_reducible refine Kd.C_alloc ?_ _) | (with_reducible refine Kd.C_drewN ?_ _) | (with_reducible refine Kd.C_drew ?_))); (case side4 => exact HC2.out); rintro e w' ⟨rfl, ⟨nd, rfl⟩⟩; refine ⟨_, rfl, ?_⟩) | ((with_reducible refine gate_callee (f := 90) rfl ?_); refine goesL_ (some 52) rfl rfl Tryd.func90 (by kernel_rfl) rfl #[.int .i64 t251, .int .i64 (-1)] rfl (by (try simp only [List.map_toArray, List.map_cons, List.map_nil]); first | done | rfl | (simp only [List.length_drop, List.length_take]; rfl)) ?_; (with_reducible refine (gnomonref08_product.calls k t251 (-1) t253 t254 _ A14.out).mono ?_); rintro e w' ⟨rfl, ⟨nd, rfl⟩⟩; refine ⟨_, rfl, ?_⟩))
        go_ret2
        exact ⟨by first | rfl | (simp; done) | (simp [*]; done), by repeat (first | exact Drawn0.refl _ | apply Drawn0.step)⟩
       ·
        rw [if_neg c13] at H
        have c13b0 : (((rd_T68 l0 a1).f0) == 3) = false := beq_eq_false_iff_ne.mpr c13
        have c13b1 : (((rd_T68 l0 a1).f0) != 3) = true := bne_iff_ne.mpr c13
        by_cases c15 : ((rd_T68 l0 a1).f0) = 12
        ·
         rw [if_pos c15] at H
         have c15b0 : (((rd_T68 l0 a1).f0) == 12) = true := beq_iff_eq.mpr c15
         have c15b1 : (((rd_T68 l0 a1).f0) != 12) = false := bne_eq_false_iff_eq.mpr c15
         clear c15
         simp only [Option.some.injEq, Prod.mk.injEq] at H
         obtain ⟨rfl, rfl⟩ := H
         have p247 : 0 ≤ (a1 : Int) := of_decide_eq_true (by first | (with_reducible assumption) | assumption)
         have q247 : a1 < (l0.length : Int) := of_decide_eq_true (by first | (with_reducible assumption) | assumption)
         obtain ⟨ad247, e247, hx247_0, hx247_1⟩ := at_T68 HR0.out a1 p247 q247
         cases e247
         replace p247 := eq_true p247
         replace q247 := eq_true q247
         go_enter Tryd.func62, Tryd.ntmps62
         go_wp2_with (first | ((with_reducible refine gate_callee (f := 62) rfl ?_); refine goesL_ (some 44) rfl rfl Tryd.func62 (by kernel_rfl) rfl #[.slice (some ad247) l0.length c0, .int .i64 (wrap64 (a1 + 1)), .slice A2 l2.length c2] rfl (by (try simp only [List.map_toArray, List.map_cons, List.map_nil]); first | done | rfl | (simp only [List.length_drop, List.length_take]; rfl)) ?_; (with_reducible refine (ih k (by omega) _ _ l0 (wrap64 (a1 + 1)) _ _ l2 t251 true _ ?side1 ?side2 ?side3 ?side4 A11.out).mono ?_); (case side1 => repeat (first | exact HR0.out | (with_reducible refine Kd.C_alloc ?_ _) | (with_reducible refine Kd.C_drewN ?_ _) | (with_reducible refine Kd.C_drew ?_))); (case side2 => exact HC0.out); (case side3 => repeat (first | exact HR2.out | (with_reducible refine Kd.C_alloc ?_ _) | (with_reducible refine Kd.C_drewN ?_ _) | (with_reducible refine Kd.C_drew ?_))); (case side4 => exact HC2.out); rintro e w' ⟨rfl, ⟨nd, rfl⟩⟩; refine ⟨_, rfl, ?_⟩))
         go_ret2
         exact ⟨by first | rfl | (simp; done) | (simp [*]; done), by repeat (first | exact Drawn0.refl _ | apply Drawn0.step)⟩
        ·
         rw [if_neg c15] at H
         have c15b0 : (((rd_T68 l0 a1).f0) == 12) = false := beq_eq_false_iff_ne.mpr c15
         have c15b1 : (((rd_T68 l0 a1).f0) != 12) = true := bne_iff_ne.mpr c15
         have HC16 := Aside0.mk H
         clear H
         have p247 : 0 ≤ (a1 : Int) := of_decide_eq_true (by first | (with_reducible assumption) | assumption)
         have q247 : a1 < (l0.length : Int) := of_decide_eq_true (by first | (with_reducible assumption) | assumption)
         obtain ⟨ad247, e247, hx247_0, hx247_1⟩ := at_T68 HR0.out a1 p247 q247
         cases e247
         replace p247 := eq_true p247
         replace q247 := eq_true q247
         go_enter Tryd.func62, Tryd.ntmps62
         go_upto_region 16 with (first | ((with_reducible refine gate_callee (f := 62) rfl ?_); refine goesL_ (some 44) rfl rfl Tryd.func62 (by kernel_rfl) rfl #[.slice (some ad247) l0.length c0, .int .i64 (wrap64 (a1 + 1)), .slice A2 l2.length c2] rfl (by (try simp only [List.map_toArray, List.map_cons, List.map_nil]); first | done | rfl | (simp only [List.length_drop, List.length_take]; rfl)) ?_; (with_reducible refine (ih k (by omega) _ _ l0 (wrap64 (a1 + 1)) _ _ l2 t251 true _ ?side1 ?side2 ?side3 ?side4 A11.out).mono ?_); (case side1 => repeat (first | exact HR0.out | (with_reducible refine Kd.C_alloc ?_ _) | (with_reducible refine Kd.C_drewN ?_ _) | (with_reducible refine Kd.C_drew ?_))); (case side2 => exact HC0.out); (case side3 => repeat (first | exact HR2.out | (with_reducible refine Kd.C_alloc ?_ _) | (with_reducible refine Kd.C_drewN ?_ _) | (with_reducible refine Kd.C_drew ?_))); (case side4 => exact HC2.out); rintro e w' ⟨rfl, ⟨nd, rfl⟩⟩; refine ⟨_, rfl, ?_⟩))
         (try simp only [Act.put, List.setIfInBounds_toArray, List.set_cons_zero, List.set_cons_succ])
         go_cut [72] (fun v72 wc => ∃ (kq : Nat) (x72_15 : Bool), v72 = .bool x72_15 ∧ Aside0 (gnomonref08_value.j0 kq l0 a1 l2 ((rd_T68 l0 a1).f0) t251 x72_15 = some (r1, r2)) ∧ Aside0 (kq ≤ k) ∧ Drawn0 w wc)
         case first =>
          have H := HC16.out
          clear HC16
          by_cases c17 : ((rd_T68 l0 a1).f0) = 13
          ·
           rw [if_pos c17] at H
           have c17b0 : (((rd_T68 l0 a1).f0) == 13) = true := beq_iff_eq.mpr c17
           have c17b1 : (((rd_T68 l0 a1).f0) != 13) = false := bne_eq_false_iff_eq.mpr c17
           clear c17
           (first | rw [c17b0] | (simp only [i64_w, i32_w]; rw [c17b0]) | skip)
           by_cases c18 : t251 = 0
           ·
            rw [if_pos c18] at H
            have c18b0 : (t251 == 0) = true := beq_iff_eq.mpr c18
            have c18b1 : (t251 != 0) = false := bne_eq_false_iff_eq.mpr c18
            clear c18
            have H' := Aside0.mk H
            clear H
            go_wp2
            go_meet
            case rel => exact ⟨_, (true), (by first | rfl | (simp; done) | (simp [*]; done)), H', ⟨by first | omega | exact Nat.le_refl _⟩, by repeat (first | exact Drawn0.refl _ | apply Drawn0.step)⟩
           ·
            rw [if_neg c18] at H
            have c18b0 : (t251 == 0) = false := beq_eq_false_iff_ne.mpr c18
            have c18b1 : (t251 != 0) = true := bne_iff_ne.mpr c18
            by_cases c19 : ((rd_T68 l0 a1).f0) = 14
            ·
             rw [if_pos c19] at H
             have c19b0 : (((rd_T68 l0 a1).f0) == 14) = true := beq_iff_eq.mpr c19
             have c19b1 : (((rd_T68 l0 a1).f0) != 14) = false := bne_eq_false_iff_eq.mpr c19
             clear c19
             have H' := Aside0.mk H
             clear H
             go_wp2
             go_meet
             case rel => exact ⟨_, ((t251 == 1)), (by first | rfl | (simp; done) | (simp [*]; done)), H', ⟨by first | omega | exact Nat.le_refl _⟩, by repeat (first | exact Drawn0.refl _ | apply Drawn0.step)⟩
            ·
             rw [if_neg c19] at H
             have c19b0 : (((rd_T68 l0 a1).f0) == 14) = false := beq_eq_false_iff_ne.mpr c19
             have c19b1 : (((rd_T68 l0 a1).f0) != 14) = true := bne_iff_ne.mpr c19
             have H' := Aside0.mk H
             clear H
             go_wp2
             go_meet
             case rel => exact ⟨_, (false), (by first | rfl | (simp; done) | (simp [*]; done)), H', ⟨by first | omega | exact Nat.le_refl _⟩, by repeat (first | exact Drawn0.refl _ | apply Drawn0.step)⟩
          ·
           rw [if_neg c17] at H
           have c17b0 : (((rd_T68 l0 a1).f0) == 13) = false := beq_eq_false_iff_ne.mpr c17
           have c17b1 : (((rd_T68 l0 a1).f0) != 13) = true := bne_iff_ne.mpr c17
           (first | rw [c17b0] | (simp only [i64_w, i32_w]; rw [c17b0]) | skip)
           by_cases c20 : ((rd_T68 l0 a1).f0) = 14
           ·
            rw [if_pos c20] at H
            have c20b0 : (((rd_T68 l0 a1).f0) == 14) = true := beq_iff_eq.mpr c20
            have c20b1 : (((rd_T68 l0 a1).f0) != 14) = false := bne_eq_false_iff_eq.mpr c20
            clear c20
            have H' := Aside0.mk H
            clear H
            go_wp2
            go_meet
            case rel => exact ⟨_, ((t251 == 1)), (by first | rfl | (simp; done) | (simp [*]; done)), H', ⟨by first | omega | exact Nat.le_refl _⟩, by repeat (first | exact Drawn0.refl _ | apply Drawn0.step)⟩
           ·
            rw [if_neg c20] at H
            have c20b0 : (((rd_T68 l0 a1).f0) == 14) = false := beq_eq_false_iff_ne.mpr c20
            have c20b1 : (((rd_T68 l0 a1).f0) != 14) = true := bne_iff_ne.mpr c20
            have H' := Aside0.mk H
            clear H
            go_wp2
            go_meet
            case rel => exact ⟨_, (false), (by first | rfl | (simp; done) | (simp [*]; done)), H', ⟨by first | omega | exact Nat.le_refl _⟩, by repeat (first | exact Drawn0.refl _ | apply Drawn0.step)⟩
         case rest =>
          clear HC16
          try clear c1
          try clear c2
          try clear p2
          try clear q2
          try clear hx2
          try clear c4
          try clear c4b0
          try clear c5
          try clear c5b0
          try clear c6
          try clear c6b0
          try clear c6b1
          try clear p6
          try clear c7
          try clear c7b0
          try clear c7b1
          try clear c8
          try clear c8b0
          try clear c9
          try clear c9b0
          try clear c10
          try clear c10b0
          try clear c10b1
          try clear c12
          try clear c13
          try clear c13b0
          try clear c13b1
          try clear c15
          try clear c15b0
          try clear c15b1
          try clear c17
          try clear c17b0
          try clear c17b1
          try clear c18
          try clear c18b0
          try clear c18b1
          try clear c19
          try clear c19b0
          try clear c19b1
          try clear c20
          try clear c20b0
          try clear c20b1
          try clear hx247_0
          try clear hx247_1
          try clear hx248_0
          try clear hx248_1
          try clear hx249_0
          try clear hx249_1
          try clear hx250_0
          try clear p247
          try clear p248
          try clear p249
          try clear p250
          try clear q247
          try clear q248
          try clear q249
          try clear q250
          obtain ⟨kq, x72_15, rfl, HA, HJ15, ⟨mc15, rfl⟩⟩ := hcut
          cases kq with
          | zero => exact absurd HA.out (by simp [gnomonref08_value.j0])
          | succ kj15 =>
           have H := HA.out
           clear HA
           simp only [gnomonref08_value.j0] at H
           by_cases c21 : x72_15 = true
           ·
            subst c21
            have H1 : (some (t251, true)) = some (r1, r2) := by rw [if_pos rfl] at H; exact H
            clear H
            have H := H1
            clear H1
            simp only [Option.some.injEq, Prod.mk.injEq] at H
            obtain ⟨rfl, rfl⟩ := H
            go_wp2
            go_ret2
            exact ⟨by first | rfl | (simp; done) | (simp [*]; done), by repeat (first | exact Drawn0.refl _ | apply Drawn0.step)⟩
           ·
            replace c21 := Bool.eq_false_iff.mpr c21
            subst c21
            have H1 : ((gnomonref08_End.f kj15 l0 (wrap64 (a1 + 1))).bind fun t255 => ((gnomonref08_value.f kj15 l0 t255 l2).bind fun bt256 => (if bt256.2 = true then (if ((rd_T68 l0 a1).f0) = 4 then ((gnomonref08_sum.f t251 bt256.1).bind fun bt258 => (some (bt258.1, bt258.2))) else (if ((rd_T68 l0 a1).f0) = 5 then (if bt256.1 ≥ 0 then (if (wrap64 (t251 - bt256.1)) ≤ t251 then (some (wrap64 (t251 - bt256.1), true)) else (if bt256.1 < 0 then (some (wrap64 (t251 - bt256.1), decide ((wrap64 (t251 - bt256.1)) > t251))) else (some (wrap64 (t251 - bt256.1), false)))) else (if bt256.1 < 0 then (some (wrap64 (t251 - bt256.1), decide ((wrap64 (t251 - bt256.1)) > t251))) else (some (wrap64 (t251 - bt256.1), false)))) else (if ((rd_T68 l0 a1).f0) = 6 then ((gnomonref08_product.f kj15 t251 bt256.1).bind fun bt260 => (some (bt260.1, bt260.2))) else (if ((rd_T68 l0 a1).f0) = 8 then (if t251 < bt256.1 then (some (1, true)) else (some (0, true))) else (if ((rd_T68 l0 a1).f0) = 9 then (if t251 ≤ bt256.1 then (some (1, true)) else (some (0, true))) else (if ((rd_T68 l0 a1).f0) = 10 then (if t251 = bt256.1 then (some (1, true)) else (some (0, true))) else (if ((rd_T68 l0 a1).f0) = 11 then (if t251 = bt256.1 then (some (0, true)) else (some (1, true))) else (some (bt256.1, true))))))))) else (some (0, false))))) = some (r1, r2) := by rw [if_neg (show ¬ (false = true) by decide)] at H; exact H
            clear H
            have H := H1
            clear H1
            replace H := Option.bind_eq_some_iff.mp H
            obtain ⟨t255, A220, H⟩ := H
            replace H : ((gnomonref08_value.f kj15 l0 t255 l2).bind fun bt256 => (if bt256.2 = true then (if ((rd_T68 l0 a1).f0) = 4 then ((gnomonref08_sum.f t251 bt256.1).bind fun bt258 => (some (bt258.1, bt258.2))) else (if ((rd_T68 l0 a1).f0) = 5 then (if bt256.1 ≥ 0 then (if (wrap64 (t251 - bt256.1)) ≤ t251 then (some (wrap64 (t251 - bt256.1), true)) else (if bt256.1 < 0 then (some (wrap64 (t251 - bt256.1), decide ((wrap64 (t251 - bt256.1)) > t251))) else (some (wrap64 (t251 - bt256.1), false)))) else (if bt256.1 < 0 then (some (wrap64 (t251 - bt256.1), decide ((wrap64 (t251 - bt256.1)) > t251))) else (some (wrap64 (t251 - bt256.1), false)))) else (if ((rd_T68 l0 a1).f0) = 6 then ((gnomonref08_product.f kj15 t251 bt256.1).bind fun bt260 => (some (bt260.1, bt260.2))) else (if ((rd_T68 l0 a1).f0) = 8 then (if t251 < bt256.1 then (some (1, true)) else (some (0, true))) else (if ((rd_T68 l0 a1).f0) = 9 then (if t251 ≤ bt256.1 then (some (1, true)) else (some (0, true))) else (if ((rd_T68 l0 a1).f0) = 10 then (if t251 = bt256.1 then (some (1, true)) else (some (0, true))) else (if ((rd_T68 l0 a1).f0) = 11 then (if t251 = bt256.1 then (some (0, true)) else (some (1, true))) else (some (bt256.1, true))))))))) else (some (0, false)))) = some (r1, r2) := H
            have A22 := Aside0.mk A220
            clear A220
            replace H := Option.bind_eq_some_iff.mp H
            obtain ⟨⟨t256, t257⟩, A230, H⟩ := H
            replace H : (if t257 = true then (if ((rd_T68 l0 a1).f0) = 4 then ((gnomonref08_sum.f t251 t256).bind fun bt258 => (some (bt258.1, bt258.2))) else (if ((rd_T68 l0 a1).f0) = 5 then (if t256 ≥ 0 then (if (wrap64 (t251 - t256)) ≤ t251 then (some (wrap64 (t251 - t256), true)) else (if t256 < 0 then (some (wrap64 (t251 - t256), decide ((wrap64 (t251 - t256)) > t251))) else (some (wrap64 (t251 - t256), false)))) else (if t256 < 0 then (some (wrap64 (t251 - t256), decide ((wrap64 (t251 - t256)) > t251))) else (some (wrap64 (t251 - t256), false)))) else (if ((rd_T68 l0 a1).f0) = 6 then ((gnomonref08_product.f kj15 t251 t256).bind fun bt260 => (some (bt260.1, bt260.2))) else (if ((rd_T68 l0 a1).f0) = 8 then (if t251 < t256 then (some (1, true)) else (some (0, true))) else (if ((rd_T68 l0 a1).f0) = 9 then (if t251 ≤ t256 then (some (1, true)) else (some (0, true))) else (if ((rd_T68 l0 a1).f0) = 10 then (if t251 = t256 then (some (1, true)) else (some (0, true))) else (if ((rd_T68 l0 a1).f0) = 11 then (if t251 = t256 then (some (0, true)) else (some (1, true))) else (some (t256, true))))))))) else (some (0, false))) = some (r1, r2) := H
            have A23 := Aside0.mk A230
            clear A230
            by_cases c24 : t257 = true
            ·
             subst c24
             have H1 : (if ((rd_T68 l0 a1).f0) = 4 then ((gnomonref08_sum.f t251 t256).bind fun bt258 => (some (bt258.1, bt258.2))) else (if ((rd_T68 l0 a1).f0) = 5 then (if t256 ≥ 0 then (if (wrap64 (t251 - t256)) ≤ t251 then (some (wrap64 (t251 - t256), true)) else (if t256 < 0 then (some (wrap64 (t251 - t256), decide ((wrap64 (t251 - t256)) > t251))) else (some (wrap64 (t251 - t256), false)))) else (if t256 < 0 then (some (wrap64 (t251 - t256), decide ((wrap64 (t251 - t256)) > t251))) else (some (wrap64 (t251 - t256), false)))) else (if ((rd_T68 l0 a1).f0) = 6 then ((gnomonref08_product.f kj15 t251 t256).bind fun bt260 => (some (bt260.1, bt260.2))) else (if ((rd_T68 l0 a1).f0) = 8 then (if t251 < t256 then (some (1, true)) else (some (0, true))) else (if ((rd_T68 l0 a1).f0) = 9 then (if t251 ≤ t256 then (some (1, true)) else (some (0, true))) else (if ((rd_T68 l0 a1).f0) = 10 then (if t251 = t256 then (some (1, true)) else (some (0, true))) else (if ((rd_T68 l0 a1).f0) = 11 then (if t251 = t256 then (some (0, true)) else (some (1, true))) else (some (t256, true))))))))) = some (r1, r2) := by rw [if_pos rfl] at H; exact H
             clear H
             have H := H1
             clear H1
             by_cases c25 : ((rd_T68 l0 a1).f0) = 4
             ·
              rw [if_pos c25] at H
              have c25b0 : (((rd_T68 l0 a1).f0) == 4) = true := beq_iff_eq.mpr c25
              have c25b1 : (((rd_T68 l0 a1).f0) != 4) = false := bne_eq_false_iff_eq.mpr c25
              clear c25
              replace H := Option.bind_eq_some_iff.mp H
              obtain ⟨⟨t258, t259⟩, A260, H⟩ := H
              replace H : (some (t258, t259)) = some (r1, r2) := H
              have A26 := Aside0.mk A260
              clear A260
              simp only [Option.some.injEq, Prod.mk.injEq] at H
              obtain ⟨rfl, rfl⟩ := H
              go_wp2_with (first | ((with_reducible refine gate_callee (f := 80) rfl ?_); refine goesL_ (some 79) rfl rfl Tryd.func80 (by kernel_rfl) rfl #[.slice (some ad247) l0.length c0, .int .i64 (wrap64 (a1 + 1))] rfl (by (try simp only [List.map_toArray, List.map_cons, List.map_nil]); first | done | rfl | (simp only [List.length_drop, List.length_take]; rfl)) ?_; (with_reducible refine (gnomonref08_End.calls kj15 _ _ l0 (wrap64 (a1 + 1)) t255 _ ?side1 ?side2 A22.out).mono ?_); (case side1 => repeat (first | exact HR0.out | (with_reducible refine Kd.C_alloc ?_ _) | (with_reducible refine Kd.C_drewN ?_ _) | (with_reducible refine Kd.C_drew ?_))); (case side2 => exact HC0.out); rintro e w' ⟨rfl, ⟨nd, rfl⟩⟩; refine ⟨_, rfl, ?_⟩) | ((with_reducible refine gate_callee (f := 62) rfl ?_); refine goesL_ (some 81) rfl rfl Tryd.func62 (by kernel_rfl) rfl #[.slice (some ad247) l0.length c0, .int .i64 t255, .slice A2 l2.length c2] rfl (by (try simp only [List.map_toArray, List.map_cons, List.map_nil]); first | done | rfl | (simp only [List.length_drop, List.length_take]; rfl)) ?_; (with_reducible refine (ih kj15 (by have := HJ15.out; omega) _ _ l0 t255 _ _ l2 t256 true _ ?side1 ?side2 ?side3 ?side4 A23.out).mono ?_); (case side1 => repeat (first | exact HR0.out | (with_reducible refine Kd.C_alloc ?_ _) | (with_reducible refine Kd.C_drewN ?_ _) | (with_reducible refine Kd.C_drew ?_))); (case side2 => exact HC0.out); (case side3 => repeat (first | exact HR2.out | (with_reducible refine Kd.C_alloc ?_ _) | (with_reducible refine Kd.C_drewN ?_ _) | (with_reducible refine Kd.C_drew ?_))); (case side4 => exact HC2.out); rintro e w' ⟨rfl, ⟨nd, rfl⟩⟩; refine ⟨_, rfl, ?_⟩) | ((with_reducible refine gate_callee (f := 91) rfl ?_); refine goesL_ (some 92) rfl rfl Tryd.func91 (by kernel_rfl) rfl #[.int .i64 t251, .int .i64 t256] rfl (by (try simp only [List.map_toArray, List.map_cons, List.map_nil]); first | done | rfl | (simp only [List.length_drop, List.length_take]; rfl)) ?_; (with_reducible refine (gnomonref08_sum.calls t251 t256 t258 t259 _ A26.out).mono ?_); rintro e w' ⟨rfl, ⟨nd, rfl⟩⟩; refine ⟨_, rfl, ?_⟩))
              go_ret2
              exact ⟨by first | rfl | (simp; done) | (simp [*]; done), by repeat (first | exact Drawn0.refl _ | apply Drawn0.step)⟩
             ·
              rw [if_neg c25] at H
              have c25b0 : (((rd_T68 l0 a1).f0) == 4) = false := beq_eq_false_iff_ne.mpr c25
              have c25b1 : (((rd_T68 l0 a1).f0) != 4) = true := bne_iff_ne.mpr c25
              by_cases c27 : ((rd_T68 l0 a1).f0) = 5
              ·
               rw [if_pos c27] at H
               have c27b0 : (((rd_T68 l0 a1).f0) == 5) = true := beq_iff_eq.mpr c27
               have c27b1 : (((rd_T68 l0 a1).f0) != 5) = false := bne_eq_false_iff_eq.mpr c27
               clear c27
               by_cases c28 : t256 ≥ 0
               ·
                rw [if_pos c28] at H
                have c28b0 : decide (0 ≤ t256) = true := decide_eq_true c28
                clear c28
                by_cases c29 : (wrap64 (t251 - t256)) ≤ t251
                ·
                 rw [if_pos c29] at H
                 have c29b0 : decide ((wrap64 (t251 - t256)) ≤ t251) = true := decide_eq_true c29
                 clear c29
                 simp only [Option.some.injEq, Prod.mk.injEq] at H
                 obtain ⟨rfl, rfl⟩ := H
                 go_wp2_with (first | ((with_reducible refine gate_callee (f := 80) rfl ?_); refine goesL_ (some 79) rfl rfl Tryd.func80 (by kernel_rfl) rfl #[.slice (some ad247) l0.length c0, .int .i64 (wrap64 (a1 + 1))] rfl (by (try simp only [List.map_toArray, List.map_cons, List.map_nil]); first | done | rfl | (simp only [List.length_drop, List.length_take]; rfl)) ?_; (with_reducible refine (gnomonref08_End.calls kj15 _ _ l0 (wrap64 (a1 + 1)) t255 _ ?side1 ?side2 A22.out).mono ?_); (case side1 => repeat (first | exact HR0.out | (with_reducible refine Kd.C_alloc ?_ _) | (with_reducible refine Kd.C_drewN ?_ _) | (with_reducible refine Kd.C_drew ?_))); (case side2 => exact HC0.out); rintro e w' ⟨rfl, ⟨nd, rfl⟩⟩; refine ⟨_, rfl, ?_⟩) | ((with_reducible refine gate_callee (f := 62) rfl ?_); refine goesL_ (some 81) rfl rfl Tryd.func62 (by kernel_rfl) rfl #[.slice (some ad247) l0.length c0, .int .i64 t255, .slice A2 l2.length c2] rfl (by (try simp only [List.map_toArray, List.map_cons, List.map_nil]); first | done | rfl | (simp only [List.length_drop, List.length_take]; rfl)) ?_; (with_reducible refine (ih kj15 (by have := HJ15.out; omega) _ _ l0 t255 _ _ l2 t256 true _ ?side1 ?side2 ?side3 ?side4 A23.out).mono ?_); (case side1 => repeat (first | exact HR0.out | (with_reducible refine Kd.C_alloc ?_ _) | (with_reducible refine Kd.C_drewN ?_ _) | (with_reducible refine Kd.C_drew ?_))); (case side2 => exact HC0.out); (case side3 => repeat (first | exact HR2.out | (with_reducible refine Kd.C_alloc ?_ _) | (with_reducible refine Kd.C_drewN ?_ _) | (with_reducible refine Kd.C_drew ?_))); (case side4 => exact HC2.out); rintro e w' ⟨rfl, ⟨nd, rfl⟩⟩; refine ⟨_, rfl, ?_⟩))
                 go_ret2
                 exact ⟨by first | rfl | (simp; done) | (simp [*]; done), by repeat (first | exact Drawn0.refl _ | apply Drawn0.step)⟩
                ·
                 rw [if_neg c29] at H
                 have c29b0 : decide ((wrap64 (t251 - t256)) ≤ t251) = false := decide_eq_false c29
                 clear c29
                 by_cases c30 : t256 < 0
                 ·
                  rw [if_pos c30] at H
                  have c30b0 : decide (t256 < 0) = true := decide_eq_true c30
                  clear c30
                  simp only [Option.some.injEq, Prod.mk.injEq] at H
                  obtain ⟨rfl, rfl⟩ := H
                  go_wp2_with (first | ((with_reducible refine gate_callee (f := 80) rfl ?_); refine goesL_ (some 79) rfl rfl Tryd.func80 (by kernel_rfl) rfl #[.slice (some ad247) l0.length c0, .int .i64 (wrap64 (a1 + 1))] rfl (by (try simp only [List.map_toArray, List.map_cons, List.map_nil]); first | done | rfl | (simp only [List.length_drop, List.length_take]; rfl)) ?_; (with_reducible refine (gnomonref08_End.calls kj15 _ _ l0 (wrap64 (a1 + 1)) t255 _ ?side1 ?side2 A22.out).mono ?_); (case side1 => repeat (first | exact HR0.out | (with_reducible refine Kd.C_alloc ?_ _) | (with_reducible refine Kd.C_drewN ?_ _) | (with_reducible refine Kd.C_drew ?_))); (case side2 => exact HC0.out); rintro e w' ⟨rfl, ⟨nd, rfl⟩⟩; refine ⟨_, rfl, ?_⟩) | ((with_reducible refine gate_callee (f := 62) rfl ?_); refine goesL_ (some 81) rfl rfl Tryd.func62 (by kernel_rfl) rfl #[.slice (some ad247) l0.length c0, .int .i64 t255, .slice A2 l2.length c2] rfl (by (try simp only [List.map_toArray, List.map_cons, List.map_nil]); first | done | rfl | (simp only [List.length_drop, List.length_take]; rfl)) ?_; (with_reducible refine (ih kj15 (by have := HJ15.out; omega) _ _ l0 t255 _ _ l2 t256 true _ ?side1 ?side2 ?side3 ?side4 A23.out).mono ?_); (case side1 => repeat (first | exact HR0.out | (with_reducible refine Kd.C_alloc ?_ _) | (with_reducible refine Kd.C_drewN ?_ _) | (with_reducible refine Kd.C_drew ?_))); (case side2 => exact HC0.out); (case side3 => repeat (first | exact HR2.out | (with_reducible refine Kd.C_alloc ?_ _) | (with_reducible refine Kd.C_drewN ?_ _) | (with_reducible refine Kd.C_drew ?_))); (case side4 => exact HC2.out); rintro e w' ⟨rfl, ⟨nd, rfl⟩⟩; refine ⟨_, rfl, ?_⟩))
                  go_ret2
                  exact ⟨by first | rfl | (simp; done) | (simp [*]; done), by repeat (first | exact Drawn0.refl _ | apply Drawn0.step)⟩
                 ·
                  rw [if_neg c30] at H
                  have c30b0 : decide (t256 < 0) = false := decide_eq_false c30
                  clear c30
                  simp only [Option.some.injEq, Prod.mk.injEq] at H
                  obtain ⟨rfl, rfl⟩ := H
                  go_wp2_with (first | ((with_reducible refine gate_callee (f := 80) rfl ?_); refine goesL_ (some 79) rfl rfl Tryd.func80 (by kernel_rfl) rfl #[.slice (some ad247) l0.length c0, .int .i64 (wrap64 (a1 + 1))] rfl (by (try simp only [List.map_toArray, List.map_cons, List.map_nil]); first | done | rfl | (simp only [List.length_drop, List.length_take]; rfl)) ?_; (with_reducible refine (gnomonref08_End.calls kj15 _ _ l0 (wrap64 (a1 + 1)) t255 _ ?side1 ?side2 A22.out).mono ?_); (case side1 => repeat (first | exact HR0.out | (with_reducible refine Kd.C_alloc ?_ _) | (with_reducible refine Kd.C_drewN ?_ _) | (with_reducible refine Kd.C_drew ?_))); (case side2 => exact HC0.out); rintro e w' ⟨rfl, ⟨nd, rfl⟩⟩; refine ⟨_, rfl, ?_⟩) | ((with_reducible refine gate_callee (f := 62) rfl ?_); refine goesL_ (some 81) rfl rfl Tryd.func62 (by kernel_rfl) rfl #[.slice (some ad247) l0.length c0, .int .i64 t255, .slice A2 l2.length c2] rfl (by (try simp only [List.map_toArray, List.map_cons, List.map_nil]); first | done | rfl | (simp only [List.length_drop, List.length_take]; rfl)) ?_; (with_reducible refine (ih kj15 (by have := HJ15.out; omega) _ _ l0 t255 _ _ l2 t256 true _ ?side1 ?side2 ?side3 ?side4 A23.out).mono ?_); (case side1 => repeat (first | exact HR0.out | (with_reducible refine Kd.C_alloc ?_ _) | (with_reducible refine Kd.C_drewN ?_ _) | (with_reducible refine Kd.C_drew ?_))); (case side2 => exact HC0.out); (case side3 => repeat (first | exact HR2.out | (with_reducible refine Kd.C_alloc ?_ _) | (with_reducible refine Kd.C_drewN ?_ _) | (with_reducible refine Kd.C_drew ?_))); (case side4 => exact HC2.out); rintro e w' ⟨rfl, ⟨nd, rfl⟩⟩; refine ⟨_, rfl, ?_⟩))
                  go_ret2
                  exact ⟨by first | rfl | (simp; done) | (simp [*]; done), by repeat (first | exact Drawn0.refl _ | apply Drawn0.step)⟩
               ·
                rw [if_neg c28] at H
                have c28b0 : decide (0 ≤ t256) = false := decide_eq_false c28
                clear c28
                by_cases c31 : t256 < 0
                ·
                 rw [if_pos c31] at H
                 have c31b0 : decide (t256 < 0) = true := decide_eq_true c31
                 clear c31
                 simp only [Option.some.injEq, Prod.mk.injEq] at H
                 obtain ⟨rfl, rfl⟩ := H
                 go_wp2_with (first | ((with_reducible refine gate_callee (f := 80) rfl ?_); refine goesL_ (some 79) rfl rfl Tryd.func80 (by kernel_rfl) rfl #[.slice (some ad247) l0.length c0, .int .i64 (wrap64 (a1 + 1))] rfl (by (try simp only [List.map_toArray, List.map_cons, List.map_nil]); first | done | rfl | (simp only [List.length_drop, List.length_take]; rfl)) ?_; (with_reducible refine (gnomonref08_End.calls kj15 _ _ l0 (wrap64 (a1 + 1)) t255 _ ?side1 ?side2 A22.out).mono ?_); (case side1 => repeat (first | exact HR0.out | (with_reducible refine Kd.C_alloc ?_ _) | (with_reducible refine Kd.C_drewN ?_ _) | (with_reducible refine Kd.C_drew ?_))); (case side2 => exact HC0.out); rintro e w' ⟨rfl, ⟨nd, rfl⟩⟩; refine ⟨_, rfl, ?_⟩) | ((with_reducible refine gate_callee (f := 62) rfl ?_); refine goesL_ (some 81) rfl rfl Tryd.func62 (by kernel_rfl) rfl #[.slice (some ad247) l0.length c0, .int .i64 t255, .slice A2 l2.length c2] rfl (by (try simp only [List.map_toArray, List.map_cons, List.map_nil]); first | done | rfl | (simp only [List.length_drop, List.length_take]; rfl)) ?_; (with_reducible refine (ih kj15 (by have := HJ15.out; omega) _ _ l0 t255 _ _ l2 t256 true _ ?side1 ?side2 ?side3 ?side4 A23.out).mono ?_); (case side1 => repeat (first | exact HR0.out | (with_reducible refine Kd.C_alloc ?_ _) | (with_reducible refine Kd.C_drewN ?_ _) | (with_reducible refine Kd.C_drew ?_))); (case side2 => exact HC0.out); (case side3 => repeat (first | exact HR2.out | (with_reducible refine Kd.C_alloc ?_ _) | (with_reducible refine Kd.C_drewN ?_ _) | (with_reducible refine Kd.C_drew ?_))); (case side4 => exact HC2.out); rintro e w' ⟨rfl, ⟨nd, rfl⟩⟩; refine ⟨_, rfl, ?_⟩))
                 go_ret2
                 exact ⟨by first | rfl | (simp; done) | (simp [*]; done), by repeat (first | exact Drawn0.refl _ | apply Drawn0.step)⟩
                ·
                 rw [if_neg c31] at H
                 have c31b0 : decide (t256 < 0) = false := decide_eq_false c31
                 clear c31
                 simp only [Option.some.injEq, Prod.mk.injEq] at H
                 obtain ⟨rfl, rfl⟩ := H
                 go_wp2_with (first | ((with_reducible refine gate_callee (f := 80) rfl ?_); refine goesL_ (some 79) rfl rfl Tryd.func80 (by kernel_rfl) rfl #[.slice (some ad247) l0.length c0, .int .i64 (wrap64 (a1 + 1))] rfl (by (try simp only [List.map_toArray, List.map_cons, List.map_nil]); first | done | rfl | (simp only [List.length_drop, List.length_take]; rfl)) ?_; (with_reducible refine (gnomonref08_End.calls kj15 _ _ l0 (wrap64 (a1 + 1)) t255 _ ?side1 ?side2 A22.out).mono ?_); (case side1 => repeat (first | exact HR0.out | (with_reducible refine Kd.C_alloc ?_ _) | (with_reducible refine Kd.C_drewN ?_ _) | (with_reducible refine Kd.C_drew ?_))); (case side2 => exact HC0.out); rintro e w' ⟨rfl, ⟨nd, rfl⟩⟩; refine ⟨_, rfl, ?_⟩) | ((with_reducible refine gate_callee (f := 62) rfl ?_); refine goesL_ (some 81) rfl rfl Tryd.func62 (by kernel_rfl) rfl #[.slice (some ad247) l0.length c0, .int .i64 t255, .slice A2 l2.length c2] rfl (by (try simp only [List.map_toArray, List.map_cons, List.map_nil]); first | done | rfl | (simp only [List.length_drop, List.length_take]; rfl)) ?_; (with_reducible refine (ih kj15 (by have := HJ15.out; omega) _ _ l0 t255 _ _ l2 t256 true _ ?side1 ?side2 ?side3 ?side4 A23.out).mono ?_); (case side1 => repeat (first | exact HR0.out | (with_reducible refine Kd.C_alloc ?_ _) | (with_reducible refine Kd.C_drewN ?_ _) | (with_reducible refine Kd.C_drew ?_))); (case side2 => exact HC0.out); (case side3 => repeat (first | exact HR2.out | (with_reducible refine Kd.C_alloc ?_ _) | (with_reducible refine Kd.C_drewN ?_ _) | (with_reducible refine Kd.C_drew ?_))); (case side4 => exact HC2.out); rintro e w' ⟨rfl, ⟨nd, rfl⟩⟩; refine ⟨_, rfl, ?_⟩))
                 go_ret2
                 exact ⟨by first | rfl | (simp; done) | (simp [*]; done), by repeat (first | exact Drawn0.refl _ | apply Drawn0.step)⟩
              ·
               rw [if_neg c27] at H
               have c27b0 : (((rd_T68 l0 a1).f0) == 5) = false := beq_eq_false_iff_ne.mpr c27
               have c27b1 : (((rd_T68 l0 a1).f0) != 5) = true := bne_iff_ne.mpr c27
               by_cases c32 : ((rd_T68 l0 a1).f0) = 6
               ·
                rw [if_pos c32] at H
                have c32b0 : (((rd_T68 l0 a1).f0) == 6) = true := beq_iff_eq.mpr c32
                have c32b1 : (((rd_T68 l0 a1).f0) != 6) = false := bne_eq_false_iff_eq.mpr c32
                clear c32
                replace H := Option.bind_eq_some_iff.mp H
                obtain ⟨⟨t260, t261⟩, A330, H⟩ := H
                replace H : (some (t260, t261)) = some (r1, r2) := H
                have A33 := Aside0.mk A330
                clear A330
                simp only [Option.some.injEq, Prod.mk.injEq] at H
                obtain ⟨rfl, rfl⟩ := H
                go_wp2_with (first | ((with_reducible refine gate_callee (f := 80) rfl ?_); refine goesL_ (some 79) rfl rfl Tryd.func80 (by kernel_rfl) rfl #[.slice (some ad247) l0.length c0, .int .i64 (wrap64 (a1 + 1))] rfl (by (try simp only [List.map_toArray, List.map_cons, List.map_nil]); first | done | rfl | (simp only [List.length_drop, List.length_take]; rfl)) ?_; (with_reducible refine (gnomonref08_End.calls kj15 _ _ l0 (wrap64 (a1 + 1)) t255 _ ?side1 ?side2 A22.out).mono ?_); (case side1 => repeat (first | exact HR0.out | (with_reducible refine Kd.C_alloc ?_ _) | (with_reducible refine Kd.C_drewN ?_ _) | (with_reducible refine Kd.C_drew ?_))); (case side2 => exact HC0.out); rintro e w' ⟨rfl, ⟨nd, rfl⟩⟩; refine ⟨_, rfl, ?_⟩) | ((with_reducible refine gate_callee (f := 62) rfl ?_); refine goesL_ (some 81) rfl rfl Tryd.func62 (by kernel_rfl) rfl #[.slice (some ad247) l0.length c0, .int .i64 t255, .slice A2 l2.length c2] rfl (by (try simp only [List.map_toArray, List.map_cons, List.map_nil]); first | done | rfl | (simp only [List.length_drop, List.length_take]; rfl)) ?_; (with_reducible refine (ih kj15 (by have := HJ15.out; omega) _ _ l0 t255 _ _ l2 t256 true _ ?side1 ?side2 ?side3 ?side4 A23.out).mono ?_); (case side1 => repeat (first | exact HR0.out | (with_reducible refine Kd.C_alloc ?_ _) | (with_reducible refine Kd.C_drewN ?_ _) | (with_reducible refine Kd.C_drew ?_))); (case side2 => exact HC0.out); (case side3 => repeat (first | exact HR2.out | (with_reducible refine Kd.C_alloc ?_ _) | (with_reducible refine Kd.C_drewN ?_ _) | (with_reducible refine Kd.C_drew ?_))); (case side4 => exact HC2.out); rintro e w' ⟨rfl, ⟨nd, rfl⟩⟩; refine ⟨_, rfl, ?_⟩) | ((with_reducible refine gate_callee (f := 90) rfl ?_); refine goesL_ (some 121) rfl rfl Tryd.func90 (by kernel_rfl) rfl #[.int .i64 t251, .int .i64 t256] rfl (by (try simp only [List.map_toArray, List.map_cons, List.map_nil]); first | done | rfl | (simp only [List.length_drop, List.length_take]; rfl)) ?_; (with_reducible refine (gnomonref08_product.calls kj15 t251 t256 t260 t261 _ A33.out).mono ?_); rintro e w' ⟨rfl, ⟨nd, rfl⟩⟩; refine ⟨_, rfl, ?_⟩))
                go_ret2
                exact ⟨by first | rfl | (simp; done) | (simp [*]; done), by repeat (first | exact Drawn0.refl _ | apply Drawn0.step)⟩
               ·
                rw [if_neg c32] at H
                have c32b0 : (((rd_T68 l0 a1).f0) == 6) = false := beq_eq_false_iff_ne.mpr c32
                have c32b1 : (((rd_T68 l0 a1).f0) != 6) = true := bne_iff_ne.mpr c32
                by_cases c34 : ((rd_T68 l0 a1).f0) = 8
                ·
                 rw [if_pos c34] at H
                 have c34b0 : (((rd_T68 l0 a1).f0) == 8) = true := beq_iff_eq.mpr c34
                 have c34b1 : (((rd_T68 l0 a1).f0) != 8) = false := bne_eq_false_iff_eq.mpr c34
                 clear c34
                 by_cases c35 : t251 < t256
                 ·
                  rw [if_pos c35] at H
                  have c35b0 : decide (t251 < t256) = true := decide_eq_true c35
                  clear c35
                  simp only [Option.some.injEq, Prod.mk.injEq] at H
                  obtain ⟨rfl, rfl⟩ := H
                  go_wp2_with (first | ((with_reducible refine gate_callee (f := 80) rfl ?_); refine goesL_ (some 79) rfl rfl Tryd.func80 (by kernel_rfl) rfl #[.slice (some ad247) l0.length c0, .int .i64 (wrap64 (a1 + 1))] rfl (by (try simp only [List.map_toArray, List.map_cons, List.map_nil]); first | done | rfl | (simp only [List.length_drop, List.length_take]; rfl)) ?_; (with_reducible refine (gnomonref08_End.calls kj15 _ _ l0 (wrap64 (a1 + 1)) t255 _ ?side1 ?side2 A22.out).mono ?_); (case side1 => repeat (first | exact HR0.out | (with_reducible refine Kd.C_alloc ?_ _) | (with_reducible refine Kd.C_drewN ?_ _) | (with_reducible refine Kd.C_drew ?_))); (case side2 => exact HC0.out); rintro e w' ⟨rfl, ⟨nd, rfl⟩⟩; refine ⟨_, rfl, ?_⟩) | ((with_reducible refine gate_callee (f := 62) rfl ?_); refine goesL_ (some 81) rfl rfl Tryd.func62 (by kernel_rfl) rfl #[.slice (some ad247) l0.length c0, .int .i64 t255, .slice A2 l2.length c2] rfl (by (try simp only [List.map_toArray, List.map_cons, List.map_nil]); first | done | rfl | (simp only [List.length_drop, List.length_take]; rfl)) ?_; (with_reducible refine (ih kj15 (by have := HJ15.out; omega) _ _ l0 t255 _ _ l2 t256 true _ ?side1 ?side2 ?side3 ?side4 A23.out).mono ?_); (case side1 => repeat (first | exact HR0.out | (with_reducible refine Kd.C_alloc ?_ _) | (with_reducible refine Kd.C_drewN ?_ _) | (with_reducible refine Kd.C_drew ?_))); (case side2 => exact HC0.out); (case side3 => repeat (first | exact HR2.out | (with_reducible refine Kd.C_alloc ?_ _) | (with_reducible refine Kd.C_drewN ?_ _) | (with_reducible refine Kd.C_drew ?_))); (case side4 => exact HC2.out); rintro e w' ⟨rfl, ⟨nd, rfl⟩⟩; refine ⟨_, rfl, ?_⟩))
                  go_ret2
                  exact ⟨by first | rfl | (simp; done) | (simp [*]; done), by repeat (first | exact Drawn0.refl _ | apply Drawn0.step)⟩
                 ·
                  rw [if_neg c35] at H
                  have c35b0 : decide (t251 < t256) = false := decide_eq_false c35
                  clear c35
                  simp only [Option.some.injEq, Prod.mk.injEq] at H
                  obtain ⟨rfl, rfl⟩ := H
                  go_wp2_with (first | ((with_reducible refine gate_callee (f := 80) rfl ?_); refine goesL_ (some 79) rfl rfl Tryd.func80 (by kernel_rfl) rfl #[.slice (some ad247) l0.length c0, .int .i64 (wrap64 (a1 + 1))] rfl (by (try simp only [List.map_toArray, List.map_cons, List.map_nil]); first | done | rfl | (simp only [List.length_drop, List.length_take]; rfl)) ?_; (with_reducible refine (gnomonref08_End.calls kj15 _ _ l0 (wrap64 (a1 + 1)) t255 _ ?side1 ?side2 A22.out).mono ?_); (case side1 => repeat (first | exact HR0.out | (with_reducible refine Kd.C_alloc ?_ _) | (with_reducible refine Kd.C_drewN ?_ _) | (with_reducible refine Kd.C_drew ?_))); (case side2 => exact HC0.out); rintro e w' ⟨rfl, ⟨nd, rfl⟩⟩; refine ⟨_, rfl, ?_⟩) | ((with_reducible refine gate_callee (f := 62) rfl ?_); refine goesL_ (some 81) rfl rfl Tryd.func62 (by kernel_rfl) rfl #[.slice (some ad247) l0.length c0, .int .i64 t255, .slice A2 l2.length c2] rfl (by (try simp only [List.map_toArray, List.map_cons, List.map_nil]); first | done | rfl | (simp only [List.length_drop, List.length_take]; rfl)) ?_; (with_reducible refine (ih kj15 (by have := HJ15.out; omega) _ _ l0 t255 _ _ l2 t256 true _ ?side1 ?side2 ?side3 ?side4 A23.out).mono ?_); (case side1 => repeat (first | exact HR0.out | (with_reducible refine Kd.C_alloc ?_ _) | (with_reducible refine Kd.C_drewN ?_ _) | (with_reducible refine Kd.C_drew ?_))); (case side2 => exact HC0.out); (case side3 => repeat (first | exact HR2.out | (with_reducible refine Kd.C_alloc ?_ _) | (with_reducible refine Kd.C_drewN ?_ _) | (with_reducible refine Kd.C_drew ?_))); (case side4 => exact HC2.out); rintro e w' ⟨rfl, ⟨nd, rfl⟩⟩; refine ⟨_, rfl, ?_⟩))
                  go_ret2
                  exact ⟨by first | rfl | (simp; done) | (simp [*]; done), by repeat (first | exact Drawn0.refl _ | apply Drawn0.step)⟩
                ·
                 rw [if_neg c34] at H
                 have c34b0 : (((rd_T68 l0 a1).f0) == 8) = false := beq_eq_false_iff_ne.mpr c34
                 have c34b1 : (((rd_T68 l0 a1).f0) != 8) = true := bne_iff_ne.mpr c34
                 by_cases c36 : ((rd_T68 l0 a1).f0) = 9
                 ·
                  rw [if_pos c36] at H
                  have c36b0 : (((rd_T68 l0 a1).f0) == 9) = true := beq_iff_eq.mpr c36
                  have c36b1 : (((rd_T68 l0 a1).f0) != 9) = false := bne_eq_false_iff_eq.mpr c36
                  clear c36
                  by_cases c37 : t251 ≤ t256
                  ·
                   rw [if_pos c37] at H
                   have c37b0 : decide (t251 ≤ t256) = true := decide_eq_true c37
                   clear c37
                   simp only [Option.some.injEq, Prod.mk.injEq] at H
                   obtain ⟨rfl, rfl⟩ := H
                   go_wp2_with (first | ((with_reducible refine gate_callee (f := 80) rfl ?_); refine goesL_ (some 79) rfl rfl Tryd.func80 (by kernel_rfl) rfl #[.slice (some ad247) l0.length c0, .int .i64 (wrap64 (a1 + 1))] rfl (by (try simp only [List.map_toArray, List.map_cons, List.map_nil]); first | done | rfl | (simp only [List.length_drop, List.length_take]; rfl)) ?_; (with_reducible refine (gnomonref08_End.calls kj15 _ _ l0 (wrap64 (a1 + 1)) t255 _ ?side1 ?side2 A22.out).mono ?_); (case side1 => repeat (first | exact HR0.out | (with_reducible refine Kd.C_alloc ?_ _) | (with_reducible refine Kd.C_drewN ?_ _) | (with_reducible refine Kd.C_drew ?_))); (case side2 => exact HC0.out); rintro e w' ⟨rfl, ⟨nd, rfl⟩⟩; refine ⟨_, rfl, ?_⟩) | ((with_reducible refine gate_callee (f := 62) rfl ?_); refine goesL_ (some 81) rfl rfl Tryd.func62 (by kernel_rfl) rfl #[.slice (some ad247) l0.length c0, .int .i64 t255, .slice A2 l2.length c2] rfl (by (try simp only [List.map_toArray, List.map_cons, List.map_nil]); first | done | rfl | (simp only [List.length_drop, List.length_take]; rfl)) ?_; (with_reducible refine (ih kj15 (by have := HJ15.out; omega) _ _ l0 t255 _ _ l2 t256 true _ ?side1 ?side2 ?side3 ?side4 A23.out).mono ?_); (case side1 => repeat (first | exact HR0.out | (with_reducible refine Kd.C_alloc ?_ _) | (with_reducible refine Kd.C_drewN ?_ _) | (with_reducible refine Kd.C_drew ?_))); (case side2 => exact HC0.out); (case side3 => repeat (first | exact HR2.out | (with_reducible refine Kd.C_alloc ?_ _) | (with_reducible refine Kd.C_drewN ?_ _) | (with_reducible refine Kd.C_drew ?_))); (case side4 => exact HC2.out); rintro e w' ⟨rfl, ⟨nd, rfl⟩⟩; refine ⟨_, rfl, ?_⟩))
                   go_ret2
                   exact ⟨by first | rfl | (simp; done) | (simp [*]; done), by repeat (first | exact Drawn0.refl _ | apply Drawn0.step)⟩
                  ·
                   rw [if_neg c37] at H
                   have c37b0 : decide (t251 ≤ t256) = false := decide_eq_false c37
                   clear c37
                   simp only [Option.some.injEq, Prod.mk.injEq] at H
                   obtain ⟨rfl, rfl⟩ := H
                   go_wp2_with (first | ((with_reducible refine gate_callee (f := 80) rfl ?_); refine goesL_ (some 79) rfl rfl Tryd.func80 (by kernel_rfl) rfl #[.slice (some ad247) l0.length c0, .int .i64 (wrap64 (a1 + 1))] rfl (by (try simp only [List.map_toArray, List.map_cons, List.map_nil]); first | done | rfl | (simp only [List.length_drop, List.length_take]; rfl)) ?_; (with_reducible refine (gnomonref08_End.calls kj15 _ _ l0 (wrap64 (a1 + 1)) t255 _ ?side1 ?side2 A22.out).mono ?_); (case side1 => repeat (first | exact HR0.out | (with_reducible refine Kd.C_alloc ?_ _) | (with_reducible refine Kd.C_drewN ?_ _) | (with_reducible refine Kd.C_drew ?_))); (case side2 => exact HC0.out); rintro e w' ⟨rfl, ⟨nd, rfl⟩⟩; refine ⟨_, rfl, ?_⟩) | ((with_reducible refine gate_callee (f := 62) rfl ?_); refine goesL_ (some 81) rfl rfl Tryd.func62 (by kernel_rfl) rfl #[.slice (some ad247) l0.length c0, .int .i64 t255, .slice A2 l2.length c2] rfl (by (try simp only [List.map_toArray, List.map_cons, List.map_nil]); first | done | rfl | (simp only [List.length_drop, List.length_take]; rfl)) ?_; (with_reducible refine (ih kj15 (by have := HJ15.out; omega) _ _ l0 t255 _ _ l2 t256 true _ ?side1 ?side2 ?side3 ?side4 A23.out).mono ?_); (case side1 => repeat (first | exact HR0.out | (with_reducible refine Kd.C_alloc ?_ _) | (with_reducible refine Kd.C_drewN ?_ _) | (with_reducible refine Kd.C_drew ?_))); (case side2 => exact HC0.out); (case side3 => repeat (first | exact HR2.out | (with_reducible refine Kd.C_alloc ?_ _) | (with_reducible refine Kd.C_drewN ?_ _) | (with_reducible refine Kd.C_drew ?_))); (case side4 => exact HC2.out); rintro e w' ⟨rfl, ⟨nd, rfl⟩⟩; refine ⟨_, rfl, ?_⟩))
                   go_ret2
                   exact ⟨by first | rfl | (simp; done) | (simp [*]; done), by repeat (first | exact Drawn0.refl _ | apply Drawn0.step)⟩
                 ·
                  rw [if_neg c36] at H
                  have c36b0 : (((rd_T68 l0 a1).f0) == 9) = false := beq_eq_false_iff_ne.mpr c36
                  have c36b1 : (((rd_T68 l0 a1).f0) != 9) = true := bne_iff_ne.mpr c36
                  by_cases c38 : ((rd_T68 l0 a1).f0) = 10
                  ·
                   rw [if_pos c38] at H
                   have c38b0 : (((rd_T68 l0 a1).f0) == 10) = true := beq_iff_eq.mpr c38
                   have c38b1 : (((rd_T68 l0 a1).f0) != 10) = false := bne_eq_false_iff_eq.mpr c38
                   clear c38
                   by_cases c39 : t251 = t256
                   ·
                    rw [if_pos c39] at H
                    have c39b0 : (t251 == t256) = true := beq_iff_eq.mpr c39
                    have c39b1 : (t251 != t256) = false := bne_eq_false_iff_eq.mpr c39
                    clear c39
                    simp only [Option.some.injEq, Prod.mk.injEq] at H
                    obtain ⟨rfl, rfl⟩ := H
                    go_wp2_with (first | ((with_reducible refine gate_callee (f := 80) rfl ?_); refine goesL_ (some 79) rfl rfl Tryd.func80 (by kernel_rfl) rfl #[.slice (some ad247) l0.length c0, .int .i64 (wrap64 (a1 + 1))] rfl (by (try simp only [List.map_toArray, List.map_cons, List.map_nil]); first | done | rfl | (simp only [List.length_drop, List.length_take]; rfl)) ?_; (with_reducible refine (gnomonref08_End.calls kj15 _ _ l0 (wrap64 (a1 + 1)) t255 _ ?side1 ?side2 A22.out).mono ?_); (case side1 => repeat (first | exact HR0.out | (with_reducible refine Kd.C_alloc ?_ _) | (with_reducible refine Kd.C_drewN ?_ _) | (with_reducible refine Kd.C_drew ?_))); (case side2 => exact HC0.out); rintro e w' ⟨rfl, ⟨nd, rfl⟩⟩; refine ⟨_, rfl, ?_⟩) | ((with_reducible refine gate_callee (f := 62) rfl ?_); refine goesL_ (some 81) rfl rfl Tryd.func62 (by kernel_rfl) rfl #[.slice (some ad247) l0.length c0, .int .i64 t255, .slice A2 l2.length c2] rfl (by (try simp only [List.map_toArray, List.map_cons, List.map_nil]); first | done | rfl | (simp only [List.length_drop, List.length_take]; rfl)) ?_; (with_reducible refine (ih kj15 (by have := HJ15.out; omega) _ _ l0 t255 _ _ l2 t256 true _ ?side1 ?side2 ?side3 ?side4 A23.out).mono ?_); (case side1 => repeat (first | exact HR0.out | (with_reducible refine Kd.C_alloc ?_ _) | (with_reducible refine Kd.C_drewN ?_ _) | (with_reducible refine Kd.C_drew ?_))); (case side2 => exact HC0.out); (case side3 => repeat (first | exact HR2.out | (with_reducible refine Kd.C_alloc ?_ _) | (with_reducible refine Kd.C_drewN ?_ _) | (with_reducible refine Kd.C_drew ?_))); (case side4 => exact HC2.out); rintro e w' ⟨rfl, ⟨nd, rfl⟩⟩; refine ⟨_, rfl, ?_⟩))
                    go_ret2
                    exact ⟨by first | rfl | (simp; done) | (simp [*]; done), by repeat (first | exact Drawn0.refl _ | apply Drawn0.step)⟩
                   ·
                    rw [if_neg c39] at H
                    have c39b0 : (t251 == t256) = false := beq_eq_false_iff_ne.mpr c39
                    have c39b1 : (t251 != t256) = true := bne_iff_ne.mpr c39
                    simp only [Option.some.injEq, Prod.mk.injEq] at H
                    obtain ⟨rfl, rfl⟩ := H
                    go_wp2_with (first | ((with_reducible refine gate_callee (f := 80) rfl ?_); refine goesL_ (some 79) rfl rfl Tryd.func80 (by kernel_rfl) rfl #[.slice (some ad247) l0.length c0, .int .i64 (wrap64 (a1 + 1))] rfl (by (try simp only [List.map_toArray, List.map_cons, List.map_nil]); first | done | rfl | (simp only [List.length_drop, List.length_take]; rfl)) ?_; (with_reducible refine (gnomonref08_End.calls kj15 _ _ l0 (wrap64 (a1 + 1)) t255 _ ?side1 ?side2 A22.out).mono ?_); (case side1 => repeat (first | exact HR0.out | (with_reducible refine Kd.C_alloc ?_ _) | (with_reducible refine Kd.C_drewN ?_ _) | (with_reducible refine Kd.C_drew ?_))); (case side2 => exact HC0.out); rintro e w' ⟨rfl, ⟨nd, rfl⟩⟩; refine ⟨_, rfl, ?_⟩) | ((with_reducible refine gate_callee (f := 62) rfl ?_); refine goesL_ (some 81) rfl rfl Tryd.func62 (by kernel_rfl) rfl #[.slice (some ad247) l0.length c0, .int .i64 t255, .slice A2 l2.length c2] rfl (by (try simp only [List.map_toArray, List.map_cons, List.map_nil]); first | done | rfl | (simp only [List.length_drop, List.length_take]; rfl)) ?_; (with_reducible refine (ih kj15 (by have := HJ15.out; omega) _ _ l0 t255 _ _ l2 t256 true _ ?side1 ?side2 ?side3 ?side4 A23.out).mono ?_); (case side1 => repeat (first | exact HR0.out | (with_reducible refine Kd.C_alloc ?_ _) | (with_reducible refine Kd.C_drewN ?_ _) | (with_reducible refine Kd.C_drew ?_))); (case side2 => exact HC0.out); (case side3 => repeat (first | exact HR2.out | (with_reducible refine Kd.C_alloc ?_ _) | (with_reducible refine Kd.C_drewN ?_ _) | (with_reducible refine Kd.C_drew ?_))); (case side4 => exact HC2.out); rintro e w' ⟨rfl, ⟨nd, rfl⟩⟩; refine ⟨_, rfl, ?_⟩))
                    go_ret2
                    exact ⟨by first | rfl | (simp; done) | (simp [*]; done), by repeat (first | exact Drawn0.refl _ | apply Drawn0.step)⟩
                  ·
                   rw [if_neg c38] at H
                   have c38b0 : (((rd_T68 l0 a1).f0) == 10) = false := beq_eq_false_iff_ne.mpr c38
                   have c38b1 : (((rd_T68 l0 a1).f0) != 10) = true := bne_iff_ne.mpr c38
                   by_cases c40 : ((rd_T68 l0 a1).f0) = 11
                   ·
                    rw [if_pos c40] at H
                    have c40b0 : (((rd_T68 l0 a1).f0) == 11) = true := beq_iff_eq.mpr c40
                    have c40b1 : (((rd_T68 l0 a1).f0) != 11) = false := bne_eq_false_iff_eq.mpr c40
                    clear c40
                    by_cases c41 : t251 = t256
                    ·
                     rw [if_pos c41] at H
                     have c41b0 : (t251 == t256) = true := beq_iff_eq.mpr c41
                     have c41b1 : (t251 != t256) = false := bne_eq_false_iff_eq.mpr c41
                     clear c41
                     simp only [Option.some.injEq, Prod.mk.injEq] at H
                     obtain ⟨rfl, rfl⟩ := H
                     go_wp2_with (first | ((with_reducible refine gate_callee (f := 80) rfl ?_); refine goesL_ (some 79) rfl rfl Tryd.func80 (by kernel_rfl) rfl #[.slice (some ad247) l0.length c0, .int .i64 (wrap64 (a1 + 1))] rfl (by (try simp only [List.map_toArray, List.map_cons, List.map_nil]); first | done | rfl | (simp only [List.length_drop, List.length_take]; rfl)) ?_; (with_reducible refine (gnomonref08_End.calls kj15 _ _ l0 (wrap64 (a1 + 1)) t255 _ ?side1 ?side2 A22.out).mono ?_); (case side1 => repeat (first | exact HR0.out | (with_reducible refine Kd.C_alloc ?_ _) | (with_reducible refine Kd.C_drewN ?_ _) | (with_reducible refine Kd.C_drew ?_))); (case side2 => exact HC0.out); rintro e w' ⟨rfl, ⟨nd, rfl⟩⟩; refine ⟨_, rfl, ?_⟩) | ((with_reducible refine gate_callee (f := 62) rfl ?_); refine goesL_ (some 81) rfl rfl Tryd.func62 (by kernel_rfl) rfl #[.slice (some ad247) l0.length c0, .int .i64 t255, .slice A2 l2.length c2] rfl (by (try simp only [List.map_toArray, List.map_cons, List.map_nil]); first | done | rfl | (simp only [List.length_drop, List.length_take]; rfl)) ?_; (with_reducible refine (ih kj15 (by have := HJ15.out; omega) _ _ l0 t255 _ _ l2 t256 true _ ?side1 ?side2 ?side3 ?side4 A23.out).mono ?_); (case side1 => repeat (first | exact HR0.out | (with_reducible refine Kd.C_alloc ?_ _) | (with_reducible refine Kd.C_drewN ?_ _) | (with_reducible refine Kd.C_drew ?_))); (case side2 => exact HC0.out); (case side3 => repeat (first | exact HR2.out | (with_reducible refine Kd.C_alloc ?_ _) | (with_reducible refine Kd.C_drewN ?_ _) | (with_reducible refine Kd.C_drew ?_))); (case side4 => exact HC2.out); rintro e w' ⟨rfl, ⟨nd, rfl⟩⟩; refine ⟨_, rfl, ?_⟩))
                     go_ret2
                     exact ⟨by first | rfl | (simp; done) | (simp [*]; done), by repeat (first | exact Drawn0.refl _ | apply Drawn0.step)⟩
                    ·
                     rw [if_neg c41] at H
                     have c41b0 : (t251 == t256) = false := beq_eq_false_iff_ne.mpr c41
                     have c41b1 : (t251 != t256) = true := bne_iff_ne.mpr c41
                     simp only [Option.some.injEq, Prod.mk.injEq] at H
                     obtain ⟨rfl, rfl⟩ := H
                     go_wp2_with (first | ((with_reducible refine gate_callee (f := 80) rfl ?_); refine goesL_ (some 79) rfl rfl Tryd.func80 (by kernel_rfl) rfl #[.slice (some ad247) l0.length c0, .int .i64 (wrap64 (a1 + 1))] rfl (by (try simp only [List.map_toArray, List.map_cons, List.map_nil]); first | done | rfl | (simp only [List.length_drop, List.length_take]; rfl)) ?_; (with_reducible refine (gnomonref08_End.calls kj15 _ _ l0 (wrap64 (a1 + 1)) t255 _ ?side1 ?side2 A22.out).mono ?_); (case side1 => repeat (first | exact HR0.out | (with_reducible refine Kd.C_alloc ?_ _) | (with_reducible refine Kd.C_drewN ?_ _) | (with_reducible refine Kd.C_drew ?_))); (case side2 => exact HC0.out); rintro e w' ⟨rfl, ⟨nd, rfl⟩⟩; refine ⟨_, rfl, ?_⟩) | ((with_reducible refine gate_callee (f := 62) rfl ?_); refine goesL_ (some 81) rfl rfl Tryd.func62 (by kernel_rfl) rfl #[.slice (some ad247) l0.length c0, .int .i64 t255, .slice A2 l2.length c2] rfl (by (try simp only [List.map_toArray, List.map_cons, List.map_nil]); first | done | rfl | (simp only [List.length_drop, List.length_take]; rfl)) ?_; (with_reducible refine (ih kj15 (by have := HJ15.out; omega) _ _ l0 t255 _ _ l2 t256 true _ ?side1 ?side2 ?side3 ?side4 A23.out).mono ?_); (case side1 => repeat (first | exact HR0.out | (with_reducible refine Kd.C_alloc ?_ _) | (with_reducible refine Kd.C_drewN ?_ _) | (with_reducible refine Kd.C_drew ?_))); (case side2 => exact HC0.out); (case side3 => repeat (first | exact HR2.out | (with_reducible refine Kd.C_alloc ?_ _) | (with_reducible refine Kd.C_drewN ?_ _) | (with_reducible refine Kd.C_drew ?_))); (case side4 => exact HC2.out); rintro e w' ⟨rfl, ⟨nd, rfl⟩⟩; refine ⟨_, rfl, ?_⟩))
                     go_ret2
                     exact ⟨by first | rfl | (simp; done) | (simp [*]; done), by repeat (first | exact Drawn0.refl _ | apply Drawn0.step)⟩
                   ·
                    rw [if_neg c40] at H
                    have c40b0 : (((rd_T68 l0 a1).f0) == 11) = false := beq_eq_false_iff_ne.mpr c40
                    have c40b1 : (((rd_T68 l0 a1).f0) != 11) = true := bne_iff_ne.mpr c40
                    simp only [Option.some.injEq, Prod.mk.injEq] at H
                    obtain ⟨rfl, rfl⟩ := H
                    go_wp2_with (first | ((with_reducible refine gate_callee (f := 80) rfl ?_); refine goesL_ (some 79) rfl rfl Tryd.func80 (by kernel_rfl) rfl #[.slice (some ad247) l0.length c0, .int .i64 (wrap64 (a1 + 1))] rfl (by (try simp only [List.map_toArray, List.map_cons, List.map_nil]); first | done | rfl | (simp only [List.length_drop, List.length_take]; rfl)) ?_; (with_reducible refine (gnomonref08_End.calls kj15 _ _ l0 (wrap64 (a1 + 1)) t255 _ ?side1 ?side2 A22.out).mono ?_); (case side1 => repeat (first | exact HR0.out | (with_reducible refine Kd.C_alloc ?_ _) | (with_reducible refine Kd.C_drewN ?_ _) | (with_reducible refine Kd.C_drew ?_))); (case side2 => exact HC0.out); rintro e w' ⟨rfl, ⟨nd, rfl⟩⟩; refine ⟨_, rfl, ?_⟩) | ((with_reducible refine gate_callee (f := 62) rfl ?_); refine goesL_ (some 81) rfl rfl Tryd.func62 (by kernel_rfl) rfl #[.slice (some ad247) l0.length c0, .int .i64 t255, .slice A2 l2.length c2] rfl (by (try simp only [List.map_toArray, List.map_cons, List.map_nil]); first | done | rfl | (simp only [List.length_drop, List.length_take]; rfl)) ?_; (with_reducible refine (ih kj15 (by have := HJ15.out; omega) _ _ l0 t255 _ _ l2 t256 true _ ?side1 ?side2 ?side3 ?side4 A23.out).mono ?_); (case side1 => repeat (first | exact HR0.out | (with_reducible refine Kd.C_alloc ?_ _) | (with_reducible refine Kd.C_drewN ?_ _) | (with_reducible refine Kd.C_drew ?_))); (case side2 => exact HC0.out); (case side3 => repeat (first | exact HR2.out | (with_reducible refine Kd.C_alloc ?_ _) | (with_reducible refine Kd.C_drewN ?_ _) | (with_reducible refine Kd.C_drew ?_))); (case side4 => exact HC2.out); rintro e w' ⟨rfl, ⟨nd, rfl⟩⟩; refine ⟨_, rfl, ?_⟩))
                    go_ret2
                    exact ⟨by first | rfl | (simp; done) | (simp [*]; done), by repeat (first | exact Drawn0.refl _ | apply Drawn0.step)⟩
            ·
             replace c24 := Bool.eq_false_iff.mpr c24
             subst c24
             have H1 : (some (0, false)) = some (r1, r2) := by rw [if_neg (show ¬ (false = true) by decide)] at H; exact H
             clear H
             have H := H1
             clear H1
             simp only [Option.some.injEq, Prod.mk.injEq] at H
             obtain ⟨rfl, rfl⟩ := H
             go_wp2_with (first | ((with_reducible refine gate_callee (f := 80) rfl ?_); refine goesL_ (some 79) rfl rfl Tryd.func80 (by kernel_rfl) rfl #[.slice (some ad247) l0.length c0, .int .i64 (wrap64 (a1 + 1))] rfl (by (try simp only [List.map_toArray, List.map_cons, List.map_nil]); first | done | rfl | (simp only [List.length_drop, List.length_take]; rfl)) ?_; (with_reducible refine (gnomonref08_End.calls kj15 _ _ l0 (wrap64 (a1 + 1)) t255 _ ?side1 ?side2 A22.out).mono ?_); (case side1 => repeat (first | exact HR0.out | (with_reducible refine Kd.C_alloc ?_ _) | (with_reducible refine Kd.C_drewN ?_ _) | (with_reducible refine Kd.C_drew ?_))); (case side2 => exact HC0.out); rintro e w' ⟨rfl, ⟨nd, rfl⟩⟩; refine ⟨_, rfl, ?_⟩) | ((with_reducible refine gate_callee (f := 62) rfl ?_); refine goesL_ (some 81) rfl rfl Tryd.func62 (by kernel_rfl) rfl #[.slice (some ad247) l0.length c0, .int .i64 t255, .slice A2 l2.length c2] rfl (by (try simp only [List.map_toArray, List.map_cons, List.map_nil]); first | done | rfl | (simp only [List.length_drop, List.length_take]; rfl)) ?_; (with_reducible refine (ih kj15 (by have := HJ15.out; omega) _ _ l0 t255 _ _ l2 t256 false _ ?side1 ?side2 ?side3 ?side4 A23.out).mono ?_); (case side1 => repeat (first | exact HR0.out | (with_reducible refine Kd.C_alloc ?_ _) | (with_reducible refine Kd.C_drewN ?_ _) | (with_reducible refine Kd.C_drew ?_))); (case side2 => exact HC0.out); (case side3 => repeat (first | exact HR2.out | (with_reducible refine Kd.C_alloc ?_ _) | (with_reducible refine Kd.C_drewN ?_ _) | (with_reducible refine Kd.C_drew ?_))); (case side4 => exact HC2.out); rintro e w' ⟨rfl, ⟨nd, rfl⟩⟩; refine ⟨_, rfl, ?_⟩))
             go_ret2
             exact ⟨by first | rfl | (simp; done) | (simp [*]; done), by repeat (first | exact Drawn0.refl _ | apply Drawn0.step)⟩
      ·
       replace c12 := Bool.eq_false_iff.mpr c12
       subst c12
       have H1 : (some (0, false)) = some (r1, r2) := by rw [if_neg (show ¬ (false = true) by decide)] at H; exact H
       clear H
       have H := H1
       clear H1
       simp only [Option.some.injEq, Prod.mk.injEq] at H
       obtain ⟨rfl, rfl⟩ := H
       have p247 : 0 ≤ (a1 : Int) := of_decide_eq_true (by first | (with_reducible assumption) | assumption)
       have q247 : a1 < (l0.length : Int) := of_decide_eq_true (by first | (with_reducible assumption) | assumption)
       obtain ⟨ad247, e247, hx247_0, hx247_1⟩ := at_T68 HR0.out a1 p247 q247
       cases e247
       replace p247 := eq_true p247
       replace q247 := eq_true q247
       go_enter Tryd.func62, Tryd.ntmps62
       go_wp2_with (first | ((with_reducible refine gate_callee (f := 62) rfl ?_); refine goesL_ (some 44) rfl rfl Tryd.func62 (by kernel_rfl) rfl #[.slice (some ad247) l0.length c0, .int .i64 (wrap64 (a1 + 1)), .slice A2 l2.length c2] rfl (by (try simp only [List.map_toArray, List.map_cons, List.map_nil]); first | done | rfl | (simp only [List.length_drop, List.length_take]; rfl)) ?_; (with_reducible refine (ih k (by omega) _ _ l0 (wrap64 (a1 + 1)) _ _ l2 t251 false _ ?side1 ?side2 ?side3 ?side4 A11.out).mono ?_); (case side1 => repeat (first | exact HR0.out | (with_reducible refine Kd.C_alloc ?_ _) | (with_reducible refine Kd.C_drewN ?_ _) | (with_reducible refine Kd.C_drew ?_))); (case side2 => exact HC0.out); (case side3 => repeat (first | exact HR2.out | (with_reducible refine Kd.C_alloc ?_ _) | (with_reducible refine Kd.C_drewN ?_ _) | (with_reducible refine Kd.C_drew ?_))); (case side4 => exact HC2.out); rintro e w' ⟨rfl, ⟨nd, rfl⟩⟩; refine ⟨_, rfl, ?_⟩))
       go_ret2
       exact ⟨by first | rfl | (simp; done) | (simp [*]; done), by repeat (first | exact Drawn0.refl _ | apply Drawn0.step)⟩
  ·
   rw [if_neg c5] at H
   exact absurd H (by simp)
 ·
  rw [if_neg c4] at H
  exact absurd H (by simp)

/-! ### gnomonref08_Value: function 33 -/
def gnomonref08_Value.j0 : Nat → List (S68) → List Int → Bool → Option (Int × Int)
 | 0, _, _, _ => none
 | k + 1, x0, x1, x16 => if x16 = true then (some (0, 121)) else ((gnomonref08_value.f k x0 0 x1).bind fun bt264 => (if bt264.2 = true then (some (bt264.1, 0)) else (some (0, 20))))
def gnomonref08_Value.f (k : Nat) (l0 : List (S68)) (l1 : List Int) : Option (Int × Int) := (gnomonref08_Right.f k l0 (l1.length : Int)).bind fun t262 => (if t262 = 0 then ((gnomonref08_IsTruth.f l0).bind fun t263 => (gnomonref08_Value.j0 k l0 l1 t263)) else (gnomonref08_Value.j0 k l0 l1 true))
theorem gnomonref08_Value.mono_l : ∀ k, (∀ y0 y1 y2, LeO (gnomonref08_Value.j0 k y0 y1 y2) (gnomonref08_Value.j0 (k + 1) y0 y1 y2))
 | 0 => fun _ _ _ r h => by simp [gnomonref08_Value.j0] at h
 | k + 1 => by
  have ih0 := gnomonref08_Value.mono_l k
  ·
   intro y0 y1 y2
   unfold gnomonref08_Value.j0
   repeat' first
   | (with_reducible exact ih0 _ _ _)
   | (with_reducible exact gnomonref08_Right.mono _ _ _)
   | (with_reducible exact gnomonref08_value.mono _ _ _ _)
   | (with_reducible exact LeO.refl _)
   | (with_reducible exact LeO.none _)
   | (with_reducible refine LeO.ite ?_ ?_)
   | (with_reducible refine LeO.bind ?_ (fun _ => ?_))
   | exact ih0 _ _ _
   | exact gnomonref08_Right.mono _ _ _
   | exact gnomonref08_value.mono _ _ _ _
   | exact LeO.none _
   | refine LeO.ite ?_ ?_
   | refine LeO.bind ?_ (fun _ => ?_)
theorem gnomonref08_Value.mono : ∀ a0 a1 k, LeO (gnomonref08_Value.f k a0 a1) (gnomonref08_Value.f (k + 1) a0 a1) := by
 intro a0 a1 k
 have ih0 := gnomonref08_Value.mono_l k
 unfold gnomonref08_Value.f
 repeat' first
   | (with_reducible exact ih0 _ _ _)
   | (with_reducible exact gnomonref08_Right.mono _ _ _)
   | (with_reducible exact gnomonref08_value.mono _ _ _ _)
   | (with_reducible exact LeO.refl _)
   | (with_reducible exact LeO.none _)
   | (with_reducible refine LeO.ite ?_ ?_)
   | (with_reducible refine LeO.bind ?_ (fun _ => ?_))
   | exact ih0 _ _ _
   | exact gnomonref08_Right.mono _ _ _
   | exact gnomonref08_value.mono _ _ _ _
   | exact LeO.none _
   | refine LeO.ite ?_ ?_
   | refine LeO.bind ?_ (fun _ => ?_)
set_option maxHeartbeats 8000000 in
set_option maxRecDepth 100000 in
theorem gnomonref08_Value.calls (k : Nat) (A0 : Option Addr) (c0 : Nat) (l0 : List (S68)) (A1 : Option Addr) (c1 : Nat) (l1 : List Int) (r1 : Int) (r2 : Int) (w : World) (hr0 : Kd.C k68 w A0 l0.length l0) (hc0 : l0.length ≤ c0) (hr1 : Kd.C (Kd.int .i64) w A1 l1.length l1) (hc1 : l1.length ≤ c1) (h : gnomonref08_Value.f k l0 l1 = some (r1, r2)) :
  Calls Tryd.prog 33 #[.slice A0 l0.length c0, .slice A1 l1.length c1] w fun e w' => e = .returned (.tuple #[.int .i64 r1, .int .i64 r2]) ∧ Drawn0 w w' := by
 have HR0 := Aside0.mk hr0
 have HC0 := Aside0.mk hc0
 clear hr0 hc0
 have HR1 := Aside0.mk hr1
 have HC1 := Aside0.mk hc1
 clear hr1 hc1
 have H : ((gnomonref08_Right.f k l0 (l1.length : Int)).bind fun t262 => (if t262 = 0 then ((gnomonref08_IsTruth.f l0).bind fun t263 => (gnomonref08_Value.j0 k l0 l1 t263)) else (gnomonref08_Value.j0 k l0 l1 true))) = some (r1, r2) := h
 clear h
 have HC3 := Aside0.mk H
 clear H
 go_enter Tryd.func33, Tryd.ntmps33
 go_upto_region 1 with (fail)
 go_cut [16] (fun v16 wc => ∃ (kq : Nat) (x16_2 : Bool), v16 = .bool x16_2 ∧ Aside0 (gnomonref08_Value.j0 kq l0 l1 x16_2 = some (r1, r2)) ∧ Aside0 (kq ≤ k) ∧ Drawn0 w wc)
 case first =>
  have H := HC3.out
  clear HC3
  replace H := Option.bind_eq_some_iff.mp H
  obtain ⟨t262, A40, H⟩ := H
  replace H : (if t262 = 0 then ((gnomonref08_IsTruth.f l0).bind fun t263 => (gnomonref08_Value.j0 k l0 l1 t263)) else (gnomonref08_Value.j0 k l0 l1 true)) = some (r1, r2) := H
  have A4 := Aside0.mk A40
  clear A40
  by_cases c5 : t262 = 0
  ·
   rw [if_pos c5] at H
   have c5b0 : (t262 == 0) = true := beq_iff_eq.mpr c5
   have c5b1 : (t262 != 0) = false := bne_eq_false_iff_eq.mpr c5
   clear c5
   (first | rw [c5b0] | (simp only [i64_w, i32_w]; rw [c5b0]) | skip)
   replace H := Option.bind_eq_some_iff.mp H
   obtain ⟨t263, A60, H⟩ := H
   replace H : (gnomonref08_Value.j0 k l0 l1 t263) = some (r1, r2) := H
   have A6 := Aside0.mk A60
   clear A60
   have H' := Aside0.mk H
   clear H
   go_wp2_with (first | ((with_reducible refine gate_callee (f := 57) rfl ?_); refine goesL_ (some 11) rfl rfl Tryd.func57 (by kernel_rfl) rfl #[.slice A0 l0.length c0, .int .i64 (l1.length : Int)] rfl (by (try simp only [List.map_toArray, List.map_cons, List.map_nil]); first | done | rfl | (simp only [List.length_drop, List.length_take]; rfl)) ?_; (with_reducible refine (gnomonref08_Right.calls k _ _ l0 (l1.length : Int) t262 _ ?side1 ?side2 A4.out).mono ?_); (case side1 => repeat (first | exact HR0.out | (with_reducible refine Kd.C_alloc ?_ _) | (with_reducible refine Kd.C_drewN ?_ _) | (with_reducible refine Kd.C_drew ?_))); (case side2 => exact HC0.out); rintro e w' ⟨rfl, ⟨nd, rfl⟩⟩; refine ⟨_, rfl, ?_⟩) | (go_at_call 61; (with_reducible refine (gnomonref08_IsTruth.calls _ _ l0 t263 _ ?side1 ?side2 A6.out).mono ?_); (case side1 => repeat (first | exact HR0.out | (with_reducible refine Kd.C_alloc ?_ _) | (with_reducible refine Kd.C_drewN ?_ _) | (with_reducible refine Kd.C_drew ?_))); (case side2 => exact HC0.out); rintro e w' ⟨rfl, ⟨nd, rfl⟩⟩))
   go_meet
   case rel => exact ⟨_, (t263), (by first | rfl | (simp; done) | (simp [*]; done)), H', ⟨by first | omega | exact Nat.le_refl _⟩, by repeat (first | exact Drawn0.refl _ | apply Drawn0.step)⟩
  ·
   rw [if_neg c5] at H
   have c5b0 : (t262 == 0) = false := beq_eq_false_iff_ne.mpr c5
   have c5b1 : (t262 != 0) = true := bne_iff_ne.mpr c5
   (first | rw [c5b0] | (simp only [i64_w, i32_w]; rw [c5b0]) | skip)
   have H' := Aside0.mk H
   clear H
   go_wp2_with (first | ((with_reducible refine gate_callee (f := 57) rfl ?_); refine goesL_ (some 11) rfl rfl Tryd.func57 (by kernel_rfl) rfl #[.slice A0 l0.length c0, .int .i64 (l1.length : Int)] rfl (by (try simp only [List.map_toArray, List.map_cons, List.map_nil]); first | done | rfl | (simp only [List.length_drop, List.length_take]; rfl)) ?_; (with_reducible refine (gnomonref08_Right.calls k _ _ l0 (l1.length : Int) t262 _ ?side1 ?side2 A4.out).mono ?_); (case side1 => repeat (first | exact HR0.out | (with_reducible refine Kd.C_alloc ?_ _) | (with_reducible refine Kd.C_drewN ?_ _) | (with_reducible refine Kd.C_drew ?_))); (case side2 => exact HC0.out); rintro e w' ⟨rfl, ⟨nd, rfl⟩⟩; refine ⟨_, rfl, ?_⟩))
   go_meet
   case rel => exact ⟨_, (true), (by first | rfl | (simp; done) | (simp [*]; done)), H', ⟨by first | omega | exact Nat.le_refl _⟩, by repeat (first | exact Drawn0.refl _ | apply Drawn0.step)⟩
 case rest =>
  clear HC3
  try clear c1
  try clear p2
  try clear c3
  try clear c5
  try clear c5b0
  try clear c5b1
  obtain ⟨kq, x16_2, rfl, HA, HJ2, ⟨mc2, rfl⟩⟩ := hcut
  cases kq with
  | zero => exact absurd HA.out (by simp [gnomonref08_Value.j0])
  | succ kj2 =>
   have H := HA.out
   clear HA
   simp only [gnomonref08_Value.j0] at H
   by_cases c7 : x16_2 = true
   ·
    subst c7
    have H1 : (some (0, 121)) = some (r1, r2) := by rw [if_pos rfl] at H; exact H
    clear H
    have H := H1
    clear H1
    simp only [Option.some.injEq, Prod.mk.injEq] at H
    obtain ⟨rfl, rfl⟩ := H
    go_wp2
    go_ret2
    exact ⟨by first | rfl | (simp; done) | (simp [*]; done), by repeat (first | exact Drawn0.refl _ | apply Drawn0.step)⟩
   ·
    replace c7 := Bool.eq_false_iff.mpr c7
    subst c7
    have H1 : ((gnomonref08_value.f kj2 l0 0 l1).bind fun bt264 => (if bt264.2 = true then (some (bt264.1, 0)) else (some (0, 20)))) = some (r1, r2) := by rw [if_neg (show ¬ (false = true) by decide)] at H; exact H
    clear H
    have H := H1
    clear H1
    replace H := Option.bind_eq_some_iff.mp H
    obtain ⟨⟨t264, t265⟩, A80, H⟩ := H
    replace H : (if t265 = true then (some (t264, 0)) else (some (0, 20))) = some (r1, r2) := H
    have A8 := Aside0.mk A80
    clear A80
    by_cases c9 : t265 = true
    ·
     subst c9
     have H1 : (some (t264, 0)) = some (r1, r2) := by rw [if_pos rfl] at H; exact H
     clear H
     have H := H1
     clear H1
     simp only [Option.some.injEq, Prod.mk.injEq] at H
     obtain ⟨rfl, rfl⟩ := H
     go_wp2_with (first | ((with_reducible refine gate_callee (f := 62) rfl ?_); refine goesL_ (some 20) rfl rfl Tryd.func62 (by kernel_rfl) rfl #[.slice A0 l0.length c0, .int .i64 0, .slice A1 l1.length c1] rfl (by (try simp only [List.map_toArray, List.map_cons, List.map_nil]); first | done | rfl | (simp only [List.length_drop, List.length_take]; rfl)) ?_; (with_reducible refine (gnomonref08_value.calls kj2 _ _ l0 0 _ _ l1 t264 true _ ?side1 ?side2 ?side3 ?side4 A8.out).mono ?_); (case side1 => repeat (first | exact HR0.out | (with_reducible refine Kd.C_alloc ?_ _) | (with_reducible refine Kd.C_drewN ?_ _) | (with_reducible refine Kd.C_drew ?_))); (case side2 => exact HC0.out); (case side3 => repeat (first | exact HR1.out | (with_reducible refine Kd.C_alloc ?_ _) | (with_reducible refine Kd.C_drewN ?_ _) | (with_reducible refine Kd.C_drew ?_))); (case side4 => exact HC1.out); rintro e w' ⟨rfl, ⟨nd, rfl⟩⟩; refine ⟨_, rfl, ?_⟩))
     go_ret2
     exact ⟨by first | rfl | (simp; done) | (simp [*]; done), by repeat (first | exact Drawn0.refl _ | apply Drawn0.step)⟩
    ·
     replace c9 := Bool.eq_false_iff.mpr c9
     subst c9
     have H1 : (some (0, 20)) = some (r1, r2) := by rw [if_neg (show ¬ (false = true) by decide)] at H; exact H
     clear H
     have H := H1
     clear H1
     simp only [Option.some.injEq, Prod.mk.injEq] at H
     obtain ⟨rfl, rfl⟩ := H
     go_wp2_with (first | ((with_reducible refine gate_callee (f := 62) rfl ?_); refine goesL_ (some 20) rfl rfl Tryd.func62 (by kernel_rfl) rfl #[.slice A0 l0.length c0, .int .i64 0, .slice A1 l1.length c1] rfl (by (try simp only [List.map_toArray, List.map_cons, List.map_nil]); first | done | rfl | (simp only [List.length_drop, List.length_take]; rfl)) ?_; (with_reducible refine (gnomonref08_value.calls kj2 _ _ l0 0 _ _ l1 t264 false _ ?side1 ?side2 ?side3 ?side4 A8.out).mono ?_); (case side1 => repeat (first | exact HR0.out | (with_reducible refine Kd.C_alloc ?_ _) | (with_reducible refine Kd.C_drewN ?_ _) | (with_reducible refine Kd.C_drew ?_))); (case side2 => exact HC0.out); (case side3 => repeat (first | exact HR1.out | (with_reducible refine Kd.C_alloc ?_ _) | (with_reducible refine Kd.C_drewN ?_ _) | (with_reducible refine Kd.C_drew ?_))); (case side4 => exact HC1.out); rintro e w' ⟨rfl, ⟨nd, rfl⟩⟩; refine ⟨_, rfl, ?_⟩))
     go_ret2
     exact ⟨by first | rfl | (simp; done) | (simp [*]; done), by repeat (first | exact Drawn0.refl _ | apply Drawn0.step)⟩

end Go.Proofs.YtgkcjefbagnkpaaDoor.PVal
