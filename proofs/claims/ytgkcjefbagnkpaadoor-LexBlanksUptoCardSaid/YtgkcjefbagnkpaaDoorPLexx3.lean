-- written by wip/tools/xprint.py (over the kit's print.py): not trusted, Lean checks it.
import Derived.Test.YtgkcjefbagnkpaaDoorPLexx0
import Derived.Test.YtgkcjefbagnkpaaDoorPLexx2
namespace Go.Proofs.YtgkcjefbagnkpaaDoor.PLex
open Go.RowKit Go.Proofs.YtgkcjefbagnkpaaDoorW.PrintWords Go.Proofs.YtgkcjefbagnkpaaDoorW.PrintLast Go.Proofs.YtgkcjefbagnkpaaDoorW.PrintMore Go.Proofs.YtgkcjefbagnkpaaDoorXW
attribute [local go_sem high] cell_set_map Option.map_some
attribute [local go_sem] max2_int min2_int max_two min_two max_three min_three max_four min_four   -- for this text's walks alone
set_option linter.unusedVariables false
set_option linter.unusedSimpArgs false

/-! ### lex_number: function 44 -/
def lex_number.l0 : Nat → ByteArray → Int → Int → Option (Int × Int × Bool)
 | 0, _, _, _ => none
 | k + 1, x0, x5, x6 => if x5 < (x0.size : Int) then (if 0 ≤ x5 then ((lex_of.f k (bt x0 x5)).bind fun t104 => (if t104 = 3 then (lex_number.l0 k x0 (wrap64 (x5 + 1)) (mn (wrap64 ((wrap64 (x6 * 10)) + (((bt x0 x5) - 48) % 256))) 2147483648)) else (if x6 < 2147483648 then (if x5 = 1 then (some (x5, x6, true)) else (if 0 < (x0.size : Int) then (some (x5, x6, ((bt x0 0) != 48))) else (none))) else (some (x5, x6, false))))) else (none)) else (if x6 < 2147483648 then (if x5 = 1 then (some (x5, x6, true)) else (if 0 < (x0.size : Int) then (some (x5, x6, ((bt x0 0) != 48))) else (none))) else (some (x5, x6, false)))
def lex_number.f (k : Nat) (a0 : ByteArray) : Option (Int × Int × Bool) := lex_number.l0 k a0 0 0
theorem lex_number.mono_l : ∀ k, (∀ y0 y1 y2, LeO (lex_number.l0 k y0 y1 y2) (lex_number.l0 (k + 1) y0 y1 y2))
 | 0 => fun _ _ _ r h => by simp [lex_number.l0] at h
 | k + 1 => by
  have ih0 := lex_number.mono_l k
  ·
   intro y0 y1 y2
   unfold lex_number.l0
   repeat' first
   | (with_reducible exact ih0 _ _ _)
   | (with_reducible exact lex_of.mono _ _)
   | (with_reducible exact LeO.refl _)
   | (with_reducible exact LeO.none _)
   | (with_reducible refine LeO.ite ?_ ?_)
   | (with_reducible refine LeO.bind ?_ (fun _ => ?_))
   | exact ih0 _ _ _
   | exact lex_of.mono _ _
   | exact LeO.none _
   | refine LeO.ite ?_ ?_
   | refine LeO.bind ?_ (fun _ => ?_)
theorem lex_number.mono : ∀ a0 k, LeO (lex_number.f k a0) (lex_number.f (k + 1) a0) := by
 intro a0 k
 have ih0 := lex_number.mono_l k
 unfold lex_number.f
 repeat' first
   | (with_reducible exact ih0 _ _ _)
   | (with_reducible exact lex_of.mono _ _)
   | (with_reducible exact LeO.refl _)
   | (with_reducible exact LeO.none _)
   | (with_reducible refine LeO.ite ?_ ?_)
   | (with_reducible refine LeO.bind ?_ (fun _ => ?_))
   | exact ih0 _ _ _
   | exact lex_of.mono _ _
   | exact LeO.none _
   | refine LeO.ite ?_ ?_
   | refine LeO.bind ?_ (fun _ => ?_)
set_option maxHeartbeats 8000000 in
set_option maxRecDepth 100000 in
theorem lex_number.calls (k : Nat) (a0 : ByteArray) (r1 : Int) (r2 : Int) (r3 : Bool) (w : World) (h : lex_number.f k a0 = some (r1, r2, r3)) :
  Calls Tryd.prog 44 #[.string a0] w fun e w' => e = .returned (.tuple #[.int .i64 r1, .int .i64 r2, .bool r3]) ∧ Below w.heap.size w w' := by
 have HB := Aside0.mk (Below.refl w.heap.size w)
 have H : (lex_number.l0 k a0 0 0) = some (r1, r2, r3) := h
 clear h
 have H' := Aside0.mk H
 clear H
 go_enter Tryd.func44, Tryd.ntmps44
 go_wp2
 repeat (go_quiet (fail); try go_wp2)
 go_loopg [5, 6] k (fun kq v5 v6 w' => ∃ (x5_1 : Int) (x6_1 : Int), v5 = .int .i64 x5_1 ∧ v6 = .int .i64 x6_1 ∧ Aside0 (lex_number.l0 kq a0 x5_1 x6_1 = some (r1, r2, r3)) ∧ Aside0 (kq ≤ k) ∧ Aside0 (Below w.heap.size w w'))
 case atStart => exact ⟨(0), (0), (by first | rfl | (simp; done) | (simp [*]; done)), (by first | rfl | (simp; done) | (simp [*]; done)), H', ⟨Nat.le_refl _⟩, ⟨by repeat (first | (with_reducible first | exact HB.out | apply below_alloc | apply pw_below_drewN | apply below_drew1) | exact HB.out)⟩⟩
 case round =>
  clear H'
  obtain ⟨x5_1, x6_1, rfl, rfl, HA, HK1, HB⟩ := hrel
  cases gk with
  | zero => exact absurd HA.out (by simp [lex_number.l0])
  | succ k1 =>
   have H := HA.out
   clear HA
   simp only [lex_number.l0] at H
   by_cases c2 : x5_1 < (a0.size : Int)
   ·
    rw [if_pos c2] at H
    have c2b0 : decide (x5_1 < (a0.size : Int)) = true := decide_eq_true c2
    clear c2
    by_cases c3 : 0 ≤ x5_1
    ·
     rw [if_pos c3] at H
     have c3b0 : decide (0 ≤ x5_1) = true := decide_eq_true c3
     clear c3
     replace H := Option.bind_eq_some_iff.mp H
     obtain ⟨t104, A50, H⟩ := H
     replace H : (if t104 = 3 then (lex_number.l0 k1 a0 (wrap64 (x5_1 + 1)) (mn (wrap64 ((wrap64 (x6_1 * 10)) + (((bt a0 x5_1) - 48) % 256))) 2147483648)) else (if x6_1 < 2147483648 then (if x5_1 = 1 then (some (x5_1, x6_1, true)) else (if 0 < (a0.size : Int) then (some (x5_1, x6_1, ((bt a0 0) != 48))) else (none))) else (some (x5_1, x6_1, false)))) = some (r1, r2, r3) := H
     have A5 := Aside0.mk A50
     clear A50
     by_cases c6 : t104 = 3
     ·
      rw [if_pos c6] at H
      have c6b0 : (t104 == 3) = true := beq_iff_eq.mpr c6
      have c6b1 : (t104 != 3) = false := bne_eq_false_iff_eq.mpr c6
      clear c6
      obtain ⟨ji8, hji8⟩ : ∃ j_ : Int, (mn (wrap64 ((wrap64 (x6_1 * 10)) + (((bt a0 x5_1) - 48) % 256))) 2147483648) = j_ := ⟨_, rfl⟩
      replace H : (lex_number.l0 k1 a0 (wrap64 (x5_1 + 1)) ji8) = some (r1, r2, r3) := by first | (rw [hji8] at H; exact H) | (simp only [hji8] at H ⊢; exact H)
      (try rw [hji8] at A5)
      have hji8_ : (if 2147483648 < (wrap64 ((wrap64 (x6_1 * 10)) + (((bt a0 x5_1) - 48) % 256))) then 2147483648 else (wrap64 ((wrap64 (x6_1 * 10)) + (((bt a0 x5_1) - 48) % 256)))) = ji8 := hji8
      have H' := Aside0.mk H
      clear H
      have p4 : 0 ≤ (x5_1 : Int) := of_decide_eq_true (by first | (with_reducible assumption) | assumption)
      have q4 : x5_1 < (a0.size : Int) := of_decide_eq_true (by first | (with_reducible assumption) | assumption)
      have hx4 := bt_at a0 x5_1
      replace p4 := eq_true p4
      replace q4 := eq_true q4
      go_wp2_with (first | (go_at_call 42; (with_reducible refine (lex_of.calls k1 (bt a0 x5_1) t104 _ A5.out).mono ?_); rintro e w' ⟨rfl, ⟨nd, rfl⟩⟩; (try first | exact ⟨rfl, _, World.drewN_drewN _ _ _⟩ | exact ⟨rfl, _, Eq.trans (World.drewN_drewN _ _ _) (congrArg (World.drewN _) (Nat.add_assoc _ _ _))⟩); have p7 : 0 ≤ (x5_1 : Int) := of_decide_eq_true (by first | (with_reducible assumption) | assumption); have q7 : x5_1 < (a0.size : Int) := of_decide_eq_true (by first | (with_reducible assumption) | assumption); have hx7 := bt_at a0 x5_1; replace p7 := eq_true p7; replace q7 := eq_true q7))
      repeat (go_quiet (first | (go_at_call 42; (with_reducible refine (lex_of.calls k1 (bt a0 x5_1) t104 _ A5.out).mono ?_); rintro e w' ⟨rfl, ⟨nd, rfl⟩⟩; (try first | exact ⟨rfl, _, World.drewN_drewN _ _ _⟩ | exact ⟨rfl, _, Eq.trans (World.drewN_drewN _ _ _) (congrArg (World.drewN _) (Nat.add_assoc _ _ _))⟩); have p7 : 0 ≤ (x5_1 : Int) := of_decide_eq_true (by first | (with_reducible assumption) | assumption); have q7 : x5_1 < (a0.size : Int) := of_decide_eq_true (by first | (with_reducible assumption) | assumption); have hx7 := bt_at a0 x5_1; replace p7 := eq_true p7; replace q7 := eq_true q7)); try go_wp2_with (first | (go_at_call 42; (with_reducible refine (lex_of.calls k1 (bt a0 x5_1) t104 _ A5.out).mono ?_); rintro e w' ⟨rfl, ⟨nd, rfl⟩⟩; (try first | exact ⟨rfl, _, World.drewN_drewN _ _ _⟩ | exact ⟨rfl, _, Eq.trans (World.drewN_drewN _ _ _) (congrArg (World.drewN _) (Nat.add_assoc _ _ _))⟩); have p7 : 0 ≤ (x5_1 : Int) := of_decide_eq_true (by first | (with_reducible assumption) | assumption); have q7 : x5_1 < (a0.size : Int) := of_decide_eq_true (by first | (with_reducible assumption) | assumption); have hx7 := bt_at a0 x5_1; replace p7 := eq_true p7; replace q7 := eq_true q7)))
      go_roundg k1
      case measure => have := HK1.out; omega
      case rel => exact ⟨(wrap64 (x5_1 + 1)), (ji8), (by first | rfl | (simp; done) | (simp [*]; done)), (by first | rfl | (simp; done) | (simp only [← hji8] <;> (first | rfl | simp)) | (simp [*]; done)), H', ⟨by have := HK1.out; omega⟩, ⟨by repeat (first | (with_reducible first | exact HB.out | apply below_alloc | apply pw_below_drewN | apply below_drew1) | exact HB.out)⟩⟩
     ·
      rw [if_neg c6] at H
      have c6b0 : (t104 == 3) = false := beq_eq_false_iff_ne.mpr c6
      have c6b1 : (t104 != 3) = true := bne_iff_ne.mpr c6
      by_cases c9 : x6_1 < 2147483648
      ·
       rw [if_pos c9] at H
       have c9b0 : decide (x6_1 < 2147483648) = true := decide_eq_true c9
       clear c9
       by_cases c10 : x5_1 = 1
       ·
        rw [if_pos c10] at H
        have c10b0 : (x5_1 == 1) = true := beq_iff_eq.mpr c10
        have c10b1 : (x5_1 != 1) = false := bne_eq_false_iff_eq.mpr c10
        clear c10
        simp only [Option.some.injEq, Prod.mk.injEq] at H
        obtain ⟨rfl, rfl, rfl⟩ := H
        have p4 : 0 ≤ (x5_1 : Int) := of_decide_eq_true (by first | (with_reducible assumption) | assumption)
        have q4 : x5_1 < (a0.size : Int) := of_decide_eq_true (by first | (with_reducible assumption) | assumption)
        have hx4 := bt_at a0 x5_1
        replace p4 := eq_true p4
        replace q4 := eq_true q4
        go_wp2_with (first | (go_at_call 42; (with_reducible refine (lex_of.calls k1 (bt a0 x5_1) t104 _ A5.out).mono ?_); rintro e w' ⟨rfl, ⟨nd, rfl⟩⟩; (try first | exact ⟨rfl, _, World.drewN_drewN _ _ _⟩ | exact ⟨rfl, _, Eq.trans (World.drewN_drewN _ _ _) (congrArg (World.drewN _) (Nat.add_assoc _ _ _))⟩)))
        repeat (go_quiet (first | (go_at_call 42; (with_reducible refine (lex_of.calls k1 (bt a0 x5_1) t104 _ A5.out).mono ?_); rintro e w' ⟨rfl, ⟨nd, rfl⟩⟩; (try first | exact ⟨rfl, _, World.drewN_drewN _ _ _⟩ | exact ⟨rfl, _, Eq.trans (World.drewN_drewN _ _ _) (congrArg (World.drewN _) (Nat.add_assoc _ _ _))⟩))); try go_wp2_with (first | (go_at_call 42; (with_reducible refine (lex_of.calls k1 (bt a0 x5_1) t104 _ A5.out).mono ?_); rintro e w' ⟨rfl, ⟨nd, rfl⟩⟩; (try first | exact ⟨rfl, _, World.drewN_drewN _ _ _⟩ | exact ⟨rfl, _, Eq.trans (World.drewN_drewN _ _ _) (congrArg (World.drewN _) (Nat.add_assoc _ _ _))⟩))))
        go_ret3
        exact ⟨by first | rfl | (simp [errW_none, errW_some] <;> rfl) | (simp [*, errW_none, errW_some] <;> rfl), by repeat (first | (with_reducible first | exact HB.out | apply below_alloc | apply pw_below_drewN | apply below_drew1) | exact HB.out)⟩
       ·
        rw [if_neg c10] at H
        have c10b0 : (x5_1 == 1) = false := beq_eq_false_iff_ne.mpr c10
        have c10b1 : (x5_1 != 1) = true := bne_iff_ne.mpr c10
        by_cases c11 : 0 < (a0.size : Int)
        ·
         rw [if_pos c11] at H
         have c11b0 : decide (0 < (a0.size : Int)) = true := decide_eq_true c11
         have c11b1 : decide (0 < a0.size) = true := decide_eq_true (by omega)
         clear c11
         simp only [Option.some.injEq, Prod.mk.injEq] at H
         obtain ⟨rfl, rfl, rfl⟩ := H
         have p4 : 0 ≤ (x5_1 : Int) := of_decide_eq_true (by first | (with_reducible assumption) | assumption)
         have q4 : x5_1 < (a0.size : Int) := of_decide_eq_true (by first | (with_reducible assumption) | assumption)
         have hx4 := bt_at a0 x5_1
         replace p4 := eq_true p4
         replace q4 := eq_true q4
         go_wp2_with (first | (go_at_call 42; (with_reducible refine (lex_of.calls k1 (bt a0 x5_1) t104 _ A5.out).mono ?_); rintro e w' ⟨rfl, ⟨nd, rfl⟩⟩; (try first | exact ⟨rfl, _, World.drewN_drewN _ _ _⟩ | exact ⟨rfl, _, Eq.trans (World.drewN_drewN _ _ _) (congrArg (World.drewN _) (Nat.add_assoc _ _ _))⟩); have p12 : 0 ≤ (0 : Int) := (by omega); have q12 : 0 < a0.size := (by have : (0 : Int) < (a0.size : Int) := of_decide_eq_true (by first | (with_reducible assumption) | assumption); omega); have hx12 : ∀ h : 0 < a0.size, ((a0[0]'h).toNat : Int) = bt a0 0 := bt_at a0 0; clear p12; have qi12 : (0 < (a0.size : Int)) = True := eq_true (of_decide_eq_true (by first | (with_reducible assumption) | assumption)); replace q12 := eq_true q12))
         repeat (go_quiet (first | (go_at_call 42; (with_reducible refine (lex_of.calls k1 (bt a0 x5_1) t104 _ A5.out).mono ?_); rintro e w' ⟨rfl, ⟨nd, rfl⟩⟩; (try first | exact ⟨rfl, _, World.drewN_drewN _ _ _⟩ | exact ⟨rfl, _, Eq.trans (World.drewN_drewN _ _ _) (congrArg (World.drewN _) (Nat.add_assoc _ _ _))⟩); have p12 : 0 ≤ (0 : Int) := (by omega); have q12 : 0 < a0.size := (by have : (0 : Int) < (a0.size : Int) := of_decide_eq_true (by first | (with_reducible assumption) | assumption); omega); have hx12 : ∀ h : 0 < a0.size, ((a0[0]'h).toNat : Int) = bt a0 0 := bt_at a0 0; clear p12; have qi12 : (0 < (a0.size : Int)) = True := eq_true (of_decide_eq_true (by first | (with_reducible assumption) | assumption)); replace q12 := eq_true q12)); try go_wp2_with (first | (go_at_call 42; (with_reducible refine (lex_of.calls k1 (bt a0 x5_1) t104 _ A5.out).mono ?_); rintro e w' ⟨rfl, ⟨nd, rfl⟩⟩; (try first | exact ⟨rfl, _, World.drewN_drewN _ _ _⟩ | exact ⟨rfl, _, Eq.trans (World.drewN_drewN _ _ _) (congrArg (World.drewN _) (Nat.add_assoc _ _ _))⟩); have p12 : 0 ≤ (0 : Int) := (by omega); have q12 : 0 < a0.size := (by have : (0 : Int) < (a0.size : Int) := of_decide_eq_true (by first | (with_reducible assumption) | assumption); omega); have hx12 : ∀ h : 0 < a0.size, ((a0[0]'h).toNat : Int) = bt a0 0 := bt_at a0 0; clear p12; have qi12 : (0 < (a0.size : Int)) = True := eq_true (of_decide_eq_true (by first | (with_reducible assumption) | assumption)); replace q12 := eq_true q12)))
         go_ret3
         exact ⟨by first | rfl | (simp [errW_none, errW_some] <;> rfl) | (simp [*, errW_none, errW_some] <;> rfl), by repeat (first | (with_reducible first | exact HB.out | apply below_alloc | apply pw_below_drewN | apply below_drew1) | exact HB.out)⟩
        ·
         rw [if_neg c11] at H
         exact absurd H (by simp)
      ·
       rw [if_neg c9] at H
       have c9b0 : decide (x6_1 < 2147483648) = false := decide_eq_false c9
       clear c9
       simp only [Option.some.injEq, Prod.mk.injEq] at H
       obtain ⟨rfl, rfl, rfl⟩ := H
       have p4 : 0 ≤ (x5_1 : Int) := of_decide_eq_true (by first | (with_reducible assumption) | assumption)
       have q4 : x5_1 < (a0.size : Int) := of_decide_eq_true (by first | (with_reducible assumption) | assumption)
       have hx4 := bt_at a0 x5_1
       replace p4 := eq_true p4
       replace q4 := eq_true q4
       go_wp2_with (first | (go_at_call 42; (with_reducible refine (lex_of.calls k1 (bt a0 x5_1) t104 _ A5.out).mono ?_); rintro e w' ⟨rfl, ⟨nd, rfl⟩⟩; (try first | exact ⟨rfl, _, World.drewN_drewN _ _ _⟩ | exact ⟨rfl, _, Eq.trans (World.drewN_drewN _ _ _) (congrArg (World.drewN _) (Nat.add_assoc _ _ _))⟩)))
       repeat (go_quiet (first | (go_at_call 42; (with_reducible refine (lex_of.calls k1 (bt a0 x5_1) t104 _ A5.out).mono ?_); rintro e w' ⟨rfl, ⟨nd, rfl⟩⟩; (try first | exact ⟨rfl, _, World.drewN_drewN _ _ _⟩ | exact ⟨rfl, _, Eq.trans (World.drewN_drewN _ _ _) (congrArg (World.drewN _) (Nat.add_assoc _ _ _))⟩))); try go_wp2_with (first | (go_at_call 42; (with_reducible refine (lex_of.calls k1 (bt a0 x5_1) t104 _ A5.out).mono ?_); rintro e w' ⟨rfl, ⟨nd, rfl⟩⟩; (try first | exact ⟨rfl, _, World.drewN_drewN _ _ _⟩ | exact ⟨rfl, _, Eq.trans (World.drewN_drewN _ _ _) (congrArg (World.drewN _) (Nat.add_assoc _ _ _))⟩))))
       go_ret3
       exact ⟨by first | rfl | (simp [errW_none, errW_some] <;> rfl) | (simp [*, errW_none, errW_some] <;> rfl), by repeat (first | (with_reducible first | exact HB.out | apply below_alloc | apply pw_below_drewN | apply below_drew1) | exact HB.out)⟩
    ·
     rw [if_neg c3] at H
     exact absurd H (by simp)
   ·
    rw [if_neg c2] at H
    have c2b0 : decide (x5_1 < (a0.size : Int)) = false := decide_eq_false c2
    clear c2
    by_cases c13 : x6_1 < 2147483648
    ·
     rw [if_pos c13] at H
     have c13b0 : decide (x6_1 < 2147483648) = true := decide_eq_true c13
     clear c13
     by_cases c14 : x5_1 = 1
     ·
      rw [if_pos c14] at H
      have c14b0 : (x5_1 == 1) = true := beq_iff_eq.mpr c14
      have c14b1 : (x5_1 != 1) = false := bne_eq_false_iff_eq.mpr c14
      clear c14
      simp only [Option.some.injEq, Prod.mk.injEq] at H
      obtain ⟨rfl, rfl, rfl⟩ := H
      go_wp2
      repeat (go_quiet (fail); try go_wp2)
      go_ret3
      exact ⟨by first | rfl | (simp [errW_none, errW_some] <;> rfl) | (simp [*, errW_none, errW_some] <;> rfl), by repeat (first | (with_reducible first | exact HB.out | apply below_alloc | apply pw_below_drewN | apply below_drew1) | exact HB.out)⟩
     ·
      rw [if_neg c14] at H
      have c14b0 : (x5_1 == 1) = false := beq_eq_false_iff_ne.mpr c14
      have c14b1 : (x5_1 != 1) = true := bne_iff_ne.mpr c14
      by_cases c15 : 0 < (a0.size : Int)
      ·
       rw [if_pos c15] at H
       have c15b0 : decide (0 < (a0.size : Int)) = true := decide_eq_true c15
       have c15b1 : decide (0 < a0.size) = true := decide_eq_true (by omega)
       clear c15
       simp only [Option.some.injEq, Prod.mk.injEq] at H
       obtain ⟨rfl, rfl, rfl⟩ := H
       have p16 : 0 ≤ (0 : Int) := (by omega)
       have q16 : 0 < a0.size := (by have : (0 : Int) < (a0.size : Int) := of_decide_eq_true (by first | (with_reducible assumption) | assumption); omega)
       have hx16 : ∀ h : 0 < a0.size, ((a0[0]'h).toNat : Int) = bt a0 0 := bt_at a0 0
       clear p16
       have qi16 : (0 < (a0.size : Int)) = True := eq_true (of_decide_eq_true (by first | (with_reducible assumption) | assumption))
       replace q16 := eq_true q16
       go_wp2
       repeat (go_quiet (fail); try go_wp2)
       go_ret3
       exact ⟨by first | rfl | (simp [errW_none, errW_some] <;> rfl) | (simp [*, errW_none, errW_some] <;> rfl), by repeat (first | (with_reducible first | exact HB.out | apply below_alloc | apply pw_below_drewN | apply below_drew1) | exact HB.out)⟩
      ·
       rw [if_neg c15] at H
       exact absurd H (by simp)
    ·
     rw [if_neg c13] at H
     have c13b0 : decide (x6_1 < 2147483648) = false := decide_eq_false c13
     clear c13
     simp only [Option.some.injEq, Prod.mk.injEq] at H
     obtain ⟨rfl, rfl, rfl⟩ := H
     go_wp2
     repeat (go_quiet (fail); try go_wp2)
     go_ret3
     exact ⟨by first | rfl | (simp [errW_none, errW_some] <;> rfl) | (simp [*, errW_none, errW_some] <;> rfl), by repeat (first | (with_reducible first | exact HB.out | apply below_alloc | apply pw_below_drewN | apply below_drew1) | exact HB.out)⟩

/-! ### lex_sign: function 45 -/
def lex_sign.j0 : Nat → ByteArray → Bool → Option (Int)
 | 0, _, _ => none
 | k + 1, x0, x8 => if x8 = true then (some 2) else (if 0 < (x0.size : Int) then ((strings_IndexByte.f (⟨#[44, 59, 46, 123, 125, 40, 41, 33, 60, 62, 63, 43, 45, 42]⟩ : ByteArray) (bt x0 0)).bind fun t105 => (if t105 ≥ 0 then (some 1) else (some 0))) else (none))
def lex_sign.f (k : Nat) (a0 : ByteArray) : Option (Int) := if (a0.size : Int) > 1 then (if 0 ≤ 2 then (if 2 ≤ (a0.size : Int) then (if (a0.extract 0 2).toList = ([46, 46] : List UInt8) then (lex_sign.j0 k a0 ((a0.extract 0 2).toList == ([46, 46] : List UInt8))) else (if (a0.extract 0 2).toList = ([58, 61] : List UInt8) then (lex_sign.j0 k a0 ((a0.extract 0 2).toList == ([58, 61] : List UInt8))) else (if (a0.extract 0 2).toList = ([45, 62] : List UInt8) then (lex_sign.j0 k a0 ((a0.extract 0 2).toList == ([45, 62] : List UInt8))) else (if (a0.extract 0 2).toList = ([38, 38] : List UInt8) then (lex_sign.j0 k a0 ((a0.extract 0 2).toList == ([38, 38] : List UInt8))) else (if (a0.extract 0 2).toList = ([124, 124] : List UInt8) then (lex_sign.j0 k a0 ((a0.extract 0 2).toList == ([124, 124] : List UInt8))) else (if (a0.extract 0 2).toList = ([33, 61] : List UInt8) then (lex_sign.j0 k a0 ((a0.extract 0 2).toList == ([33, 61] : List UInt8))) else (if (a0.extract 0 2).toList = ([60, 61] : List UInt8) then (lex_sign.j0 k a0 ((a0.extract 0 2).toList == ([60, 61] : List UInt8))) else (if (a0.extract 0 2).toList = ([61, 61] : List UInt8) then (lex_sign.j0 k a0 ((a0.extract 0 2).toList == ([61, 61] : List UInt8))) else (lex_sign.j0 k a0 ((a0.extract 0 2).toList == ([62, 61] : List UInt8))))))))))) else (none)) else (none)) else (if 0 < (a0.size : Int) then ((strings_IndexByte.f (⟨#[44, 59, 46, 123, 125, 40, 41, 33, 60, 62, 63, 43, 45, 42]⟩ : ByteArray) (bt a0 0)).bind fun t106 => (if t106 ≥ 0 then (some 1) else (some 0))) else (none))
theorem lex_sign.mono_l : ∀ k, (∀ y0 y1, LeO (lex_sign.j0 k y0 y1) (lex_sign.j0 (k + 1) y0 y1))
 | 0 => fun _ _ r h => by simp [lex_sign.j0] at h
 | k + 1 => by
  have ih0 := lex_sign.mono_l k
  ·
   intro y0 y1
   unfold lex_sign.j0
   repeat' first
   | (with_reducible exact ih0 _ _)
   | (with_reducible exact LeO.refl _)
   | (with_reducible exact LeO.none _)
   | (with_reducible refine LeO.ite ?_ ?_)
   | (with_reducible refine LeO.bind ?_ (fun _ => ?_))
   | exact ih0 _ _
   | exact LeO.none _
   | refine LeO.ite ?_ ?_
   | refine LeO.bind ?_ (fun _ => ?_)
theorem lex_sign.mono : ∀ a0 k, LeO (lex_sign.f k a0) (lex_sign.f (k + 1) a0) := by
 intro a0 k
 have ih0 := lex_sign.mono_l k
 unfold lex_sign.f
 repeat' first
   | (with_reducible exact ih0 _ _)
   | (with_reducible exact LeO.refl _)
   | (with_reducible exact LeO.none _)
   | (with_reducible refine LeO.ite ?_ ?_)
   | (with_reducible refine LeO.bind ?_ (fun _ => ?_))
   | exact ih0 _ _
   | exact LeO.none _
   | refine LeO.ite ?_ ?_
   | refine LeO.bind ?_ (fun _ => ?_)
set_option maxHeartbeats 8000000 in
set_option maxRecDepth 100000 in
theorem lex_sign.calls (k : Nat) (a0 : ByteArray) (r : Int) (w : World) (h : lex_sign.f k a0 = some r) :
  Calls Tryd.prog 45 #[.string a0] w fun e w' => e = .returned (.int .i64 r) ∧ Drawn0 w w' := by
 have H : (if (a0.size : Int) > 1 then (if 0 ≤ 2 then (if 2 ≤ (a0.size : Int) then (if (a0.extract 0 2).toList = ([46, 46] : List UInt8) then (lex_sign.j0 k a0 ((a0.extract 0 2).toList == ([46, 46] : List UInt8))) else (if (a0.extract 0 2).toList = ([58, 61] : List UInt8) then (lex_sign.j0 k a0 ((a0.extract 0 2).toList == ([58, 61] : List UInt8))) else (if (a0.extract 0 2).toList = ([45, 62] : List UInt8) then (lex_sign.j0 k a0 ((a0.extract 0 2).toList == ([45, 62] : List UInt8))) else (if (a0.extract 0 2).toList = ([38, 38] : List UInt8) then (lex_sign.j0 k a0 ((a0.extract 0 2).toList == ([38, 38] : List UInt8))) else (if (a0.extract 0 2).toList = ([124, 124] : List UInt8) then (lex_sign.j0 k a0 ((a0.extract 0 2).toList == ([124, 124] : List UInt8))) else (if (a0.extract 0 2).toList = ([33, 61] : List UInt8) then (lex_sign.j0 k a0 ((a0.extract 0 2).toList == ([33, 61] : List UInt8))) else (if (a0.extract 0 2).toList = ([60, 61] : List UInt8) then (lex_sign.j0 k a0 ((a0.extract 0 2).toList == ([60, 61] : List UInt8))) else (if (a0.extract 0 2).toList = ([61, 61] : List UInt8) then (lex_sign.j0 k a0 ((a0.extract 0 2).toList == ([61, 61] : List UInt8))) else (lex_sign.j0 k a0 ((a0.extract 0 2).toList == ([62, 61] : List UInt8))))))))))) else (none)) else (none)) else (if 0 < (a0.size : Int) then ((strings_IndexByte.f (⟨#[44, 59, 46, 123, 125, 40, 41, 33, 60, 62, 63, 43, 45, 42]⟩ : ByteArray) (bt a0 0)).bind fun t106 => (if t106 ≥ 0 then (some 1) else (some 0))) else (none))) = some r := h
 clear h
 by_cases c2 : (a0.size : Int) > 1
 ·
  rw [if_pos c2] at H
  have c2b0 : decide (1 < (a0.size : Int)) = true := decide_eq_true c2
  have c2b1 : decide (1 < a0.size) = true := decide_eq_true (by omega)
  clear c2
  by_cases c3 : 0 ≤ 2
  ·
   rw [if_pos c3] at H
   have c3b0 := eq_true c3
   have c3b1 : decide (0 ≤ 2) = true := decide_eq_true c3
   clear c3
   by_cases c4 : 2 ≤ (a0.size : Int)
   ·
    rw [if_pos c4] at H
    have c4b0 := eq_true c4
    have c4b1 : decide (2 ≤ (a0.size : Int)) = true := decide_eq_true c4
    clear c4
    obtain ⟨js5, hjs5⟩ : ∃ s_ : ByteArray, (a0.extract 0 2) = s_ := ⟨_, rfl⟩
    replace H : (if js5.toList = ([46, 46] : List UInt8) then (lex_sign.j0 k a0 (js5.toList == ([46, 46] : List UInt8))) else (if js5.toList = ([58, 61] : List UInt8) then (lex_sign.j0 k a0 (js5.toList == ([58, 61] : List UInt8))) else (if js5.toList = ([45, 62] : List UInt8) then (lex_sign.j0 k a0 (js5.toList == ([45, 62] : List UInt8))) else (if js5.toList = ([38, 38] : List UInt8) then (lex_sign.j0 k a0 (js5.toList == ([38, 38] : List UInt8))) else (if js5.toList = ([124, 124] : List UInt8) then (lex_sign.j0 k a0 (js5.toList == ([124, 124] : List UInt8))) else (if js5.toList = ([33, 61] : List UInt8) then (lex_sign.j0 k a0 (js5.toList == ([33, 61] : List UInt8))) else (if js5.toList = ([60, 61] : List UInt8) then (lex_sign.j0 k a0 (js5.toList == ([60, 61] : List UInt8))) else (if js5.toList = ([61, 61] : List UInt8) then (lex_sign.j0 k a0 (js5.toList == ([61, 61] : List UInt8))) else (lex_sign.j0 k a0 (js5.toList == ([62, 61] : List UInt8))))))))))) = some r := by first | exact H | (rw [hjs5] at H; exact H) | (simp only [hjs5] at H ⊢; exact H)
    have HC6 := Aside0.mk H
    clear H
    go_enter Tryd.func45, Tryd.ntmps45
    go_upto_if 8 with (fail)
    go_cut [8] (fun v8 wc => ∃ (kq : Nat) (x8_5 : Bool), v8 = .bool x8_5 ∧ Aside0 (lex_sign.j0 kq a0 x8_5 = some r) ∧ Aside0 (kq ≤ k) ∧ Drawn0 w wc)
    case first =>
     have H := HC6.out
     clear HC6
     by_cases c7 : js5.toList = ([46, 46] : List UInt8)
     ·
      rw [if_pos c7] at H
      have c7b0 : (js5.toList == ([46, 46] : List UInt8)) = true := beq_iff_eq.mpr c7
      have c7b1 : (js5.toList != ([46, 46] : List UInt8)) = false := bne_eq_false_iff_eq.mpr c7
      clear c7
      (first | rw [c7b0] | (simp only [i64_w, i32_w]; rw [c7b0]) | skip)
      have H' := Aside0.mk H
      clear H
      go_wp2
      go_meet
      case rel => exact ⟨_, ((js5.toList == ([46, 46] : List UInt8))), (by first | rfl | (simp; done) | (simp [*]; done)), H', ⟨by first | omega | exact Nat.le_refl _⟩, by repeat (first | exact Drawn0.refl _ | apply Drawn0.step)⟩
     ·
      rw [if_neg c7] at H
      have c7b0 : (js5.toList == ([46, 46] : List UInt8)) = false := beq_eq_false_iff_ne.mpr c7
      have c7b1 : (js5.toList != ([46, 46] : List UInt8)) = true := bne_iff_ne.mpr c7
      (first | rw [c7b0] | (simp only [i64_w, i32_w]; rw [c7b0]) | skip)
      by_cases c8 : js5.toList = ([58, 61] : List UInt8)
      ·
       rw [if_pos c8] at H
       have c8b0 : (js5.toList == ([58, 61] : List UInt8)) = true := beq_iff_eq.mpr c8
       have c8b1 : (js5.toList != ([58, 61] : List UInt8)) = false := bne_eq_false_iff_eq.mpr c8
       clear c8
       have H' := Aside0.mk H
       clear H
       go_wp2
       go_meet
       case rel => exact ⟨_, ((js5.toList == ([58, 61] : List UInt8))), (by first | rfl | (simp; done) | (simp [*]; done)), H', ⟨by first | omega | exact Nat.le_refl _⟩, by repeat (first | exact Drawn0.refl _ | apply Drawn0.step)⟩
      ·
       rw [if_neg c8] at H
       have c8b0 : (js5.toList == ([58, 61] : List UInt8)) = false := beq_eq_false_iff_ne.mpr c8
       have c8b1 : (js5.toList != ([58, 61] : List UInt8)) = true := bne_iff_ne.mpr c8
       by_cases c9 : js5.toList = ([45, 62] : List UInt8)
       ·
        rw [if_pos c9] at H
        have c9b0 : (js5.toList == ([45, 62] : List UInt8)) = true := beq_iff_eq.mpr c9
        have c9b1 : (js5.toList != ([45, 62] : List UInt8)) = false := bne_eq_false_iff_eq.mpr c9
        clear c9
        have H' := Aside0.mk H
        clear H
        go_wp2
        go_meet
        case rel => exact ⟨_, ((js5.toList == ([45, 62] : List UInt8))), (by first | rfl | (simp; done) | (simp [*]; done)), H', ⟨by first | omega | exact Nat.le_refl _⟩, by repeat (first | exact Drawn0.refl _ | apply Drawn0.step)⟩
       ·
        rw [if_neg c9] at H
        have c9b0 : (js5.toList == ([45, 62] : List UInt8)) = false := beq_eq_false_iff_ne.mpr c9
        have c9b1 : (js5.toList != ([45, 62] : List UInt8)) = true := bne_iff_ne.mpr c9
        by_cases c10 : js5.toList = ([38, 38] : List UInt8)
        ·
         rw [if_pos c10] at H
         have c10b0 : (js5.toList == ([38, 38] : List UInt8)) = true := beq_iff_eq.mpr c10
         have c10b1 : (js5.toList != ([38, 38] : List UInt8)) = false := bne_eq_false_iff_eq.mpr c10
         clear c10
         have H' := Aside0.mk H
         clear H
         go_wp2
         go_meet
         case rel => exact ⟨_, ((js5.toList == ([38, 38] : List UInt8))), (by first | rfl | (simp; done) | (simp [*]; done)), H', ⟨by first | omega | exact Nat.le_refl _⟩, by repeat (first | exact Drawn0.refl _ | apply Drawn0.step)⟩
        ·
         rw [if_neg c10] at H
         have c10b0 : (js5.toList == ([38, 38] : List UInt8)) = false := beq_eq_false_iff_ne.mpr c10
         have c10b1 : (js5.toList != ([38, 38] : List UInt8)) = true := bne_iff_ne.mpr c10
         by_cases c11 : js5.toList = ([124, 124] : List UInt8)
         ·
          rw [if_pos c11] at H
          have c11b0 : (js5.toList == ([124, 124] : List UInt8)) = true := beq_iff_eq.mpr c11
          have c11b1 : (js5.toList != ([124, 124] : List UInt8)) = false := bne_eq_false_iff_eq.mpr c11
          clear c11
          have H' := Aside0.mk H
          clear H
          go_wp2
          go_meet
          case rel => exact ⟨_, ((js5.toList == ([124, 124] : List UInt8))), (by first | rfl | (simp; done) | (simp [*]; done)), H', ⟨by first | omega | exact Nat.le_refl _⟩, by repeat (first | exact Drawn0.refl _ | apply Drawn0.step)⟩
         ·
          rw [if_neg c11] at H
          have c11b0 : (js5.toList == ([124, 124] : List UInt8)) = false := beq_eq_false_iff_ne.mpr c11
          have c11b1 : (js5.toList != ([124, 124] : List UInt8)) = true := bne_iff_ne.mpr c11
          by_cases c12 : js5.toList = ([33, 61] : List UInt8)
          ·
           rw [if_pos c12] at H
           have c12b0 : (js5.toList == ([33, 61] : List UInt8)) = true := beq_iff_eq.mpr c12
           have c12b1 : (js5.toList != ([33, 61] : List UInt8)) = false := bne_eq_false_iff_eq.mpr c12
           clear c12
           have H' := Aside0.mk H
           clear H
           go_wp2
           go_meet
           case rel => exact ⟨_, ((js5.toList == ([33, 61] : List UInt8))), (by first | rfl | (simp; done) | (simp [*]; done)), H', ⟨by first | omega | exact Nat.le_refl _⟩, by repeat (first | exact Drawn0.refl _ | apply Drawn0.step)⟩
          ·
           rw [if_neg c12] at H
           have c12b0 : (js5.toList == ([33, 61] : List UInt8)) = false := beq_eq_false_iff_ne.mpr c12
           have c12b1 : (js5.toList != ([33, 61] : List UInt8)) = true := bne_iff_ne.mpr c12
           by_cases c13 : js5.toList = ([60, 61] : List UInt8)
           ·
            rw [if_pos c13] at H
            have c13b0 : (js5.toList == ([60, 61] : List UInt8)) = true := beq_iff_eq.mpr c13
            have c13b1 : (js5.toList != ([60, 61] : List UInt8)) = false := bne_eq_false_iff_eq.mpr c13
            clear c13
            have H' := Aside0.mk H
            clear H
            go_wp2
            go_meet
            case rel => exact ⟨_, ((js5.toList == ([60, 61] : List UInt8))), (by first | rfl | (simp; done) | (simp [*]; done)), H', ⟨by first | omega | exact Nat.le_refl _⟩, by repeat (first | exact Drawn0.refl _ | apply Drawn0.step)⟩
           ·
            rw [if_neg c13] at H
            have c13b0 : (js5.toList == ([60, 61] : List UInt8)) = false := beq_eq_false_iff_ne.mpr c13
            have c13b1 : (js5.toList != ([60, 61] : List UInt8)) = true := bne_iff_ne.mpr c13
            by_cases c14 : js5.toList = ([61, 61] : List UInt8)
            ·
             rw [if_pos c14] at H
             have c14b0 : (js5.toList == ([61, 61] : List UInt8)) = true := beq_iff_eq.mpr c14
             have c14b1 : (js5.toList != ([61, 61] : List UInt8)) = false := bne_eq_false_iff_eq.mpr c14
             clear c14
             have H' := Aside0.mk H
             clear H
             go_wp2
             go_meet
             case rel => exact ⟨_, ((js5.toList == ([61, 61] : List UInt8))), (by first | rfl | (simp; done) | (simp [*]; done)), H', ⟨by first | omega | exact Nat.le_refl _⟩, by repeat (first | exact Drawn0.refl _ | apply Drawn0.step)⟩
            ·
             rw [if_neg c14] at H
             have c14b0 : (js5.toList == ([61, 61] : List UInt8)) = false := beq_eq_false_iff_ne.mpr c14
             have c14b1 : (js5.toList != ([61, 61] : List UInt8)) = true := bne_iff_ne.mpr c14
             have H' := Aside0.mk H
             clear H
             go_wp2
             go_meet
             case rel => exact ⟨_, ((js5.toList == ([62, 61] : List UInt8))), (by first | rfl | (simp; done) | (simp [*]; done)), H', ⟨by first | omega | exact Nat.le_refl _⟩, by repeat (first | exact Drawn0.refl _ | apply Drawn0.step)⟩
    case rest =>
     clear HC6
     try clear c1
     try clear c2
     try clear c2b0
     try clear c2b1
     try clear p2
     try clear c3
     try clear c3b0
     try clear c3b1
     try clear c4
     try clear c4b0
     try clear c4b1
     try clear c7
     try clear c7b0
     try clear c7b1
     try clear c8
     try clear c8b0
     try clear c8b1
     try clear c9
     try clear c9b0
     try clear c9b1
     try clear c10
     try clear c10b0
     try clear c10b1
     try clear c11
     try clear c11b0
     try clear c11b1
     try clear c12
     try clear c12b0
     try clear c12b1
     try clear c13
     try clear c13b0
     try clear c13b1
     try clear c14
     try clear c14b0
     try clear c14b1
     obtain ⟨kq, x8_5, rfl, HA, HJ5, ⟨mc5, rfl⟩⟩ := hcut
     cases kq with
     | zero => exact absurd HA.out (by simp [lex_sign.j0])
     | succ kj5 =>
      have H := HA.out
      clear HA
      simp only [lex_sign.j0] at H
      by_cases c15 : x8_5 = true
      ·
       subst c15
       have H1 : (some 2) = some r := by rw [if_pos rfl] at H; exact H
       clear H
       have H := H1
       clear H1
       obtain rfl := Option.some.inj H
       go_wp2
       go_ret
       exact ⟨by first | rfl | (simp; done) | (simp [*]; done), by repeat (first | exact Drawn0.refl _ | apply Drawn0.step)⟩
      ·
       replace c15 := Bool.eq_false_iff.mpr c15
       subst c15
       have H1 : (if 0 < (a0.size : Int) then ((strings_IndexByte.f (⟨#[44, 59, 46, 123, 125, 40, 41, 33, 60, 62, 63, 43, 45, 42]⟩ : ByteArray) (bt a0 0)).bind fun t105 => (if t105 ≥ 0 then (some 1) else (some 0))) else (none)) = some r := by rw [if_neg (show ¬ (false = true) by decide)] at H; exact H
       clear H
       have H := H1
       clear H1
       by_cases c16 : 0 < (a0.size : Int)
       ·
        rw [if_pos c16] at H
        have c16b0 : decide (0 < (a0.size : Int)) = true := decide_eq_true c16
        have c16b1 : decide (0 < a0.size) = true := decide_eq_true (by omega)
        clear c16
        replace H := Option.bind_eq_some_iff.mp H
        obtain ⟨t105, A180, H⟩ := H
        replace H : (if t105 ≥ 0 then (some 1) else (some 0)) = some r := H
        have A18 := Aside0.mk A180
        clear A180
        by_cases c19 : t105 ≥ 0
        ·
         rw [if_pos c19] at H
         have c19b0 : decide (0 ≤ t105) = true := decide_eq_true c19
         clear c19
         obtain rfl := Option.some.inj H
         have p17 : 0 ≤ (0 : Int) := (by omega)
         have q17 : 0 < a0.size := (by have : (0 : Int) < (a0.size : Int) := of_decide_eq_true (by first | (with_reducible assumption) | assumption); omega)
         have hx17 : ∀ h : 0 < a0.size, ((a0[0]'h).toNat : Int) = bt a0 0 := bt_at a0 0
         clear p17
         have qi17 : (0 < (a0.size : Int)) = True := eq_true (of_decide_eq_true (by first | (with_reducible assumption) | assumption))
         replace q17 := eq_true q17
         go_wp2_with (first | ((with_reducible refine gate_callee (f := 66) rfl ?_); refine goesL_ (some 20) rfl rfl Tryd.func66 (by kernel_rfl) rfl #[.string (⟨#[44, 59, 46, 123, 125, 40, 41, 33, 60, 62, 63, 43, 45, 42]⟩ : ByteArray), .int .u8 (bt a0 0)] rfl (by (try simp only [List.map_toArray, List.map_cons, List.map_nil]); first | done | rfl | (simp only [List.length_drop, List.length_take]; rfl)) ?_; (with_reducible refine (strings_IndexByte.calls (⟨#[44, 59, 46, 123, 125, 40, 41, 33, 60, 62, 63, 43, 45, 42]⟩ : ByteArray) (bt a0 0) t105 _ A18.out).mono ?_); rintro e w' ⟨rfl, ⟨nd, rfl⟩⟩; refine ⟨_, rfl, ?_⟩))
         go_ret
         exact ⟨by first | rfl | (simp; done) | (simp [*]; done), by repeat (first | exact Drawn0.refl _ | apply Drawn0.step)⟩
        ·
         rw [if_neg c19] at H
         have c19b0 : decide (0 ≤ t105) = false := decide_eq_false c19
         clear c19
         obtain rfl := Option.some.inj H
         have p17 : 0 ≤ (0 : Int) := (by omega)
         have q17 : 0 < a0.size := (by have : (0 : Int) < (a0.size : Int) := of_decide_eq_true (by first | (with_reducible assumption) | assumption); omega)
         have hx17 : ∀ h : 0 < a0.size, ((a0[0]'h).toNat : Int) = bt a0 0 := bt_at a0 0
         clear p17
         have qi17 : (0 < (a0.size : Int)) = True := eq_true (of_decide_eq_true (by first | (with_reducible assumption) | assumption))
         replace q17 := eq_true q17
         go_wp2_with (first | ((with_reducible refine gate_callee (f := 66) rfl ?_); refine goesL_ (some 20) rfl rfl Tryd.func66 (by kernel_rfl) rfl #[.string (⟨#[44, 59, 46, 123, 125, 40, 41, 33, 60, 62, 63, 43, 45, 42]⟩ : ByteArray), .int .u8 (bt a0 0)] rfl (by (try simp only [List.map_toArray, List.map_cons, List.map_nil]); first | done | rfl | (simp only [List.length_drop, List.length_take]; rfl)) ?_; (with_reducible refine (strings_IndexByte.calls (⟨#[44, 59, 46, 123, 125, 40, 41, 33, 60, 62, 63, 43, 45, 42]⟩ : ByteArray) (bt a0 0) t105 _ A18.out).mono ?_); rintro e w' ⟨rfl, ⟨nd, rfl⟩⟩; refine ⟨_, rfl, ?_⟩))
         go_ret
         exact ⟨by first | rfl | (simp; done) | (simp [*]; done), by repeat (first | exact Drawn0.refl _ | apply Drawn0.step)⟩
       ·
        rw [if_neg c16] at H
        exact absurd H (by simp)
   ·
    rw [if_neg c4] at H
    exact absurd H (by simp)
  ·
   rw [if_neg c3] at H
   exact absurd H (by simp)
 ·
  rw [if_neg c2] at H
  have c2b0 : decide (1 < (a0.size : Int)) = false := decide_eq_false c2
  have c2b1 : decide (1 < a0.size) = false := decide_eq_false (by omega)
  clear c2
  by_cases c20 : 0 < (a0.size : Int)
  ·
   rw [if_pos c20] at H
   have c20b0 : decide (0 < (a0.size : Int)) = true := decide_eq_true c20
   have c20b1 : decide (0 < a0.size) = true := decide_eq_true (by omega)
   clear c20
   replace H := Option.bind_eq_some_iff.mp H
   obtain ⟨t106, A220, H⟩ := H
   replace H : (if t106 ≥ 0 then (some 1) else (some 0)) = some r := H
   have A22 := Aside0.mk A220
   clear A220
   by_cases c23 : t106 ≥ 0
   ·
    rw [if_pos c23] at H
    have c23b0 : decide (0 ≤ t106) = true := decide_eq_true c23
    clear c23
    obtain rfl := Option.some.inj H
    have p21 : 0 ≤ (0 : Int) := (by omega)
    have q21 : 0 < a0.size := (by have : (0 : Int) < (a0.size : Int) := of_decide_eq_true (by first | (with_reducible assumption) | assumption); omega)
    have hx21 : ∀ h : 0 < a0.size, ((a0[0]'h).toNat : Int) = bt a0 0 := bt_at a0 0
    clear p21
    have qi21 : (0 < (a0.size : Int)) = True := eq_true (of_decide_eq_true (by first | (with_reducible assumption) | assumption))
    replace q21 := eq_true q21
    go_enter Tryd.func45, Tryd.ntmps45
    go_wp2_with (first | ((with_reducible refine gate_callee (f := 66) rfl ?_); refine goesL_ (some 20) rfl rfl Tryd.func66 (by kernel_rfl) rfl #[.string (⟨#[44, 59, 46, 123, 125, 40, 41, 33, 60, 62, 63, 43, 45, 42]⟩ : ByteArray), .int .u8 (bt a0 0)] rfl (by (try simp only [List.map_toArray, List.map_cons, List.map_nil]); first | done | rfl | (simp only [List.length_drop, List.length_take]; rfl)) ?_; (with_reducible refine (strings_IndexByte.calls (⟨#[44, 59, 46, 123, 125, 40, 41, 33, 60, 62, 63, 43, 45, 42]⟩ : ByteArray) (bt a0 0) t106 _ A22.out).mono ?_); rintro e w' ⟨rfl, ⟨nd, rfl⟩⟩; refine ⟨_, rfl, ?_⟩))
    go_ret
    exact ⟨by first | rfl | (simp; done) | (simp [*]; done), by repeat (first | exact Drawn0.refl _ | apply Drawn0.step)⟩
   ·
    rw [if_neg c23] at H
    have c23b0 : decide (0 ≤ t106) = false := decide_eq_false c23
    clear c23
    obtain rfl := Option.some.inj H
    have p21 : 0 ≤ (0 : Int) := (by omega)
    have q21 : 0 < a0.size := (by have : (0 : Int) < (a0.size : Int) := of_decide_eq_true (by first | (with_reducible assumption) | assumption); omega)
    have hx21 : ∀ h : 0 < a0.size, ((a0[0]'h).toNat : Int) = bt a0 0 := bt_at a0 0
    clear p21
    have qi21 : (0 < (a0.size : Int)) = True := eq_true (of_decide_eq_true (by first | (with_reducible assumption) | assumption))
    replace q21 := eq_true q21
    go_enter Tryd.func45, Tryd.ntmps45
    go_wp2_with (first | ((with_reducible refine gate_callee (f := 66) rfl ?_); refine goesL_ (some 20) rfl rfl Tryd.func66 (by kernel_rfl) rfl #[.string (⟨#[44, 59, 46, 123, 125, 40, 41, 33, 60, 62, 63, 43, 45, 42]⟩ : ByteArray), .int .u8 (bt a0 0)] rfl (by (try simp only [List.map_toArray, List.map_cons, List.map_nil]); first | done | rfl | (simp only [List.length_drop, List.length_take]; rfl)) ?_; (with_reducible refine (strings_IndexByte.calls (⟨#[44, 59, 46, 123, 125, 40, 41, 33, 60, 62, 63, 43, 45, 42]⟩ : ByteArray) (bt a0 0) t106 _ A22.out).mono ?_); rintro e w' ⟨rfl, ⟨nd, rfl⟩⟩; refine ⟨_, rfl, ?_⟩))
    go_ret
    exact ⟨by first | rfl | (simp; done) | (simp [*]; done), by repeat (first | exact Drawn0.refl _ | apply Drawn0.step)⟩
  ·
   rw [if_neg c20] at H
   exact absurd H (by simp)

end Go.Proofs.YtgkcjefbagnkpaaDoor.PLex
