-- written by wip/tools/xprint.py (over the kit's print.py): not trusted, Lean checks it.
import Derived.Test.YtpmhfahligjhaaaDoorPOrdx0
import Derived.Test.YtpmhfahligjhaaaDoorPOrdx14
-- compact
namespace Go.Proofs.YtpmhfahligjhaaaDoor.POrd
open Go.RowKit Go.Proofs.YtpmhfahligjhaaaDoorW.PrintWords Go.Proofs.YtpmhfahligjhaaaDoorW.PrintLast Go.Proofs.YtpmhfahligjhaaaDoorW.PrintMore Go.Proofs.YtpmhfahligjhaaaDoorXW
attribute [local go_sem high] Option.map_some
attribute [local go_sem] max2_int max_two
set_option linter.unusedVariables false
set_option linter.unusedSimpArgs false

theorem q15_0 {p : Prop} (h : p := by repeat (first | (with_reducible first | exact HB.out | apply below_alloc | apply pw_below_drewN | apply below_drew1 | refine below_set ?_ GE335.out | refine below_set ?_ GE336.out) | exact HB.out)) : p := h
theorem q15_1 {p : Prop} (h : p := by (with_reducible repeat (first | refine blk_drewN ?_ _ | refine blk_drew ?_ | refine blk_alloc ?_ _)); exact BK335.out) : p := h
theorem q15_2 {p : Prop} (h : p := by (with_reducible repeat (first | refine blk_drewN ?_ _ | refine blk_drew ?_ | refine blk_alloc ?_ _)); exact BK336.out) : p := h
theorem q15_4 {p : Prop} (h : p := by repeat (first | (with_reducible first | exact HB.out | apply below_alloc | apply pw_below_drewN | apply below_drew1 | refine below_set ?_ GE335.out) | exact HB.out)) : p := h
theorem q15_9 {p : Prop} (h : p := by (with_reducible repeat (first | apply Kd.R_alloc | apply Kd.R_drewN | apply Kd.R_drew)); exact HO_8.out) : p := h
/-! ### state_Print: function 13 -/
mutual
def state_Print.l0 : Nat → List ByteArray → List Int → Int → Int → List ByteArray → List (S50) → List ByteArray → List (S61) → List Int → List Int → Option (ByteArray × Int)
 | 0, _, _, _, _, _, _, _, _, _, _ => none
 | k + 1, x7, x20, x21, x22, x336000, x336001, x336002, x336003, x337000, x337001 => if x22 < x21 then (if 0 ≤ x22 then (if x22 < (x20.length : Int) then (if x22 < (x336003.length : Int) then (if ((rd_T61 x336003 x22).f0).size + 1 ≤ 9223372036854775807 then (if 0 ≤ (rd x20 x22) then (if (rd x20 x22) < (((rd_T61 x336003 x22).f1).length : Int) then (if (((rd_T61 x336003 x22).f0) ++ (⟨#[46]⟩ : ByteArray)).size + ((rd_T57 ((rd_T61 x336003 x22).f1) (rd x20 x22)).f0).size ≤ 9223372036854775807 then (if x7.length < 8796093022208 then (state_Print.l0 k (x7 ++ [(((rd_T61 x336003 x22).f0) ++ (⟨#[46]⟩ : ByteArray)) ++ ((rd_T57 ((rd_T61 x336003 x22).f1) (rd x20 x22)).f0)]) x20 x21 (wrap64 (x22 + 1)) x336000 x336001 x336002 x336003 x337000 x337001) else (none)) else (none)) else (none)) else (none)) else (none)) else (none)) else (none)) else (none)) else (state_Print.l1 k x7 ([] : List ByteArray) x337001 (x337001.length : Int) 0 x336000 x336001 x336002 x336003)
def state_Print.l1 : Nat → List ByteArray → List ByteArray → List Int → Int → Int → List ByteArray → List (S50) → List ByteArray → List (S61) → Option (ByteArray × Int)
 | 0, _, _, _, _, _, _, _, _, _ => none
 | k + 1, x7, x8, x50, x51, x52, x336000, x336001, x336002, x336003 => if x52 < x51 then (if 0 ≤ x52 then (if x52 < (x50.length : Int) then (if x52 < (x336001.length : Int) then (if ((rd_T50 x336001 x52).f0).size + 1 ≤ 9223372036854775807 then ((strconv_Itoa.f (rd x50 x52)).bind fun t347 => (if (((rd_T50 x336001 x52).f0) ++ (⟨#[61]⟩ : ByteArray)).size + t347.size ≤ 9223372036854775807 then (if x8.length < 8796093022208 then (state_Print.l1 k x7 (x8 ++ [(((rd_T50 x336001 x52).f0) ++ (⟨#[61]⟩ : ByteArray)) ++ t347]) x50 x51 (wrap64 (x52 + 1)) x336000 x336001 x336002 x336003) else (none)) else (none))) else (none)) else (none)) else (none)) else (none)) else ((strings_Join.f x7 (⟨#[44]⟩ : ByteArray)).bind fun t351 => (if t351.size + 1 ≤ 9223372036854775807 then ((strings_Join.f x8 (⟨#[44]⟩ : ByteArray)).bind fun t352 => (if (t351 ++ (⟨#[59]⟩ : ByteArray)).size + t352.size ≤ 9223372036854775807 then (some ((t351 ++ (⟨#[59]⟩ : ByteArray)) ++ t352, 0)) else (none))) else (none)))
end
def state_Print.f (k : Nat) (l0_0 : List ByteArray) (l0_1 : List (S50)) (l0_2 : List ByteArray) (l0_3 : List (S61)) (l1_0 : List Int) (l1_1 : List Int) : Option (ByteArray × Int) := (state_wrong.f k l0_0 l0_1 l0_2 l0_3 l1_0 l1_1).bind fun t337 => (if t337 = 0 then (state_Print.l0 k ([] : List ByteArray) l1_0 (l1_0.length : Int) 0 l0_0 l0_1 l0_2 l0_3 l1_0 l1_1) else (some ((⟨#[]⟩ : ByteArray), t337)))
theorem state_Print.mono_l : ∀ k, (∀ y0 y1 y2 y3 y4 y5 y6 y7 y8 y9, LeO (state_Print.l0 k y0 y1 y2 y3 y4 y5 y6 y7 y8 y9) (state_Print.l0 (k + 1) y0 y1 y2 y3 y4 y5 y6 y7 y8 y9)) ∧ (∀ y0 y1 y2 y3 y4 y5 y6 y7 y8, LeO (state_Print.l1 k y0 y1 y2 y3 y4 y5 y6 y7 y8) (state_Print.l1 (k + 1) y0 y1 y2 y3 y4 y5 y6 y7 y8))
 | 0 => ⟨fun _ _ _ _ _ _ _ _ _ _ r h => by simp [state_Print.l0] at h, fun _ _ _ _ _ _ _ _ _ r h => by simp [state_Print.l1] at h⟩
 | k + 1 => by
  obtain ⟨ih0, ih1⟩ := state_Print.mono_l k
  refine ⟨?_, ?_⟩
  all_goals intros
  all_goals first | unfold state_Print.l0 | unfold state_Print.l1
  all_goals repeat' first | (with_reducible first | exact ih0 _ _ _ _ _ _ _ _ _ _ | exact ih1 _ _ _ _ _ _ _ _ _ | exact state_wrong.mono _ _ _ _ _ _ _ | exact LeO.refl _ | exact LeO.none _ | refine LeO.ite ?_ ?_ | refine LeO.bind ?_ (fun _ => ?_)) | exact LeO.none _ | refine LeO.ite ?_ ?_ | refine LeO.bind ?_ (fun _ => ?_)
theorem state_Print.mono : ∀ a0 a1 a2 a3 a4 a5 k, LeO (state_Print.f k a0 a1 a2 a3 a4 a5) (state_Print.f (k + 1) a0 a1 a2 a3 a4 a5) := by
 intro a0 a1 a2 a3 a4 a5 k
 obtain ⟨ih0, ih1⟩ := state_Print.mono_l k
 unfold state_Print.f
 repeat' first | (with_reducible first | exact ih0 _ _ _ _ _ _ _ _ _ _ | exact ih1 _ _ _ _ _ _ _ _ _ | exact state_wrong.mono _ _ _ _ _ _ _ | exact LeO.refl _ | exact LeO.none _ | refine LeO.ite ?_ ?_ | refine LeO.bind ?_ (fun _ => ?_)) | exact LeO.none _ | refine LeO.ite ?_ ?_ | refine LeO.bind ?_ (fun _ => ?_)
def state_Print.T8 : Bool × List (List Nat × List Nat) := (true, [([], []), ([], []), ([1], [1]), ([], []), ([2, 3], [2, 3]), ([4], [4]), ([5], [5]), ([6], [6]), ([], []), ([8], [8]), ([], []), ([9, 10], [9, 10]), ([11], [11]), ([12], [12]), ([], []), ([13, 14], [13, 14]), ([15], [15]), ([16], [16]), ([7, 17], [7, 17]), ([18], [18]), ([0, 19], [0, 19]), ([20, 20, 0, 1, 2, 3, 4, 5, 6, 7, 8, 9, 10, 11, 12, 13, 14, 15, 16, 17, 18, 19, 20], [0, 20])])
def state_Print.B8 : List Nat := [0, 0, 2, 0, 14, 30, 62, 126, 0, 256, 0, 1792, 3840, 7936, 0, 32512, 65280, 130816, 262142, 524286, 1048575, 2097151]
theorem state_Print.tab8 : rtab .any (opsOf Tryd.f13 8) = state_Print.T8 := by kernel_rfl
theorem state_Print.bits8 : waitsOk state_Print.T8.2 state_Print.B8 = true := by kernel_rfl
def state_Print.T13 : Bool × List (List Nat × List Nat) := (true, [([], []), ([], []), ([1], [1]), ([], []), ([2, 3], [2, 3]), ([4], [4]), ([5], [5]), ([6], [6]), ([], []), ([8], [8]), ([7, 9], [7, 9]), ([10], [10]), ([0, 11, 9], [0, 11]), ([12, 12, 0, 1, 2, 3, 4, 5, 6, 7, 8, 9, 10, 11, 12], [0, 12])])
def state_Print.B13 : List Nat := [0, 0, 2, 0, 14, 30, 62, 126, 0, 256, 1022, 2046, 4095, 8191]
theorem state_Print.tab13 : rtab .any (opsOf Tryd.f13 13) = state_Print.T13 := by kernel_rfl
theorem state_Print.bits13 : waitsOk state_Print.T13.2 state_Print.B13 = true := by kernel_rfl
set_option maxHeartbeats 8000000 in
set_option maxRecDepth 100000 in
theorem state_Print.calls (k : Nat) (A0_0 : Option Addr) (c0_0 : Nat) (l0_0 : List ByteArray) (A0_1 : Option Addr) (c0_1 : Nat) (l0_1 : List (S50)) (A0_2 : Option Addr) (c0_2 : Nat) (l0_2 : List ByteArray) (A0_3 : Option Addr) (c0_3 : Nat) (l0_3 : List (S61)) (A1_0 : Option Addr) (c1_0 : Nat) (l1_0 : List Int) (A1_1 : Option Addr) (c1_1 : Nat) (l1_1 : List Int) (r1 : ByteArray) (r2 : Int) (w : World) (hG : Glob w) (hr0_0 : Kd.C Kd.string w A0_0 l0_0.length l0_0) (hc0_0 : l0_0.length ≤ c0_0) (hr0_1 : Kd.C k50 w A0_1 l0_1.length l0_1) (hc0_1 : l0_1.length ≤ c0_1) (hr0_2 : Kd.C Kd.string w A0_2 l0_2.length l0_2) (hc0_2 : l0_2.length ≤ c0_2) (hr0_3 : Kd.C k61 w A0_3 l0_3.length l0_3) (hc0_3 : l0_3.length ≤ c0_3) (hr1_0 : Kd.C (Kd.int .i64) w A1_0 l1_0.length l1_0) (hc1_0 : l1_0.length ≤ c1_0) (hr1_1 : Kd.C (Kd.int .i64) w A1_1 l1_1.length l1_1) (hc1_1 : l1_1.length ≤ c1_1) (h : state_Print.f k l0_0 l0_1 l0_2 l0_3 l1_0 l1_1 = some (r1, r2)) :
  Calls Tryd.prog 13 #[.agg #[.slice A0_0 l0_0.length c0_0, .slice A0_1 l0_1.length c0_1, .slice A0_2 l0_2.length c0_2, .slice A0_3 l0_3.length c0_3], .agg #[.slice A1_0 l1_0.length c1_0, .slice A1_1 l1_1.length c1_1]] w fun e w' => e = .returned (.tuple #[.string r1, .int .i64 r2]) ∧ Below w.heap.size w w' := by
 have hu26 := Tryd.underlying26
 have hu29 := Tryd.underlying29
 have HR0_0 := zM hr0_0
 have HC0_0 := zM hc0_0
 clear hr0_0 hc0_0
 have HR0_1 := zM hr0_1
 have HC0_1 := zM hc0_1
 clear hr0_1 hc0_1
 have HR0_2 := zM hr0_2
 have HC0_2 := zM hc0_2
 clear hr0_2 hc0_2
 have HR0_3 := zM hr0_3
 have HC0_3 := zM hc0_3
 clear hr0_3 hc0_3
 have HR1_0 := zM hr1_0
 have HC1_0 := zM hc1_0
 clear hr1_0 hc1_0
 have HR1_1 := zM hr1_1
 have HC1_1 := zM hc1_1
 clear hr1_1 hc1_1
 have HGL := zM hG
 clear hG
 have HB := zM (Below.refl w.heap.size w)
 have H : ((state_wrong.f k l0_0 l0_1 l0_2 l0_3 l1_0 l1_1).bind fun t337 => (if t337 = 0 then (state_Print.l0 k ([] : List ByteArray) l1_0 (l1_0.length : Int) 0 l0_0 l0_1 l0_2 l0_3 l1_0 l1_1) else (some ((⟨#[]⟩ : ByteArray), t337)))) = some (r1, r2) := h
 clear h
 replace H := Option.bind_eq_some_iff.mp H
 obtain ⟨t337, A30, H⟩ := H
 replace H : (if t337 = 0 then (state_Print.l0 k ([] : List ByteArray) l1_0 (l1_0.length : Int) 0 l0_0 l0_1 l0_2 l0_3 l1_0 l1_1) else (some ((⟨#[]⟩ : ByteArray), t337))) = some (r1, r2) := H
 have A3 := zM A30
 clear A30
 by_cases c4 : t337 = 0
 ·
  rw [if_pos c4] at H
  obtain ⟨c4b0, c4b1⟩ := eqb c4
  clear c4
  have H' := zM H
  clear H
  go_enter Tryd.func13, Tryd.ntmps13
  go_wp2_with (first | ((with_reducible refine gate_dst (N := 2) rfl ?_); refine box_ev (N := 2) (cs := #[.slice A0_0 l0_0.length c0_0, .slice A0_1 l0_1.length c0_1, .slice A0_2 l0_2.length c0_2, .slice A0_3 l0_3.length c0_3]) (t := 26) ?_; intro gb335 hg w5 hbox hb; have BK335 := zM (hbox); have GE335 := zM (box_ge (n := w.heap.size) hg (below_size s8)); replace HB := zM (below_step s8 hb); clear hb hbox hg) | ((with_reducible refine gate_dst (N := 3) rfl ?_); refine box_ev (N := 3) (cs := #[.slice A1_0 l1_0.length c1_0, .slice A1_1 l1_1.length c1_1]) (t := 29) ?_; intro gb336 hg w6 hbox hb; have BK336 := zM (hbox); have GE336 := zM (box_ge (n := w.heap.size) hg (below_size q15_4)); have NB335_336 := zM (box_ne hg (g := gb335) q15_1); have NB336_335 := zM (box_ne' hg (g := gb335) q15_1); replace BK335 := zM (blk_below (g := gb335) q15_1 hb); replace HB := zM (below_step q15_4 hb); clear hb hbox hg; have hnb7 := NB335_336.out; have hnc7 := NB336_335.out; obtain ⟨hcz8_0, hcz8_1, hcz8_2, hcz8_3, hfz8_0, hfz8_1, hfz8_2, hfz8_3⟩ := blk4 BK335.out; obtain ⟨hcz9_0, hcz9_1, hfz9_0, hfz9_1⟩ := blk2 BK336.out) | ((with_reducible refine gate_callee (f := 17) rfl ?_); refine goesL_ (some 15) rfl rfl Tryd.func17 (by kernel_rfl) rfl #[.agg #[.slice A0_0 l0_0.length c0_0, .slice A0_1 l0_1.length c0_1, .slice A0_2 l0_2.length c0_2, .slice A0_3 l0_3.length c0_3], .agg #[.slice A1_0 l1_0.length c1_0, .slice A1_1 l1_1.length c1_1]] rfl s0 ?_; (with_reducible refine (state_wrong.calls k _ _ l0_0 _ _ l0_1 _ _ l0_2 _ _ l0_3 _ _ l1_0 _ _ l1_1 t337 _ ?side13 ?side1 HC0_0.out ?side3 HC0_1.out ?side5 HC0_2.out ?side7 HC0_3.out ?side9 HC1_0.out ?side11 HC1_1.out A3.out).mono ?_); (case side1 => exact s10); (case side3 => exact s11); (case side5 => exact s12); (case side7 => exact s13); (case side9 => exact s14); (case side11 => exact s15); (case side13 => exact s9); rintro e w10 ⟨rfl, hb⟩; refine ⟨_, rfl, ?_⟩; replace BK335 := zM (blk_below (g := gb335) q15_1 hb); replace BK336 := zM (blk_below (g := gb336) q15_2 hb); replace HB := zM (below_step q15_0 hb); (try clear hb); obtain ⟨hcz11_0, hcz11_1, hfz11_0, hfz11_1⟩ := blk2 BK336.out))
  go_loopg [7, 22] k (fun kq v7 v22 w' => ∃ (x7_1 : List ByteArray) (x22_1 : Int), v22 = .int .i64 x22_1 ∧ Aside0 (state_Print.l0 kq x7_1 l1_0 (l1_0.length : Int) x22_1 l0_0 l0_1 l0_2 l0_3 l1_0 l1_1 = some (r1, r2)) ∧ Aside0 (kq ≤ k) ∧ Aside0 (Kd.R Kd.string 9 w' w.heap.size (fun _ => True) v7 x7_1) ∧ Aside0 (w'.heap[gb335]? = some (.cells #[(.slice A0_0 l0_0.length c0_0), (.slice A0_1 l0_1.length c0_1), (.slice A0_2 l0_2.length c0_2), (.slice A0_3 l0_3.length c0_3)] 26 (0, 0))) ∧ Aside0 (w'.heap[gb336]? = some (.cells #[(.slice A1_0 l1_0.length c1_0), (.slice A1_1 l1_1.length c1_1)] 29 (0, 0))) ∧ Aside0 (Below w.heap.size w w'))
  case atStart => exact ⟨(([] : List ByteArray)), (0), s7, H', ⟨Nat.le_refl _⟩, ⟨s4⟩, ⟨q15_1⟩, ⟨q15_2⟩, ⟨q15_0⟩⟩
  clear H'
  obtain ⟨x7_1, x22_1, rfl, HA, HK1, HO_7, BK335, BK336, HB⟩ := hrel
  cases gk with
  | zero => exact absurd HA.out (by simp [state_Print.l0])
  | succ k1 =>
   have H := HA.out
   clear HA
   simp only [state_Print.l0] at H
   by_cases c12 : x22_1 < (l1_0.length : Int)
   ·
    rw [if_pos c12] at H
    have c12b0 := zD c12
    clear c12
    by_cases c13 : 0 ≤ x22_1
    ·
     rw [if_pos c13] at H
     have c13b0 := zD c13
     clear c13
     by_cases c14 : x22_1 < (l1_0.length : Int)
     ·
      rw [if_pos c14] at H
      have c14b0 := zD c14
      clear c14
      by_cases c15 : x22_1 < (l0_3.length : Int)
      ·
       rw [if_pos c15] at H
       have c15b0 := zD c15
       clear c15
       by_cases c16 : ((rd_T61 l0_3 x22_1).f0).size + 1 ≤ 9223372036854775807
       ·
        rw [if_pos c16] at H
        have c16b0 := eq_true c16
        have c16b1 : decide (((rd_T61 l0_3 x22_1).f0).size + 1 ≤ 9223372036854775807) = true := zD c16
        try have c16b2 : (9223372036854775807 < ((rd_T61 l0_3 x22_1).f0).size + 1) = False := eq_false (Nat.not_lt.2 c16)
        try have c16b3 := c16b2
        try simp only [ByteArray.size_append, Nat.reduceAdd] at c16b3
        by_cases c17 : 0 ≤ (rd l1_0 x22_1)
        ·
         rw [if_pos c17] at H
         have c17b0 := zD c17
         clear c17
         by_cases c18 : (rd l1_0 x22_1) < (((rd_T61 l0_3 x22_1).f1).length : Int)
         ·
          rw [if_pos c18] at H
          have c18b0 := zD c18
          clear c18
          by_cases c19 : (((rd_T61 l0_3 x22_1).f0) ++ (⟨#[46]⟩ : ByteArray)).size + ((rd_T57 ((rd_T61 l0_3 x22_1).f1) (rd l1_0 x22_1)).f0).size ≤ 9223372036854775807
          ·
           rw [if_pos c19] at H
           have c19b0 := eq_true c19
           have c19b1 : decide ((((rd_T61 l0_3 x22_1).f0) ++ (⟨#[46]⟩ : ByteArray)).size + ((rd_T57 ((rd_T61 l0_3 x22_1).f1) (rd l1_0 x22_1)).f0).size ≤ 9223372036854775807) = true := zD c19
           try have c19b2 : (9223372036854775807 < (((rd_T61 l0_3 x22_1).f0) ++ (⟨#[46]⟩ : ByteArray)).size + ((rd_T57 ((rd_T61 l0_3 x22_1).f1) (rd l1_0 x22_1)).f0).size) = False := eq_false (Nat.not_lt.2 c19)
           try have c19b3 := c19b2
           try simp only [ByteArray.size_append, show (⟨#[46]⟩ : ByteArray).size = 1 from rfl, Nat.reduceAdd] at c19b3
           by_cases c20 : x7_1.length < 8796093022208
           ·
            rw [if_pos c20] at H
            have LMc20 := zM c20
            clear c20
            obtain ⟨y342, hy342⟩ : ∃ y_ : List ByteArray, y_ = (x7_1 ++ [(((rd_T61 l0_3 x22_1).f0) ++ (⟨#[46]⟩ : ByteArray)) ++ ((rd_T57 ((rd_T61 l0_3 x22_1).f1) (rd l1_0 x22_1)).f0)]) := ⟨_, rfl⟩
            replace H : (state_Print.l0 k1 y342 l1_0 (l1_0.length : Int) (wrap64 (x22_1 + 1)) l0_0 l0_1 l0_2 l0_3 l1_0 l1_1) = some (r1, r2) := by first | (rw [hy342]; with_reducible exact H) | (have H2_ := (Option.bind_some _ _).symm.trans H; rw [hy342]; with_reducible exact H2_) | (have H2_ := (Option.bind_some _ _).symm.trans H; with_reducible exact H2_) | with_reducible exact H | (rw [hy342]; exact H) | exact H
            have Ny342 := zM hy342
            clear hy342
            have H' := zM H
            clear H
            have p338 : 0 ≤ (x22_1 : Int) := zO s3
            have q338 : x22_1 < (l1_0.length : Int) := zO s3
            obtain ⟨ad338, e338, hx338_0⟩ := Kd.at_int HR1_0.out x22_1 p338 q338
            cases e338
            replace hx338_0 := cell_up HB.out hx338_0
            replace p338 := eq_true p338
            replace q338 := eq_true q338
            try go_wp2
            have n0_ := zM (Kd.R_drew HO_7.out)
            have n1_ := zM (blk_drew BK335.out)
            have n2_ := zM (blk_drew BK336.out)
            have n3_ := zM (below_drew1 HB.out)
            clear HO_7
            clear BK335
            clear BK336
            clear HB
            have HO_7 := n0_
            have BK335 := n1_
            have BK336 := n2_
            have HB := n3_
            clear n0_ n1_ n2_ n3_
            have p339 : 0 ≤ (x22_1 : Int) := zO s3
            have q339 : x22_1 < (l0_3.length : Int) := zO s3
            obtain ⟨ad339, A339_1, c339_1, A339_2, c339_2, e339, hx339_0, hx339_1, hx339_2, HC339_1, HR339_1, HC339_2, HR339_2⟩ := as_T61 HR0_3.out x22_1 p339 q339
            have hw339_2 := hx339_2
            have hw339_1 := hx339_1
            have hw339_0 := hx339_0
            cases e339
            replace hx339_0 := cell_up HB.out hx339_0
            replace hx339_1 := cell_up HB.out hx339_1
            replace hx339_2 := cell_up HB.out hx339_2
            replace p339 := eq_true p339
            replace q339 := eq_true q339
            have p341 : 0 ≤ ((rd l1_0 x22_1) : Int) := zO s3
            have q341 : (rd l1_0 x22_1) < (((rd_T61 l0_3 x22_1).f1).length : Int) := zO s3
            obtain ⟨ad341, A341_2, c341_2, e341, hx341_0, hx341_1, hx341_2, HC341_2, HR341_2⟩ := as_T57 HR339_1.out (rd l1_0 x22_1) p341 q341
            have hw341_2 := hx341_2
            have hw341_1 := hx341_1
            have hw341_0 := hx341_0
            cases e341
            replace hx341_0 := cell_up HB.out hx341_0
            replace hx341_1 := cell_up HB.out hx341_1
            replace hx341_2 := cell_up HB.out hx341_2
            replace p341 := eq_true p341
            replace q341 := eq_true q341
            refine start_ (n := 22) (S := fun w' => w'.cell? ⟨gb335, 0, none⟩ = some (.slice A0_0 l0_0.length c0_0) ∧ w'.cell? ⟨gb335, 1, none⟩ = some (.slice A0_1 l0_1.length c0_1) ∧ w'.cell? ⟨gb335, 2, none⟩ = some (.slice A0_2 l0_2.length c0_2) ∧ w'.cell? ⟨gb335, 3, none⟩ = some (.slice (some ad339) l0_3.length c0_3) ∧ w'.cell? (ad339.add ((x22_1).toNat * 3)) = some (.string ((rd_T61 l0_3 x22_1).f0)) ∧ w'.cell? ⟨(ad339.add ((x22_1).toNat * 3)).block, (ad339.add ((x22_1).toNat * 3)).off + 1, none⟩ = some (.slice (some ad341) ((rd_T61 l0_3 x22_1).f1).length c339_1) ∧ w'.cell? ⟨(ad339.add ((x22_1).toNat * 3)).block, (ad339.add ((x22_1).toNat * 3)).off + 2, none⟩ = some (.slice A339_2 ((rd_T61 l0_3 x22_1).f2).length c339_2) ∧ w'.cell? (ad339.add ((x22_1).toNat * 3)) = some (.string ((rd_T61 l0_3 x22_1).f0)) ∧ w'.cell? ⟨(ad339.add ((x22_1).toNat * 3)).block, (ad339.add ((x22_1).toNat * 3)).off + 1, none⟩ = some (.slice (some ad341) ((rd_T61 l0_3 x22_1).f1).length c339_1) ∧ w'.cell? ⟨(ad339.add ((x22_1).toNat * 3)).block, (ad339.add ((x22_1).toNat * 3)).off + 2, none⟩ = some (.slice A339_2 ((rd_T61 l0_3 x22_1).f2).length c339_2) ∧ w'.cell? (ad341.add (((rd l1_0 x22_1)).toNat * 3)) = some (.string ((rd_T57 ((rd_T61 l0_3 x22_1).f1) (rd l1_0 x22_1)).f0)) ∧ w'.cell? ⟨(ad341.add (((rd l1_0 x22_1)).toNat * 3)).block, (ad341.add (((rd l1_0 x22_1)).toNat * 3)).off + 1, none⟩ = some (.int .u8 ((rd_T57 ((rd_T61 l0_3 x22_1).f1) (rd l1_0 x22_1)).f1)) ∧ w'.cell? ⟨(ad341.add (((rd l1_0 x22_1)).toNat * 3)).block, (ad341.add (((rd l1_0 x22_1)).toNat * 3)).off + 2, none⟩ = some (.slice A341_2 ((rd_T57 ((rd_T61 l0_3 x22_1).f1) (rd l1_0 x22_1)).f2).length c341_2)) (ds := []) #[false, false, false, false, false, false, false, false, false, false, false, false, false, false, false, false, false, false, false, false, false, false] (by kernel_rfl) rfl rfl ⟨(blk_cell BK335.out 0).trans rfl, (blk_cell BK335.out 1).trans rfl, (blk_cell BK335.out 2).trans rfl, (blk_cell BK335.out 3).trans rfl, ((HB.out.cell (World.block_lt_of_cell? w _ hw339_0)).trans hw339_0), ((HB.out.cell (World.block_lt_of_cell? w _ hw339_1)).trans hw339_1), ((HB.out.cell (World.block_lt_of_cell? w _ hw339_2)).trans hw339_2), ((HB.out.cell (World.block_lt_of_cell? w _ hw339_0)).trans hw339_0), ((HB.out.cell (World.block_lt_of_cell? w _ hw339_1)).trans hw339_1), ((HB.out.cell (World.block_lt_of_cell? w _ hw339_2)).trans hw339_2), ((HB.out.cell (World.block_lt_of_cell? w _ hw341_0)).trans hw341_0), ((HB.out.cell (World.block_lt_of_cell? w _ hw341_1)).trans hw341_1), ((HB.out.cell (World.block_lt_of_cell? w _ hw341_2)).trans hw341_2)⟩ (fun hHeld => ?_); refine with_tabW state_Print.tab8 state_Print.bits8 (fun HT_ HW_ => ?_)
            generalize wr.drew = w21 at HO_7 BK335 BK336 HB HR339_1 HR339_2 HR341_2 hx339_0 hx339_1 hx339_2 hx341_0 hx341_1 hx341_2 hHeld ⊢
            refine pure_ (i := 0) (N := some 27) (v := ?_) (a' := ?_) #[true, false, false, false, false, false, false, false, false, false, false, false, false, false, false, false, false, false, false, false, false, false] rfl rfl (any_of HT_.out (by kernel_rfl)) (fun _ _ _ h => h) (Or.inl ⟨by rfl, ?_⟩) ?_ ?_
            rotate_left
            ·
             intro w'
             go_simp
             with_reducible rfl
            rotate_left
            ·
             simp only [Act.put, List.setIfInBounds_toArray, List.set_cons_zero, List.set_cons_succ, i64_w, i32_w]
             rfl
            refine pure_ (i := 1) (N := some 28) (v := ?_) (a' := ?_) #[true, true, false, false, false, false, false, false, false, false, false, false, false, false, false, false, false, false, false, false, false, false] rfl rfl (any_of HT_.out (by kernel_rfl)) (fun _ _ _ h => h) (Or.inl ⟨by rfl, ?_⟩) ?_ ?_
            rotate_left
            ·
             intro w'
             go_simp
             with_reducible rfl
            rotate_left
            ·
             simp only [Act.put, List.setIfInBounds_toArray, List.set_cons_zero, List.set_cons_succ, i64_w, i32_w]
             rfl
            refine pure_ (i := 3) (N := some 30) (v := ?_) (a' := ?_) #[true, true, false, true, false, false, false, false, false, false, false, false, false, false, false, false, false, false, false, false, false, false] rfl rfl (any_of HT_.out (by kernel_rfl)) (fun _ _ _ h => h) (Or.inl ⟨by rfl, ?_⟩) ?_ ?_
            rotate_left
            ·
             intro w'
             go_simp
             with_reducible rfl
            rotate_left
            ·
             simp only [Act.put, List.setIfInBounds_toArray, List.set_cons_zero, List.set_cons_succ, i64_w, i32_w]
             rfl
            refine pure_ (i := 8) (N := some 35) (v := ?_) (a' := ?_) #[true, true, false, true, false, false, false, false, true, false, false, false, false, false, false, false, false, false, false, false, false, false] rfl rfl (any_of HT_.out (by kernel_rfl)) (fun _ _ _ h => h) (Or.inl ⟨by rfl, ?_⟩) ?_ ?_
            rotate_left
            ·
             intro w'
             go_simp
             with_reducible rfl
            rotate_left
            ·
             simp only [Act.put, List.setIfInBounds_toArray, List.set_cons_zero, List.set_cons_succ, i64_w, i32_w]
             rfl
            refine pure_ (i := 10) (N := some 37) (v := ?_) (a' := ?_) #[true, true, false, true, false, false, false, false, true, false, true, false, false, false, false, false, false, false, false, false, false, false] rfl rfl (any_of HT_.out (by kernel_rfl)) (fun _ _ _ h => h) (Or.inl ⟨by rfl, ?_⟩) ?_ ?_
            rotate_left
            ·
             intro w'
             go_simp
             with_reducible rfl
            rotate_left
            ·
             simp only [Act.put, List.setIfInBounds_toArray, List.set_cons_zero, List.set_cons_succ, i64_w, i32_w]
             rfl
            refine pure_ (i := 14) (N := some 41) (v := ?_) (a' := ?_) #[true, true, false, true, false, false, false, false, true, false, true, false, false, false, true, false, false, false, false, false, false, false] rfl rfl (any_of HT_.out (by kernel_rfl)) (fun _ _ _ h => h) (Or.inl ⟨by rfl, ?_⟩) ?_ ?_
            rotate_left
            ·
             intro w'
             go_simp
             with_reducible rfl
            rotate_left
            ·
             simp only [Act.put, List.setIfInBounds_toArray, List.set_cons_zero, List.set_cons_succ, i64_w, i32_w]
             rfl
            refine take_ (i := 2) (N := some 29) (v := ?_) (a' := ?_) #[true, true, true, true, false, false, false, false, true, false, true, false, false, false, true, false, false, false, false, false, false, false] rfl rfl (take_ofW HT_.out HW_.out (by kernel_rfl)) (fun _ _ _ h => h) (Or.inl ⟨by rfl, ?_⟩) hHeld ?_ ?_
            rotate_left
            ·
             rintro w' ⟨s0, s1, s2, s3, s4, s5, s6, s7, s8, s9, s10, s11, s12⟩
             go_simp
             with_reducible rfl
            rotate_left
            ·
             simp only [Act.put, List.setIfInBounds_toArray, List.set_cons_zero, List.set_cons_succ, i64_w, i32_w]
             rfl
            refine pure_ (i := 4) (N := some 31) (v := ?_) (a' := ?_) #[true, true, true, true, true, false, false, false, true, false, true, false, false, false, true, false, false, false, false, false, false, false] rfl rfl (any_of HT_.out (by kernel_rfl)) (fun _ _ _ h => h) (Or.inl ⟨by rfl, ?_⟩) ?_ ?_
            rotate_left
            ·
             intro w'
             go_simp
             with_reducible rfl
            rotate_left
            ·
             simp only [Act.put, List.setIfInBounds_toArray, List.set_cons_zero, List.set_cons_succ, i64_w, i32_w]
             rfl
            refine pure_ (i := 5) (N := some 32) (v := ?_) (a' := ?_) #[true, true, true, true, true, true, false, false, true, false, true, false, false, false, true, false, false, false, false, false, false, false] rfl rfl (any_of HT_.out (by kernel_rfl)) (fun _ _ _ h => h) (Or.inl ⟨by rfl, ?_⟩) ?_ ?_
            rotate_left
            ·
             intro w'
             go_simp
             with_reducible rfl
            rotate_left
            ·
             simp only [Act.put, List.setIfInBounds_toArray, List.set_cons_zero, List.set_cons_succ, i64_w, i32_w]
             rfl
            refine take_ (i := 6) (N := some 33) (v := ?_) (a' := ?_) #[true, true, true, true, true, true, true, false, true, false, true, false, false, false, true, false, false, false, false, false, false, false] rfl rfl (take_ofW HT_.out HW_.out (by kernel_rfl)) (fun _ _ _ h => h) (Or.inl ⟨by rfl, ?_⟩) hHeld ?_ ?_
            rotate_left
            ·
             rintro w' ⟨s0, s1, s2, s3, s4, s5, s6, s7, s8, s9, s10, s11, s12⟩
             go_simp
             with_reducible rfl
            rotate_left
            ·
             simp only [Act.put, List.setIfInBounds_toArray, List.set_cons_zero, List.set_cons_succ, i64_w, i32_w]
             rfl
            refine pure_ (i := 7) (N := some 34) (v := ?_) (a' := ?_) #[true, true, true, true, true, true, true, true, true, false, true, false, false, false, true, false, false, false, false, false, false, false] rfl rfl (any_of HT_.out (by kernel_rfl)) (fun _ _ _ h => h) (Or.inl ⟨by rfl, ?_⟩) ?_ ?_
            rotate_left
            ·
             intro w'
             go_simp
             with_reducible rfl
            rotate_left
            ·
             simp only [Act.put, List.setIfInBounds_toArray, List.set_cons_zero, List.set_cons_succ, i64_w, i32_w]
             rfl
            refine take_ (i := 9) (N := some 36) (v := ?_) (a' := ?_) #[true, true, true, true, true, true, true, true, true, true, true, false, false, false, true, false, false, false, false, false, false, false] rfl rfl (take_ofW HT_.out HW_.out (by kernel_rfl)) (fun _ _ _ h => h) (Or.inl ⟨by rfl, ?_⟩) hHeld ?_ ?_
            rotate_left
            ·
             rintro w' ⟨s0, s1, s2, s3, s4, s5, s6, s7, s8, s9, s10, s11, s12⟩
             go_simp
             with_reducible rfl
            rotate_left
            ·
             simp only [Act.put, List.setIfInBounds_toArray, List.set_cons_zero, List.set_cons_succ, i64_w, i32_w]
             rfl
            refine pure_ (i := 11) (N := some 38) (v := ?_) (a' := ?_) #[true, true, true, true, true, true, true, true, true, true, true, true, false, false, true, false, false, false, false, false, false, false] rfl rfl (any_of HT_.out (by kernel_rfl)) (fun _ _ _ h => h) (Or.inl ⟨by rfl, ?_⟩) ?_ ?_
            rotate_left
            ·
             intro w'
             go_simp
             with_reducible rfl
            rotate_left
            ·
             simp only [Act.put, List.setIfInBounds_toArray, List.set_cons_zero, List.set_cons_succ, i64_w, i32_w]
             rfl
            refine pure_ (i := 12) (N := some 39) (v := ?_) (a' := ?_) #[true, true, true, true, true, true, true, true, true, true, true, true, true, false, true, false, false, false, false, false, false, false] rfl rfl (any_of HT_.out (by kernel_rfl)) (fun _ _ _ h => h) (Or.inl ⟨by rfl, ?_⟩) ?_ ?_
            rotate_left
            ·
             intro w'
             go_simp
             with_reducible rfl
            rotate_left
            ·
             simp only [Act.put, List.setIfInBounds_toArray, List.set_cons_zero, List.set_cons_succ, i64_w, i32_w]
             rfl
            refine take_ (i := 13) (N := some 40) (v := ?_) (a' := ?_) #[true, true, true, true, true, true, true, true, true, true, true, true, true, true, true, false, false, false, false, false, false, false] rfl rfl (take_ofW HT_.out HW_.out (by kernel_rfl)) (fun _ _ _ h => h) (Or.inl ⟨by rfl, ?_⟩) hHeld ?_ ?_
            rotate_left
            ·
             rintro w' ⟨s0, s1, s2, s3, s4, s5, s6, s7, s8, s9, s10, s11, s12⟩
             go_simp
             with_reducible rfl
            rotate_left
            ·
             simp only [Act.put, List.setIfInBounds_toArray, List.set_cons_zero, List.set_cons_succ, i64_w, i32_w]
             rfl
            refine pure_ (i := 15) (N := some 42) (v := ?_) (a' := ?_) #[true, true, true, true, true, true, true, true, true, true, true, true, true, true, true, true, false, false, false, false, false, false] rfl rfl (any_of HT_.out (by kernel_rfl)) (fun _ _ _ h => h) (Or.inl ⟨by rfl, ?_⟩) ?_ ?_
            rotate_left
            ·
             intro w'
             go_simp
             with_reducible rfl
            rotate_left
            ·
             simp only [Act.put, List.setIfInBounds_toArray, List.set_cons_zero, List.set_cons_succ, i64_w, i32_w]
             rfl
            refine pure_ (i := 16) (N := some 43) (v := ?_) (a' := ?_) #[true, true, true, true, true, true, true, true, true, true, true, true, true, true, true, true, true, false, false, false, false, false] rfl rfl (any_of HT_.out (by kernel_rfl)) (fun _ _ _ h => h) (Or.inl ⟨by rfl, ?_⟩) ?_ ?_
            rotate_left
            ·
             intro w'
             go_simp
             with_reducible rfl
            rotate_left
            ·
             simp only [Act.put, List.setIfInBounds_toArray, List.set_cons_zero, List.set_cons_succ, i64_w, i32_w]
             rfl
            refine take_ (i := 17) (N := some 44) (v := ?_) (a' := ?_) #[true, true, true, true, true, true, true, true, true, true, true, true, true, true, true, true, true, true, false, false, false, false] rfl rfl (take_ofW HT_.out HW_.out (by kernel_rfl)) (fun _ _ _ h => h) (Or.inl ⟨by rfl, ?_⟩) hHeld ?_ ?_
            rotate_left
            ·
             rintro w' ⟨s0, s1, s2, s3, s4, s5, s6, s7, s8, s9, s10, s11, s12⟩
             go_simp
             with_reducible rfl
            rotate_left
            ·
             simp only [Act.put, List.setIfInBounds_toArray, List.set_cons_zero, List.set_cons_succ, i64_w, i32_w]
             rfl
            refine pure_ (i := 18) (N := some 45) (v := ?_) (a' := ?_) #[true, true, true, true, true, true, true, true, true, true, true, true, true, true, true, true, true, true, true, false, false, false] rfl rfl (any_of HT_.out (by kernel_rfl)) (fun _ _ _ h => h) (Or.inl ⟨by rfl, ?_⟩) ?_ ?_
            rotate_left
            ·
             intro w'
             go_simp
             with_reducible rfl
            rotate_left
            ·
             simp only [Act.put, List.setIfInBounds_toArray, List.set_cons_zero, List.set_cons_succ, i64_w, i32_w]
             rfl
            refine one_ (i := 19) (N := some 46) #[true, true, true, true, true, true, true, true, true, true, true, true, true, true, true, true, true, true, true, true, false, false] rfl rfl (one_of HT_.out (by kernel_rfl)) (by decide) (fun K hK => ?_)
            refine value_ (w1 := ?_) (v := ?_) (by rfl) rfl ?_ ?_
            rotate_left 2
            ·
             go_simp
             constructor
             ·
              rfl
             ·
              rfl
            refine hK.out _ _ ⟨(blk_cell (blk_alloc BK335.out _) 0).trans rfl, (blk_cell (blk_alloc BK335.out _) 1).trans rfl, (blk_cell (blk_alloc BK335.out _) 2).trans rfl, (blk_cell (blk_alloc BK335.out _) 3).trans rfl, (World.cell?_alloc_lt _ _ _ (World.block_lt_of_cell? _ _ (((HB.out.cell (World.block_lt_of_cell? w _ hw339_0)).trans hw339_0)))).trans (((HB.out.cell (World.block_lt_of_cell? w _ hw339_0)).trans hw339_0)), (World.cell?_alloc_lt _ _ _ (World.block_lt_of_cell? _ _ (((HB.out.cell (World.block_lt_of_cell? w _ hw339_1)).trans hw339_1)))).trans (((HB.out.cell (World.block_lt_of_cell? w _ hw339_1)).trans hw339_1)), (World.cell?_alloc_lt _ _ _ (World.block_lt_of_cell? _ _ (((HB.out.cell (World.block_lt_of_cell? w _ hw339_2)).trans hw339_2)))).trans (((HB.out.cell (World.block_lt_of_cell? w _ hw339_2)).trans hw339_2)), (World.cell?_alloc_lt _ _ _ (World.block_lt_of_cell? _ _ (((HB.out.cell (World.block_lt_of_cell? w _ hw339_0)).trans hw339_0)))).trans (((HB.out.cell (World.block_lt_of_cell? w _ hw339_0)).trans hw339_0)), (World.cell?_alloc_lt _ _ _ (World.block_lt_of_cell? _ _ (((HB.out.cell (World.block_lt_of_cell? w _ hw339_1)).trans hw339_1)))).trans (((HB.out.cell (World.block_lt_of_cell? w _ hw339_1)).trans hw339_1)), (World.cell?_alloc_lt _ _ _ (World.block_lt_of_cell? _ _ (((HB.out.cell (World.block_lt_of_cell? w _ hw339_2)).trans hw339_2)))).trans (((HB.out.cell (World.block_lt_of_cell? w _ hw339_2)).trans hw339_2)), (World.cell?_alloc_lt _ _ _ (World.block_lt_of_cell? _ _ (((HB.out.cell (World.block_lt_of_cell? w _ hw341_0)).trans hw341_0)))).trans (((HB.out.cell (World.block_lt_of_cell? w _ hw341_0)).trans hw341_0)), (World.cell?_alloc_lt _ _ _ (World.block_lt_of_cell? _ _ (((HB.out.cell (World.block_lt_of_cell? w _ hw341_1)).trans hw341_1)))).trans (((HB.out.cell (World.block_lt_of_cell? w _ hw341_1)).trans hw341_1)), (World.cell?_alloc_lt _ _ _ (World.block_lt_of_cell? _ _ (((HB.out.cell (World.block_lt_of_cell? w _ hw341_2)).trans hw341_2)))).trans (((HB.out.cell (World.block_lt_of_cell? w _ hw341_2)).trans hw341_2))⟩ (fun hHeld => ?_)
            clear hK K
            refine norm_ (a' := ?_) ?_ ?_
            rotate_left
            ·
             show Act.put _ (some 46) _ = _
             simp only [Act.put, List.setIfInBounds_toArray, List.set_cons_zero, List.set_cons_succ, i64_w, i32_w]
             rfl
            refine one_ (i := 20) (N := some 47) #[true, true, true, true, true, true, true, true, true, true, true, true, true, true, true, true, true, true, true, true, true, false] rfl rfl (one_of HT_.out (by kernel_rfl)) (by decide) (fun K hK => ?_)
            refine Kd.R_append_step Kd.string (w0 := w) w.heap.size (by rfl) (.tmp 27) (.tmp 46) 22 9 (.string ⟨#[]⟩) 16 rfl Tryd.underlying22 info9 rfl (by decide) (by omega) u7 x7_1 ((((rd_T61 l0_3 x22_1).f0) ++ (⟨#[46]⟩ : ByteArray)) ++ ((rd_T57 ((rd_T61 l0_3 x22_1).f1) (rd l1_0 x22_1)).f0)) [.string ((((rd_T61 l0_3 x22_1).f0) ++ (⟨#[46]⟩ : ByteArray)) ++ ((rd_T57 ((rd_T61 l0_3 x22_1).f1) (rd l1_0 x22_1)).f0))] (fun _ => True) (fun _ => False) rfl rfl ?aP (fun _ hk => hk.elim) ?aF ?aO ?aB ?aS ?aL ?_
            (case aP => exact rfl)
            (case aB => exact q15_0)
            (case aF => exact (fun _ _ => trivial))
            (case aO => exact s2)
            (case aS => exact (below_size q15_0))
            (case aL => have := LMc20.out; omega)
            intro v343 w22 ho hb hg hat
            rw [← Ny342.out] at ho
            have n0_ := zM (blk_grown (g := gb335) (o := .cells #[.slice A0_0 l0_0.length c0_0, .slice A0_1 l0_1.length c0_1, .slice A0_2 l0_2.length c0_2, .slice (some ad339) l0_3.length c0_3] 26 (0, 0)) q15_1 hg (Kd.R_ne HO_7.out BK335.out (by decide)))
            have n1_ := zM (blk_grown (g := gb336) (o := .cells #[.slice (some ad338) l1_0.length c1_0, .slice A1_1 l1_1.length c1_1] 29 (0, 0)) q15_2 hg (Kd.R_ne HO_7.out BK336.out (by decide)))
            have n2_ := zM (hb)
            have n3_ := zM (ho)
            clear BK335
            clear BK336
            clear HB
            clear HO_7
            have BK335 := n0_
            have BK336 := n1_
            have HB := n2_
            have HO344 := n3_
            clear n0_ n1_ n2_ n3_
            clear ho hb hg hat
            refine hK.out _ _ ⟨(blk_cell BK335.out 0).trans rfl, (blk_cell BK335.out 1).trans rfl, (blk_cell BK335.out 2).trans rfl, (blk_cell BK335.out 3).trans rfl, ((HB.out.cell (World.block_lt_of_cell? w _ hw339_0)).trans hw339_0), ((HB.out.cell (World.block_lt_of_cell? w _ hw339_1)).trans hw339_1), ((HB.out.cell (World.block_lt_of_cell? w _ hw339_2)).trans hw339_2), ((HB.out.cell (World.block_lt_of_cell? w _ hw339_0)).trans hw339_0), ((HB.out.cell (World.block_lt_of_cell? w _ hw339_1)).trans hw339_1), ((HB.out.cell (World.block_lt_of_cell? w _ hw339_2)).trans hw339_2), ((HB.out.cell (World.block_lt_of_cell? w _ hw341_0)).trans hw341_0), ((HB.out.cell (World.block_lt_of_cell? w _ hw341_1)).trans hw341_1), ((HB.out.cell (World.block_lt_of_cell? w _ hw341_2)).trans hw341_2)⟩ (fun hHeld => ?_)
            clear hK K
            refine norm_ (a' := ?_) ?_ ?_
            rotate_left
            ·
             show Act.put _ (some 47) _ = _
             simp only [Act.put, List.setIfInBounds_toArray, List.set_cons_zero, List.set_cons_succ, i64_w, i32_w]
             rfl
            refine pure_ (i := 21) (N := some 7) (v := ?_) (a' := ?_) #[true, true, true, true, true, true, true, true, true, true, true, true, true, true, true, true, true, true, true, true, true, true] rfl rfl (any_of HT_.out (by kernel_rfl)) (fun _ _ _ h => h) (Or.inl ⟨by rfl, ?_⟩) ?_ ?_
            rotate_left
            ·
             intro w'
             go_simp
             with_reducible rfl
            rotate_left
            ·
             simp only [Act.put, List.setIfInBounds_toArray, List.set_cons_zero, List.set_cons_succ, i64_w, i32_w]
             rfl
            refine done_ (done_of HT_.out (by kernel_rfl)) ?_
            try go_wp2
            go_roundg k1
            case measure => have := HK1.out; omega
            case rel => exact ⟨(y342), (wrap64 (x22_1 + 1)), s7, H', ⟨(by have := HK1.out; omega)⟩, ⟨(by (with_reducible repeat (first | apply Kd.R_alloc | apply Kd.R_drewN | apply Kd.R_drew)); exact HO344.out)⟩, ⟨q15_1⟩, ⟨q15_2⟩, ⟨q15_0⟩⟩
           rw [if_neg c20] at H
           exact absurd H (by simp)
          rw [if_neg c19] at H
          exact absurd H (by simp)
         rw [if_neg c18] at H
         exact absurd H (by simp)
        rw [if_neg c17] at H
        exact absurd H (by simp)
       rw [if_neg c16] at H
       exact absurd H (by simp)
      rw [if_neg c15] at H
      exact absurd H (by simp)
     rw [if_neg c14] at H
     exact absurd H (by simp)
    rw [if_neg c13] at H
    exact absurd H (by simp)
   rw [if_neg c12] at H
   have c12b0 := decide_eq_false c12
   clear c12
   have H' := zM H
   clear H
   have hnb23 := NB336_335.out
   have hnc23 := NB335_336.out
   obtain ⟨hcz24_0, hcz24_1, hfz24_0, hfz24_1⟩ := blk2 BK336.out
   go_wp2
   go_loopg [8, 52] k1 (fun kq v8 v52 w' => ∃ (x8_2 : List ByteArray) (x52_2 : Int), v52 = .int .i64 x52_2 ∧ Aside0 (state_Print.l1 kq x7_1 x8_2 l1_1 (l1_1.length : Int) x52_2 l0_0 l0_1 l0_2 l0_3 = some (r1, r2)) ∧ Aside0 (kq ≤ k1) ∧ Aside0 (Kd.R Kd.string 9 w' w.heap.size (fun k_ => some k_ ≠ (v8 : Value).ownBlock) u7 x7_1) ∧ Aside0 (Kd.R Kd.string 9 w' w.heap.size (fun k_ => some k_ ≠ (u7 : Value).ownBlock) v8 x8_2) ∧ Aside0 (w'.heap[gb335]? = some (.cells #[(.slice A0_0 l0_0.length c0_0), (.slice A0_1 l0_1.length c0_1), (.slice A0_2 l0_2.length c0_2), (.slice A0_3 l0_3.length c0_3)] 26 (0, 0))) ∧ Aside0 (w'.heap[gb336]? = some (.cells #[(.slice A1_0 l1_0.length c1_0), (.slice A1_1 l1_1.length c1_1)] 29 (0, 0))) ∧ Aside0 (Below w.heap.size w w'))
   case atStart => exact ⟨(([] : List ByteArray)), (0), s7, H', ⟨Nat.le_refl _⟩, ⟨(by (with_reducible repeat (first | apply Kd.R_alloc | apply Kd.R_drewN | apply Kd.R_drew)); exact Kd.R_mono HO_7.out (fun _ hk => (by simp [Value.ownBlock])))⟩, ⟨s4⟩, ⟨q15_1⟩, ⟨q15_2⟩, ⟨q15_0⟩⟩
   clear H'
   obtain ⟨x8_2, x52_2, rfl, HA, HK2, HO_7, HO_8, BK335, BK336, HB⟩ := hrel
   cases gk with
   | zero => exact absurd HA.out (by simp [state_Print.l1])
   | succ k2 =>
    have H := HA.out
    clear HA
    simp only [state_Print.l1] at H
    by_cases c25 : x52_2 < (l1_1.length : Int)
    ·
     rw [if_pos c25] at H
     have c25b0 := zD c25
     clear c25
     by_cases c26 : 0 ≤ x52_2
     ·
      rw [if_pos c26] at H
      have c26b0 := zD c26
      clear c26
      by_cases c27 : x52_2 < (l1_1.length : Int)
      ·
       rw [if_pos c27] at H
       have c27b0 := zD c27
       clear c27
       by_cases c28 : x52_2 < (l0_1.length : Int)
       ·
        rw [if_pos c28] at H
        have c28b0 := zD c28
        clear c28
        by_cases c29 : ((rd_T50 l0_1 x52_2).f0).size + 1 ≤ 9223372036854775807
        ·
         rw [if_pos c29] at H
         have c29b0 := eq_true c29
         have c29b1 : decide (((rd_T50 l0_1 x52_2).f0).size + 1 ≤ 9223372036854775807) = true := zD c29
         try have c29b2 : (9223372036854775807 < ((rd_T50 l0_1 x52_2).f0).size + 1) = False := eq_false (Nat.not_lt.2 c29)
         try have c29b3 := c29b2
         try simp only [ByteArray.size_append, Nat.reduceAdd] at c29b3
         replace H := Option.bind_eq_some_iff.mp H
         obtain ⟨t347, A300, H⟩ := H
         replace H : (if (((rd_T50 l0_1 x52_2).f0) ++ (⟨#[61]⟩ : ByteArray)).size + t347.size ≤ 9223372036854775807 then (if x8_2.length < 8796093022208 then (state_Print.l1 k2 x7_1 (x8_2 ++ [(((rd_T50 l0_1 x52_2).f0) ++ (⟨#[61]⟩ : ByteArray)) ++ t347]) l1_1 (l1_1.length : Int) (wrap64 (x52_2 + 1)) l0_0 l0_1 l0_2 l0_3) else (none)) else (none)) = some (r1, r2) := H
         have A30 := zM A300
         clear A300
         by_cases c31 : (((rd_T50 l0_1 x52_2).f0) ++ (⟨#[61]⟩ : ByteArray)).size + t347.size ≤ 9223372036854775807
         ·
          rw [if_pos c31] at H
          have c31b0 := eq_true c31
          have c31b1 : decide ((((rd_T50 l0_1 x52_2).f0) ++ (⟨#[61]⟩ : ByteArray)).size + t347.size ≤ 9223372036854775807) = true := zD c31
          try have c31b2 : (9223372036854775807 < (((rd_T50 l0_1 x52_2).f0) ++ (⟨#[61]⟩ : ByteArray)).size + t347.size) = False := eq_false (Nat.not_lt.2 c31)
          try have c31b3 := c31b2
          try simp only [ByteArray.size_append, show (⟨#[61]⟩ : ByteArray).size = 1 from rfl, Nat.reduceAdd] at c31b3
          by_cases c32 : x8_2.length < 8796093022208
          ·
           rw [if_pos c32] at H
           have LMc32 := zM c32
           clear c32
           obtain ⟨y348, hy348⟩ : ∃ y_ : List ByteArray, y_ = (x8_2 ++ [(((rd_T50 l0_1 x52_2).f0) ++ (⟨#[61]⟩ : ByteArray)) ++ t347]) := ⟨_, rfl⟩
           replace H : (state_Print.l1 k2 x7_1 y348 l1_1 (l1_1.length : Int) (wrap64 (x52_2 + 1)) l0_0 l0_1 l0_2 l0_3) = some (r1, r2) := by first | (rw [hy348]; with_reducible exact H) | (have H2_ := (Option.bind_some _ _).symm.trans H; rw [hy348]; with_reducible exact H2_) | (have H2_ := (Option.bind_some _ _).symm.trans H; with_reducible exact H2_) | with_reducible exact H | (rw [hy348]; exact H) | exact H
           have Ny348 := zM hy348
           clear hy348
           have H' := zM H
           clear H
           have p345 : 0 ≤ (x52_2 : Int) := zO s3
           have q345 : x52_2 < (l1_1.length : Int) := zO s3
           obtain ⟨ad345, e345, hx345_0⟩ := Kd.at_int HR1_1.out x52_2 p345 q345
           cases e345
           replace hx345_0 := cell_up HB.out hx345_0
           replace p345 := eq_true p345
           replace q345 := eq_true q345
           try go_wp2
           have n0_ := zM (Kd.R_drew HO_7.out)
           have n1_ := zM (Kd.R_drew HO_8.out)
           have n2_ := zM (blk_drew BK335.out)
           have n3_ := zM (blk_drew BK336.out)
           have n4_ := zM (below_drew1 HB.out)
           clear HO_7
           clear HO_8
           clear BK335
           clear BK336
           clear HB
           have HO_7 := n0_
           have HO_8 := n1_
           have BK335 := n2_
           have BK336 := n3_
           have HB := n4_
           clear n0_ n1_ n2_ n3_ n4_
           have p346 : 0 ≤ (x52_2 : Int) := zO s3
           have q346 : x52_2 < (l0_1.length : Int) := zO s3
           obtain ⟨ad346, e346, hx346_0, hx346_1, hx346_2, hx346_3⟩ := at_T50 HR0_1.out x52_2 p346 q346
           have hw346_3 := hx346_3
           have hw346_2 := hx346_2
           have hw346_1 := hx346_1
           have hw346_0 := hx346_0
           cases e346
           replace hx346_0 := cell_up HB.out hx346_0
           replace hx346_1 := cell_up HB.out hx346_1
           replace hx346_2 := cell_up HB.out hx346_2
           replace hx346_3 := cell_up HB.out hx346_3
           replace p346 := eq_true p346
           replace q346 := eq_true q346
           refine start_ (n := 14) (S := fun w' => w'.cell? ⟨gb335, 0, none⟩ = some (.slice A0_0 l0_0.length c0_0) ∧ w'.cell? ⟨gb335, 1, none⟩ = some (.slice (some ad346) l0_1.length c0_1) ∧ w'.cell? ⟨gb335, 2, none⟩ = some (.slice A0_2 l0_2.length c0_2) ∧ w'.cell? ⟨gb335, 3, none⟩ = some (.slice A0_3 l0_3.length c0_3) ∧ w'.cell? (ad346.add ((x52_2).toNat * 4)) = some (.string ((rd_T50 l0_1 x52_2).f0)) ∧ w'.cell? ⟨(ad346.add ((x52_2).toNat * 4)).block, (ad346.add ((x52_2).toNat * 4)).off + 1, none⟩ = some (.int .i64 ((rd_T50 l0_1 x52_2).f1)) ∧ w'.cell? ⟨(ad346.add ((x52_2).toNat * 4)).block, (ad346.add ((x52_2).toNat * 4)).off + 2, none⟩ = some (.int .i64 ((rd_T50 l0_1 x52_2).f2)) ∧ w'.cell? ⟨(ad346.add ((x52_2).toNat * 4)).block, (ad346.add ((x52_2).toNat * 4)).off + 3, none⟩ = some (.int .i64 ((rd_T50 l0_1 x52_2).f3))) (ds := []) #[false, false, false, false, false, false, false, false, false, false, false, false, false, false] (by kernel_rfl) rfl rfl ⟨(blk_cell BK335.out 0).trans rfl, (blk_cell BK335.out 1).trans rfl, (blk_cell BK335.out 2).trans rfl, (blk_cell BK335.out 3).trans rfl, ((HB.out.cell (World.block_lt_of_cell? w _ hw346_0)).trans hw346_0), ((HB.out.cell (World.block_lt_of_cell? w _ hw346_1)).trans hw346_1), ((HB.out.cell (World.block_lt_of_cell? w _ hw346_2)).trans hw346_2), ((HB.out.cell (World.block_lt_of_cell? w _ hw346_3)).trans hw346_3)⟩ (fun hHeld => ?_); refine with_tabW state_Print.tab13 state_Print.bits13 (fun HT_ HW_ => ?_)
           generalize wr.drew = w33 at HO_7 HO_8 BK335 BK336 HB hx346_0 hx346_1 hx346_2 hx346_3 hHeld ⊢
           refine pure_ (i := 0) (N := some 57) (v := ?_) (a' := ?_) #[true, false, false, false, false, false, false, false, false, false, false, false, false, false] rfl rfl (any_of HT_.out (by kernel_rfl)) (fun _ _ _ h => h) (Or.inl ⟨by rfl, ?_⟩) ?_ ?_
           rotate_left
           ·
            intro w'
            go_simp
            with_reducible rfl
           rotate_left
           ·
            simp only [Act.put, List.setIfInBounds_toArray, List.set_cons_zero, List.set_cons_succ, i64_w, i32_w]
            rfl
           refine pure_ (i := 1) (N := some 58) (v := ?_) (a' := ?_) #[true, true, false, false, false, false, false, false, false, false, false, false, false, false] rfl rfl (any_of HT_.out (by kernel_rfl)) (fun _ _ _ h => h) (Or.inl ⟨by rfl, ?_⟩) ?_ ?_
           rotate_left
           ·
            intro w'
            go_simp
            with_reducible rfl
           rotate_left
           ·
            simp only [Act.put, List.setIfInBounds_toArray, List.set_cons_zero, List.set_cons_succ, i64_w, i32_w]
            rfl
           refine pure_ (i := 3) (N := some 60) (v := ?_) (a' := ?_) #[true, true, false, true, false, false, false, false, false, false, false, false, false, false] rfl rfl (any_of HT_.out (by kernel_rfl)) (fun _ _ _ h => h) (Or.inl ⟨by rfl, ?_⟩) ?_ ?_
           rotate_left
           ·
            intro w'
            go_simp
            with_reducible rfl
           rotate_left
           ·
            simp only [Act.put, List.setIfInBounds_toArray, List.set_cons_zero, List.set_cons_succ, i64_w, i32_w]
            rfl
           refine pure_ (i := 8) (N := some 65) (v := ?_) (a' := ?_) #[true, true, false, true, false, false, false, false, true, false, false, false, false, false] rfl rfl (any_of HT_.out (by kernel_rfl)) (fun _ _ _ h => h) (Or.inl ⟨by rfl, ?_⟩) ?_ ?_
           rotate_left
           ·
            intro w'
            go_simp
            with_reducible rfl
           rotate_left
           ·
            simp only [Act.put, List.setIfInBounds_toArray, List.set_cons_zero, List.set_cons_succ, i64_w, i32_w]
            rfl
           refine take_ (i := 2) (N := some 59) (v := ?_) (a' := ?_) #[true, true, true, true, false, false, false, false, true, false, false, false, false, false] rfl rfl (take_ofW HT_.out HW_.out (by kernel_rfl)) (fun _ _ _ h => h) (Or.inl ⟨by rfl, ?_⟩) hHeld ?_ ?_
           rotate_left
           ·
            rintro w' ⟨s0, s1, s2, s3, s4, s5, s6, s7⟩
            go_simp
            with_reducible rfl
           rotate_left
           ·
            simp only [Act.put, List.setIfInBounds_toArray, List.set_cons_zero, List.set_cons_succ, i64_w, i32_w]
            rfl
           refine pure_ (i := 4) (N := some 61) (v := ?_) (a' := ?_) #[true, true, true, true, true, false, false, false, true, false, false, false, false, false] rfl rfl (any_of HT_.out (by kernel_rfl)) (fun _ _ _ h => h) (Or.inl ⟨by rfl, ?_⟩) ?_ ?_
           rotate_left
           ·
            intro w'
            go_simp
            with_reducible rfl
           rotate_left
           ·
            simp only [Act.put, List.setIfInBounds_toArray, List.set_cons_zero, List.set_cons_succ, i64_w, i32_w]
            rfl
           refine pure_ (i := 5) (N := some 62) (v := ?_) (a' := ?_) #[true, true, true, true, true, true, false, false, true, false, false, false, false, false] rfl rfl (any_of HT_.out (by kernel_rfl)) (fun _ _ _ h => h) (Or.inl ⟨by rfl, ?_⟩) ?_ ?_
           rotate_left
           ·
            intro w'
            go_simp
            with_reducible rfl
           rotate_left
           ·
            simp only [Act.put, List.setIfInBounds_toArray, List.set_cons_zero, List.set_cons_succ, i64_w, i32_w]
            rfl
           refine take_ (i := 6) (N := some 63) (v := ?_) (a' := ?_) #[true, true, true, true, true, true, true, false, true, false, false, false, false, false] rfl rfl (take_ofW HT_.out HW_.out (by kernel_rfl)) (fun _ _ _ h => h) (Or.inl ⟨by rfl, ?_⟩) hHeld ?_ ?_
           rotate_left
           ·
            rintro w' ⟨s0, s1, s2, s3, s4, s5, s6, s7⟩
            go_simp
            with_reducible rfl
           rotate_left
           ·
            simp only [Act.put, List.setIfInBounds_toArray, List.set_cons_zero, List.set_cons_succ, i64_w, i32_w]
            rfl
           refine pure_ (i := 7) (N := some 64) (v := ?_) (a' := ?_) #[true, true, true, true, true, true, true, true, true, false, false, false, false, false] rfl rfl (any_of HT_.out (by kernel_rfl)) (fun _ _ _ h => h) (Or.inl ⟨by rfl, ?_⟩) ?_ ?_
           rotate_left
           ·
            intro w'
            go_simp
            with_reducible rfl
           rotate_left
           ·
            simp only [Act.put, List.setIfInBounds_toArray, List.set_cons_zero, List.set_cons_succ, i64_w, i32_w]
            rfl
           refine one_ (i := 9) (N := some 66) #[true, true, true, true, true, true, true, true, true, true, false, false, false, false] rfl rfl (one_of HT_.out (by kernel_rfl)) (by decide) (fun K hK => ?_)
           refine goes_ Tryd.func20 (by kernel_rfl) rfl #[.int .i64 (rd l1_1 x52_2)] (by rfl) rfl rfl s0 ?_
           with_reducible refine (strconv_Itoa.calls (rd l1_1 x52_2) t347 _ ?side1 A30.out).mono ?_
           (case side1 => exact s9)
           rintro e w34 ⟨rfl, hb⟩
           refine ⟨_, rfl, ?_⟩
           have n0_ := zM (Kd.R_below s2 hb)
           have n1_ := zM (Kd.R_below q15_9 hb)
           have n2_ := zM (blk_below (g := gb335) q15_1 hb)
           have n3_ := zM (blk_below (g := gb336) q15_2 hb)
           have n4_ := zM (below_step q15_0 hb)
           clear HO_7
           clear HO_8
           clear BK335
           clear BK336
           clear HB
           have HO_7 := n0_
           have HO_8 := n1_
           have BK335 := n2_
           have BK336 := n3_
           have HB := n4_
           clear n0_ n1_ n2_ n3_ n4_
           (try clear hb)
           (try clear hb2)
           (try clear hk)
           (try clear hi)
           refine hK.out _ _ ⟨(blk_cell BK335.out 0).trans rfl, (blk_cell BK335.out 1).trans rfl, (blk_cell BK335.out 2).trans rfl, (blk_cell BK335.out 3).trans rfl, ((HB.out.cell (World.block_lt_of_cell? w _ hw346_0)).trans hw346_0), ((HB.out.cell (World.block_lt_of_cell? w _ hw346_1)).trans hw346_1), ((HB.out.cell (World.block_lt_of_cell? w _ hw346_2)).trans hw346_2), ((HB.out.cell (World.block_lt_of_cell? w _ hw346_3)).trans hw346_3)⟩ (fun hHeld => ?_)
           clear hK K
           refine norm_ (a' := ?_) ?_ ?_
           rotate_left
           ·
            show Act.put _ (some 66) _ = _
            simp only [Act.put, List.setIfInBounds_toArray, List.set_cons_zero, List.set_cons_succ, i64_w, i32_w]
            rfl
           refine pure_ (i := 10) (N := some 67) (v := ?_) (a' := ?_) #[true, true, true, true, true, true, true, true, true, true, true, false, false, false] rfl rfl (any_of HT_.out (by kernel_rfl)) (fun _ _ _ h => h) (Or.inl ⟨by rfl, ?_⟩) ?_ ?_
           rotate_left
           ·
            intro w'
            go_simp
            with_reducible rfl
           rotate_left
           ·
            simp only [Act.put, List.setIfInBounds_toArray, List.set_cons_zero, List.set_cons_succ, i64_w, i32_w]
            rfl
           refine one_ (i := 11) (N := some 68) #[true, true, true, true, true, true, true, true, true, true, true, true, false, false] rfl rfl (one_of HT_.out (by kernel_rfl)) (by decide) (fun K hK => ?_)
           refine value_ (w1 := ?_) (v := ?_) (by rfl) rfl ?_ ?_
           rotate_left 2
           ·
            go_simp
            constructor
            ·
             rfl
            ·
             rfl
           refine hK.out _ _ ⟨(blk_cell (blk_alloc BK335.out _) 0).trans rfl, (blk_cell (blk_alloc BK335.out _) 1).trans rfl, (blk_cell (blk_alloc BK335.out _) 2).trans rfl, (blk_cell (blk_alloc BK335.out _) 3).trans rfl, (World.cell?_alloc_lt _ _ _ (World.block_lt_of_cell? _ _ (((HB.out.cell (World.block_lt_of_cell? w _ hw346_0)).trans hw346_0)))).trans (((HB.out.cell (World.block_lt_of_cell? w _ hw346_0)).trans hw346_0)), (World.cell?_alloc_lt _ _ _ (World.block_lt_of_cell? _ _ (((HB.out.cell (World.block_lt_of_cell? w _ hw346_1)).trans hw346_1)))).trans (((HB.out.cell (World.block_lt_of_cell? w _ hw346_1)).trans hw346_1)), (World.cell?_alloc_lt _ _ _ (World.block_lt_of_cell? _ _ (((HB.out.cell (World.block_lt_of_cell? w _ hw346_2)).trans hw346_2)))).trans (((HB.out.cell (World.block_lt_of_cell? w _ hw346_2)).trans hw346_2)), (World.cell?_alloc_lt _ _ _ (World.block_lt_of_cell? _ _ (((HB.out.cell (World.block_lt_of_cell? w _ hw346_3)).trans hw346_3)))).trans (((HB.out.cell (World.block_lt_of_cell? w _ hw346_3)).trans hw346_3))⟩ (fun hHeld => ?_)
           clear hK K
           refine norm_ (a' := ?_) ?_ ?_
           rotate_left
           ·
            show Act.put _ (some 68) _ = _
            simp only [Act.put, List.setIfInBounds_toArray, List.set_cons_zero, List.set_cons_succ, i64_w, i32_w]
            rfl
           refine one_ (i := 12) (N := some 69) #[true, true, true, true, true, true, true, true, true, true, true, true, true, false] rfl rfl (one_of HT_.out (by kernel_rfl)) (by decide) (fun K hK => ?_)
           refine Kd.R_append_step Kd.string (w0 := w) w.heap.size (by rfl) (.tmp 57) (.tmp 68) 22 9 (.string ⟨#[]⟩) 16 rfl Tryd.underlying22 info9 rfl (by decide) (by omega) u8 x8_2 ((((rd_T50 l0_1 x52_2).f0) ++ (⟨#[61]⟩ : ByteArray)) ++ t347) [.string ((((rd_T50 l0_1 x52_2).f0) ++ (⟨#[61]⟩ : ByteArray)) ++ t347)] (fun k_ => some k_ ≠ (u7 : Value).ownBlock) (fun _ => False) rfl rfl ?aP (fun _ hk => hk.elim) ?aF ?aO ?aB ?aS ?aL ?_
           (case aP => exact rfl)
           (case aB => exact q15_0)
           (case aF => exact (fun k_ hk => Kd.fresh' (Kd.R_lt s2) k_ hk))
           (case aO => exact q15_9)
           (case aS => exact (below_size q15_0))
           (case aL => have := LMc32.out; omega)
           intro v349 w35 ho hb hg hat
           rw [← Ny348.out] at ho
           have n0_ := zM (Kd.R_after (ok := (fun _ => True)) (by (with_reducible repeat (first | apply Kd.R_alloc | apply Kd.R_drewN | apply Kd.R_drew)); exact Kd.R_mono HO_7.out (fun _ hk => ⟨trivial, hk⟩)) hg hat)
           have n1_ := zM (blk_grown (g := gb335) (o := .cells #[.slice A0_0 l0_0.length c0_0, .slice (some ad346) l0_1.length c0_1, .slice A0_2 l0_2.length c0_2, .slice A0_3 l0_3.length c0_3] 26 (0, 0)) q15_1 hg (Kd.R_ne HO_8.out BK335.out (by decide)))
           have n2_ := zM (blk_grown (g := gb336) (o := .cells #[.slice A1_0 l1_0.length c1_0, .slice (some ad345) l1_1.length c1_1] 29 (0, 0)) q15_2 hg (Kd.R_ne HO_8.out BK336.out (by decide)))
           have n3_ := zM (hb)
           have n4_ := zM (ho)
           clear HO_7
           clear BK335
           clear BK336
           clear HB
           clear HO_8
           have HO_7 := n0_
           have BK335 := n1_
           have BK336 := n2_
           have HB := n3_
           have HO350 := n4_
           clear n0_ n1_ n2_ n3_ n4_
           clear ho hb hg hat
           refine hK.out _ _ ⟨(blk_cell BK335.out 0).trans rfl, (blk_cell BK335.out 1).trans rfl, (blk_cell BK335.out 2).trans rfl, (blk_cell BK335.out 3).trans rfl, ((HB.out.cell (World.block_lt_of_cell? w _ hw346_0)).trans hw346_0), ((HB.out.cell (World.block_lt_of_cell? w _ hw346_1)).trans hw346_1), ((HB.out.cell (World.block_lt_of_cell? w _ hw346_2)).trans hw346_2), ((HB.out.cell (World.block_lt_of_cell? w _ hw346_3)).trans hw346_3)⟩ (fun hHeld => ?_)
           clear hK K
           refine norm_ (a' := ?_) ?_ ?_
           rotate_left
           ·
            show Act.put _ (some 69) _ = _
            simp only [Act.put, List.setIfInBounds_toArray, List.set_cons_zero, List.set_cons_succ, i64_w, i32_w]
            rfl
           refine pure_ (i := 13) (N := some 8) (v := ?_) (a' := ?_) #[true, true, true, true, true, true, true, true, true, true, true, true, true, true] rfl rfl (any_of HT_.out (by kernel_rfl)) (fun _ _ _ h => h) (Or.inl ⟨by rfl, ?_⟩) ?_ ?_
           rotate_left
           ·
            intro w'
            go_simp
            with_reducible rfl
           rotate_left
           ·
            simp only [Act.put, List.setIfInBounds_toArray, List.set_cons_zero, List.set_cons_succ, i64_w, i32_w]
            rfl
           refine done_ (done_of HT_.out (by kernel_rfl)) ?_
           try go_wp2
           go_roundg k2
           case measure => have := HK1.out; have := HK2.out; omega
           case rel => exact ⟨(y348), (wrap64 (x52_2 + 1)), s7, H', ⟨(by have := HK1.out; have := HK2.out; omega)⟩, ⟨(by (with_reducible repeat (first | apply Kd.R_alloc | apply Kd.R_drewN | apply Kd.R_drew)); exact Kd.R_mono HO_7.out (fun _ hk => hk.2))⟩, ⟨(by (with_reducible repeat (first | apply Kd.R_alloc | apply Kd.R_drewN | apply Kd.R_drew)); exact HO350.out)⟩, ⟨q15_1⟩, ⟨q15_2⟩, ⟨q15_0⟩⟩
          rw [if_neg c32] at H
          exact absurd H (by simp)
         rw [if_neg c31] at H
         exact absurd H (by simp)
        rw [if_neg c29] at H
        exact absurd H (by simp)
       rw [if_neg c28] at H
       exact absurd H (by simp)
      rw [if_neg c27] at H
      exact absurd H (by simp)
     rw [if_neg c26] at H
     exact absurd H (by simp)
    rw [if_neg c25] at H
    have c25b0 := decide_eq_false c25
    clear c25
    replace H := Option.bind_eq_some_iff.mp H
    obtain ⟨t351, A360, H⟩ := H
    replace H : (if t351.size + 1 ≤ 9223372036854775807 then ((strings_Join.f x8_2 (⟨#[44]⟩ : ByteArray)).bind fun t352 => (if (t351 ++ (⟨#[59]⟩ : ByteArray)).size + t352.size ≤ 9223372036854775807 then (some ((t351 ++ (⟨#[59]⟩ : ByteArray)) ++ t352, 0)) else (none))) else (none)) = some (r1, r2) := H
    have A36 := zM A360
    clear A360
    by_cases c37 : t351.size + 1 ≤ 9223372036854775807
    ·
     rw [if_pos c37] at H
     have c37b0 := eq_true c37
     have c37b1 : decide (t351.size + 1 ≤ 9223372036854775807) = true := zD c37
     try have c37b2 : (9223372036854775807 < t351.size + 1) = False := eq_false (Nat.not_lt.2 c37)
     try have c37b3 := c37b2
     try simp only [ByteArray.size_append, Nat.reduceAdd] at c37b3
     replace H := Option.bind_eq_some_iff.mp H
     obtain ⟨t352, A380, H⟩ := H
     replace H : (if (t351 ++ (⟨#[59]⟩ : ByteArray)).size + t352.size ≤ 9223372036854775807 then (some ((t351 ++ (⟨#[59]⟩ : ByteArray)) ++ t352, 0)) else (none)) = some (r1, r2) := H
     have A38 := zM A380
     clear A380
     by_cases c39 : (t351 ++ (⟨#[59]⟩ : ByteArray)).size + t352.size ≤ 9223372036854775807
     ·
      rw [if_pos c39] at H
      have c39b0 := eq_true c39
      have c39b1 : decide ((t351 ++ (⟨#[59]⟩ : ByteArray)).size + t352.size ≤ 9223372036854775807) = true := zD c39
      try have c39b2 : (9223372036854775807 < (t351 ++ (⟨#[59]⟩ : ByteArray)).size + t352.size) = False := eq_false (Nat.not_lt.2 c39)
      try have c39b3 := c39b2
      try simp only [ByteArray.size_append, show (⟨#[59]⟩ : ByteArray).size = 1 from rfl, Nat.reduceAdd] at c39b3
      simp only [Option.some.injEq, Prod.mk.injEq] at H
      obtain ⟨rfl, rfl⟩ := H
      obtain ⟨Ao40, co40, eo40⟩ := Kd.R_slice HO_7.out
      subst eo40
      go_wp2_with (first | ((with_reducible refine gate_callee (f := 21) rfl ?_); refine goesL_ (some 72) rfl rfl Tryd.func21 (by kernel_rfl) rfl #[.slice Ao40 x7_1.length co40, .string (⟨#[44]⟩ : ByteArray)] rfl s0 ?_; (with_reducible refine (strings_Join.calls _ _ x7_1 (⟨#[44]⟩ : ByteArray) t351 _ ?side1 ?side2 A36.out).mono ?_); (case side1 => repeat (first | exact (Kd.R_reads' HO_7.out).2.2 | (with_reducible refine Kd.C_alloc ?_ _) | (with_reducible refine Kd.C_drewN ?_ _) | (with_reducible refine Kd.C_drew ?_))); (case side2 => exact (Kd.R_reads' HO_7.out).2.1); rintro e w41 ⟨rfl, hb⟩; refine ⟨_, rfl, ?_⟩; replace HO_7 := zM (Kd.R_below s2 hb); replace HO_8 := zM (Kd.R_below q15_9 hb); replace BK335 := zM (blk_below (g := gb335) q15_1 hb); replace BK336 := zM (blk_below (g := gb336) q15_2 hb); replace HB := zM (below_step q15_0 hb); (try clear hb); obtain ⟨Ao42, co42, eo42⟩ := Kd.R_slice HO_8.out; subst eo42) | ((with_reducible refine gate_callee (f := 21) rfl ?_); refine goesL_ (some 75) rfl rfl Tryd.func21 (by kernel_rfl) rfl #[.slice Ao42 x8_2.length co42, .string (⟨#[44]⟩ : ByteArray)] rfl s0 ?_; (with_reducible refine (strings_Join.calls _ _ x8_2 (⟨#[44]⟩ : ByteArray) t352 _ ?side1 ?side2 A38.out).mono ?_); (case side1 => repeat (first | exact (Kd.R_reads' HO_8.out).2.2 | (with_reducible refine Kd.C_alloc ?_ _) | (with_reducible refine Kd.C_drewN ?_ _) | (with_reducible refine Kd.C_drew ?_))); (case side2 => exact (Kd.R_reads' HO_8.out).2.1); rintro e w43 ⟨rfl, hb⟩; refine ⟨_, rfl, ?_⟩; replace HO_7 := zM (Kd.R_below s2 hb); replace HO_8 := zM (Kd.R_below q15_9 hb); replace BK335 := zM (blk_below (g := gb335) q15_1 hb); replace BK336 := zM (blk_below (g := gb336) q15_2 hb); replace HB := zM (below_step q15_0 hb); (try clear hb)))
      go_ret2
      exact ⟨s6, q15_0⟩
     rw [if_neg c39] at H
     exact absurd H (by simp)
    rw [if_neg c37] at H
    exact absurd H (by simp)
 rw [if_neg c4] at H
 obtain ⟨c4b0, c4b1⟩ := neb c4
 simp only [Option.some.injEq, Prod.mk.injEq] at H
 obtain ⟨rfl, rfl⟩ := H
 go_enter Tryd.func13, Tryd.ntmps13
 go_wp2_with (first | ((with_reducible refine gate_dst (N := 2) rfl ?_); refine box_ev (N := 2) (cs := #[.slice A0_0 l0_0.length c0_0, .slice A0_1 l0_1.length c0_1, .slice A0_2 l0_2.length c0_2, .slice A0_3 l0_3.length c0_3]) (t := 26) ?_; intro gb335 hg w44 hbox hb; have BK335 := zM (hbox); have GE335 := zM (box_ge (n := w.heap.size) hg (below_size s8)); replace HB := zM (below_step s8 hb); clear hb hbox hg) | ((with_reducible refine gate_dst (N := 3) rfl ?_); refine box_ev (N := 3) (cs := #[.slice A1_0 l1_0.length c1_0, .slice A1_1 l1_1.length c1_1]) (t := 29) ?_; intro gb336 hg w45 hbox hb; have BK336 := zM (hbox); have GE336 := zM (box_ge (n := w.heap.size) hg (below_size q15_4)); have NB335_336 := zM (box_ne hg (g := gb335) q15_1); have NB336_335 := zM (box_ne' hg (g := gb335) q15_1); replace BK335 := zM (blk_below (g := gb335) q15_1 hb); replace HB := zM (below_step q15_4 hb); clear hb hbox hg; have hnb46 := NB335_336.out; have hnc46 := NB336_335.out; obtain ⟨hcz47_0, hcz47_1, hcz47_2, hcz47_3, hfz47_0, hfz47_1, hfz47_2, hfz47_3⟩ := blk4 BK335.out; obtain ⟨hcz48_0, hcz48_1, hfz48_0, hfz48_1⟩ := blk2 BK336.out) | ((with_reducible refine gate_callee (f := 17) rfl ?_); refine goesL_ (some 15) rfl rfl Tryd.func17 (by kernel_rfl) rfl #[.agg #[.slice A0_0 l0_0.length c0_0, .slice A0_1 l0_1.length c0_1, .slice A0_2 l0_2.length c0_2, .slice A0_3 l0_3.length c0_3], .agg #[.slice A1_0 l1_0.length c1_0, .slice A1_1 l1_1.length c1_1]] rfl s0 ?_; (with_reducible refine (state_wrong.calls k _ _ l0_0 _ _ l0_1 _ _ l0_2 _ _ l0_3 _ _ l1_0 _ _ l1_1 t337 _ ?side13 ?side1 HC0_0.out ?side3 HC0_1.out ?side5 HC0_2.out ?side7 HC0_3.out ?side9 HC1_0.out ?side11 HC1_1.out A3.out).mono ?_); (case side1 => exact s10); (case side3 => exact s11); (case side5 => exact s12); (case side7 => exact s13); (case side9 => exact s14); (case side11 => exact s15); (case side13 => exact s9); rintro e w49 ⟨rfl, hb⟩; refine ⟨_, rfl, ?_⟩; replace BK335 := zM (blk_below (g := gb335) q15_1 hb); replace BK336 := zM (blk_below (g := gb336) q15_2 hb); replace HB := zM (below_step q15_0 hb); (try clear hb)))
 go_ret2
 exact ⟨s6, q15_0⟩

end Go.Proofs.YtpmhfahligjhaaaDoor.POrd
