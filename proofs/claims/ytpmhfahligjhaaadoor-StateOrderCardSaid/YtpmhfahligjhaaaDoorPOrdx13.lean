-- written by wip/tools/xprint.py (over the kit's print.py): not trusted, Lean checks it.
import Derived.Test.YtpmhfahligjhaaaDoorPOrdx0
import Derived.Test.YtpmhfahligjhaaaDoorPOrdx2
import Derived.Test.YtpmhfahligjhaaaDoorPOrdx3
import Derived.Test.YtpmhfahligjhaaaDoorPOrdx6
import Derived.Test.YtpmhfahligjhaaaDoorPOrdx7
import Derived.Test.YtpmhfahligjhaaaDoorPOrdx9
import Derived.Test.YtpmhfahligjhaaaDoorPOrdx10
import Derived.Test.YtpmhfahligjhaaaDoorPOrdx12
-- compact
namespace Go.Proofs.YtpmhfahligjhaaaDoor.POrd
open Go.RowKit Go.Proofs.YtpmhfahligjhaaaDoorW.PrintWords Go.Proofs.YtpmhfahligjhaaaDoorW.PrintLast Go.Proofs.YtpmhfahligjhaaaDoorW.PrintMore Go.Proofs.YtpmhfahligjhaaaDoorXW
attribute [local go_sem high] Option.map_some
attribute [local go_sem] max2_int max_two
set_option linter.unusedVariables false
set_option linter.unusedSimpArgs false

theorem q13_1 {p : Prop} (h : p := by (with_reducible repeat (first | refine blk_drewN ?_ _ | refine blk_drew ?_ | refine blk_alloc ?_ _)); exact BK305.out) : p := h
theorem q13_2 {p : Prop} (h : p := by repeat (first | (with_reducible first | exact HB.out | apply below_alloc | apply pw_below_drewN | apply below_drew1 | refine below_set ?_ GE305.out | refine below_set ?_ GE306.out) | exact HB.out)) : p := h
theorem q13_3 {p : Prop} (h : p := by (with_reducible repeat (first | refine blk_drewN ?_ _ | refine blk_drew ?_ | refine blk_alloc ?_ _)); exact BK306.out) : p := h
theorem q13_5 {p : Prop} (h : p := by repeat (first | (with_reducible first | exact HB.out | apply below_alloc | apply pw_below_drewN | apply below_drew1 | refine below_set ?_ GE305.out | refine below_set ?_ GE306.out | refine below_set ?_ GE311.out) | exact HB.out)) : p := h
theorem q13_7 {p : Prop} (h : p := by repeat (first | (with_reducible first | exact HB.out | apply below_alloc | apply pw_below_drewN | apply below_drew1 | refine below_set ?_ GE305.out | refine below_set ?_ GE306.out | refine below_set ?_ GE311.out | refine below_set ?_ GE313.out) | exact HB.out)) : p := h
theorem q13_8 {p : Prop} (h : p := by repeat (first | (with_reducible first | exact HB.out | apply below_alloc | apply pw_below_drewN | apply below_drew1 | refine below_set ?_ GE319.out) | exact HB.out)) : p := h
theorem q13_9 {p : Prop} (h : p := by repeat (first | (with_reducible first | exact HB.out | apply below_alloc | apply pw_below_drewN | apply below_drew1 | refine below_set ?_ GE305.out) | exact HB.out)) : p := h
theorem q13_17 {p : Prop} (h : p := by (with_reducible repeat (first | refine blk_drewN ?_ _ | refine blk_drew ?_ | refine blk_alloc ?_ _)); apply blk_fill2; (with_reducible repeat (first | refine blk_drewN ?_ _ | refine blk_drew ?_ | refine blk_alloc ?_ _)); exact BK306.out) : p := h
theorem q13_18 {p : Prop} (h : p := by (with_reducible repeat (first | refine blk_drewN ?_ _ | refine blk_drew ?_ | refine blk_alloc ?_ _)); exact BK311.out) : p := h
theorem q13_19 {p : Prop} (h : p := by repeat (first | exact (Kd.C_below HR318_2.out HB.out) | (with_reducible refine Kd.C_alloc ?_ _) | (with_reducible refine Kd.C_drewN ?_ _) | (with_reducible refine Kd.C_drew ?_))) : p := h
theorem q13_20 {p : Prop} (h : p := by repeat (first | exact (Kd.C_below HR318_1.out HB.out) | (with_reducible refine Kd.C_alloc ?_ _) | (with_reducible refine Kd.C_drewN ?_ _) | (with_reducible refine Kd.C_drew ?_))) : p := h
theorem q13_21 {p : Prop} (h : p := by repeat (first | (with_reducible first | exact HB.out | apply below_alloc | apply pw_below_drewN | apply below_drew1 | refine below_set ?_ GE317.out) | exact HB.out)) : p := h
theorem q13_22 {p : Prop} (h : p := by repeat (first | (with_reducible first | exact HB.out | apply below_alloc | apply pw_below_drewN | apply below_drew1 | refine below_set ?_ GE303.out) | exact HB.out)) : p := h
theorem q13_24 {p : Prop} (h : p := by (with_reducible repeat (first | refine blk_drewN ?_ _ | refine blk_drew ?_ | refine blk_alloc ?_ _)); exact BK319.out) : p := h
/-! ### net_Whole: function 28 -/
/-- The looks, one after the other. -/
def net_Whole.look (k : Nat) (a : List ByteArray) (b : List (S50)) (c : List ByteArray) (d : List (S61)) : Nat → Option Int
  | 0 => net_some.f k a b c d
  | 1 => net_sizes.f k a b c d
  | 2 => net_names.f k a b c d
  | 3 => net_vars.f k a b c d
  | 4 => net_locs.f k a b c d
  | 5 => net_edges.f k a b c d
  | 6 => net_clocks.f k a b c d
  | 7 => net_forms.f k a b c d
  | _ => net_tests.f k a b c d
def net_Whole.tl (k : Nat) (a : List ByteArray) (b : List (S50)) (c : List ByteArray) (d : List (S61)) : Nat → Option Int
  | 0 => some 0
  | m + 1 => (net_Whole.look k a b c d (8 - m)).bind fun e => if e = 0 then net_Whole.tl k a b c d m else some e
def net_Whole.f (k : Nat) (l0_0 : List ByteArray) (l0_1 : List (S50)) (l0_2 : List ByteArray) (l0_3 : List (S61)) : Option Int := net_Whole.tl k l0_0 l0_1 l0_2 l0_3 9
theorem net_Whole.look_mono (a b c d k) : ∀ j, LeO (net_Whole.look k a b c d j) (net_Whole.look (k + 1) a b c d j)
  | 0 => net_some.mono a b c d k
  | 1 => net_sizes.mono a b c d k
  | 2 => net_names.mono a b c d k
  | 3 => net_vars.mono a b c d k
  | 4 => net_locs.mono a b c d k
  | 5 => net_edges.mono a b c d k
  | 6 => net_clocks.mono a b c d k
  | 7 => net_forms.mono a b c d k
  | _ + 8 => net_tests.mono a b c d k
theorem net_Whole.tl_mono (a b c d k) : ∀ m, LeO (net_Whole.tl k a b c d m) (net_Whole.tl (k + 1) a b c d m)
  | 0 => LeO.refl _
  | m + 1 => LeO.bind (net_Whole.look_mono a b c d k _) (fun e => LeO.ite (net_Whole.tl_mono a b c d k m) (LeO.refl _))
theorem net_Whole.mono : ∀ a0 a1 a2 a3 k, LeO (net_Whole.f k a0 a1 a2 a3) (net_Whole.f (k + 1) a0 a1 a2 a3) := fun a b c d k => net_Whole.tl_mono a b c d k 9
def net_Whole.fid : Nat → Nat
  | 0 => 37 | 1 => 38 | 2 => 39 | 3 => 40 | 4 => 41 | 5 => 42 | 6 => 43 | 7 => 44 | _ => 45
theorem net_Whole.tl_step (k a b c d) : ∀ j, j < 9 → net_Whole.tl k a b c d (9 - j) = (net_Whole.look k a b c d j).bind fun e => if e = 0 then net_Whole.tl k a b c d (9 - (j + 1)) else some e := by
  intro j hj
  have : j = 0 ∨ j = 1 ∨ j = 2 ∨ j = 3 ∨ j = 4 ∨ j = 5 ∨ j = 6 ∨ j = 7 ∨ j = 8 := by omega
  rcases this with rfl | rfl | rfl | rfl | rfl | rfl | rfl | rfl | rfl <;> rfl
theorem net_Whole.look_calls (k : Nat) (A0_0 : Option Addr) (c0_0 : Nat) (l0_0 : List ByteArray) (A0_1 : Option Addr) (c0_1 : Nat) (l0_1 : List (S50)) (A0_2 : Option Addr) (c0_2 : Nat) (l0_2 : List ByteArray) (A0_3 : Option Addr) (c0_3 : Nat) (l0_3 : List (S61)) (r : Int) (w : World) (hG : Glob w)
    (h0 : Kd.C Kd.string w A0_0 l0_0.length l0_0) (g0 : l0_0.length ≤ c0_0) (h1 : Kd.C k50 w A0_1 l0_1.length l0_1) (g1 : l0_1.length ≤ c0_1) (h2 : Kd.C Kd.string w A0_2 l0_2.length l0_2) (g2 : l0_2.length ≤ c0_2) (h3 : Kd.C k61 w A0_3 l0_3.length l0_3) (g3 : l0_3.length ≤ c0_3) : ∀ j, net_Whole.look k l0_0 l0_1 l0_2 l0_3 j = some r →
    Calls Tryd.prog (net_Whole.fid j) #[.agg #[.slice A0_0 l0_0.length c0_0, .slice A0_1 l0_1.length c0_1, .slice A0_2 l0_2.length c0_2, .slice A0_3 l0_3.length c0_3]] w fun e w' => e = .returned (.int .i64 r) ∧ Below w.heap.size w w'
  | 0, h => net_some.calls k A0_0 c0_0 l0_0 A0_1 c0_1 l0_1 A0_2 c0_2 l0_2 A0_3 c0_3 l0_3 r w h0 g0 h1 g1 h2 g2 h3 g3 h
  | 1, h => net_sizes.calls k A0_0 c0_0 l0_0 A0_1 c0_1 l0_1 A0_2 c0_2 l0_2 A0_3 c0_3 l0_3 r w h0 g0 h1 g1 h2 g2 h3 g3 h
  | 2, h => net_names.calls k A0_0 c0_0 l0_0 A0_1 c0_1 l0_1 A0_2 c0_2 l0_2 A0_3 c0_3 l0_3 r w hG h0 g0 h1 g1 h2 g2 h3 g3 h
  | 3, h => net_vars.calls k A0_0 c0_0 l0_0 A0_1 c0_1 l0_1 A0_2 c0_2 l0_2 A0_3 c0_3 l0_3 r w h0 g0 h1 g1 h2 g2 h3 g3 h
  | 4, h => net_locs.calls k A0_0 c0_0 l0_0 A0_1 c0_1 l0_1 A0_2 c0_2 l0_2 A0_3 c0_3 l0_3 r w h0 g0 h1 g1 h2 g2 h3 g3 h
  | 5, h => net_edges.calls k A0_0 c0_0 l0_0 A0_1 c0_1 l0_1 A0_2 c0_2 l0_2 A0_3 c0_3 l0_3 r w h0 g0 h1 g1 h2 g2 h3 g3 h
  | 6, h => net_clocks.calls k A0_0 c0_0 l0_0 A0_1 c0_1 l0_1 A0_2 c0_2 l0_2 A0_3 c0_3 l0_3 r w h0 g0 h1 g1 h2 g2 h3 g3 h
  | 7, h => net_forms.calls k A0_0 c0_0 l0_0 A0_1 c0_1 l0_1 A0_2 c0_2 l0_2 A0_3 c0_3 l0_3 r w h0 g0 h1 g1 h2 g2 h3 g3 h
  | _ + 8, h => net_tests.calls k A0_0 c0_0 l0_0 A0_1 c0_1 l0_1 A0_2 c0_2 l0_2 A0_3 c0_3 l0_3 r w hG h0 g0 h1 g1 h2 g2 h3 g3 h
set_option maxHeartbeats 4000000 in
set_option maxRecDepth 100000 in
theorem net_Whole.calls (k : Nat) (A0_0 : Option Addr) (c0_0 : Nat) (l0_0 : List ByteArray) (A0_1 : Option Addr) (c0_1 : Nat) (l0_1 : List (S50)) (A0_2 : Option Addr) (c0_2 : Nat) (l0_2 : List ByteArray) (A0_3 : Option Addr) (c0_3 : Nat) (l0_3 : List (S61)) (r : Int) (w : World) (hG : Glob w)
    (hr0_0 : Kd.C Kd.string w A0_0 l0_0.length l0_0) (hc0_0 : l0_0.length ≤ c0_0) (hr0_1 : Kd.C k50 w A0_1 l0_1.length l0_1) (hc0_1 : l0_1.length ≤ c0_1) (hr0_2 : Kd.C Kd.string w A0_2 l0_2.length l0_2) (hc0_2 : l0_2.length ≤ c0_2) (hr0_3 : Kd.C k61 w A0_3 l0_3.length l0_3) (hc0_3 : l0_3.length ≤ c0_3) (h : net_Whole.f k l0_0 l0_1 l0_2 l0_3 = some r) :
    Calls Tryd.prog 28 #[.agg #[.slice A0_0 l0_0.length c0_0, .slice A0_1 l0_1.length c0_1, .slice A0_2 l0_2.length c0_2, .slice A0_3 l0_3.length c0_3]] w fun e w' => e = .returned (.int .i64 r) ∧ Below w.heap.size w w' := by
  have hu := Tryd.underlying26
  have HG := zM hG
  have HR0 := zM hr0_0
  have HR1 := zM hr0_1
  have HR2 := zM hr0_2
  have HR3 := zM hr0_3
  have HC0 := zM hc0_0
  have HC1 := zM hc0_1
  have HC2 := zM hc0_2
  have HC3 := zM hc0_3
  have HH := zM h
  have HB := zM (Below.refl w.heap.size w)
  clear hG hr0_0 hr0_1 hr0_2 hr0_3 hc0_0 hc0_1 hc0_2 hc0_3 h
  go_enter Tryd.func28, Tryd.ntmps28
  go_wp2_with (first | ((with_reducible refine gate_dst (N := 1) rfl ?_); (try (refine gate_guard (by rfl) ?_; dsimp only)); refine box_ev (N := 1) (cs := #[.slice A0_0 l0_0.length c0_0, .slice A0_1 l0_1.length c0_1, .slice A0_2 l0_2.length c0_2, .slice A0_3 l0_3.length c0_3]) (t := 26) ?_; intro gb hg w3 hbox hb; have HBK := zM hbox; have HB3 := zM (below_step HB.out hb); have HGE := zM ((by rw [hg]; exact Nat.le_refl _) : w.heap.size ≤ gb); clear hbox hb hg))
  have hlt : gb < w3.heap.size := blk_lt HBK.out
  have HL := zM hlt
  clear hlt
  go_loopw [10] (fun p wr => ∃ j : Nat, p = .int .i64 (j : Int) ∧ Aside0 (j ≤ 9) ∧ Aside0 (net_Whole.tl k l0_0 l0_1 l0_2 l0_3 (9 - j) = some r) ∧ Aside0 (∀ i, i < 9 → wr.cell? ⟨w3.heap.size, i, none⟩ = some (.func (.func (net_Whole.fid i)) #[] #[])) ∧ Aside0 (w3.heap.size < wr.heap.size) ∧
      Aside0 (wr.heap[gb]? = some (.cells #[.slice A0_0 l0_0.length c0_0, .slice A0_1 l0_1.length c0_1, .slice A0_2 l0_2.length c0_2, .slice A0_3 l0_3.length c0_3] 26 (0, 0))) ∧ Aside0 (Below w.heap.size w wr))
    (fun p _ => 9 - (intOf p).toNat)
  case atStart =>
    refine ⟨0, rfl, ⟨by omega⟩, HH, ⟨fun i hi => ?_⟩, ⟨by simp⟩, ⟨by refine blk_alloc ?_ _; exact HBK.out⟩, ⟨HB3.out.alloc HB3.out.size _⟩⟩
    rw [World.cell?, heap_alloc_new]
    have : i = 0 ∨ i = 1 ∨ i = 2 ∨ i = 3 ∨ i = 4 ∨ i = 5 ∨ i = 6 ∨ i = 7 ∨ i = 8 := by omega
    rcases this with rfl | rfl | rfl | rfl | rfl | rfl | rfl | rfl | rfl <;> rfl
  case round =>
    obtain ⟨j, rfl, hj, hT, hF, hS, hK, hBB⟩ := hrel
    have hcz0 : wr.cell? ⟨gb, 0, none⟩ = some (.slice A0_0 l0_0.length c0_0) := (blk_cell hK.out 0).trans rfl
    have hcz1 : wr.cell? ⟨gb, 1, none⟩ = some (.slice A0_1 l0_1.length c0_1) := (blk_cell hK.out 1).trans rfl
    have hcz2 : wr.cell? ⟨gb, 2, none⟩ = some (.slice A0_2 l0_2.length c0_2) := (blk_cell hK.out 2).trans rfl
    have hcz3 : wr.cell? ⟨gb, 3, none⟩ = some (.slice A0_3 l0_3.length c0_3) := (blk_cell hK.out 3).trans rfl
    have hfz0 := blk_frozen hK.out 0
    have hfz1 := blk_frozen hK.out 1
    have hfz2 := blk_frozen hK.out 2
    have hfz3 := blk_frozen hK.out 3
    by_cases h9 : j = 9
    · subst h9
      have hr : r = 0 := (Option.some.inj hT.out).symm
      subst hr
      go_wp2
      go_ret
      exact ⟨rfl, hBB.out⟩
    · have hj9 : j < 9 := by have := hj.out; omega
      have hstep := hT.out
      rw [net_Whole.tl_step k l0_0 l0_1 l0_2 l0_3 j hj9] at hstep
      obtain ⟨e, he, hstep⟩ := Option.bind_eq_some_iff.1 hstep
      have hcall := fun (W : World) (hBW : Below w.heap.size w W) => net_Whole.look_calls k A0_0 c0_0 l0_0 A0_1 c0_1 l0_1 A0_2 c0_2 l0_2 A0_3 c0_3 l0_3 e W (HG.out.below hBW) (Kd.C_below HR0.out hBW) HC0.out (Kd.C_below HR1.out hBW) HC1.out (Kd.C_below HR2.out hBW) HC2.out (Kd.C_below HR3.out hBW) HC3.out j he
      have hcl := hF.out j hj9
      have HST := zM hstep
      have HCA := zM hcall
      clear hstep hcall he h9
      have hF2 := hF
      have hT2 := hT
      clear hT hj
      by_cases h0 : e = 0
      · subst h0
        have hs2 : net_Whole.tl k l0_0 l0_1 l0_2 l0_3 (9 - (j + 1)) = some r := by have := HST.out; rwa [if_pos rfl] at this
        have HS2 := zM hs2
        clear hs2
        have : j = 0 ∨ j = 1 ∨ j = 2 ∨ j = 3 ∨ j = 4 ∨ j = 5 ∨ j = 6 ∨ j = 7 ∨ j = 8 := by omega
        rcases this with rfl | rfl | rfl | rfl | rfl | rfl | rfl | rfl | rfl <;>
        · simp only [net_Whole.fid] at hcl
          clear hj9
          go_wp2_with (first | ((first | go_at_call 37 | go_at_call 38 | go_at_call 39 | go_at_call 40 | go_at_call 41 | go_at_call 42 | go_at_call 43 | go_at_call 44 | go_at_call 45); refine (HCA.out _ hBB.out).mono ?_; rintro x w5 ⟨rfl, hb5⟩; have HB5 := zM hb5; clear hb5))
          go_roundw
          case rel => exact ⟨_, (by first | rfl | decide | (simp; done)), ⟨(by omega)⟩, HS2, ⟨fun i hi => (HB5.out.cell (by exact hS.out)).trans (hF2.out i hi)⟩, ⟨Nat.lt_of_lt_of_le hS.out HB5.out.size⟩, ⟨blk_below hK.out HB5.out⟩, ⟨below_step hBB.out HB5.out⟩⟩
          case measure => simp [intOf]
      · have hs2 : e = r := by have := HST.out; rw [if_neg h0] at this; exact Option.some.inj this
        subst hs2
        have d0 : (e != 0) = true := bne_iff_ne.mpr h0
        have d1 : (e == 0) = false := beq_eq_false_iff_ne.mpr h0
        clear h0
        have : j = 0 ∨ j = 1 ∨ j = 2 ∨ j = 3 ∨ j = 4 ∨ j = 5 ∨ j = 6 ∨ j = 7 ∨ j = 8 := by omega
        rcases this with rfl | rfl | rfl | rfl | rfl | rfl | rfl | rfl | rfl <;>
        · simp only [net_Whole.fid] at hcl
          clear hj9
          go_wp2_with (first | ((first | go_at_call 37 | go_at_call 38 | go_at_call 39 | go_at_call 40 | go_at_call 41 | go_at_call 42 | go_at_call 43 | go_at_call 44 | go_at_call 45); refine (HCA.out _ hBB.out).mono ?_; rintro x w5 ⟨rfl, hb5⟩; have HB5 := zM hb5; clear hb5))
          go_ret
          exact ⟨rfl, below_step hBB.out HB5.out⟩

/-! ### net_Right: function 19 -/
def net_Right.f (k : Nat) (l0_0 : List ByteArray) (l0_1 : List (S50)) (l0_2 : List ByteArray) (l0_3 : List (S61)) : Option (Bool) := (net_Whole.f k l0_0 l0_1 l0_2 l0_3).bind fun t304 => (some (t304 == 0))
theorem net_Right.mono : ∀ a0 a1 a2 a3 k, LeO (net_Right.f k a0 a1 a2 a3) (net_Right.f (k + 1) a0 a1 a2 a3) := by
 intro a0 a1 a2 a3 k
 unfold net_Right.f
 repeat' first | (with_reducible first | exact net_Whole.mono _ _ _ _ _ | exact LeO.refl _ | exact LeO.none _ | refine LeO.ite ?_ ?_ | refine LeO.bind ?_ (fun _ => ?_)) | exact LeO.none _ | refine LeO.ite ?_ ?_ | refine LeO.bind ?_ (fun _ => ?_)
set_option maxHeartbeats 8000000 in
set_option maxRecDepth 100000 in
theorem net_Right.calls (k : Nat) (A0_0 : Option Addr) (c0_0 : Nat) (l0_0 : List ByteArray) (A0_1 : Option Addr) (c0_1 : Nat) (l0_1 : List (S50)) (A0_2 : Option Addr) (c0_2 : Nat) (l0_2 : List ByteArray) (A0_3 : Option Addr) (c0_3 : Nat) (l0_3 : List (S61)) (r : Bool) (w : World) (hG : Glob w) (hr0_0 : Kd.C Kd.string w A0_0 l0_0.length l0_0) (hc0_0 : l0_0.length ≤ c0_0) (hr0_1 : Kd.C k50 w A0_1 l0_1.length l0_1) (hc0_1 : l0_1.length ≤ c0_1) (hr0_2 : Kd.C Kd.string w A0_2 l0_2.length l0_2) (hc0_2 : l0_2.length ≤ c0_2) (hr0_3 : Kd.C k61 w A0_3 l0_3.length l0_3) (hc0_3 : l0_3.length ≤ c0_3) (h : net_Right.f k l0_0 l0_1 l0_2 l0_3 = some r) :
  Calls Tryd.prog 19 #[.agg #[.slice A0_0 l0_0.length c0_0, .slice A0_1 l0_1.length c0_1, .slice A0_2 l0_2.length c0_2, .slice A0_3 l0_3.length c0_3]] w fun e w' => e = .returned (.bool r) ∧ Below w.heap.size w w' := by
 have hu26 := Tryd.underlying26
 have HR0_0 := zM hr0_0
 have HC0_0 := zM hc0_0
 clear hr0_0 hc0_0
 have HR0_1 := zM hr0_1
 have HC0_1 := zM hc0_1
 clear hr0_1 hc0_1
 have HR0_2 := zM hr0_2
 have HC0_2 := zM hc0_2
 clear hr0_2 hc0_2
 have HR0_3 := zM hr0_3
 have HC0_3 := zM hc0_3
 clear hr0_3 hc0_3
 have HGL := zM hG
 clear hG
 have HB := zM (Below.refl w.heap.size w)
 have H : ((net_Whole.f k l0_0 l0_1 l0_2 l0_3).bind fun t304 => (some (t304 == 0))) = some r := h
 clear h
 replace H := Option.bind_eq_some_iff.mp H
 obtain ⟨t304, A20, H⟩ := H
 replace H : (some (t304 == 0)) = some r := H
 have A2 := zM A20
 clear A20
 obtain rfl := Option.some.inj H
 go_enter Tryd.func19, Tryd.ntmps19
 go_wp2_with (first | ((with_reducible refine gate_dst (N := 1) rfl ?_); refine box_ev (N := 1) (cs := #[.slice A0_0 l0_0.length c0_0, .slice A0_1 l0_1.length c0_1, .slice A0_2 l0_2.length c0_2, .slice A0_3 l0_3.length c0_3]) (t := 26) ?_; intro gb303 hg w3 hbox hb; have BK303 := zM (hbox); have GE303 := zM (box_ge (n := w.heap.size) hg (below_size s8)); replace HB := zM (below_step s8 hb); clear hb hbox hg; obtain ⟨hcz4_0, hcz4_1, hcz4_2, hcz4_3, hfz4_0, hfz4_1, hfz4_2, hfz4_3⟩ := blk4 BK303.out) | ((with_reducible refine gate_callee (f := 28) rfl ?_); refine goesL_ (some 4) rfl rfl Tryd.func28 (by kernel_rfl) rfl #[.agg #[.slice A0_0 l0_0.length c0_0, .slice A0_1 l0_1.length c0_1, .slice A0_2 l0_2.length c0_2, .slice A0_3 l0_3.length c0_3]] rfl s0 ?_; (with_reducible refine (net_Whole.calls k _ _ l0_0 _ _ l0_1 _ _ l0_2 _ _ l0_3 t304 _ ?side9 ?side1 HC0_0.out ?side3 HC0_1.out ?side5 HC0_2.out ?side7 HC0_3.out A2.out).mono ?_); (case side1 => exact s10); (case side3 => exact s11); (case side5 => exact s12); (case side7 => exact s13); (case side9 => exact s9); rintro e w5 ⟨rfl, hb⟩; refine ⟨_, rfl, ?_⟩; replace BK303 := zM (blk_below (g := gb303) (by (with_reducible repeat (first | refine blk_drewN ?_ _ | refine blk_drew ?_ | refine blk_alloc ?_ _)); exact BK303.out) hb); replace HB := zM (below_step q13_22 hb); (try clear hb)))
 go_ret
 exact ⟨s6, q13_22⟩

/-! ### state_First: function 11 -/
def state_First.l0 : Nat → List (S50) → Int → Int → List Int → List Int → Option (List Int × List Int × Int)
 | 0, _, _, _, _, _ => none
 | k + 1, x17, x18, x19, x312000, x312001 => if x19 < x18 then (if 0 ≤ x19 then (if x19 < (x17.length : Int) then (if x312001.length < 17592186044416 then (state_First.l0 k x17 x18 (wrap64 (x19 + 1)) x312000 (x312001 ++ [(rd_T50 x17 x19).f3])) else (none)) else (none)) else (none)) else (some (x312000, x312001, 0))
def state_First.f (k : Nat) (l0_0 : List ByteArray) (l0_1 : List (S50)) (l0_2 : List ByteArray) (l0_3 : List (S61)) : Option (List Int × List Int × Int) := (net_Right.f k l0_0 l0_1 l0_2 l0_3).bind fun t307 => (if t307 = true then (if 0 ≤ (l0_3.length : Int) then (if ((l0_3.length : Int) : Int).toNat ≤ 35184372088832 then (state_First.l0 k l0_1 (l0_1.length : Int) 0 (List.replicate ((l0_3.length : Int) : Int).toNat 0) ([] : List Int)) else (none)) else (none)) else (some (([] : List Int), ([] : List Int), 7)))
theorem state_First.mono_l : ∀ k, (∀ y0 y1 y2 y3 y4, LeO (state_First.l0 k y0 y1 y2 y3 y4) (state_First.l0 (k + 1) y0 y1 y2 y3 y4))
 | 0 => fun _ _ _ _ _ r h => by simp [state_First.l0] at h
 | k + 1 => by
  have ih0 := state_First.mono_l k
  ·
   intro y0 y1 y2 y3 y4
   unfold state_First.l0
   repeat' first | (with_reducible first | exact ih0 _ _ _ _ _ | exact net_Right.mono _ _ _ _ _ | exact LeO.refl _ | exact LeO.none _ | refine LeO.ite ?_ ?_ | refine LeO.bind ?_ (fun _ => ?_)) | exact LeO.none _ | refine LeO.ite ?_ ?_ | refine LeO.bind ?_ (fun _ => ?_)
theorem state_First.mono : ∀ a0 a1 a2 a3 k, LeO (state_First.f k a0 a1 a2 a3) (state_First.f (k + 1) a0 a1 a2 a3) := by
 intro a0 a1 a2 a3 k
 have ih0 := state_First.mono_l k
 unfold state_First.f
 repeat' first | (with_reducible first | exact ih0 _ _ _ _ _ | exact net_Right.mono _ _ _ _ _ | exact LeO.refl _ | exact LeO.none _ | refine LeO.ite ?_ ?_ | refine LeO.bind ?_ (fun _ => ?_)) | exact LeO.none _ | refine LeO.ite ?_ ?_ | refine LeO.bind ?_ (fun _ => ?_)
set_option maxHeartbeats 8000000 in
set_option maxRecDepth 100000 in
theorem state_First.calls (k : Nat) (A0_0 : Option Addr) (c0_0 : Nat) (l0_0 : List ByteArray) (A0_1 : Option Addr) (c0_1 : Nat) (l0_1 : List (S50)) (A0_2 : Option Addr) (c0_2 : Nat) (l0_2 : List ByteArray) (A0_3 : Option Addr) (c0_3 : Nat) (l0_3 : List (S61)) (r1 : List Int) (r2 : List Int) (r3 : Int) (w : World) (hG : Glob w) (hr0_0 : Kd.C Kd.string w A0_0 l0_0.length l0_0) (hc0_0 : l0_0.length ≤ c0_0) (hr0_1 : Kd.C k50 w A0_1 l0_1.length l0_1) (hc0_1 : l0_1.length ≤ c0_1) (hr0_2 : Kd.C Kd.string w A0_2 l0_2.length l0_2) (hc0_2 : l0_2.length ≤ c0_2) (hr0_3 : Kd.C k61 w A0_3 l0_3.length l0_3) (hc0_3 : l0_3.length ≤ c0_3) (h : state_First.f k l0_0 l0_1 l0_2 l0_3 = some (r1, r2, r3)) :
  Calls Tryd.prog 11 #[.agg #[.slice A0_0 l0_0.length c0_0, .slice A0_1 l0_1.length c0_1, .slice A0_2 l0_2.length c0_2, .slice A0_3 l0_3.length c0_3]] w fun e w' => ∃ v0_ v1_ : Value, e = .returned (.tuple #[.agg #[v0_, v1_], .int .i64 r3]) ∧ Kd.R (Kd.int .i64) 3 w' w.heap.size (fun k_ => some k_ ≠ (v1_ : Value).ownBlock) v0_ r1 ∧ Kd.R (Kd.int .i64) 3 w' w.heap.size (fun k_ => some k_ ≠ (v0_ : Value).ownBlock) v1_ r2 ∧ Below w.heap.size w w' := by
 have hu26 := Tryd.underlying26
 have hu29 := Tryd.underlying29
 have hu50 := Tryd.underlying50
 have HR0_0 := zM hr0_0
 have HC0_0 := zM hc0_0
 clear hr0_0 hc0_0
 have HR0_1 := zM hr0_1
 have HC0_1 := zM hc0_1
 clear hr0_1 hc0_1
 have HR0_2 := zM hr0_2
 have HC0_2 := zM hc0_2
 clear hr0_2 hc0_2
 have HR0_3 := zM hr0_3
 have HC0_3 := zM hc0_3
 clear hr0_3 hc0_3
 have HGL := zM hG
 clear hG
 have HB := zM (Below.refl w.heap.size w)
 have H : ((net_Right.f k l0_0 l0_1 l0_2 l0_3).bind fun t307 => (if t307 = true then (if 0 ≤ (l0_3.length : Int) then (if ((l0_3.length : Int) : Int).toNat ≤ 35184372088832 then (state_First.l0 k l0_1 (l0_1.length : Int) 0 (List.replicate ((l0_3.length : Int) : Int).toNat 0) ([] : List Int)) else (none)) else (none)) else (some (([] : List Int), ([] : List Int), 7)))) = some (r1, r2, r3) := h
 clear h
 replace H := Option.bind_eq_some_iff.mp H
 obtain ⟨t307, A20, H⟩ := H
 replace H : (if t307 = true then (if 0 ≤ (l0_3.length : Int) then (if ((l0_3.length : Int) : Int).toNat ≤ 35184372088832 then (state_First.l0 k l0_1 (l0_1.length : Int) 0 (List.replicate ((l0_3.length : Int) : Int).toNat 0) ([] : List Int)) else (none)) else (none)) else (some (([] : List Int), ([] : List Int), 7))) = some (r1, r2, r3) := H
 have A2 := zM A20
 clear A20
 by_cases c3 : t307 = true
 ·
  subst c3
  have H1 : (if 0 ≤ (l0_3.length : Int) then (if ((l0_3.length : Int) : Int).toNat ≤ 35184372088832 then (state_First.l0 k l0_1 (l0_1.length : Int) 0 (List.replicate ((l0_3.length : Int) : Int).toNat 0) ([] : List Int)) else (none)) else (none)) = some (r1, r2, r3) := by rw [if_pos rfl] at H; exact H
  clear H
  have H := H1
  clear H1
  by_cases c4 : 0 ≤ (l0_3.length : Int)
  ·
   rw [if_pos c4] at H
   have c4b0 := eq_true c4
   have c4b1 : decide (0 ≤ (l0_3.length : Int)) = true := zD c4
   clear c4
   by_cases c5 : ((l0_3.length : Int) : Int).toNat ≤ 35184372088832
   ·
    rw [if_pos c5] at H
    have c5b0 := eq_true c5
    have c5b1 : decide (((l0_3.length : Int) : Int).toNat ≤ 35184372088832) = true := zD c5
    clear c5
    obtain ⟨y308, hy308⟩ : ∃ y_ : List Int, y_ = (List.replicate ((l0_3.length : Int) : Int).toNat 0) := ⟨_, rfl⟩
    replace H : (state_First.l0 k l0_1 (l0_1.length : Int) 0 y308 ([] : List Int)) = some (r1, r2, r3) := by first | (rw [hy308]; with_reducible exact H) | (have H2_ := (Option.bind_some _ _).symm.trans H; rw [hy308]; with_reducible exact H2_) | (have H2_ := (Option.bind_some _ _).symm.trans H; with_reducible exact H2_) | with_reducible exact H | (rw [hy308]; exact H) | exact H
    have Ny308 := zM hy308
    clear hy308
    have H' := zM H
    clear H
    go_enter Tryd.func11, Tryd.ntmps11
    go_wp2_with (first | ((with_reducible refine gate_dst (N := 1) rfl ?_); refine box_ev (N := 1) (cs := #[.slice A0_0 l0_0.length c0_0, .slice A0_1 l0_1.length c0_1, .slice A0_2 l0_2.length c0_2, .slice A0_3 l0_3.length c0_3]) (t := 26) ?_; intro gb305 hg w6 hbox hb; have BK305 := zM (hbox); have GE305 := zM (box_ge (n := w.heap.size) hg (below_size s8)); replace HB := zM (below_step s8 hb); clear hb hbox hg) | ((with_reducible refine gate_dst (N := 2) rfl ?_); refine box_ev (N := 2) (cs := #[.slice none 0 0, .slice none 0 0]) (t := 29) ?_; intro gb306 hg w7 hbox hb; have BK306 := zM (hbox); have GE306 := zM (box_ge (n := w.heap.size) hg (below_size q13_9)); have NB305_306 := zM (box_ne hg (g := gb305) q13_1); have NB306_305 := zM (box_ne' hg (g := gb305) q13_1); replace BK305 := zM (blk_below (g := gb305) q13_1 hb); replace HB := zM (below_step q13_9 hb); clear hb hbox hg; have hnb8 := NB305_306.out; have hnc8 := NB306_305.out; obtain ⟨hcz9_0, hcz9_1, hcz9_2, hcz9_3, hfz9_0, hfz9_1, hfz9_2, hfz9_3⟩ := blk4 BK305.out) | ((with_reducible refine gate_callee (f := 19) rfl ?_); refine goesL_ (some 8) rfl rfl Tryd.func19 (by kernel_rfl) rfl #[.agg #[.slice A0_0 l0_0.length c0_0, .slice A0_1 l0_1.length c0_1, .slice A0_2 l0_2.length c0_2, .slice A0_3 l0_3.length c0_3]] rfl s0 ?_; (with_reducible refine (net_Right.calls k _ _ l0_0 _ _ l0_1 _ _ l0_2 _ _ l0_3 true _ ?side9 ?side1 HC0_0.out ?side3 HC0_1.out ?side5 HC0_2.out ?side7 HC0_3.out A2.out).mono ?_); (case side1 => exact s10); (case side3 => exact s11); (case side5 => exact s12); (case side7 => exact s13); (case side9 => exact s9); rintro e w10 ⟨rfl, hb⟩; refine ⟨_, rfl, ?_⟩; replace BK305 := zM (blk_below (g := gb305) q13_1 hb); replace BK306 := zM (blk_below (g := gb306) q13_3 hb); replace HB := zM (below_step q13_2 hb); (try clear hb); obtain ⟨hcz11_0, hcz11_1, hcz11_2, hcz11_3, hfz11_0, hfz11_1, hfz11_2, hfz11_3⟩ := blk4 BK305.out) | ((with_reducible refine gate_dst (N := 14) rfl ?_); refine Kd.R_make (Kd.int .i64) _ 3 rfl (N := 14) rfl 27 _ _ rfl (l0_3.length : Int) rfl rfl Tryd.underlying27 (.int .i64 0) 8 info3 rfl (by decide) (by omega) 0 (ok := fun _ => True) (okp := fun _ => True) rfl (fun _ hk => hk) trivial (zO s3) (Nat.le_trans (Nat.mul_le_mul_right _ (zO s3 : (l0_3.length : Int).toNat ≤ 35184372088832)) (by omega)) (Below.refl _ _) (Nat.le_refl _) ?_; intro v309 w12 ho13 hb hg_ hnew_; clear hg_ hnew_; (first | rw [← Ny308.out] at ho13 | (simp only [Int.reduceToNat] at ho13; rw [← Ny308.out] at ho13)); have HO310 := zM (Kd.R_lower ho13 (below_size q13_2)); replace BK305 := zM (blk_below (g := gb305) q13_1 hb); replace BK306 := zM (blk_below (g := gb306) q13_3 hb); replace HB := zM (below_step q13_2 hb); clear hb ho13; obtain ⟨Ao14, co14, eo14⟩ := Kd.R_slice HO310.out; subst eo14) | ((with_reducible refine gate_dst (N := 4) rfl ?_); refine box_ev (N := 4) (cs := #[.slice none 0 0, .slice none 0 0]) (t := 29) ?_; intro gb311 hg w15 hbox hb; have BK311 := zM (hbox); have GE311 := zM (box_ge (n := w.heap.size) hg (below_size q13_2)); have NB305_311 := zM (box_ne hg (g := gb305) q13_1); have NB311_305 := zM (box_ne' hg (g := gb305) q13_1); have NB306_311 := zM (box_ne hg (g := gb306) q13_3); have NB311_306 := zM (box_ne' hg (g := gb306) q13_3); replace HO310 := zM (Kd.R_below (by (with_reducible repeat (first | apply Kd.R_alloc | apply Kd.R_drewN | apply Kd.R_drew)); exact HO310.out) hb); replace BK305 := zM (blk_below (g := gb305) q13_1 hb); replace BK306 := zM (blk_below (g := gb306) q13_3 hb); replace HB := zM (below_step q13_2 hb); clear hb hbox hg; have hnb16 := NB311_305.out; have hnc16 := NB305_311.out; have hnb17 := NB311_306.out; have hnc17 := NB306_311.out; obtain ⟨hcz18_0, hcz18_1, hfz18_0, hfz18_1⟩ := blk2 BK311.out; obtain ⟨hcz19_0, hcz19_1, hcz19_2, hcz19_3, hfz19_0, hfz19_1, hfz19_2, hfz19_3⟩ := blk4 BK305.out))
    go_loopg [19] k (fun kq v19 w' => ∃ (x19_1 : Int) (x312001_1 : List Int) (u312001 : Value), v19 = .int .i64 x19_1 ∧ Aside0 (state_First.l0 kq l0_1 (l0_1.length : Int) x19_1 y308 x312001_1 = some (r1, r2, r3)) ∧ Aside0 (kq ≤ k) ∧ Aside0 (Kd.R (Kd.int .i64) 3 w' w.heap.size (fun k_ => some k_ ≠ (u312001 : Value).ownBlock) (.slice Ao14 y308.length co14) y308) ∧ Aside0 (Kd.R (Kd.int .i64) 3 w' w.heap.size (fun k_ => some k_ ≠ ((.slice Ao14 y308.length co14) : Value).ownBlock) u312001 x312001_1) ∧ Aside0 (w'.heap[gb305]? = some (.cells #[(.slice A0_0 l0_0.length c0_0), (.slice A0_1 l0_1.length c0_1), (.slice A0_2 l0_2.length c0_2), (.slice A0_3 l0_3.length c0_3)] 26 (0, 0))) ∧ Aside0 (w'.heap[gb306]? = some (.cells #[(.slice none 0 0), (.slice none 0 0)] 29 (0, 0))) ∧ Aside0 (w'.heap[gb311]? = some (.cells #[(.slice Ao14 y308.length co14), u312001] 29 (0, 0))) ∧ Aside0 (Below w.heap.size w w'))
    case atStart => exact ⟨(0), (([] : List Int)), (.slice none 0 0), s7, H', ⟨Nat.le_refl _⟩, ⟨(by (with_reducible repeat (first | apply Kd.R_alloc | apply Kd.R_drewN | apply Kd.R_drew)); exact Kd.R_mono (Kd.R_far (p := ⟨gb311, 1, none⟩) (Kd.R_far (p := ⟨gb311, 0, none⟩) (Kd.R_types HO310.out BK311.out (by decide)) (fun _ hk => hk.2) (.slice Ao14 y308.length co14)) (fun _ hk => hk.2) (.slice none 0 0)) (fun _ hk => (by simp [Value.ownBlock])))⟩, ⟨s4⟩, ⟨(by (iterate 2 ((with_reducible repeat (first | refine blk_drewN ?_ _ | refine blk_drew ?_ | refine blk_alloc ?_ _)); refine blk_far ?_ NB305_311.out _)); (with_reducible repeat (first | refine blk_drewN ?_ _ | refine blk_drew ?_ | refine blk_alloc ?_ _)); exact BK305.out)⟩, ⟨(by (iterate 2 ((with_reducible repeat (first | refine blk_drewN ?_ _ | refine blk_drew ?_ | refine blk_alloc ?_ _)); refine blk_far ?_ NB306_311.out _)); (with_reducible repeat (first | refine blk_drewN ?_ _ | refine blk_drew ?_ | refine blk_alloc ?_ _)); exact BK306.out)⟩, ⟨(by (with_reducible repeat (first | refine blk_drewN ?_ _ | refine blk_drew ?_ | refine blk_alloc ?_ _)); apply blk_fill2; (with_reducible repeat (first | refine blk_drewN ?_ _ | refine blk_drew ?_ | refine blk_alloc ?_ _)); exact BK311.out)⟩, ⟨q13_5⟩⟩
    clear H'
    obtain ⟨x19_1, x312001_1, u312001, rfl, HA, HK1, HO_312000, HO_312001, BK305, BK306, BK311, HB⟩ := hrel
    cases gk with
    | zero => exact absurd HA.out (by simp [state_First.l0])
    | succ k1 =>
     have H := HA.out
     clear HA
     simp only [state_First.l0] at H
     by_cases c20 : x19_1 < (l0_1.length : Int)
     ·
      rw [if_pos c20] at H
      have c20b0 := zD c20
      clear c20
      by_cases c21 : 0 ≤ x19_1
      ·
       rw [if_pos c21] at H
       have c21b0 := zD c21
       clear c21
       by_cases c22 : x19_1 < (l0_1.length : Int)
       ·
        rw [if_pos c22] at H
        have c22b0 := zD c22
        clear c22
        by_cases c23 : x312001_1.length < 17592186044416
        ·
         rw [if_pos c23] at H
         have LMc23 := zM c23
         clear c23
         obtain ⟨y314, hy314⟩ : ∃ y_ : List Int, y_ = (x312001_1 ++ [(rd_T50 l0_1 x19_1).f3]) := ⟨_, rfl⟩
         replace H : (state_First.l0 k1 l0_1 (l0_1.length : Int) (wrap64 (x19_1 + 1)) y308 y314) = some (r1, r2, r3) := by first | (rw [hy314]; with_reducible exact H) | (have H2_ := (Option.bind_some _ _).symm.trans H; rw [hy314]; with_reducible exact H2_) | (have H2_ := (Option.bind_some _ _).symm.trans H; with_reducible exact H2_) | with_reducible exact H | (rw [hy314]; exact H) | exact H
         have Ny314 := zM hy314
         clear hy314
         have H' := zM H
         clear H
         have p312 : 0 ≤ (x19_1 : Int) := zO s3
         have q312 : x19_1 < (l0_1.length : Int) := zO s3
         obtain ⟨ad312, e312, hx312_0, hx312_1, hx312_2, hx312_3⟩ := at_T50 HR0_1.out x19_1 p312 q312
         cases e312
         replace hx312_0 := cell_up HB.out hx312_0
         replace hx312_1 := cell_up HB.out hx312_1
         replace hx312_2 := cell_up HB.out hx312_2
         replace hx312_3 := cell_up HB.out hx312_3
         replace p312 := eq_true p312
         replace q312 := eq_true q312
         go_wp2_with (first | ((with_reducible refine gate_dst (N := 6) rfl ?_); refine box_ev (N := 6) (cs := #[.string (⟨#[]⟩ : ByteArray), .int .i64 0, .int .i64 0, .int .i64 0]) (t := 50) ?_; intro gb313 hg w24 hbox hb; have BK313 := zM (hbox); have GE313 := zM (box_ge (n := w.heap.size) hg (below_size q13_5)); have NB305_313 := zM (box_ne hg (g := gb305) q13_1); have NB313_305 := zM (box_ne' hg (g := gb305) q13_1); have NB306_313 := zM (box_ne hg (g := gb306) q13_3); have NB313_306 := zM (box_ne' hg (g := gb306) q13_3); have NB311_313 := zM (box_ne hg (g := gb311) q13_18); have NB313_311 := zM (box_ne' hg (g := gb311) q13_18); replace HO_312000 := zM (Kd.R_below (by (with_reducible repeat (first | apply Kd.R_alloc | apply Kd.R_drewN | apply Kd.R_drew)); exact HO_312000.out) hb); replace HO_312001 := zM (Kd.R_below (by (with_reducible repeat (first | apply Kd.R_alloc | apply Kd.R_drewN | apply Kd.R_drew)); exact HO_312001.out) hb); replace BK305 := zM (blk_below (g := gb305) q13_1 hb); replace BK306 := zM (blk_below (g := gb306) q13_3 hb); replace BK311 := zM (blk_below (g := gb311) q13_18 hb); replace HB := zM (below_step q13_5 hb); clear hb hbox hg; have hnb25 := NB313_305.out; have hnc25 := NB305_313.out; have hnb26 := NB313_306.out; have hnc26 := NB306_313.out; have hnb27 := NB313_311.out; have hnc27 := NB311_313.out; obtain ⟨hcz28_0, hcz28_1, hcz28_2, hcz28_3, hfz28_0, hfz28_1, hfz28_2, hfz28_3⟩ := blk4 BK313.out; have hnb29 := NB311_305.out; have hnc29 := NB305_311.out; have hnb30 := NB311_306.out; have hnc30 := NB306_311.out; obtain ⟨hcz31_0, hcz31_1, hfz31_0, hfz31_1⟩ := blk2 BK311.out) | ((with_reducible refine gate_builtin (b := .append) (xs := #[.tmp 24, .tmp 27]) rfl ?_); at_builtin; refine Kd.R_append (Kd.int .i64) (w0 := w) w.heap.size rfl (.tmp 24) (.tmp 27) 27 3 (.int .i64 0) 8 rfl Tryd.underlying27 info3 rfl (by decide) (by omega) u312001 x312001_1 ((rd_T50 l0_1 x19_1).f3) [.int .i64 ((rd_T50 l0_1 x19_1).f3)] (fun k_ => some k_ ≠ (.slice Ao14 y308.length co14 : Value).ownBlock) (fun _ => False) rfl (by first | (go_simp; done) | (go_simp; rfl)) ?aP (fun _ hk => hk.elim) ?aF ?aO ?aB ?aS ?aL ?_; (case aP => exact rfl); (case aB => exact q13_7); (case aF => exact (fun k_ hk => Kd.fresh' (Kd.R_lt (by (with_reducible repeat (first | apply Kd.R_alloc | apply Kd.R_drewN | apply Kd.R_drew)); exact (Kd.R_mono (Kd.R_far (p := ⟨gb313, 3, none⟩) (Kd.R_far (p := ⟨gb313, 2, none⟩) (Kd.R_far (p := ⟨gb313, 1, none⟩) (Kd.R_far (p := ⟨gb313, 0, none⟩) (Kd.R_types HO_312000.out BK313.out (by decide)) (fun _ hk => hk.2) (.string ((rd_T50 l0_1 x19_1).f0))) (fun _ hk => hk.2) (.int .i64 ((rd_T50 l0_1 x19_1).f1))) (fun _ hk => hk.2) (.int .i64 ((rd_T50 l0_1 x19_1).f2))) (fun _ hk => hk.2) (.int .i64 ((rd_T50 l0_1 x19_1).f3))) (fun _ h_ => h_.1)))) k_ hk)); (case aO => exact (by (with_reducible repeat (first | apply Kd.R_alloc | apply Kd.R_drewN | apply Kd.R_drew)); exact Kd.R_mono (Kd.R_far (p := ⟨gb313, 3, none⟩) (Kd.R_far (p := ⟨gb313, 2, none⟩) (Kd.R_far (p := ⟨gb313, 1, none⟩) (Kd.R_far (p := ⟨gb313, 0, none⟩) (Kd.R_types HO_312001.out BK313.out (by decide)) (fun _ hk => hk.2) (.string ((rd_T50 l0_1 x19_1).f0))) (fun _ hk => hk.2) (.int .i64 ((rd_T50 l0_1 x19_1).f1))) (fun _ hk => hk.2) (.int .i64 ((rd_T50 l0_1 x19_1).f2))) (fun _ hk => hk.2) (.int .i64 ((rd_T50 l0_1 x19_1).f3))) (fun _ hk => hk.1))); (case aS => exact (below_size q13_7)); (case aL => have := LMc23.out; omega); intro v315 w32 ho hb hg hat; rw [← Ny314.out] at ho; have HO316 := zM (ho); replace HO_312000 := zM (Kd.R_after (ok := (fun _ => True)) (by (with_reducible repeat (first | apply Kd.R_alloc | apply Kd.R_drewN | apply Kd.R_drew)); exact Kd.R_mono (Kd.R_far (p := ⟨gb313, 3, none⟩) (Kd.R_far (p := ⟨gb313, 2, none⟩) (Kd.R_far (p := ⟨gb313, 1, none⟩) (Kd.R_far (p := ⟨gb313, 0, none⟩) (Kd.R_types HO_312000.out BK313.out (by decide)) (fun _ hk => hk.2) (.string ((rd_T50 l0_1 x19_1).f0))) (fun _ hk => hk.2) (.int .i64 ((rd_T50 l0_1 x19_1).f1))) (fun _ hk => hk.2) (.int .i64 ((rd_T50 l0_1 x19_1).f2))) (fun _ hk => hk.2) (.int .i64 ((rd_T50 l0_1 x19_1).f3))) (fun _ hk => ⟨trivial, hk.1⟩)) hg hat); replace BK305 := zM (blk_grown (g := gb305) (o := .cells #[.slice A0_0 l0_0.length c0_0, .slice (some ad312) l0_1.length c0_1, .slice A0_2 l0_2.length c0_2, .slice A0_3 l0_3.length c0_3] 26 (0, 0)) (by (iterate 4 ((with_reducible repeat (first | refine blk_drewN ?_ _ | refine blk_drew ?_ | refine blk_alloc ?_ _)); refine blk_far ?_ NB305_313.out _)); (with_reducible repeat (first | refine blk_drewN ?_ _ | refine blk_drew ?_ | refine blk_alloc ?_ _)); exact BK305.out) hg (Kd.R_ne HO_312001.out BK305.out (by decide))); replace BK306 := zM (blk_grown (g := gb306) (o := .cells #[.slice none 0 0, .slice none 0 0] 29 (0, 0)) (by (iterate 4 ((with_reducible repeat (first | refine blk_drewN ?_ _ | refine blk_drew ?_ | refine blk_alloc ?_ _)); refine blk_far ?_ NB306_313.out _)); (with_reducible repeat (first | refine blk_drewN ?_ _ | refine blk_drew ?_ | refine blk_alloc ?_ _)); exact BK306.out) hg (Kd.R_ne HO_312001.out BK306.out (by decide))); replace BK311 := zM (blk_grown (g := gb311) (o := .cells #[.slice Ao14 y308.length co14, u312001] 29 (0, 0)) (by (iterate 4 ((with_reducible repeat (first | refine blk_drewN ?_ _ | refine blk_drew ?_ | refine blk_alloc ?_ _)); refine blk_far ?_ NB311_313.out _)); (with_reducible repeat (first | refine blk_drewN ?_ _ | refine blk_drew ?_ | refine blk_alloc ?_ _)); exact BK311.out) hg (Kd.R_ne HO_312001.out BK311.out (by decide))); replace BK313 := zM (blk_grown (g := gb313) (o := .cells #[.string ((rd_T50 l0_1 x19_1).f0), .int .i64 ((rd_T50 l0_1 x19_1).f1), .int .i64 ((rd_T50 l0_1 x19_1).f2), .int .i64 ((rd_T50 l0_1 x19_1).f3)] 50 (0, 0)) (by (with_reducible repeat (first | refine blk_drewN ?_ _ | refine blk_drew ?_ | refine blk_alloc ?_ _)); apply blk_fill4; (with_reducible repeat (first | refine blk_drewN ?_ _ | refine blk_drew ?_ | refine blk_alloc ?_ _)); exact BK313.out) hg (Kd.R_ne HO_312001.out BK313.out (by decide))); replace HB := zM (hb); clear HO_312001; clear ho hb hg hat; obtain ⟨Ao33, co33, eo33⟩ := Kd.R_slice HO316.out; subst eo33; obtain ⟨hcz34_0, hcz34_1, hfz34_0, hfz34_1⟩ := blk2 BK311.out))
         go_roundg k1
         case measure => have := HK1.out; omega
         case rel => exact ⟨(wrap64 (x19_1 + 1)), (y314), (.slice Ao33 y314.length co33), s7, H', ⟨(by have := HK1.out; omega)⟩, ⟨(by (with_reducible repeat (first | apply Kd.R_alloc | apply Kd.R_drewN | apply Kd.R_drew)); exact Kd.R_mono (Kd.R_far (p := ⟨gb311, 1, none⟩) (Kd.R_types HO_312000.out BK311.out (by decide)) (fun _ hk => hk.2) (.slice Ao33 y314.length co33)) (fun _ hk => hk.1.2))⟩, ⟨(by (with_reducible repeat (first | apply Kd.R_alloc | apply Kd.R_drewN | apply Kd.R_drew)); exact Kd.R_mono (Kd.R_far (p := ⟨gb311, 1, none⟩) (Kd.R_types HO316.out BK311.out (by decide)) (fun _ hk => hk.2) (.slice Ao33 y314.length co33)) (fun _ hk => hk.1))⟩, ⟨(by (with_reducible repeat (first | refine blk_drewN ?_ _ | refine blk_drew ?_ | refine blk_alloc ?_ _)); refine blk_far ?_ NB305_311.out _; (with_reducible repeat (first | refine blk_drewN ?_ _ | refine blk_drew ?_ | refine blk_alloc ?_ _)); exact BK305.out)⟩, ⟨(by (with_reducible repeat (first | refine blk_drewN ?_ _ | refine blk_drew ?_ | refine blk_alloc ?_ _)); refine blk_far ?_ NB306_311.out _; (with_reducible repeat (first | refine blk_drewN ?_ _ | refine blk_drew ?_ | refine blk_alloc ?_ _)); exact BK306.out)⟩, ⟨(by (with_reducible repeat (first | refine blk_drewN ?_ _ | refine blk_drew ?_ | refine blk_alloc ?_ _)); refine blk_put (cs := #[.slice Ao14 y308.length co14, u312001]) ?_ 1 _ rfl; (with_reducible repeat (first | refine blk_drewN ?_ _ | refine blk_drew ?_ | refine blk_alloc ?_ _)); exact BK311.out)⟩, ⟨q13_7⟩⟩
        rw [if_neg c23] at H
        exact absurd H (by simp)
       rw [if_neg c22] at H
       exact absurd H (by simp)
      rw [if_neg c21] at H
      exact absurd H (by simp)
     rw [if_neg c20] at H
     have c20b0 := decide_eq_false c20
     clear c20
     simp only [Option.some.injEq, Prod.mk.injEq] at H
     obtain ⟨rfl, rfl, rfl⟩ := H
     have hnb35 := NB311_305.out
     have hnc35 := NB305_311.out
     have hnb36 := NB311_306.out
     have hnc36 := NB306_311.out
     obtain ⟨hcz37_0, hcz37_1, hfz37_0, hfz37_1⟩ := blk2 BK311.out
     have hnb38 := NB306_305.out
     have hnc38 := NB305_306.out
     obtain ⟨hcz39_0, hcz39_1, hfz39_0, hfz39_1⟩ := blk2 BK306.out
     obtain ⟨Ao40, co40, eo40⟩ := Kd.R_slice HO_312001.out
     subst eo40
     go_wp2
     refine bodyPost_ret (results_ct rfl _ _ gb306 29 #[.slice Ao14 y308.length co14, .slice Ao40 x312001_1.length co40] (0, 0) _ rfl q13_17 Tryd.underlying29 rfl (by kernel_rfl)) rfl ?_
     exact ⟨_, _, s6, (by (with_reducible repeat (first | apply Kd.R_alloc | apply Kd.R_drewN | apply Kd.R_drew)); exact Kd.R_mono (Kd.R_far (p := ⟨gb306, 1, none⟩) (Kd.R_far (p := ⟨gb306, 0, none⟩) (Kd.R_types HO_312000.out BK306.out (by decide)) (fun _ hk => hk.2) (.slice Ao14 y308.length co14)) (fun _ hk => hk.2) (.slice Ao40 x312001_1.length co40)) (fun _ hk => hk.1)), (by (with_reducible repeat (first | apply Kd.R_alloc | apply Kd.R_drewN | apply Kd.R_drew)); exact Kd.R_mono (Kd.R_far (p := ⟨gb306, 1, none⟩) (Kd.R_far (p := ⟨gb306, 0, none⟩) (Kd.R_types HO_312001.out BK306.out (by decide)) (fun _ hk => hk.2) (.slice Ao14 y308.length co14)) (fun _ hk => hk.2) (.slice Ao40 x312001_1.length co40)) (fun _ hk => hk.1)), q13_5⟩
   rw [if_neg c5] at H
   exact absurd H (by simp)
  rw [if_neg c4] at H
  exact absurd H (by simp)
 replace c3 := Bool.eq_false_iff.mpr c3
 subst c3
 have H1 : (some (([] : List Int), ([] : List Int), 7)) = some (r1, r2, r3) := by rw [if_neg (show ¬ (false = true) by decide)] at H; exact H
 clear H
 have H := H1
 clear H1
 simp only [Option.some.injEq, Prod.mk.injEq] at H
 obtain ⟨rfl, rfl, rfl⟩ := H
 go_enter Tryd.func11, Tryd.ntmps11
 go_wp2_with (first | ((with_reducible refine gate_dst (N := 1) rfl ?_); refine box_ev (N := 1) (cs := #[.slice A0_0 l0_0.length c0_0, .slice A0_1 l0_1.length c0_1, .slice A0_2 l0_2.length c0_2, .slice A0_3 l0_3.length c0_3]) (t := 26) ?_; intro gb305 hg w41 hbox hb; have BK305 := zM (hbox); have GE305 := zM (box_ge (n := w.heap.size) hg (below_size s8)); replace HB := zM (below_step s8 hb); clear hb hbox hg) | ((with_reducible refine gate_dst (N := 2) rfl ?_); refine box_ev (N := 2) (cs := #[.slice none 0 0, .slice none 0 0]) (t := 29) ?_; intro gb306 hg w42 hbox hb; have BK306 := zM (hbox); have GE306 := zM (box_ge (n := w.heap.size) hg (below_size q13_9)); have NB305_306 := zM (box_ne hg (g := gb305) q13_1); have NB306_305 := zM (box_ne' hg (g := gb305) q13_1); replace BK305 := zM (blk_below (g := gb305) q13_1 hb); replace HB := zM (below_step q13_9 hb); clear hb hbox hg; have hnb43 := NB305_306.out; have hnc43 := NB306_305.out; obtain ⟨hcz44_0, hcz44_1, hcz44_2, hcz44_3, hfz44_0, hfz44_1, hfz44_2, hfz44_3⟩ := blk4 BK305.out) | ((with_reducible refine gate_callee (f := 19) rfl ?_); refine goesL_ (some 8) rfl rfl Tryd.func19 (by kernel_rfl) rfl #[.agg #[.slice A0_0 l0_0.length c0_0, .slice A0_1 l0_1.length c0_1, .slice A0_2 l0_2.length c0_2, .slice A0_3 l0_3.length c0_3]] rfl s0 ?_; (with_reducible refine (net_Right.calls k _ _ l0_0 _ _ l0_1 _ _ l0_2 _ _ l0_3 false _ ?side9 ?side1 HC0_0.out ?side3 HC0_1.out ?side5 HC0_2.out ?side7 HC0_3.out A2.out).mono ?_); (case side1 => exact s10); (case side3 => exact s11); (case side5 => exact s12); (case side7 => exact s13); (case side9 => exact s9); rintro e w45 ⟨rfl, hb⟩; refine ⟨_, rfl, ?_⟩; replace BK305 := zM (blk_below (g := gb305) q13_1 hb); replace BK306 := zM (blk_below (g := gb306) q13_3 hb); replace HB := zM (below_step q13_2 hb); (try clear hb); obtain ⟨hcz46_0, hcz46_1, hfz46_0, hfz46_1⟩ := blk2 BK306.out))
 refine bodyPost_ret (results_ct rfl _ _ gb306 29 #[.slice none 0 0, .slice none 0 0] (0, 0) _ rfl q13_17 Tryd.underlying29 rfl (by kernel_rfl)) rfl ?_
 exact ⟨_, _, s6, s4, s4, q13_2⟩

/-! ### state_is_1: function 34 -/
def state_is_1.f (a0_0 : ByteArray) (l0_1 : List (S57)) (l0_2 : List (S90)) (a1 : Int) : Option (Bool) := if a1 ≥ 0 then (some (decide (a1 < (l0_1.length : Int)))) else (some false)
set_option maxHeartbeats 8000000 in
set_option maxRecDepth 100000 in
theorem state_is_1.calls (a0_0 : ByteArray) (A0_1 : Option Addr) (c0_1 : Nat) (l0_1 : List (S57)) (A0_2 : Option Addr) (c0_2 : Nat) (l0_2 : List (S90)) (a1 : Int) (r : Bool) (w : World) (hr0_1 : Kd.C k57 w A0_1 l0_1.length l0_1) (hc0_1 : l0_1.length ≤ c0_1) (hr0_2 : Kd.C k90 w A0_2 l0_2.length l0_2) (hc0_2 : l0_2.length ≤ c0_2) (h : state_is_1.f a0_0 l0_1 l0_2 a1 = some r) :
  Calls Tryd.prog 34 #[.agg #[.string a0_0, .slice A0_1 l0_1.length c0_1, .slice A0_2 l0_2.length c0_2], .int .i64 a1] w fun e w' => e = .returned (.bool r) ∧ Below w.heap.size w w' := by
 have hu61 := Tryd.underlying61
 have HR0_1 := zM hr0_1
 have HC0_1 := zM hc0_1
 clear hr0_1 hc0_1
 have HR0_2 := zM hr0_2
 have HC0_2 := zM hc0_2
 clear hr0_2 hc0_2
 have HB := zM (Below.refl w.heap.size w)
 have H : (if a1 ≥ 0 then (some (decide (a1 < (l0_1.length : Int)))) else (some false)) = some r := h
 clear h
 by_cases c3 : a1 ≥ 0
 ·
  rw [if_pos c3] at H
  have c3b0 := dge c3
  clear c3
  obtain rfl := Option.some.inj H
  go_enter Tryd.func34, Tryd.ntmps34
  go_wp2_with (first | ((with_reducible refine gate_dst (N := 2) rfl ?_); (try (refine gate_guard (by rfl) ?_; dsimp only)); refine box_ev (N := 2) (cs := #[.string a0_0, .slice A0_1 l0_1.length c0_1, .slice A0_2 l0_2.length c0_2]) (t := 61) ?_; intro gb317 hg w4 hbox hb; have BK317 := zM (hbox); have GE317 := zM (box_ge (n := w.heap.size) hg (below_size s8)); replace HB := zM (below_step s8 hb); clear hb hbox hg; obtain ⟨hcz5_0, hcz5_1, hcz5_2, hfz5_0, hfz5_1, hfz5_2⟩ := blk3 BK317.out))
  go_ret
  exact ⟨s6, q13_21⟩
 rw [if_neg c3] at H
 have c3b0 := dnge c3
 clear c3
 obtain rfl := Option.some.inj H
 go_enter Tryd.func34, Tryd.ntmps34
 go_wp2_with (first | ((with_reducible refine gate_dst (N := 2) rfl ?_); (try (refine gate_guard (by rfl) ?_; dsimp only)); refine box_ev (N := 2) (cs := #[.string a0_0, .slice A0_1 l0_1.length c0_1, .slice A0_2 l0_2.length c0_2]) (t := 61) ?_; intro gb317 hg w6 hbox hb; have BK317 := zM (hbox); have GE317 := zM (box_ge (n := w.heap.size) hg (below_size s8)); replace HB := zM (below_step s8 hb); clear hb hbox hg))
 go_ret
 exact ⟨s6, q13_21⟩

/-! ### api_Auto_int_at34: function 900003 -/
def api_Auto_int_at34.l0 : Nat → List Int → List (S61) → Int → Int → Option (Bool)
 | 0, _, _, _, _ => none
 | k + 1, x1, x14, x15, x16 => if x16 < x15 then (if 0 ≤ x16 then (if x16 < (x14.length : Int) then (if x16 < (x1.length : Int) then ((state_is_1.f ((rd_T61 x14 x16).f0) ((rd_T61 x14 x16).f1) ((rd_T61 x14 x16).f2) (rd x1 x16)).bind fun t321 => (if t321 = true then (api_Auto_int_at34.l0 k x1 x14 x15 (wrap64 (x16 + 1))) else (some false))) else (none)) else (none)) else (none)) else (some true)
def api_Auto_int_at34.f (k : Nat) (l0 : List (S61)) (l1 : List Int)  : Option (Bool) := if (l0.length : Int) = (l1.length : Int) then (api_Auto_int_at34.l0 k l1 l0 (l0.length : Int) 0) else (some false)
theorem api_Auto_int_at34.mono_l : ∀ k, (∀ y0 y1 y2 y3, LeO (api_Auto_int_at34.l0 k y0 y1 y2 y3) (api_Auto_int_at34.l0 (k + 1) y0 y1 y2 y3))
 | 0 => fun _ _ _ _ r h => by simp [api_Auto_int_at34.l0] at h
 | k + 1 => by
  have ih0 := api_Auto_int_at34.mono_l k
  ·
   intro y0 y1 y2 y3
   unfold api_Auto_int_at34.l0
   repeat' first | (with_reducible first | exact ih0 _ _ _ _ | exact LeO.refl _ | exact LeO.none _ | refine LeO.ite ?_ ?_ | refine LeO.bind ?_ (fun _ => ?_)) | exact LeO.none _ | refine LeO.ite ?_ ?_ | refine LeO.bind ?_ (fun _ => ?_)
theorem api_Auto_int_at34.mono : ∀ a0 a1 k, LeO (api_Auto_int_at34.f k a0 a1) (api_Auto_int_at34.f (k + 1) a0 a1) := by
 intro a0 a1 k
 have ih0 := api_Auto_int_at34.mono_l k
 unfold api_Auto_int_at34.f
 repeat' first | (with_reducible first | exact ih0 _ _ _ _ | exact LeO.refl _ | exact LeO.none _ | refine LeO.ite ?_ ?_ | refine LeO.bind ?_ (fun _ => ?_)) | exact LeO.none _ | refine LeO.ite ?_ ?_ | refine LeO.bind ?_ (fun _ => ?_)
def api_Auto_int_at34.T6 : Bool × List (List Nat × List Nat) := (true, [([], []), ([], []), ([], []), ([], []), ([2, 3], [2, 3]), ([4], [4]), ([0, 1, 5], [0, 1, 5]), ([6], [6])])
def api_Auto_int_at34.B6 : List Nat := [0, 0, 0, 0, 12, 28, 63, 127]
theorem api_Auto_int_at34.tab6 : rtab .any (opsOf Tryd.f25 6) = api_Auto_int_at34.T6 := by kernel_rfl
theorem api_Auto_int_at34.bits6 : waitsOk api_Auto_int_at34.T6.2 api_Auto_int_at34.B6 = true := by kernel_rfl
set_option maxHeartbeats 8000000 in
set_option maxRecDepth 100000 in
theorem api_Auto_int_at34.calls (k : Nat) (A0 : Option Addr) (c0 : Nat) (l0 : List (S61)) (A1 : Option Addr) (c1 : Nat) (l1 : List Int)  (r : Bool) (w : World) (hr0 : Kd.C k61 w A0 l0.length l0) (hc0 : l0.length ≤ c0) (hr1 : Kd.C (Kd.int .i64) w A1 l1.length l1) (hc1 : l1.length ≤ c1) (h : api_Auto_int_at34.f k l0 l1 = some r) :
  Calls Tryd.prog 25 #[.slice A0 l0.length c0, .slice A1 l1.length c1, .func (.func 34) #[] #[]] w fun e w' => e = .returned (.bool r) ∧ Below w.heap.size w w' := by
 have hu61 := Tryd.underlying61
 have HR0 := zM hr0
 have HC0 := zM hc0
 clear hr0 hc0
 have HR1 := zM hr1
 have HC1 := zM hc1
 clear hr1 hc1
 have HB := zM (Below.refl w.heap.size w)
 have H : (if (l0.length : Int) = (l1.length : Int) then (api_Auto_int_at34.l0 k l1 l0 (l0.length : Int) 0) else (some false)) = some r := h
 clear h
 by_cases c4 : (l0.length : Int) = (l1.length : Int)
 ·
  rw [if_pos c4] at H
  obtain ⟨c4b0, c4b1⟩ := eqb c4
  have c4b2 : (l0.length == l1.length) = true := by first | simpa using c4 | (simp at c4 ⊢; omega)
  clear c4
  have H' := zM H
  clear H
  go_enter Tryd.func25, Tryd.ntmps25
  go_wp2
  go_loopg [16] k (fun kq v16 w' => ∃ (x16_1 : Int), v16 = .int .i64 x16_1 ∧ Aside0 (api_Auto_int_at34.l0 kq l1 l0 (l0.length : Int) x16_1 = some r) ∧ Aside0 (kq ≤ k) ∧ Aside0 (Below w.heap.size w w'))
  case atStart => exact ⟨(0), s7, H', ⟨Nat.le_refl _⟩, ⟨s8⟩⟩
  clear H'
  obtain ⟨x16_1, rfl, HA, HK1, HB⟩ := hrel
  cases gk with
  | zero => exact absurd HA.out (by simp [api_Auto_int_at34.l0])
  | succ k1 =>
   have H := HA.out
   clear HA
   simp only [api_Auto_int_at34.l0] at H
   by_cases c5 : x16_1 < (l0.length : Int)
   ·
    rw [if_pos c5] at H
    have c5b0 := zD c5
    clear c5
    by_cases c6 : 0 ≤ x16_1
    ·
     rw [if_pos c6] at H
     have c6b0 := zD c6
     clear c6
     by_cases c7 : x16_1 < (l0.length : Int)
     ·
      rw [if_pos c7] at H
      have c7b0 := zD c7
      clear c7
      by_cases c8 : x16_1 < (l1.length : Int)
      ·
       rw [if_pos c8] at H
       have c8b0 := zD c8
       clear c8
       replace H := Option.bind_eq_some_iff.mp H
       obtain ⟨t321, A90, H⟩ := H
       replace H : (if t321 = true then (api_Auto_int_at34.l0 k1 l1 l0 (l0.length : Int) (wrap64 (x16_1 + 1))) else (some false)) = some r := H
       have A9 := zM A90
       clear A90
       by_cases c10 : t321 = true
       ·
        subst c10
        have H1 : (api_Auto_int_at34.l0 k1 l1 l0 (l0.length : Int) (wrap64 (x16_1 + 1))) = some r := by rw [if_pos rfl] at H; exact H
        clear H
        have H := H1
        clear H1
        have H' := zM H
        clear H
        have p318 : 0 ≤ (x16_1 : Int) := zO s3
        have q318 : x16_1 < (l0.length : Int) := zO s3
        obtain ⟨ad318, A318_1, c318_1, A318_2, c318_2, e318, hx318_0, hx318_1, hx318_2, HC318_1, HR318_1, HC318_2, HR318_2⟩ := as_T61 HR0.out x16_1 p318 q318
        cases e318
        replace hx318_0 := cell_up HB.out hx318_0
        replace hx318_1 := cell_up HB.out hx318_1
        replace hx318_2 := cell_up HB.out hx318_2
        replace p318 := eq_true p318
        replace q318 := eq_true q318
        try go_wp2_with (first | ((with_reducible refine gate_dst (N := 8) rfl ?_); refine box_ev (N := 8) (cs := #[.string (⟨#[]⟩ : ByteArray), .slice none 0 0, .slice none 0 0]) (t := 61) ?_; intro gb319 hg w11 hbox hb; have BK319 := zM (hbox); have GE319 := zM (box_ge (n := w.heap.size) hg (below_size s8)); replace HB := zM (below_step s8 hb); clear hb hbox hg; obtain ⟨hcz12_0, hcz12_1, hcz12_2, hfz12_0, hfz12_1, hfz12_2⟩ := blk3 BK319.out))
        have n0_ : Aside0 ((((w11.setCell ⟨gb319, 0, none⟩ (.string ((rd_T61 l0 x16_1).f0))).setCell ⟨gb319, 1, none⟩ (.slice A318_1 ((rd_T61 l0 x16_1).f1).length c318_1)).setCell ⟨gb319, 2, none⟩ (.slice A318_2 ((rd_T61 l0 x16_1).f2).length c318_2)).heap[gb319]? = some (.cells #[.string ((rd_T61 l0 x16_1).f0), .slice A318_1 ((rd_T61 l0 x16_1).f1).length c318_1, .slice A318_2 ((rd_T61 l0 x16_1).f2).length c318_2] 61 (0, 0))) := ⟨by (with_reducible repeat (first | refine blk_drewN ?_ _ | refine blk_drew ?_ | refine blk_alloc ?_ _)); apply blk_fill3; (with_reducible repeat (first | refine blk_drewN ?_ _ | refine blk_drew ?_ | refine blk_alloc ?_ _)); exact BK319.out⟩
        have n1_ : Aside0 (Below w.heap.size w (((w11.setCell ⟨gb319, 0, none⟩ (.string ((rd_T61 l0 x16_1).f0))).setCell ⟨gb319, 1, none⟩ (.slice A318_1 ((rd_T61 l0 x16_1).f1).length c318_1)).setCell ⟨gb319, 2, none⟩ (.slice A318_2 ((rd_T61 l0 x16_1).f2).length c318_2))) := ⟨by repeat (first | (with_reducible first | exact HB.out | apply below_alloc | apply pw_below_drewN | apply below_drew1 | refine below_set ?_ GE319.out) | exact HB.out)⟩
        (try clear BK319)
        (try clear HB)
        generalize (((w11.setCell ⟨gb319, 0, none⟩ (.string ((rd_T61 l0 x16_1).f0))).setCell ⟨gb319, 1, none⟩ (.slice A318_1 ((rd_T61 l0 x16_1).f1).length c318_1)).setCell ⟨gb319, 2, none⟩ (.slice A318_2 ((rd_T61 l0 x16_1).f2).length c318_2)) = w13 at n0_ n1_ ⊢
        have BK319 := n0_
        have HB := n1_
        clear n0_ n1_
        have n0_ := zM (blk_drew BK319.out)
        have n1_ := zM (below_drew1 HB.out)
        clear BK319
        clear HB
        have BK319 := n0_
        have HB := n1_
        clear n0_ n1_
        have p320 : 0 ≤ (x16_1 : Int) := zO s3
        have q320 : x16_1 < (l1.length : Int) := zO s3
        obtain ⟨ad320, e320, hx320_0⟩ := Kd.at_int HR1.out x16_1 p320 q320
        have hw320_0 := hx320_0
        cases e320
        replace hx320_0 := cell_up HB.out hx320_0
        replace p320 := eq_true p320
        replace q320 := eq_true q320
        refine start_ (n := 8) (S := fun w' => w'.cell? ⟨gb319, 0, none⟩ = some (.string ((rd_T61 l0 x16_1).f0)) ∧ w'.cell? ⟨gb319, 1, none⟩ = some (.slice A318_1 ((rd_T61 l0 x16_1).f1).length c318_1) ∧ w'.cell? ⟨gb319, 2, none⟩ = some (.slice A318_2 ((rd_T61 l0 x16_1).f2).length c318_2) ∧ w'.cell? (ad320.add (x16_1).toNat) = some (.int .i64 (rd l1 x16_1))) (ds := []) #[false, false, false, false, false, false, false, false] (by kernel_rfl) rfl rfl ⟨(blk_cell BK319.out 0).trans rfl, (blk_cell BK319.out 1).trans rfl, (blk_cell BK319.out 2).trans rfl, ((HB.out.cell (World.block_lt_of_cell? w _ hw320_0)).trans hw320_0)⟩ (fun hHeld => ?_); refine with_tabW api_Auto_int_at34.tab6 api_Auto_int_at34.bits6 (fun HT_ HW_ => ?_)
        generalize w13.drew = w14 at BK319 HB hx320_0 hHeld ⊢
        refine pure_ (i := 0) (N := some 21) (v := ?_) (a' := ?_) #[true, false, false, false, false, false, false, false] rfl rfl (any_of HT_.out (by kernel_rfl)) (fun _ _ _ h => h) (Or.inl ⟨by rfl, ?_⟩) ?_ ?_
        rotate_left
        ·
         intro w'
         go_simp
         with_reducible rfl
        rotate_left
        ·
         simp only [Act.put, List.setIfInBounds_toArray, List.set_cons_zero, List.set_cons_succ, i64_w, i32_w]
         rfl
        refine pure_ (i := 2) (N := some 23) (v := ?_) (a' := ?_) #[true, false, true, false, false, false, false, false] rfl rfl (any_of HT_.out (by kernel_rfl)) (fun _ _ _ h => h) (Or.inl ⟨by rfl, ?_⟩) ?_ ?_
        rotate_left
        ·
         intro w'
         go_simp
         with_reducible rfl
        rotate_left
        ·
         simp only [Act.put, List.setIfInBounds_toArray, List.set_cons_zero, List.set_cons_succ, i64_w, i32_w]
         rfl
        refine pure_ (i := 3) (N := some 24) (v := ?_) (a' := ?_) #[true, false, true, true, false, false, false, false] rfl rfl (any_of HT_.out (by kernel_rfl)) (fun _ _ _ h => h) (Or.inl ⟨by rfl, ?_⟩) ?_ ?_
        rotate_left
        ·
         intro w'
         go_simp
         with_reducible rfl
        rotate_left
        ·
         simp only [Act.put, List.setIfInBounds_toArray, List.set_cons_zero, List.set_cons_succ, i64_w, i32_w]
         rfl
        refine pure_ (i := 4) (N := some 25) (v := ?_) (a' := ?_) #[true, false, true, true, true, false, false, false] rfl rfl (any_of HT_.out (by kernel_rfl)) (fun _ _ _ h => h) (Or.inl ⟨by rfl, ?_⟩) ?_ ?_
        rotate_left
        ·
         intro w'
         go_simp
         with_reducible rfl
        rotate_left
        ·
         simp only [Act.put, List.setIfInBounds_toArray, List.set_cons_zero, List.set_cons_succ, i64_w, i32_w]
         rfl
        refine take_ (i := 1) (N := some 22) (v := ?_) (a' := ?_) #[true, true, true, true, true, false, false, false] rfl rfl (take_ofW HT_.out HW_.out (by kernel_rfl)) (fun _ _ _ h => h) (Or.inl ⟨by rfl, ?_⟩) hHeld ?_ ?_
        rotate_left
        ·
         rintro w' ⟨s0, s1, s2, s3⟩
         go_simp
         with_reducible rfl
        rotate_left
        ·
         simp only [Act.put, List.setIfInBounds_toArray, List.set_cons_zero, List.set_cons_succ, i64_w, i32_w]
         rfl
        refine take_ (i := 5) (N := some 26) (v := ?_) (a' := ?_) #[true, true, true, true, true, true, false, false] rfl rfl (take_ofW HT_.out HW_.out (by kernel_rfl)) (fun _ _ _ h => h) (Or.inl ⟨by rfl, ?_⟩) hHeld ?_ ?_
        rotate_left
        ·
         rintro w' ⟨s0, s1, s2, s3⟩
         go_simp
         with_reducible rfl
        rotate_left
        ·
         simp only [Act.put, List.setIfInBounds_toArray, List.set_cons_zero, List.set_cons_succ, i64_w, i32_w]
         rfl
        refine one_ (i := 6) (N := some 27) #[true, true, true, true, true, true, true, false] rfl rfl (one_of HT_.out (by kernel_rfl)) (by decide) (fun K hK => ?_)
        first
         | (refine goes_ Tryd.func34 (by kernel_rfl) rfl #[.agg #[.string ((rd_T61 l0 x16_1).f0), .slice A318_1 ((rd_T61 l0 x16_1).f1).length c318_1, .slice A318_2 ((rd_T61 l0 x16_1).f2).length c318_2], .int .i64 (rd l1 x16_1)] (by rfl) rfl rfl s0 ?_)
         | (refine goest_ Tryd.func34 (by kernel_rfl) rfl #[.agg #[.string ((rd_T61 l0 x16_1).f0), .slice A318_1 ((rd_T61 l0 x16_1).f1).length c318_1, .slice A318_2 ((rd_T61 l0 x16_1).f2).length c318_2], .int .i64 (rd l1 x16_1)] (by rfl) rfl rfl rfl s0 ?_)
        with_reducible refine (state_is_1.calls ((rd_T61 l0 x16_1).f0) _ _ ((rd_T61 l0 x16_1).f1) _ _ ((rd_T61 l0 x16_1).f2) (rd l1 x16_1) true _ ?side1 ?side2 ?side3 ?side4 A9.out).mono ?_
        (case side1 => exact q13_20)
        (case side2 => exact HC318_1.out)
        (case side3 => exact q13_19)
        (case side4 => exact HC318_2.out)
        rintro e w15 ⟨rfl, hb⟩
        refine ⟨_, rfl, ?_⟩
        have n0_ := zM (blk_below (g := gb319) q13_24 hb)
        have n1_ := zM (below_step q13_8 hb)
        clear BK319
        clear HB
        have BK319 := n0_
        have HB := n1_
        clear n0_ n1_
        (try clear hb)
        (try clear hb2)
        (try clear hk)
        (try clear hi)
        refine hK.out _ _ ⟨(blk_cell BK319.out 0).trans rfl, (blk_cell BK319.out 1).trans rfl, (blk_cell BK319.out 2).trans rfl, ((HB.out.cell (World.block_lt_of_cell? w _ hw320_0)).trans hw320_0)⟩ (fun hHeld => ?_)
        clear hK K
        refine norm_ (a' := ?_) ?_ ?_
        rotate_left
        ·
         show Act.put _ (some 27) _ = _
         simp only [Act.put, List.setIfInBounds_toArray, List.set_cons_zero, List.set_cons_succ, i64_w, i32_w]
         rfl
        refine pure_ (i := 7) (N := some 28) (v := ?_) (a' := ?_) #[true, true, true, true, true, true, true, true] rfl rfl (any_of HT_.out (by kernel_rfl)) (fun _ _ _ h => h) (Or.inl ⟨by rfl, ?_⟩) ?_ ?_
        rotate_left
        ·
         intro w'
         go_simp
         with_reducible rfl
        rotate_left
        ·
         simp only [Act.put, List.setIfInBounds_toArray, List.set_cons_zero, List.set_cons_succ, i64_w, i32_w]
         rfl
        refine done_ (done_of HT_.out (by kernel_rfl)) ?_
        try go_wp2
        go_roundg k1
        case measure => have := HK1.out; omega
        case rel => exact ⟨(wrap64 (x16_1 + 1)), s7, H', ⟨(by have := HK1.out; omega)⟩, ⟨q13_8⟩⟩
       replace c10 := Bool.eq_false_iff.mpr c10
       subst c10
       have H1 : (some false) = some r := by rw [if_neg (show ¬ (false = true) by decide)] at H; exact H
       clear H
       have H := H1
       clear H1
       obtain rfl := Option.some.inj H
       have p318 : 0 ≤ (x16_1 : Int) := zO s3
       have q318 : x16_1 < (l0.length : Int) := zO s3
       obtain ⟨ad318, A318_1, c318_1, A318_2, c318_2, e318, hx318_0, hx318_1, hx318_2, HC318_1, HR318_1, HC318_2, HR318_2⟩ := as_T61 HR0.out x16_1 p318 q318
       cases e318
       replace hx318_0 := cell_up HB.out hx318_0
       replace hx318_1 := cell_up HB.out hx318_1
       replace hx318_2 := cell_up HB.out hx318_2
       replace p318 := eq_true p318
       replace q318 := eq_true q318
       try go_wp2_with (first | ((with_reducible refine gate_dst (N := 8) rfl ?_); refine box_ev (N := 8) (cs := #[.string (⟨#[]⟩ : ByteArray), .slice none 0 0, .slice none 0 0]) (t := 61) ?_; intro gb319 hg w16 hbox hb; have BK319 := zM (hbox); have GE319 := zM (box_ge (n := w.heap.size) hg (below_size s8)); replace HB := zM (below_step s8 hb); clear hb hbox hg; obtain ⟨hcz17_0, hcz17_1, hcz17_2, hfz17_0, hfz17_1, hfz17_2⟩ := blk3 BK319.out))
       have n0_ : Aside0 ((((w16.setCell ⟨gb319, 0, none⟩ (.string ((rd_T61 l0 x16_1).f0))).setCell ⟨gb319, 1, none⟩ (.slice A318_1 ((rd_T61 l0 x16_1).f1).length c318_1)).setCell ⟨gb319, 2, none⟩ (.slice A318_2 ((rd_T61 l0 x16_1).f2).length c318_2)).heap[gb319]? = some (.cells #[.string ((rd_T61 l0 x16_1).f0), .slice A318_1 ((rd_T61 l0 x16_1).f1).length c318_1, .slice A318_2 ((rd_T61 l0 x16_1).f2).length c318_2] 61 (0, 0))) := ⟨by (with_reducible repeat (first | refine blk_drewN ?_ _ | refine blk_drew ?_ | refine blk_alloc ?_ _)); apply blk_fill3; (with_reducible repeat (first | refine blk_drewN ?_ _ | refine blk_drew ?_ | refine blk_alloc ?_ _)); exact BK319.out⟩
       have n1_ : Aside0 (Below w.heap.size w (((w16.setCell ⟨gb319, 0, none⟩ (.string ((rd_T61 l0 x16_1).f0))).setCell ⟨gb319, 1, none⟩ (.slice A318_1 ((rd_T61 l0 x16_1).f1).length c318_1)).setCell ⟨gb319, 2, none⟩ (.slice A318_2 ((rd_T61 l0 x16_1).f2).length c318_2))) := ⟨by repeat (first | (with_reducible first | exact HB.out | apply below_alloc | apply pw_below_drewN | apply below_drew1 | refine below_set ?_ GE319.out) | exact HB.out)⟩
       (try clear BK319)
       (try clear HB)
       generalize (((w16.setCell ⟨gb319, 0, none⟩ (.string ((rd_T61 l0 x16_1).f0))).setCell ⟨gb319, 1, none⟩ (.slice A318_1 ((rd_T61 l0 x16_1).f1).length c318_1)).setCell ⟨gb319, 2, none⟩ (.slice A318_2 ((rd_T61 l0 x16_1).f2).length c318_2)) = w18 at n0_ n1_ ⊢
       have BK319 := n0_
       have HB := n1_
       clear n0_ n1_
       have n0_ := zM (blk_drew BK319.out)
       have n1_ := zM (below_drew1 HB.out)
       clear BK319
       clear HB
       have BK319 := n0_
       have HB := n1_
       clear n0_ n1_
       have p320 : 0 ≤ (x16_1 : Int) := zO s3
       have q320 : x16_1 < (l1.length : Int) := zO s3
       obtain ⟨ad320, e320, hx320_0⟩ := Kd.at_int HR1.out x16_1 p320 q320
       have hw320_0 := hx320_0
       cases e320
       replace hx320_0 := cell_up HB.out hx320_0
       replace p320 := eq_true p320
       replace q320 := eq_true q320
       refine start_ (n := 8) (S := fun w' => w'.cell? ⟨gb319, 0, none⟩ = some (.string ((rd_T61 l0 x16_1).f0)) ∧ w'.cell? ⟨gb319, 1, none⟩ = some (.slice A318_1 ((rd_T61 l0 x16_1).f1).length c318_1) ∧ w'.cell? ⟨gb319, 2, none⟩ = some (.slice A318_2 ((rd_T61 l0 x16_1).f2).length c318_2) ∧ w'.cell? (ad320.add (x16_1).toNat) = some (.int .i64 (rd l1 x16_1))) (ds := []) #[false, false, false, false, false, false, false, false] (by kernel_rfl) rfl rfl ⟨(blk_cell BK319.out 0).trans rfl, (blk_cell BK319.out 1).trans rfl, (blk_cell BK319.out 2).trans rfl, ((HB.out.cell (World.block_lt_of_cell? w _ hw320_0)).trans hw320_0)⟩ (fun hHeld => ?_); refine with_tabW api_Auto_int_at34.tab6 api_Auto_int_at34.bits6 (fun HT_ HW_ => ?_)
       generalize w18.drew = w19 at BK319 HB hx320_0 hHeld ⊢
       refine pure_ (i := 0) (N := some 21) (v := ?_) (a' := ?_) #[true, false, false, false, false, false, false, false] rfl rfl (any_of HT_.out (by kernel_rfl)) (fun _ _ _ h => h) (Or.inl ⟨by rfl, ?_⟩) ?_ ?_
       rotate_left
       ·
        intro w'
        go_simp
        with_reducible rfl
       rotate_left
       ·
        simp only [Act.put, List.setIfInBounds_toArray, List.set_cons_zero, List.set_cons_succ, i64_w, i32_w]
        rfl
       refine pure_ (i := 2) (N := some 23) (v := ?_) (a' := ?_) #[true, false, true, false, false, false, false, false] rfl rfl (any_of HT_.out (by kernel_rfl)) (fun _ _ _ h => h) (Or.inl ⟨by rfl, ?_⟩) ?_ ?_
       rotate_left
       ·
        intro w'
        go_simp
        with_reducible rfl
       rotate_left
       ·
        simp only [Act.put, List.setIfInBounds_toArray, List.set_cons_zero, List.set_cons_succ, i64_w, i32_w]
        rfl
       refine pure_ (i := 3) (N := some 24) (v := ?_) (a' := ?_) #[true, false, true, true, false, false, false, false] rfl rfl (any_of HT_.out (by kernel_rfl)) (fun _ _ _ h => h) (Or.inl ⟨by rfl, ?_⟩) ?_ ?_
       rotate_left
       ·
        intro w'
        go_simp
        with_reducible rfl
       rotate_left
       ·
        simp only [Act.put, List.setIfInBounds_toArray, List.set_cons_zero, List.set_cons_succ, i64_w, i32_w]
        rfl
       refine pure_ (i := 4) (N := some 25) (v := ?_) (a' := ?_) #[true, false, true, true, true, false, false, false] rfl rfl (any_of HT_.out (by kernel_rfl)) (fun _ _ _ h => h) (Or.inl ⟨by rfl, ?_⟩) ?_ ?_
       rotate_left
       ·
        intro w'
        go_simp
        with_reducible rfl
       rotate_left
       ·
        simp only [Act.put, List.setIfInBounds_toArray, List.set_cons_zero, List.set_cons_succ, i64_w, i32_w]
        rfl
       refine take_ (i := 1) (N := some 22) (v := ?_) (a' := ?_) #[true, true, true, true, true, false, false, false] rfl rfl (take_ofW HT_.out HW_.out (by kernel_rfl)) (fun _ _ _ h => h) (Or.inl ⟨by rfl, ?_⟩) hHeld ?_ ?_
       rotate_left
       ·
        rintro w' ⟨s0, s1, s2, s3⟩
        go_simp
        with_reducible rfl
       rotate_left
       ·
        simp only [Act.put, List.setIfInBounds_toArray, List.set_cons_zero, List.set_cons_succ, i64_w, i32_w]
        rfl
       refine take_ (i := 5) (N := some 26) (v := ?_) (a' := ?_) #[true, true, true, true, true, true, false, false] rfl rfl (take_ofW HT_.out HW_.out (by kernel_rfl)) (fun _ _ _ h => h) (Or.inl ⟨by rfl, ?_⟩) hHeld ?_ ?_
       rotate_left
       ·
        rintro w' ⟨s0, s1, s2, s3⟩
        go_simp
        with_reducible rfl
       rotate_left
       ·
        simp only [Act.put, List.setIfInBounds_toArray, List.set_cons_zero, List.set_cons_succ, i64_w, i32_w]
        rfl
       refine one_ (i := 6) (N := some 27) #[true, true, true, true, true, true, true, false] rfl rfl (one_of HT_.out (by kernel_rfl)) (by decide) (fun K hK => ?_)
       first
        | (refine goes_ Tryd.func34 (by kernel_rfl) rfl #[.agg #[.string ((rd_T61 l0 x16_1).f0), .slice A318_1 ((rd_T61 l0 x16_1).f1).length c318_1, .slice A318_2 ((rd_T61 l0 x16_1).f2).length c318_2], .int .i64 (rd l1 x16_1)] (by rfl) rfl rfl s0 ?_)
        | (refine goest_ Tryd.func34 (by kernel_rfl) rfl #[.agg #[.string ((rd_T61 l0 x16_1).f0), .slice A318_1 ((rd_T61 l0 x16_1).f1).length c318_1, .slice A318_2 ((rd_T61 l0 x16_1).f2).length c318_2], .int .i64 (rd l1 x16_1)] (by rfl) rfl rfl rfl s0 ?_)
       with_reducible refine (state_is_1.calls ((rd_T61 l0 x16_1).f0) _ _ ((rd_T61 l0 x16_1).f1) _ _ ((rd_T61 l0 x16_1).f2) (rd l1 x16_1) false _ ?side1 ?side2 ?side3 ?side4 A9.out).mono ?_
       (case side1 => exact q13_20)
       (case side2 => exact HC318_1.out)
       (case side3 => exact q13_19)
       (case side4 => exact HC318_2.out)
       rintro e w20 ⟨rfl, hb⟩
       refine ⟨_, rfl, ?_⟩
       have n0_ := zM (blk_below (g := gb319) q13_24 hb)
       have n1_ := zM (below_step q13_8 hb)
       clear BK319
       clear HB
       have BK319 := n0_
       have HB := n1_
       clear n0_ n1_
       (try clear hb)
       (try clear hb2)
       (try clear hk)
       (try clear hi)
       refine hK.out _ _ ⟨(blk_cell BK319.out 0).trans rfl, (blk_cell BK319.out 1).trans rfl, (blk_cell BK319.out 2).trans rfl, ((HB.out.cell (World.block_lt_of_cell? w _ hw320_0)).trans hw320_0)⟩ (fun hHeld => ?_)
       clear hK K
       refine norm_ (a' := ?_) ?_ ?_
       rotate_left
       ·
        show Act.put _ (some 27) _ = _
        simp only [Act.put, List.setIfInBounds_toArray, List.set_cons_zero, List.set_cons_succ, i64_w, i32_w]
        rfl
       refine pure_ (i := 7) (N := some 28) (v := ?_) (a' := ?_) #[true, true, true, true, true, true, true, true] rfl rfl (any_of HT_.out (by kernel_rfl)) (fun _ _ _ h => h) (Or.inl ⟨by rfl, ?_⟩) ?_ ?_
       rotate_left
       ·
        intro w'
        go_simp
        with_reducible rfl
       rotate_left
       ·
        simp only [Act.put, List.setIfInBounds_toArray, List.set_cons_zero, List.set_cons_succ, i64_w, i32_w]
        rfl
       refine done_ (done_of HT_.out (by kernel_rfl)) ?_
       try go_wp2
       go_ret
       exact ⟨s6, q13_8⟩
      rw [if_neg c8] at H
      exact absurd H (by simp)
     rw [if_neg c7] at H
     exact absurd H (by simp)
    rw [if_neg c6] at H
    exact absurd H (by simp)
   rw [if_neg c5] at H
   have c5b0 := decide_eq_false c5
   clear c5
   obtain rfl := Option.some.inj H
   go_wp2
   go_ret
   exact ⟨s6, s8⟩
 rw [if_neg c4] at H
 obtain ⟨c4b0, c4b1⟩ := neb c4
 have c4b2 : (l0.length == l1.length) = false := by first | simpa using c4 | (simp at c4 ⊢; omega)
 obtain rfl := Option.some.inj H
 go_enter Tryd.func25, Tryd.ntmps25
 go_wp2
 go_ret
 exact ⟨s6, s8⟩

end Go.Proofs.YtpmhfahligjhaaaDoor.POrd
