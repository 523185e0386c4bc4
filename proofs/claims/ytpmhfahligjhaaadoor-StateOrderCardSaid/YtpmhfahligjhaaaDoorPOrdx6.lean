-- written by wip/tools/xprint.py (over the kit's print.py): not trusted, Lean checks it.
import Derived.Test.YtpmhfahligjhaaaDoorPOrdx0
import Derived.Test.YtpmhfahligjhaaaDoorPOrdx4
import Derived.Test.YtpmhfahligjhaaaDoorPOrdx5
-- compact
namespace Go.Proofs.YtpmhfahligjhaaaDoor.POrd
open Go.RowKit Go.Proofs.YtpmhfahligjhaaaDoorW.PrintWords Go.Proofs.YtpmhfahligjhaaaDoorW.PrintLast Go.Proofs.YtpmhfahligjhaaaDoorW.PrintMore Go.Proofs.YtpmhfahligjhaaaDoorXW
attribute [local go_sem high] Option.map_some
attribute [local go_sem] max2_int max_two
set_option linter.unusedVariables false
set_option linter.unusedSimpArgs false

theorem q6_0 {p : Prop} (h : p := by repeat (first | (with_reducible first | exact HB.out | apply below_alloc | apply pw_below_drewN | apply below_drew1 | refine below_set ?_ GE176.out) | exact HB.out)) : p := h
theorem q6_1 {p : Prop} (h : p := by repeat (first | (with_reducible first | exact HB.out | apply below_alloc | apply pw_below_drewN | apply below_drew1 | refine below_set ?_ GE176.out | refine below_set ?_ GE182.out) | exact HB.out)) : p := h
theorem q6_2 {p : Prop} (h : p := by repeat (first | (with_reducible first | exact HB.out | apply below_alloc | apply pw_below_drewN | apply below_drew1 | refine below_set ?_ GE187.out) | exact HB.out)) : p := h
theorem q6_3 {p : Prop} (h : p := by (with_reducible repeat (first | refine blk_drewN ?_ _ | refine blk_drew ?_ | refine blk_alloc ?_ _)); exact BK187.out) : p := h
theorem q6_4 {p : Prop} (h : p := by (with_reducible repeat (first | refine blk_drewN ?_ _ | refine blk_drew ?_ | refine blk_alloc ?_ _)); exact BK176.out) : p := h
theorem q6_6 {p : Prop} (h : p := by (with_reducible repeat (first | refine blk_drewN ?_ _ | refine blk_drew ?_ | refine blk_alloc ?_ _)); exact BK190.out) : p := h
theorem q6_7 {p : Prop} (h : p := by repeat (first | (with_reducible first | exact HB.out | apply below_alloc | apply pw_below_drewN | apply below_drew1 | refine below_set ?_ GE190.out | refine below_set ?_ GE192.out) | exact HB.out)) : p := h
theorem q6_11 {p : Prop} (h : p := by repeat (first | (with_reducible first | exact HB.out | apply below_alloc | apply pw_below_drewN | apply below_drew1 | refine below_set ?_ GE187.out | refine below_set ?_ GE189.out) | exact HB.out)) : p := h
theorem q6_12 {p : Prop} (h : p := by (with_reducible repeat (first | refine blk_drewN ?_ _ | refine blk_drew ?_ | refine blk_alloc ?_ _)); exact BK192.out) : p := h
theorem q6_14 {p : Prop} (h : p := by repeat (first | (with_reducible first | exact HB.out | apply below_alloc | apply pw_below_drewN | apply below_drew1 | refine below_set ?_ GE190.out) | exact HB.out)) : p := h
theorem q6_15 {p : Prop} (h : p := by repeat (first | (with_reducible first | exact HB.out | apply below_alloc | apply pw_below_drewN | apply below_drew1 | refine below_set ?_ GE170.out) | exact HB.out)) : p := h
theorem q6_16 {p : Prop} (h : p := by (with_reducible repeat (first | refine blk_drewN ?_ _ | refine blk_drew ?_ | refine blk_alloc ?_ _)); exact BK170.out) : p := h
theorem q6_17 {p : Prop} (h : p := by repeat (first | (with_reducible first | exact HB.out | apply below_alloc | apply pw_below_drewN | apply below_drew1 | refine below_set ?_ GE170.out | refine below_set ?_ GE172.out) | exact HB.out)) : p := h
theorem q6_19 {p : Prop} (h : p := by (iterate 3 ((with_reducible repeat (first | refine blk_drewN ?_ _ | refine blk_drew ?_ | refine blk_alloc ?_ _)); refine blk_far ?_ NB176_182.out _)); (with_reducible repeat (first | refine blk_drewN ?_ _ | refine blk_drew ?_ | refine blk_alloc ?_ _)); exact BK176.out) : p := h
theorem q6_20 {p : Prop} (h : p := by (with_reducible repeat (first | refine blk_drewN ?_ _ | refine blk_drew ?_ | refine blk_alloc ?_ _)); apply blk_fill3; (with_reducible repeat (first | refine blk_drewN ?_ _ | refine blk_drew ?_ | refine blk_alloc ?_ _)); exact BK182.out) : p := h
theorem q6_21 {p : Prop} (h : p := by repeat (first | (with_reducible first | exact HB.out | apply below_alloc | apply pw_below_drewN | apply below_drew1 | refine below_set ?_ GE190.out | refine below_set ?_ GE192.out | refine below_set ?_ GE194.out) | exact HB.out)) : p := h
theorem q6_24 {p : Prop} (h : p := by repeat (first | exact (Kd.R_reads' HO185.out).2.2 | (with_reducible refine Kd.C_alloc ?_ _) | (with_reducible refine Kd.C_drewN ?_ _) | (with_reducible refine Kd.C_drew ?_))) : p := h
theorem q6_25 {p : Prop} (h : p := by repeat (first | exact (Kd.R_reads' HO179.out).2.2 | (with_reducible refine Kd.C_alloc ?_ _) | (with_reducible refine Kd.C_drewN ?_ _) | (with_reducible refine Kd.C_drew ?_))) : p := h
theorem q6_26 {p : Prop} (h : p := by (with_reducible repeat (first | refine blk_drewN ?_ _ | refine blk_drew ?_ | refine blk_alloc ?_ _)); exact BK182.out) : p := h
theorem q6_27 {p : Prop} (h : p := by (with_reducible repeat (first | apply Kd.R_alloc | apply Kd.R_drewN | apply Kd.R_drew)); exact HO185.out) : p := h
theorem q6_28 {p : Prop} (h : p := by (with_reducible repeat (first | apply Kd.R_alloc | apply Kd.R_drewN | apply Kd.R_drew)); exact HO179.out) : p := h
/-! ### net_locNames: function 53 -/
def net_locNames.l0 : Nat → List ByteArray → List (S57) → Int → Int → Option (List ByteArray)
 | 0, _, _, _, _ => none
 | k + 1, x3, x7, x8, x9 => if x9 < x8 then (if 0 ≤ x9 then (if x9 < (x7.length : Int) then (if x3.length < 8796093022208 then (net_locNames.l0 k (x3 ++ [(rd_T57 x7 x9).f0]) x7 x8 (wrap64 (x9 + 1))) else (none)) else (none)) else (none)) else (some x3)
def net_locNames.f (k : Nat) (a0_0 : ByteArray) (l0_1 : List (S57)) (l0_2 : List (S90)) : Option (List ByteArray) := net_locNames.l0 k ([] : List ByteArray) l0_1 (l0_1.length : Int) 0
theorem net_locNames.mono_l : ∀ k, (∀ y0 y1 y2 y3, LeO (net_locNames.l0 k y0 y1 y2 y3) (net_locNames.l0 (k + 1) y0 y1 y2 y3))
 | 0 => fun _ _ _ _ r h => by simp [net_locNames.l0] at h
 | k + 1 => by
  have ih0 := net_locNames.mono_l k
  ·
   intro y0 y1 y2 y3
   unfold net_locNames.l0
   repeat' first | (with_reducible first | exact ih0 _ _ _ _ | exact LeO.refl _ | exact LeO.none _ | refine LeO.ite ?_ ?_ | refine LeO.bind ?_ (fun _ => ?_)) | exact LeO.none _ | refine LeO.ite ?_ ?_ | refine LeO.bind ?_ (fun _ => ?_)
theorem net_locNames.mono : ∀ a0 a1 a2 k, LeO (net_locNames.f k a0 a1 a2) (net_locNames.f (k + 1) a0 a1 a2) := by
 intro a0 a1 a2 k
 have ih0 := net_locNames.mono_l k
 unfold net_locNames.f
 repeat' first | (with_reducible first | exact ih0 _ _ _ _ | exact LeO.refl _ | exact LeO.none _ | refine LeO.ite ?_ ?_ | refine LeO.bind ?_ (fun _ => ?_)) | exact LeO.none _ | refine LeO.ite ?_ ?_ | refine LeO.bind ?_ (fun _ => ?_)
set_option maxHeartbeats 8000000 in
set_option maxRecDepth 100000 in
theorem net_locNames.calls (k : Nat) (a0_0 : ByteArray) (A0_1 : Option Addr) (c0_1 : Nat) (l0_1 : List (S57)) (A0_2 : Option Addr) (c0_2 : Nat) (l0_2 : List (S90)) (r : List ByteArray) (w : World) (hr0_1 : Kd.C k57 w A0_1 l0_1.length l0_1) (hc0_1 : l0_1.length ≤ c0_1) (hr0_2 : Kd.C k90 w A0_2 l0_2.length l0_2) (hc0_2 : l0_2.length ≤ c0_2) (h : net_locNames.f k a0_0 l0_1 l0_2 = some r) :
  Calls Tryd.prog 53 #[.agg #[.string a0_0, .slice A0_1 l0_1.length c0_1, .slice A0_2 l0_2.length c0_2]] w fun e w' => ∃ v0_ : Value, e = .returned (v0_) ∧ Kd.R Kd.string 9 w' w.heap.size (fun _ => True) v0_ r ∧ Below w.heap.size w w' := by
 have hu61 := Tryd.underlying61
 have hu57 := Tryd.underlying57
 have HR0_1 := zM hr0_1
 have HC0_1 := zM hc0_1
 clear hr0_1 hc0_1
 have HR0_2 := zM hr0_2
 have HC0_2 := zM hc0_2
 clear hr0_2 hc0_2
 have HB := zM (Below.refl w.heap.size w)
 have H : (net_locNames.l0 k ([] : List ByteArray) l0_1 (l0_1.length : Int) 0) = some r := h
 clear h
 have H' := zM H
 clear H
 go_enter Tryd.func53, Tryd.ntmps53
 go_wp2_with (first | ((with_reducible refine gate_dst (N := 1) rfl ?_); refine box_ev (N := 1) (cs := #[.string a0_0, .slice A0_1 l0_1.length c0_1, .slice A0_2 l0_2.length c0_2]) (t := 61) ?_; intro gb170 hg w2 hbox hb; have BK170 := zM (hbox); have GE170 := zM (box_ge (n := w.heap.size) hg (below_size s8)); replace HB := zM (below_step s8 hb); clear hb hbox hg; obtain ⟨hcz3_0, hcz3_1, hcz3_2, hfz3_0, hfz3_1, hfz3_2⟩ := blk3 BK170.out))
 go_loopg [3, 9] k (fun kq v3 v9 w' => ∃ (x3_1 : List ByteArray) (x9_1 : Int), v9 = .int .i64 x9_1 ∧ Aside0 (net_locNames.l0 kq x3_1 l0_1 (l0_1.length : Int) x9_1 = some r) ∧ Aside0 (kq ≤ k) ∧ Aside0 (Kd.R Kd.string 9 w' w.heap.size (fun _ => True) v3 x3_1) ∧ Aside0 (w'.heap[gb170]? = some (.cells #[.string a0_0, (.slice A0_1 l0_1.length c0_1), (.slice A0_2 l0_2.length c0_2)] 61 (0, 0))) ∧ Aside0 (Below w.heap.size w w'))
 case atStart => exact ⟨(([] : List ByteArray)), (0), s7, H', ⟨Nat.le_refl _⟩, ⟨(by first | exact Kd.R_nil _ _ _ _ _ | exact Kd.N_nil _ _ _ _ _ | exact Kd.V_nil _ _ _ _ _ | exact Kd.Q_nil _ _ _ _ _ | exact Kd.S_nil _ _ _ _ _)⟩, ⟨q6_16⟩, ⟨q6_15⟩⟩
 clear H'
 obtain ⟨x3_1, x9_1, rfl, HA, HK1, HO_3, BK170, HB⟩ := hrel
 cases gk with
 | zero => exact absurd HA.out (by simp [net_locNames.l0])
 | succ k1 =>
  have H := HA.out
  clear HA
  simp only [net_locNames.l0] at H
  by_cases c4 : x9_1 < (l0_1.length : Int)
  ·
   rw [if_pos c4] at H
   have c4b0 := zD c4
   clear c4
   by_cases c5 : 0 ≤ x9_1
   ·
    rw [if_pos c5] at H
    have c5b0 := zD c5
    clear c5
    by_cases c6 : x9_1 < (l0_1.length : Int)
    ·
     rw [if_pos c6] at H
     have c6b0 := zD c6
     clear c6
     by_cases c7 : x3_1.length < 8796093022208
     ·
      rw [if_pos c7] at H
      have LMc7 := zM c7
      clear c7
      obtain ⟨y173, hy173⟩ : ∃ y_ : List ByteArray, y_ = (x3_1 ++ [(rd_T57 l0_1 x9_1).f0]) := ⟨_, rfl⟩
      replace H : (net_locNames.l0 k1 y173 l0_1 (l0_1.length : Int) (wrap64 (x9_1 + 1))) = some r := by first | (rw [hy173]; with_reducible exact H) | (have H2_ := (Option.bind_some _ _).symm.trans H; rw [hy173]; with_reducible exact H2_) | (have H2_ := (Option.bind_some _ _).symm.trans H; with_reducible exact H2_) | with_reducible exact H | (rw [hy173]; exact H) | exact H
      have Ny173 := zM hy173
      clear hy173
      have H' := zM H
      clear H
      have p171 : 0 ≤ (x9_1 : Int) := zO s3
      have q171 : x9_1 < (l0_1.length : Int) := zO s3
      obtain ⟨ad171, A171_2, c171_2, e171, hx171_0, hx171_1, hx171_2, HC171_2, HR171_2⟩ := as_T57 HR0_1.out x9_1 p171 q171
      cases e171
      replace hx171_0 := cell_up HB.out hx171_0
      replace hx171_1 := cell_up HB.out hx171_1
      replace hx171_2 := cell_up HB.out hx171_2
      replace p171 := eq_true p171
      replace q171 := eq_true q171
      go_wp2_with (first | ((with_reducible refine gate_dst (N := 5) rfl ?_); refine box_ev (N := 5) (cs := #[.string (⟨#[]⟩ : ByteArray), .int .u8 0, .slice none 0 0]) (t := 57) ?_; intro gb172 hg w8 hbox hb; have BK172 := zM (hbox); have GE172 := zM (box_ge (n := w.heap.size) hg (below_size q6_15)); have NB170_172 := zM (box_ne hg (g := gb170) q6_16); have NB172_170 := zM (box_ne' hg (g := gb170) q6_16); replace HO_3 := zM (Kd.R_below s1 hb); replace BK170 := zM (blk_below (g := gb170) q6_16 hb); replace HB := zM (below_step q6_15 hb); clear hb hbox hg; have hnb9 := NB172_170.out; have hnc9 := NB170_172.out; obtain ⟨hcz10_0, hcz10_1, hcz10_2, hfz10_0, hfz10_1, hfz10_2⟩ := blk3 BK172.out) | ((with_reducible refine gate_builtin (b := .append) (xs := #[.tmp 13, .tmp 16]) rfl ?_); at_builtin; refine Kd.R_append Kd.string (w0 := w) w.heap.size rfl (.tmp 13) (.tmp 16) 22 9 (.string ⟨#[]⟩) 16 rfl Tryd.underlying22 info9 rfl (by decide) (by omega) u3 x3_1 ((rd_T57 l0_1 x9_1).f0) [.string ((rd_T57 l0_1 x9_1).f0)] (fun _ => True) (fun _ => False) rfl (by first | (go_simp; done) | (go_simp; rfl)) ?aP (fun _ hk => hk.elim) ?aF ?aO ?aB ?aS ?aL ?_; (case aP => exact rfl); (case aB => exact q6_17); (case aF => exact (fun _ _ => trivial)); (case aO => exact (by (with_reducible repeat (first | apply Kd.R_alloc | apply Kd.R_drewN | apply Kd.R_drew)); exact Kd.R_mono (Kd.R_far (p := ⟨gb172, 2, none⟩) (Kd.R_far (p := ⟨gb172, 1, none⟩) (Kd.R_far (p := ⟨gb172, 0, none⟩) (Kd.R_types HO_3.out BK172.out (by decide)) (fun _ hk => hk.2) (.string ((rd_T57 l0_1 x9_1).f0))) (fun _ hk => hk.2) (.int .u8 ((rd_T57 l0_1 x9_1).f1))) (fun _ hk => hk.2) (.slice A171_2 ((rd_T57 l0_1 x9_1).f2).length c171_2)) (fun _ hk => trivial))); (case aS => exact (below_size q6_17)); (case aL => have := LMc7.out; omega); intro v174 w11 ho hb hg hat; rw [← Ny173.out] at ho; have HO175 := zM (ho); replace BK170 := zM (blk_grown (g := gb170) (o := .cells #[.string a0_0, .slice (some ad171) l0_1.length c0_1, .slice A0_2 l0_2.length c0_2] 61 (0, 0)) (by (iterate 3 ((with_reducible repeat (first | refine blk_drewN ?_ _ | refine blk_drew ?_ | refine blk_alloc ?_ _)); refine blk_far ?_ NB170_172.out _)); (with_reducible repeat (first | refine blk_drewN ?_ _ | refine blk_drew ?_ | refine blk_alloc ?_ _)); exact BK170.out) hg (Kd.R_ne HO_3.out BK170.out (by decide))); replace BK172 := zM (blk_grown (g := gb172) (o := .cells #[.string ((rd_T57 l0_1 x9_1).f0), .int .u8 ((rd_T57 l0_1 x9_1).f1), .slice A171_2 ((rd_T57 l0_1 x9_1).f2).length c171_2] 57 (0, 0)) (by (with_reducible repeat (first | refine blk_drewN ?_ _ | refine blk_drew ?_ | refine blk_alloc ?_ _)); apply blk_fill3; (with_reducible repeat (first | refine blk_drewN ?_ _ | refine blk_drew ?_ | refine blk_alloc ?_ _)); exact BK172.out) hg (Kd.R_ne HO_3.out BK172.out (by decide))); replace HB := zM (hb); clear HO_3; clear ho hb hg hat))
      go_roundg k1
      case measure => have := HK1.out; omega
      case rel => exact ⟨(y173), (wrap64 (x9_1 + 1)), s7, H', ⟨(by have := HK1.out; omega)⟩, ⟨(by (with_reducible repeat (first | apply Kd.R_alloc | apply Kd.R_drewN | apply Kd.R_drew)); exact HO175.out)⟩, ⟨q6_16⟩, ⟨q6_17⟩⟩
     rw [if_neg c7] at H
     exact absurd H (by simp)
    rw [if_neg c6] at H
    exact absurd H (by simp)
   rw [if_neg c5] at H
   exact absurd H (by simp)
  rw [if_neg c4] at H
  have c4b0 := decide_eq_false c4
  clear c4
  obtain rfl := Option.some.inj H
  go_wp2
  go_ret
  exact ⟨_, s6, s1, q6_15⟩

/-! ### net_names: function 39 -/
def net_names.l0 : Nat → List (S61) → Int → Int → Option (Int)
 | 0, _, _, _ => none
 | k + 1, x10, x11, x12 => if x12 < x11 then (if 0 ≤ x12 then (if x12 < (x10.length : Int) then ((net_locNames.f k ((rd_T61 x10 x12).f0) ((rd_T61 x10 x12).f1) ((rd_T61 x10 x12).f2)).bind fun t183 => ((net_given.f k t183).bind fun t186 => (if t186 = true then (net_names.l0 k x10 x11 (wrap64 (x12 + 1))) else (some 112)))) else (none)) else (none)) else (some 0)
def net_names.f (k : Nat) (l0_0 : List ByteArray) (l0_1 : List (S50)) (l0_2 : List ByteArray) (l0_3 : List (S61)) : Option (Int) := (net_all.f k l0_0 l0_1 l0_2 l0_3).bind fun t177 => ((net_given.f k t177).bind fun t180 => (if t180 = true then (net_names.l0 k l0_3 (l0_3.length : Int) 0) else (some 112)))
theorem net_names.mono_l : ∀ k, (∀ y0 y1 y2, LeO (net_names.l0 k y0 y1 y2) (net_names.l0 (k + 1) y0 y1 y2))
 | 0 => fun _ _ _ r h => by simp [net_names.l0] at h
 | k + 1 => by
  have ih0 := net_names.mono_l k
  ·
   intro y0 y1 y2
   unfold net_names.l0
   repeat' first | (with_reducible first | exact ih0 _ _ _ | exact net_all.mono _ _ _ _ _ | exact net_given.mono _ _ | exact net_locNames.mono _ _ _ _ | exact LeO.refl _ | exact LeO.none _ | refine LeO.ite ?_ ?_ | refine LeO.bind ?_ (fun _ => ?_)) | exact LeO.none _ | refine LeO.ite ?_ ?_ | refine LeO.bind ?_ (fun _ => ?_)
theorem net_names.mono : ∀ a0 a1 a2 a3 k, LeO (net_names.f k a0 a1 a2 a3) (net_names.f (k + 1) a0 a1 a2 a3) := by
 intro a0 a1 a2 a3 k
 have ih0 := net_names.mono_l k
 unfold net_names.f
 repeat' first | (with_reducible first | exact ih0 _ _ _ | exact net_all.mono _ _ _ _ _ | exact net_given.mono _ _ | exact net_locNames.mono _ _ _ _ | exact LeO.refl _ | exact LeO.none _ | refine LeO.ite ?_ ?_ | refine LeO.bind ?_ (fun _ => ?_)) | exact LeO.none _ | refine LeO.ite ?_ ?_ | refine LeO.bind ?_ (fun _ => ?_)
set_option maxHeartbeats 8000000 in
set_option maxRecDepth 100000 in
theorem net_names.calls (k : Nat) (A0_0 : Option Addr) (c0_0 : Nat) (l0_0 : List ByteArray) (A0_1 : Option Addr) (c0_1 : Nat) (l0_1 : List (S50)) (A0_2 : Option Addr) (c0_2 : Nat) (l0_2 : List ByteArray) (A0_3 : Option Addr) (c0_3 : Nat) (l0_3 : List (S61)) (r : Int) (w : World) (hG : Glob w) (hr0_0 : Kd.C Kd.string w A0_0 l0_0.length l0_0) (hc0_0 : l0_0.length ≤ c0_0) (hr0_1 : Kd.C k50 w A0_1 l0_1.length l0_1) (hc0_1 : l0_1.length ≤ c0_1) (hr0_2 : Kd.C Kd.string w A0_2 l0_2.length l0_2) (hc0_2 : l0_2.length ≤ c0_2) (hr0_3 : Kd.C k61 w A0_3 l0_3.length l0_3) (hc0_3 : l0_3.length ≤ c0_3) (h : net_names.f k l0_0 l0_1 l0_2 l0_3 = some r) :
  Calls Tryd.prog 39 #[.agg #[.slice A0_0 l0_0.length c0_0, .slice A0_1 l0_1.length c0_1, .slice A0_2 l0_2.length c0_2, .slice A0_3 l0_3.length c0_3]] w fun e w' => e = .returned (.int .i64 r) ∧ Below w.heap.size w w' := by
 have hu26 := Tryd.underlying26
 have hu61 := Tryd.underlying61
 have HR0_0 := zM hr0_0
 have HC0_0 := zM hc0_0
 clear hr0_0 hc0_0
 have HR0_1 := zM hr0_1
 have HC0_1 := zM hc0_1
 clear hr0_1 hc0_1
 have HR0_2 := zM hr0_2
 have HC0_2 := zM hc0_2
 clear hr0_2 hc0_2
 have HR0_3 := zM hr0_3
 have HC0_3 := zM hc0_3
 clear hr0_3 hc0_3
 have HGL := zM hG
 clear hG
 have HB := zM (Below.refl w.heap.size w)
 have H : ((net_all.f k l0_0 l0_1 l0_2 l0_3).bind fun t177 => ((net_given.f k t177).bind fun t180 => (if t180 = true then (net_names.l0 k l0_3 (l0_3.length : Int) 0) else (some 112)))) = some r := h
 clear h
 replace H := Option.bind_eq_some_iff.mp H
 obtain ⟨t177, A20, H⟩ := H
 replace H : ((net_given.f k t177).bind fun t180 => (if t180 = true then (net_names.l0 k l0_3 (l0_3.length : Int) 0) else (some 112))) = some r := H
 have A2 := zM A20
 clear A20
 replace H := Option.bind_eq_some_iff.mp H
 obtain ⟨t180, A30, H⟩ := H
 replace H : (if t180 = true then (net_names.l0 k l0_3 (l0_3.length : Int) 0) else (some 112)) = some r := H
 have A3 := zM A30
 clear A30
 by_cases c4 : t180 = true
 ·
  subst c4
  have H1 : (net_names.l0 k l0_3 (l0_3.length : Int) 0) = some r := by rw [if_pos rfl] at H; exact H
  clear H
  have H := H1
  clear H1
  have H' := zM H
  clear H
  go_enter Tryd.func39, Tryd.ntmps39
  go_wp2_with (first | ((with_reducible refine gate_dst (N := 1) rfl ?_); refine box_ev (N := 1) (cs := #[.slice A0_0 l0_0.length c0_0, .slice A0_1 l0_1.length c0_1, .slice A0_2 l0_2.length c0_2, .slice A0_3 l0_3.length c0_3]) (t := 26) ?_; intro gb176 hg w5 hbox hb; have BK176 := zM (hbox); have GE176 := zM (box_ge (n := w.heap.size) hg (below_size s8)); replace HB := zM (below_step s8 hb); clear hb hbox hg; obtain ⟨hcz6_0, hcz6_1, hcz6_2, hcz6_3, hfz6_0, hfz6_1, hfz6_2, hfz6_3⟩ := blk4 BK176.out) | ((with_reducible refine gate_callee (f := 52) rfl ?_); refine goesL_ (some 6) rfl rfl Tryd.func52 (by kernel_rfl) rfl #[.agg #[.slice A0_0 l0_0.length c0_0, .slice A0_1 l0_1.length c0_1, .slice A0_2 l0_2.length c0_2, .slice A0_3 l0_3.length c0_3]] rfl s0 ?_; (with_reducible refine (net_all.calls k (fun k_ => k_ < w.heap.size) _ _ l0_0 _ _ l0_1 (fun k_ => k_ < w.heap.size) _ _ l0_2 _ _ l0_3 t177 _ ?side1 ?side2 HC0_1.out ?side4 ?side5 HC0_3.out A2.out).mono ?_); (case side1 => exact Kd.V_mk HC0_0.out (Kd.F_below (Kd.C_F Kd.heap_string HR0_0.out) q6_0)); (case side2 => exact s11); (case side4 => exact Kd.V_mk HC0_2.out (Kd.F_below (Kd.C_F Kd.heap_string HR0_2.out) q6_0)); (case side5 => exact s13); rintro e w7 ⟨v178, rfl, ho0, hb⟩; refine ⟨_, rfl, ?_⟩; have HO179 := zM (Kd.R_lower (Kd.R_mono (ok' := fun k_ => True) ho0 (fun _ hk_ => trivial)) (below_size q6_0)); replace BK176 := zM (blk_below (g := gb176) q6_4 hb); replace HB := zM (below_step q6_0 hb); (try clear hb); (try clear ho0); obtain ⟨Ao8, co8, eo8⟩ := Kd.R_slice HO179.out; subst eo8) | ((with_reducible refine gate_callee (f := 51) rfl ?_); refine goesL_ (some 7) rfl rfl Tryd.func51 (by kernel_rfl) rfl #[.slice Ao8 t177.length co8] rfl s0 ?_; (with_reducible refine (net_given.calls k _ _ t177 true _ ?side3 ?side1 ?side2 A3.out).mono ?_); (case side1 => exact q6_25); (case side2 => exact (Kd.R_reads' HO179.out).2.1); (case side3 => exact s9); rintro e w9 ⟨rfl, hb⟩; refine ⟨_, rfl, ?_⟩; replace HO179 := zM (Kd.R_below q6_28 hb); replace BK176 := zM (blk_below (g := gb176) q6_4 hb); replace HB := zM (below_step q6_0 hb); (try clear hb); obtain ⟨hcz10_0, hcz10_1, hcz10_2, hcz10_3, hfz10_0, hfz10_1, hfz10_2, hfz10_3⟩ := blk4 BK176.out))
  go_loopg [12] k (fun kq v12 w' => ∃ (x12_1 : Int), v12 = .int .i64 x12_1 ∧ Aside0 (net_names.l0 kq l0_3 (l0_3.length : Int) x12_1 = some r) ∧ Aside0 (kq ≤ k) ∧ Aside0 (w'.heap[gb176]? = some (.cells #[(.slice A0_0 l0_0.length c0_0), (.slice A0_1 l0_1.length c0_1), (.slice A0_2 l0_2.length c0_2), (.slice A0_3 l0_3.length c0_3)] 26 (0, 0))) ∧ Aside0 (Below w.heap.size w w'))
  case atStart => exact ⟨(0), s7, H', ⟨Nat.le_refl _⟩, ⟨q6_4⟩, ⟨q6_0⟩⟩
  clear H'
  obtain ⟨x12_1, rfl, HA, HK1, BK176, HB⟩ := hrel
  cases gk with
  | zero => exact absurd HA.out (by simp [net_names.l0])
  | succ k1 =>
   have H := HA.out
   clear HA
   simp only [net_names.l0] at H
   by_cases c11 : x12_1 < (l0_3.length : Int)
   ·
    rw [if_pos c11] at H
    have c11b0 := zD c11
    clear c11
    by_cases c12 : 0 ≤ x12_1
    ·
     rw [if_pos c12] at H
     have c12b0 := zD c12
     clear c12
     by_cases c13 : x12_1 < (l0_3.length : Int)
     ·
      rw [if_pos c13] at H
      have c13b0 := zD c13
      clear c13
      replace H := Option.bind_eq_some_iff.mp H
      obtain ⟨t183, A140, H⟩ := H
      replace H : ((net_given.f k1 t183).bind fun t186 => (if t186 = true then (net_names.l0 k1 l0_3 (l0_3.length : Int) (wrap64 (x12_1 + 1))) else (some 112))) = some r := H
      have A14 := zM A140
      clear A140
      replace H := Option.bind_eq_some_iff.mp H
      obtain ⟨t186, A150, H⟩ := H
      replace H : (if t186 = true then (net_names.l0 k1 l0_3 (l0_3.length : Int) (wrap64 (x12_1 + 1))) else (some 112)) = some r := H
      have A15 := zM A150
      clear A150
      by_cases c16 : t186 = true
      ·
       subst c16
       have H1 : (net_names.l0 k1 l0_3 (l0_3.length : Int) (wrap64 (x12_1 + 1))) = some r := by rw [if_pos rfl] at H; exact H
       clear H
       have H := H1
       clear H1
       have H' := zM H
       clear H
       have p181 : 0 ≤ (x12_1 : Int) := zO s3
       have q181 : x12_1 < (l0_3.length : Int) := zO s3
       obtain ⟨ad181, A181_1, c181_1, A181_2, c181_2, e181, hx181_0, hx181_1, hx181_2, HC181_1, HR181_1, HC181_2, HR181_2⟩ := as_T61 HR0_3.out x12_1 p181 q181
       cases e181
       replace hx181_0 := cell_up HB.out hx181_0
       replace hx181_1 := cell_up HB.out hx181_1
       replace hx181_2 := cell_up HB.out hx181_2
       replace p181 := eq_true p181
       replace q181 := eq_true q181
       go_wp2_with (first | ((with_reducible refine gate_dst (N := 4) rfl ?_); refine box_ev (N := 4) (cs := #[.string (⟨#[]⟩ : ByteArray), .slice none 0 0, .slice none 0 0]) (t := 61) ?_; intro gb182 hg w17 hbox hb; have BK182 := zM (hbox); have GE182 := zM (box_ge (n := w.heap.size) hg (below_size q6_0)); have NB176_182 := zM (box_ne hg (g := gb176) q6_4); have NB182_176 := zM (box_ne' hg (g := gb176) q6_4); replace BK176 := zM (blk_below (g := gb176) q6_4 hb); replace HB := zM (below_step q6_0 hb); clear hb hbox hg; have hnb18 := NB182_176.out; have hnc18 := NB176_182.out; obtain ⟨hcz19_0, hcz19_1, hcz19_2, hfz19_0, hfz19_1, hfz19_2⟩ := blk3 BK182.out) | ((with_reducible refine gate_callee (f := 53) rfl ?_); refine goesL_ (some 17) rfl rfl Tryd.func53 (by kernel_rfl) rfl #[.agg #[.string ((rd_T61 l0_3 x12_1).f0), .slice A181_1 ((rd_T61 l0_3 x12_1).f1).length c181_1, .slice A181_2 ((rd_T61 l0_3 x12_1).f2).length c181_2]] rfl s0 ?_; (with_reducible refine (net_locNames.calls k1 ((rd_T61 l0_3 x12_1).f0) _ _ ((rd_T61 l0_3 x12_1).f1) _ _ ((rd_T61 l0_3 x12_1).f2) t183 _ ?side1 HC181_1.out ?side3 HC181_2.out A14.out).mono ?_); (case side1 => exact Kd.C_below HR181_1.out q6_1); (case side3 => exact Kd.C_below HR181_2.out q6_1); rintro e w20 ⟨v184, rfl, ho0, hb⟩; refine ⟨_, rfl, ?_⟩; have HO185 := zM (Kd.R_lower ho0 (below_size q6_1)); replace BK176 := zM (blk_below (g := gb176) (o := .cells #[.slice A0_0 l0_0.length c0_0, .slice A0_1 l0_1.length c0_1, .slice A0_2 l0_2.length c0_2, .slice (some ad181) l0_3.length c0_3] 26 (0, 0)) q6_19 hb); replace BK182 := zM (blk_below (g := gb182) (o := .cells #[.string ((rd_T61 l0_3 x12_1).f0), .slice A181_1 ((rd_T61 l0_3 x12_1).f1).length c181_1, .slice A181_2 ((rd_T61 l0_3 x12_1).f2).length c181_2] 61 (0, 0)) q6_20 hb); replace HB := zM (below_step q6_1 hb); (try clear hb); (try clear ho0); obtain ⟨Ao21, co21, eo21⟩ := Kd.R_slice HO185.out; subst eo21) | ((with_reducible refine gate_callee (f := 51) rfl ?_); refine goesL_ (some 18) rfl rfl Tryd.func51 (by kernel_rfl) rfl #[.slice Ao21 t183.length co21] rfl s0 ?_; (with_reducible refine (net_given.calls k1 _ _ t183 true _ ?side3 ?side1 ?side2 A15.out).mono ?_); (case side1 => exact q6_24); (case side2 => exact (Kd.R_reads' HO185.out).2.1); (case side3 => exact s9); rintro e w22 ⟨rfl, hb⟩; refine ⟨_, rfl, ?_⟩; replace HO185 := zM (Kd.R_below q6_27 hb); replace BK176 := zM (blk_below (g := gb176) q6_4 hb); replace BK182 := zM (blk_below (g := gb182) q6_26 hb); replace HB := zM (below_step q6_1 hb); (try clear hb)))
       go_roundg k1
       case measure => have := HK1.out; omega
       case rel => exact ⟨(wrap64 (x12_1 + 1)), s7, H', ⟨(by have := HK1.out; omega)⟩, ⟨q6_4⟩, ⟨q6_1⟩⟩
      replace c16 := Bool.eq_false_iff.mpr c16
      subst c16
      have H1 : (some 112) = some r := by rw [if_neg (show ¬ (false = true) by decide)] at H; exact H
      clear H
      have H := H1
      clear H1
      obtain rfl := Option.some.inj H
      have p181 : 0 ≤ (x12_1 : Int) := zO s3
      have q181 : x12_1 < (l0_3.length : Int) := zO s3
      obtain ⟨ad181, A181_1, c181_1, A181_2, c181_2, e181, hx181_0, hx181_1, hx181_2, HC181_1, HR181_1, HC181_2, HR181_2⟩ := as_T61 HR0_3.out x12_1 p181 q181
      cases e181
      replace hx181_0 := cell_up HB.out hx181_0
      replace hx181_1 := cell_up HB.out hx181_1
      replace hx181_2 := cell_up HB.out hx181_2
      replace p181 := eq_true p181
      replace q181 := eq_true q181
      go_wp2_with (first | ((with_reducible refine gate_dst (N := 4) rfl ?_); refine box_ev (N := 4) (cs := #[.string (⟨#[]⟩ : ByteArray), .slice none 0 0, .slice none 0 0]) (t := 61) ?_; intro gb182 hg w23 hbox hb; have BK182 := zM (hbox); have GE182 := zM (box_ge (n := w.heap.size) hg (below_size q6_0)); have NB176_182 := zM (box_ne hg (g := gb176) q6_4); have NB182_176 := zM (box_ne' hg (g := gb176) q6_4); replace BK176 := zM (blk_below (g := gb176) q6_4 hb); replace HB := zM (below_step q6_0 hb); clear hb hbox hg; have hnb24 := NB182_176.out; have hnc24 := NB176_182.out; obtain ⟨hcz25_0, hcz25_1, hcz25_2, hfz25_0, hfz25_1, hfz25_2⟩ := blk3 BK182.out) | ((with_reducible refine gate_callee (f := 53) rfl ?_); refine goesL_ (some 17) rfl rfl Tryd.func53 (by kernel_rfl) rfl #[.agg #[.string ((rd_T61 l0_3 x12_1).f0), .slice A181_1 ((rd_T61 l0_3 x12_1).f1).length c181_1, .slice A181_2 ((rd_T61 l0_3 x12_1).f2).length c181_2]] rfl s0 ?_; (with_reducible refine (net_locNames.calls k1 ((rd_T61 l0_3 x12_1).f0) _ _ ((rd_T61 l0_3 x12_1).f1) _ _ ((rd_T61 l0_3 x12_1).f2) t183 _ ?side1 HC181_1.out ?side3 HC181_2.out A14.out).mono ?_); (case side1 => exact Kd.C_below HR181_1.out q6_1); (case side3 => exact Kd.C_below HR181_2.out q6_1); rintro e w26 ⟨v184, rfl, ho0, hb⟩; refine ⟨_, rfl, ?_⟩; have HO185 := zM (Kd.R_lower ho0 (below_size q6_1)); replace BK176 := zM (blk_below (g := gb176) (o := .cells #[.slice A0_0 l0_0.length c0_0, .slice A0_1 l0_1.length c0_1, .slice A0_2 l0_2.length c0_2, .slice (some ad181) l0_3.length c0_3] 26 (0, 0)) q6_19 hb); replace BK182 := zM (blk_below (g := gb182) (o := .cells #[.string ((rd_T61 l0_3 x12_1).f0), .slice A181_1 ((rd_T61 l0_3 x12_1).f1).length c181_1, .slice A181_2 ((rd_T61 l0_3 x12_1).f2).length c181_2] 61 (0, 0)) q6_20 hb); replace HB := zM (below_step q6_1 hb); (try clear hb); (try clear ho0); obtain ⟨Ao27, co27, eo27⟩ := Kd.R_slice HO185.out; subst eo27) | ((with_reducible refine gate_callee (f := 51) rfl ?_); refine goesL_ (some 18) rfl rfl Tryd.func51 (by kernel_rfl) rfl #[.slice Ao27 t183.length co27] rfl s0 ?_; (with_reducible refine (net_given.calls k1 _ _ t183 false _ ?side3 ?side1 ?side2 A15.out).mono ?_); (case side1 => exact q6_24); (case side2 => exact (Kd.R_reads' HO185.out).2.1); (case side3 => exact s9); rintro e w28 ⟨rfl, hb⟩; refine ⟨_, rfl, ?_⟩; replace HO185 := zM (Kd.R_below q6_27 hb); replace BK176 := zM (blk_below (g := gb176) q6_4 hb); replace BK182 := zM (blk_below (g := gb182) q6_26 hb); replace HB := zM (below_step q6_1 hb); (try clear hb)))
      go_ret
      exact ⟨s6, q6_1⟩
     rw [if_neg c13] at H
     exact absurd H (by simp)
    rw [if_neg c12] at H
    exact absurd H (by simp)
   rw [if_neg c11] at H
   have c11b0 := decide_eq_false c11
   clear c11
   obtain rfl := Option.some.inj H
   go_wp2
   go_ret
   exact ⟨s6, q6_0⟩
 replace c4 := Bool.eq_false_iff.mpr c4
 subst c4
 have H1 : (some 112) = some r := by rw [if_neg (show ¬ (false = true) by decide)] at H; exact H
 clear H
 have H := H1
 clear H1
 obtain rfl := Option.some.inj H
 go_enter Tryd.func39, Tryd.ntmps39
 go_wp2_with (first | ((with_reducible refine gate_dst (N := 1) rfl ?_); refine box_ev (N := 1) (cs := #[.slice A0_0 l0_0.length c0_0, .slice A0_1 l0_1.length c0_1, .slice A0_2 l0_2.length c0_2, .slice A0_3 l0_3.length c0_3]) (t := 26) ?_; intro gb176 hg w29 hbox hb; have BK176 := zM (hbox); have GE176 := zM (box_ge (n := w.heap.size) hg (below_size s8)); replace HB := zM (below_step s8 hb); clear hb hbox hg; obtain ⟨hcz30_0, hcz30_1, hcz30_2, hcz30_3, hfz30_0, hfz30_1, hfz30_2, hfz30_3⟩ := blk4 BK176.out) | ((with_reducible refine gate_callee (f := 52) rfl ?_); refine goesL_ (some 6) rfl rfl Tryd.func52 (by kernel_rfl) rfl #[.agg #[.slice A0_0 l0_0.length c0_0, .slice A0_1 l0_1.length c0_1, .slice A0_2 l0_2.length c0_2, .slice A0_3 l0_3.length c0_3]] rfl s0 ?_; (with_reducible refine (net_all.calls k (fun k_ => k_ < w.heap.size) _ _ l0_0 _ _ l0_1 (fun k_ => k_ < w.heap.size) _ _ l0_2 _ _ l0_3 t177 _ ?side1 ?side2 HC0_1.out ?side4 ?side5 HC0_3.out A2.out).mono ?_); (case side1 => exact Kd.V_mk HC0_0.out (Kd.F_below (Kd.C_F Kd.heap_string HR0_0.out) q6_0)); (case side2 => exact s11); (case side4 => exact Kd.V_mk HC0_2.out (Kd.F_below (Kd.C_F Kd.heap_string HR0_2.out) q6_0)); (case side5 => exact s13); rintro e w31 ⟨v178, rfl, ho0, hb⟩; refine ⟨_, rfl, ?_⟩; have HO179 := zM (Kd.R_lower (Kd.R_mono (ok' := fun k_ => True) ho0 (fun _ hk_ => trivial)) (below_size q6_0)); replace BK176 := zM (blk_below (g := gb176) q6_4 hb); replace HB := zM (below_step q6_0 hb); (try clear hb); (try clear ho0); obtain ⟨Ao32, co32, eo32⟩ := Kd.R_slice HO179.out; subst eo32) | ((with_reducible refine gate_callee (f := 51) rfl ?_); refine goesL_ (some 7) rfl rfl Tryd.func51 (by kernel_rfl) rfl #[.slice Ao32 t177.length co32] rfl s0 ?_; (with_reducible refine (net_given.calls k _ _ t177 false _ ?side3 ?side1 ?side2 A3.out).mono ?_); (case side1 => exact q6_25); (case side2 => exact (Kd.R_reads' HO179.out).2.1); (case side3 => exact s9); rintro e w33 ⟨rfl, hb⟩; refine ⟨_, rfl, ?_⟩; replace HO179 := zM (Kd.R_below q6_28 hb); replace BK176 := zM (blk_below (g := gb176) q6_4 hb); replace HB := zM (below_step q6_0 hb); (try clear hb)))
 go_ret
 exact ⟨s6, q6_0⟩

/-! ### net_vars: function 40 -/
def net_vars.l0 : Nat → List (S50) → Int → Int → Option (Int)
 | 0, _, _, _ => none
 | k + 1, x6, x7, x8 => if x8 < x7 then (if 0 ≤ x8 then (if x8 < (x6.length : Int) then (if ((rd_T50 x6 x8).f1) > ((rd_T50 x6 x8).f3) then (some 124) else (if ((rd_T50 x6 x8).f3) > ((rd_T50 x6 x8).f2) then (some 124) else (if ((rd_T50 x6 x8).f1) < (-1048576) then (some 124) else (if ((rd_T50 x6 x8).f2) > 1048576 then (some 124) else (net_vars.l0 k x6 x7 (wrap64 (x8 + 1))))))) else (none)) else (none)) else (some 0)
def net_vars.f (k : Nat) (l0_0 : List ByteArray) (l0_1 : List (S50)) (l0_2 : List ByteArray) (l0_3 : List (S61)) : Option (Int) := net_vars.l0 k l0_1 (l0_1.length : Int) 0
theorem net_vars.mono_l : ∀ k, (∀ y0 y1 y2, LeO (net_vars.l0 k y0 y1 y2) (net_vars.l0 (k + 1) y0 y1 y2))
 | 0 => fun _ _ _ r h => by simp [net_vars.l0] at h
 | k + 1 => by
  have ih0 := net_vars.mono_l k
  ·
   intro y0 y1 y2
   unfold net_vars.l0
   repeat' first | (with_reducible first | exact ih0 _ _ _ | exact LeO.refl _ | exact LeO.none _ | refine LeO.ite ?_ ?_ | refine LeO.bind ?_ (fun _ => ?_)) | exact LeO.none _ | refine LeO.ite ?_ ?_ | refine LeO.bind ?_ (fun _ => ?_)
theorem net_vars.mono : ∀ a0 a1 a2 a3 k, LeO (net_vars.f k a0 a1 a2 a3) (net_vars.f (k + 1) a0 a1 a2 a3) := by
 intro a0 a1 a2 a3 k
 have ih0 := net_vars.mono_l k
 unfold net_vars.f
 repeat' first | (with_reducible first | exact ih0 _ _ _ | exact LeO.refl _ | exact LeO.none _ | refine LeO.ite ?_ ?_ | refine LeO.bind ?_ (fun _ => ?_)) | exact LeO.none _ | refine LeO.ite ?_ ?_ | refine LeO.bind ?_ (fun _ => ?_)
set_option maxHeartbeats 8000000 in
set_option maxRecDepth 100000 in
theorem net_vars.calls (k : Nat) (A0_0 : Option Addr) (c0_0 : Nat) (l0_0 : List ByteArray) (A0_1 : Option Addr) (c0_1 : Nat) (l0_1 : List (S50)) (A0_2 : Option Addr) (c0_2 : Nat) (l0_2 : List ByteArray) (A0_3 : Option Addr) (c0_3 : Nat) (l0_3 : List (S61)) (r : Int) (w : World) (hr0_0 : Kd.C Kd.string w A0_0 l0_0.length l0_0) (hc0_0 : l0_0.length ≤ c0_0) (hr0_1 : Kd.C k50 w A0_1 l0_1.length l0_1) (hc0_1 : l0_1.length ≤ c0_1) (hr0_2 : Kd.C Kd.string w A0_2 l0_2.length l0_2) (hc0_2 : l0_2.length ≤ c0_2) (hr0_3 : Kd.C k61 w A0_3 l0_3.length l0_3) (hc0_3 : l0_3.length ≤ c0_3) (h : net_vars.f k l0_0 l0_1 l0_2 l0_3 = some r) :
  Calls Tryd.prog 40 #[.agg #[.slice A0_0 l0_0.length c0_0, .slice A0_1 l0_1.length c0_1, .slice A0_2 l0_2.length c0_2, .slice A0_3 l0_3.length c0_3]] w fun e w' => e = .returned (.int .i64 r) ∧ Below w.heap.size w w' := by
 have hu26 := Tryd.underlying26
 have hu50 := Tryd.underlying50
 have HR0_0 := zM hr0_0
 have HC0_0 := zM hc0_0
 clear hr0_0 hc0_0
 have HR0_1 := zM hr0_1
 have HC0_1 := zM hc0_1
 clear hr0_1 hc0_1
 have HR0_2 := zM hr0_2
 have HC0_2 := zM hc0_2
 clear hr0_2 hc0_2
 have HR0_3 := zM hr0_3
 have HC0_3 := zM hc0_3
 clear hr0_3 hc0_3
 have HB := zM (Below.refl w.heap.size w)
 have H : (net_vars.l0 k l0_1 (l0_1.length : Int) 0) = some r := h
 clear h
 have H' := zM H
 clear H
 go_enter Tryd.func40, Tryd.ntmps40
 go_wp2_with (first | ((with_reducible refine gate_dst (N := 1) rfl ?_); refine box_ev (N := 1) (cs := #[.slice A0_0 l0_0.length c0_0, .slice A0_1 l0_1.length c0_1, .slice A0_2 l0_2.length c0_2, .slice A0_3 l0_3.length c0_3]) (t := 26) ?_; intro gb187 hg w2 hbox hb; have BK187 := zM (hbox); have GE187 := zM (box_ge (n := w.heap.size) hg (below_size s8)); replace HB := zM (below_step s8 hb); clear hb hbox hg; obtain ⟨hcz3_0, hcz3_1, hcz3_2, hcz3_3, hfz3_0, hfz3_1, hfz3_2, hfz3_3⟩ := blk4 BK187.out))
 go_loopg [8] k (fun kq v8 w' => ∃ (x8_1 : Int), v8 = .int .i64 x8_1 ∧ Aside0 (net_vars.l0 kq l0_1 (l0_1.length : Int) x8_1 = some r) ∧ Aside0 (kq ≤ k) ∧ Aside0 (w'.heap[gb187]? = some (.cells #[(.slice A0_0 l0_0.length c0_0), (.slice A0_1 l0_1.length c0_1), (.slice A0_2 l0_2.length c0_2), (.slice A0_3 l0_3.length c0_3)] 26 (0, 0))) ∧ Aside0 (Below w.heap.size w w'))
 case atStart => exact ⟨(0), s7, H', ⟨Nat.le_refl _⟩, ⟨q6_3⟩, ⟨q6_2⟩⟩
 clear H'
 obtain ⟨x8_1, rfl, HA, HK1, BK187, HB⟩ := hrel
 cases gk with
 | zero => exact absurd HA.out (by simp [net_vars.l0])
 | succ k1 =>
  have H := HA.out
  clear HA
  simp only [net_vars.l0] at H
  by_cases c4 : x8_1 < (l0_1.length : Int)
  ·
   rw [if_pos c4] at H
   have c4b0 := zD c4
   clear c4
   by_cases c5 : 0 ≤ x8_1
   ·
    rw [if_pos c5] at H
    have c5b0 := zD c5
    clear c5
    by_cases c6 : x8_1 < (l0_1.length : Int)
    ·
     rw [if_pos c6] at H
     have c6b0 := zD c6
     clear c6
     by_cases c7 : ((rd_T50 l0_1 x8_1).f1) > ((rd_T50 l0_1 x8_1).f3)
     ·
      rw [if_pos c7] at H
      have c7b0 := dgt c7
      clear c7
      obtain rfl := Option.some.inj H
      have p188 : 0 ≤ (x8_1 : Int) := zO s3
      have q188 : x8_1 < (l0_1.length : Int) := zO s3
      obtain ⟨ad188, e188, hx188_0, hx188_1, hx188_2, hx188_3⟩ := at_T50 HR0_1.out x8_1 p188 q188
      cases e188
      replace hx188_0 := cell_up HB.out hx188_0
      replace hx188_1 := cell_up HB.out hx188_1
      replace hx188_2 := cell_up HB.out hx188_2
      replace hx188_3 := cell_up HB.out hx188_3
      replace p188 := eq_true p188
      replace q188 := eq_true q188
      go_wp2_with (first | ((with_reducible refine gate_dst (N := 4) rfl ?_); refine box_ev (N := 4) (cs := #[.string (⟨#[]⟩ : ByteArray), .int .i64 0, .int .i64 0, .int .i64 0]) (t := 50) ?_; intro gb189 hg w8 hbox hb; have BK189 := zM (hbox); have GE189 := zM (box_ge (n := w.heap.size) hg (below_size q6_2)); have NB187_189 := zM (box_ne hg (g := gb187) q6_3); have NB189_187 := zM (box_ne' hg (g := gb187) q6_3); replace BK187 := zM (blk_below (g := gb187) q6_3 hb); replace HB := zM (below_step q6_2 hb); clear hb hbox hg; have hnb9 := NB189_187.out; have hnc9 := NB187_189.out; obtain ⟨hcz10_0, hcz10_1, hcz10_2, hcz10_3, hfz10_0, hfz10_1, hfz10_2, hfz10_3⟩ := blk4 BK189.out))
      go_ret
      exact ⟨s6, q6_11⟩
     rw [if_neg c7] at H
     have c7b0 := dngt c7
     clear c7
     by_cases c11 : ((rd_T50 l0_1 x8_1).f3) > ((rd_T50 l0_1 x8_1).f2)
     ·
      rw [if_pos c11] at H
      have c11b0 := dgt c11
      clear c11
      obtain rfl := Option.some.inj H
      have p188 : 0 ≤ (x8_1 : Int) := zO s3
      have q188 : x8_1 < (l0_1.length : Int) := zO s3
      obtain ⟨ad188, e188, hx188_0, hx188_1, hx188_2, hx188_3⟩ := at_T50 HR0_1.out x8_1 p188 q188
      cases e188
      replace hx188_0 := cell_up HB.out hx188_0
      replace hx188_1 := cell_up HB.out hx188_1
      replace hx188_2 := cell_up HB.out hx188_2
      replace hx188_3 := cell_up HB.out hx188_3
      replace p188 := eq_true p188
      replace q188 := eq_true q188
      go_wp2_with (first | ((with_reducible refine gate_dst (N := 4) rfl ?_); refine box_ev (N := 4) (cs := #[.string (⟨#[]⟩ : ByteArray), .int .i64 0, .int .i64 0, .int .i64 0]) (t := 50) ?_; intro gb189 hg w12 hbox hb; have BK189 := zM (hbox); have GE189 := zM (box_ge (n := w.heap.size) hg (below_size q6_2)); have NB187_189 := zM (box_ne hg (g := gb187) q6_3); have NB189_187 := zM (box_ne' hg (g := gb187) q6_3); replace BK187 := zM (blk_below (g := gb187) q6_3 hb); replace HB := zM (below_step q6_2 hb); clear hb hbox hg; have hnb13 := NB189_187.out; have hnc13 := NB187_189.out; obtain ⟨hcz14_0, hcz14_1, hcz14_2, hcz14_3, hfz14_0, hfz14_1, hfz14_2, hfz14_3⟩ := blk4 BK189.out))
      go_ret
      exact ⟨s6, q6_11⟩
     rw [if_neg c11] at H
     have c11b0 := dngt c11
     clear c11
     by_cases c15 : ((rd_T50 l0_1 x8_1).f1) < (-1048576)
     ·
      rw [if_pos c15] at H
      have c15b0 := zD c15
      clear c15
      obtain rfl := Option.some.inj H
      have p188 : 0 ≤ (x8_1 : Int) := zO s3
      have q188 : x8_1 < (l0_1.length : Int) := zO s3
      obtain ⟨ad188, e188, hx188_0, hx188_1, hx188_2, hx188_3⟩ := at_T50 HR0_1.out x8_1 p188 q188
      cases e188
      replace hx188_0 := cell_up HB.out hx188_0
      replace hx188_1 := cell_up HB.out hx188_1
      replace hx188_2 := cell_up HB.out hx188_2
      replace hx188_3 := cell_up HB.out hx188_3
      replace p188 := eq_true p188
      replace q188 := eq_true q188
      go_wp2_with (first | ((with_reducible refine gate_dst (N := 4) rfl ?_); refine box_ev (N := 4) (cs := #[.string (⟨#[]⟩ : ByteArray), .int .i64 0, .int .i64 0, .int .i64 0]) (t := 50) ?_; intro gb189 hg w16 hbox hb; have BK189 := zM (hbox); have GE189 := zM (box_ge (n := w.heap.size) hg (below_size q6_2)); have NB187_189 := zM (box_ne hg (g := gb187) q6_3); have NB189_187 := zM (box_ne' hg (g := gb187) q6_3); replace BK187 := zM (blk_below (g := gb187) q6_3 hb); replace HB := zM (below_step q6_2 hb); clear hb hbox hg; have hnb17 := NB189_187.out; have hnc17 := NB187_189.out; obtain ⟨hcz18_0, hcz18_1, hcz18_2, hcz18_3, hfz18_0, hfz18_1, hfz18_2, hfz18_3⟩ := blk4 BK189.out))
      go_ret
      exact ⟨s6, q6_11⟩
     rw [if_neg c15] at H
     have c15b0 := decide_eq_false c15
     clear c15
     by_cases c19 : ((rd_T50 l0_1 x8_1).f2) > 1048576
     ·
      rw [if_pos c19] at H
      have c19b0 := dgt c19
      clear c19
      obtain rfl := Option.some.inj H
      have p188 : 0 ≤ (x8_1 : Int) := zO s3
      have q188 : x8_1 < (l0_1.length : Int) := zO s3
      obtain ⟨ad188, e188, hx188_0, hx188_1, hx188_2, hx188_3⟩ := at_T50 HR0_1.out x8_1 p188 q188
      cases e188
      replace hx188_0 := cell_up HB.out hx188_0
      replace hx188_1 := cell_up HB.out hx188_1
      replace hx188_2 := cell_up HB.out hx188_2
      replace hx188_3 := cell_up HB.out hx188_3
      replace p188 := eq_true p188
      replace q188 := eq_true q188
      go_wp2_with (first | ((with_reducible refine gate_dst (N := 4) rfl ?_); refine box_ev (N := 4) (cs := #[.string (⟨#[]⟩ : ByteArray), .int .i64 0, .int .i64 0, .int .i64 0]) (t := 50) ?_; intro gb189 hg w20 hbox hb; have BK189 := zM (hbox); have GE189 := zM (box_ge (n := w.heap.size) hg (below_size q6_2)); have NB187_189 := zM (box_ne hg (g := gb187) q6_3); have NB189_187 := zM (box_ne' hg (g := gb187) q6_3); replace BK187 := zM (blk_below (g := gb187) q6_3 hb); replace HB := zM (below_step q6_2 hb); clear hb hbox hg; have hnb21 := NB189_187.out; have hnc21 := NB187_189.out; obtain ⟨hcz22_0, hcz22_1, hcz22_2, hcz22_3, hfz22_0, hfz22_1, hfz22_2, hfz22_3⟩ := blk4 BK189.out))
      go_ret
      exact ⟨s6, q6_11⟩
     rw [if_neg c19] at H
     have c19b0 := dngt c19
     clear c19
     have H' := zM H
     clear H
     have p188 : 0 ≤ (x8_1 : Int) := zO s3
     have q188 : x8_1 < (l0_1.length : Int) := zO s3
     obtain ⟨ad188, e188, hx188_0, hx188_1, hx188_2, hx188_3⟩ := at_T50 HR0_1.out x8_1 p188 q188
     cases e188
     replace hx188_0 := cell_up HB.out hx188_0
     replace hx188_1 := cell_up HB.out hx188_1
     replace hx188_2 := cell_up HB.out hx188_2
     replace hx188_3 := cell_up HB.out hx188_3
     replace p188 := eq_true p188
     replace q188 := eq_true q188
     go_wp2_with (first | ((with_reducible refine gate_dst (N := 4) rfl ?_); refine box_ev (N := 4) (cs := #[.string (⟨#[]⟩ : ByteArray), .int .i64 0, .int .i64 0, .int .i64 0]) (t := 50) ?_; intro gb189 hg w23 hbox hb; have BK189 := zM (hbox); have GE189 := zM (box_ge (n := w.heap.size) hg (below_size q6_2)); have NB187_189 := zM (box_ne hg (g := gb187) q6_3); have NB189_187 := zM (box_ne' hg (g := gb187) q6_3); replace BK187 := zM (blk_below (g := gb187) q6_3 hb); replace HB := zM (below_step q6_2 hb); clear hb hbox hg; have hnb24 := NB189_187.out; have hnc24 := NB187_189.out; obtain ⟨hcz25_0, hcz25_1, hcz25_2, hcz25_3, hfz25_0, hfz25_1, hfz25_2, hfz25_3⟩ := blk4 BK189.out))
     go_roundg k1
     case measure => have := HK1.out; omega
     case rel => exact ⟨(wrap64 (x8_1 + 1)), s7, H', ⟨(by have := HK1.out; omega)⟩, ⟨(by (iterate 4 ((with_reducible repeat (first | refine blk_drewN ?_ _ | refine blk_drew ?_ | refine blk_alloc ?_ _)); refine blk_far ?_ NB187_189.out _)); (with_reducible repeat (first | refine blk_drewN ?_ _ | refine blk_drew ?_ | refine blk_alloc ?_ _)); exact BK187.out)⟩, ⟨q6_11⟩⟩
    rw [if_neg c6] at H
    exact absurd H (by simp)
   rw [if_neg c5] at H
   exact absurd H (by simp)
  rw [if_neg c4] at H
  have c4b0 := decide_eq_false c4
  clear c4
  obtain rfl := Option.some.inj H
  go_wp2
  go_ret
  exact ⟨s6, q6_2⟩

/-! ### net_locs: function 41 -/
mutual
def net_locs.l0 : Nat → List (S61) → Int → Int → Option (Int)
 | 0, _, _, _ => none
 | k + 1, x8, x9, x10 => if x10 < x9 then (if 0 ≤ x10 then (if x10 < (x8.length : Int) then (net_locs.l1 k x8 x9 x10 ((rd_T61 x8 x10).f1) (((rd_T61 x8 x10).f1).length : Int) 0) else (none)) else (none)) else (some 0)
def net_locs.l1 : Nat → List (S61) → Int → Int → List (S57) → Int → Int → Option (Int)
 | 0, _, _, _, _, _, _ => none
 | k + 1, x8, x9, x10, x15, x16, x17 => if x17 < x16 then (if 0 ≤ x17 then (if x17 < (x15.length : Int) then (if ((rd_T57 x15 x17).f1) > 2 then (some 122) else (net_locs.l1 k x8 x9 x10 x15 x16 (wrap64 (x17 + 1)))) else (none)) else (none)) else (net_locs.l0 k x8 x9 (wrap64 (x10 + 1)))
end
def net_locs.f (k : Nat) (l0_0 : List ByteArray) (l0_1 : List (S50)) (l0_2 : List ByteArray) (l0_3 : List (S61)) : Option (Int) := net_locs.l0 k l0_3 (l0_3.length : Int) 0
theorem net_locs.mono_l : ∀ k, (∀ y0 y1 y2, LeO (net_locs.l0 k y0 y1 y2) (net_locs.l0 (k + 1) y0 y1 y2)) ∧ (∀ y0 y1 y2 y3 y4 y5, LeO (net_locs.l1 k y0 y1 y2 y3 y4 y5) (net_locs.l1 (k + 1) y0 y1 y2 y3 y4 y5))
 | 0 => ⟨fun _ _ _ r h => by simp [net_locs.l0] at h, fun _ _ _ _ _ _ r h => by simp [net_locs.l1] at h⟩
 | k + 1 => by
  obtain ⟨ih0, ih1⟩ := net_locs.mono_l k
  refine ⟨?_, ?_⟩
  all_goals intros
  all_goals first | unfold net_locs.l0 | unfold net_locs.l1
  all_goals repeat' first | (with_reducible first | exact ih0 _ _ _ | exact ih1 _ _ _ _ _ _ | exact LeO.refl _ | exact LeO.none _ | refine LeO.ite ?_ ?_ | refine LeO.bind ?_ (fun _ => ?_)) | exact LeO.none _ | refine LeO.ite ?_ ?_ | refine LeO.bind ?_ (fun _ => ?_)
theorem net_locs.mono : ∀ a0 a1 a2 a3 k, LeO (net_locs.f k a0 a1 a2 a3) (net_locs.f (k + 1) a0 a1 a2 a3) := by
 intro a0 a1 a2 a3 k
 obtain ⟨ih0, ih1⟩ := net_locs.mono_l k
 unfold net_locs.f
 repeat' first | (with_reducible first | exact ih0 _ _ _ | exact ih1 _ _ _ _ _ _ | exact LeO.refl _ | exact LeO.none _ | refine LeO.ite ?_ ?_ | refine LeO.bind ?_ (fun _ => ?_)) | exact LeO.none _ | refine LeO.ite ?_ ?_ | refine LeO.bind ?_ (fun _ => ?_)
set_option maxHeartbeats 8000000 in
set_option maxRecDepth 100000 in
theorem net_locs.calls (k : Nat) (A0_0 : Option Addr) (c0_0 : Nat) (l0_0 : List ByteArray) (A0_1 : Option Addr) (c0_1 : Nat) (l0_1 : List (S50)) (A0_2 : Option Addr) (c0_2 : Nat) (l0_2 : List ByteArray) (A0_3 : Option Addr) (c0_3 : Nat) (l0_3 : List (S61)) (r : Int) (w : World) (hr0_0 : Kd.C Kd.string w A0_0 l0_0.length l0_0) (hc0_0 : l0_0.length ≤ c0_0) (hr0_1 : Kd.C k50 w A0_1 l0_1.length l0_1) (hc0_1 : l0_1.length ≤ c0_1) (hr0_2 : Kd.C Kd.string w A0_2 l0_2.length l0_2) (hc0_2 : l0_2.length ≤ c0_2) (hr0_3 : Kd.C k61 w A0_3 l0_3.length l0_3) (hc0_3 : l0_3.length ≤ c0_3) (h : net_locs.f k l0_0 l0_1 l0_2 l0_3 = some r) :
  Calls Tryd.prog 41 #[.agg #[.slice A0_0 l0_0.length c0_0, .slice A0_1 l0_1.length c0_1, .slice A0_2 l0_2.length c0_2, .slice A0_3 l0_3.length c0_3]] w fun e w' => e = .returned (.int .i64 r) ∧ Below w.heap.size w w' := by
 have hu26 := Tryd.underlying26
 have hu61 := Tryd.underlying61
 have hu57 := Tryd.underlying57
 have HR0_0 := zM hr0_0
 have HC0_0 := zM hc0_0
 clear hr0_0 hc0_0
 have HR0_1 := zM hr0_1
 have HC0_1 := zM hc0_1
 clear hr0_1 hc0_1
 have HR0_2 := zM hr0_2
 have HC0_2 := zM hc0_2
 clear hr0_2 hc0_2
 have HR0_3 := zM hr0_3
 have HC0_3 := zM hc0_3
 clear hr0_3 hc0_3
 have HB := zM (Below.refl w.heap.size w)
 have H : (net_locs.l0 k l0_3 (l0_3.length : Int) 0) = some r := h
 clear h
 have H' := zM H
 clear H
 go_enter Tryd.func41, Tryd.ntmps41
 go_wp2_with (first | ((with_reducible refine gate_dst (N := 1) rfl ?_); refine box_ev (N := 1) (cs := #[.slice A0_0 l0_0.length c0_0, .slice A0_1 l0_1.length c0_1, .slice A0_2 l0_2.length c0_2, .slice A0_3 l0_3.length c0_3]) (t := 26) ?_; intro gb190 hg w2 hbox hb; have BK190 := zM (hbox); have GE190 := zM (box_ge (n := w.heap.size) hg (below_size s8)); replace HB := zM (below_step s8 hb); clear hb hbox hg; obtain ⟨hcz3_0, hcz3_1, hcz3_2, hcz3_3, hfz3_0, hfz3_1, hfz3_2, hfz3_3⟩ := blk4 BK190.out))
 go_loopg [10] k (fun kq v10 w' => ∃ (x10_1 : Int), v10 = .int .i64 x10_1 ∧ Aside0 (net_locs.l0 kq l0_3 (l0_3.length : Int) x10_1 = some r) ∧ Aside0 (kq ≤ k) ∧ Aside0 (w'.heap[gb190]? = some (.cells #[(.slice A0_0 l0_0.length c0_0), (.slice A0_1 l0_1.length c0_1), (.slice A0_2 l0_2.length c0_2), (.slice A0_3 l0_3.length c0_3)] 26 (0, 0))) ∧ Aside0 (Below w.heap.size w w'))
 case atStart => exact ⟨(0), s7, H', ⟨Nat.le_refl _⟩, ⟨q6_6⟩, ⟨q6_14⟩⟩
 clear H'
 obtain ⟨x10_1, rfl, HA, HK1, BK190, HB⟩ := hrel
 cases gk with
 | zero => exact absurd HA.out (by simp [net_locs.l0])
 | succ k1 =>
  have H := HA.out
  clear HA
  simp only [net_locs.l0] at H
  by_cases c4 : x10_1 < (l0_3.length : Int)
  ·
   rw [if_pos c4] at H
   have c4b0 := zD c4
   clear c4
   by_cases c5 : 0 ≤ x10_1
   ·
    rw [if_pos c5] at H
    have c5b0 := zD c5
    clear c5
    by_cases c6 : x10_1 < (l0_3.length : Int)
    ·
     rw [if_pos c6] at H
     have c6b0 := zD c6
     clear c6
     have H' := zM H
     clear H
     have p191 : 0 ≤ (x10_1 : Int) := zO s3
     have q191 : x10_1 < (l0_3.length : Int) := zO s3
     obtain ⟨ad191, A191_1, c191_1, A191_2, c191_2, e191, hx191_0, hx191_1, hx191_2, HC191_1, HR191_1, HC191_2, HR191_2⟩ := as_T61 HR0_3.out x10_1 p191 q191
     cases e191
     replace hx191_0 := cell_up HB.out hx191_0
     replace hx191_1 := cell_up HB.out hx191_1
     replace hx191_2 := cell_up HB.out hx191_2
     replace p191 := eq_true p191
     replace q191 := eq_true q191
     go_wp2_with (first | ((with_reducible refine gate_dst (N := 4) rfl ?_); refine box_ev (N := 4) (cs := #[.string (⟨#[]⟩ : ByteArray), .slice none 0 0, .slice none 0 0]) (t := 61) ?_; intro gb192 hg w7 hbox hb; have BK192 := zM (hbox); have GE192 := zM (box_ge (n := w.heap.size) hg (below_size q6_14)); have NB190_192 := zM (box_ne hg (g := gb190) q6_6); have NB192_190 := zM (box_ne' hg (g := gb190) q6_6); replace BK190 := zM (blk_below (g := gb190) q6_6 hb); replace HB := zM (below_step q6_14 hb); clear hb hbox hg; have hnb8 := NB192_190.out; have hnc8 := NB190_192.out; obtain ⟨hcz9_0, hcz9_1, hcz9_2, hfz9_0, hfz9_1, hfz9_2⟩ := blk3 BK192.out))
     go_loopg [17] k1 (fun kq v17 w' => ∃ (x17_2 : Int), v17 = .int .i64 x17_2 ∧ Aside0 (net_locs.l1 kq l0_3 (l0_3.length : Int) x10_1 ((rd_T61 l0_3 x10_1).f1) (((rd_T61 l0_3 x10_1).f1).length : Int) x17_2 = some r) ∧ Aside0 (kq ≤ k1) ∧ Aside0 (w'.heap[gb190]? = some (.cells #[(.slice A0_0 l0_0.length c0_0), (.slice A0_1 l0_1.length c0_1), (.slice A0_2 l0_2.length c0_2), (.slice (some ad191) l0_3.length c0_3)] 26 (0, 0))) ∧ Aside0 (w'.heap[gb192]? = some (.cells #[.string ((rd_T61 l0_3 x10_1).f0), (.slice A191_1 ((rd_T61 l0_3 x10_1).f1).length c191_1), (.slice A191_2 ((rd_T61 l0_3 x10_1).f2).length c191_2)] 61 (0, 0))) ∧ Aside0 (Below w.heap.size w w'))
     case atStart => exact ⟨(0), s7, H', ⟨Nat.le_refl _⟩, ⟨(by (iterate 3 ((with_reducible repeat (first | refine blk_drewN ?_ _ | refine blk_drew ?_ | refine blk_alloc ?_ _)); refine blk_far ?_ NB190_192.out _)); (with_reducible repeat (first | refine blk_drewN ?_ _ | refine blk_drew ?_ | refine blk_alloc ?_ _)); exact BK190.out)⟩, ⟨(by (with_reducible repeat (first | refine blk_drewN ?_ _ | refine blk_drew ?_ | refine blk_alloc ?_ _)); apply blk_fill3; (with_reducible repeat (first | refine blk_drewN ?_ _ | refine blk_drew ?_ | refine blk_alloc ?_ _)); exact BK192.out)⟩, ⟨q6_7⟩⟩
     clear H'
     obtain ⟨x17_2, rfl, HA, HK2, BK190, BK192, HB⟩ := hrel
     cases gk with
     | zero => exact absurd HA.out (by simp [net_locs.l1])
     | succ k2 =>
      have H := HA.out
      clear HA
      simp only [net_locs.l1] at H
      by_cases c10 : x17_2 < (((rd_T61 l0_3 x10_1).f1).length : Int)
      ·
       rw [if_pos c10] at H
       have c10b0 := zD c10
       clear c10
       by_cases c11 : 0 ≤ x17_2
       ·
        rw [if_pos c11] at H
        have c11b0 := zD c11
        clear c11
        by_cases c12 : x17_2 < (((rd_T61 l0_3 x10_1).f1).length : Int)
        ·
         rw [if_pos c12] at H
         have c12b0 := zD c12
         clear c12
         by_cases c13 : ((rd_T57 ((rd_T61 l0_3 x10_1).f1) x17_2).f1) > 2
         ·
          rw [if_pos c13] at H
          have c13b0 := dgt c13
          clear c13
          obtain rfl := Option.some.inj H
          have p193 : 0 ≤ (x17_2 : Int) := zO s3
          have q193 : x17_2 < (((rd_T61 l0_3 x10_1).f1).length : Int) := zO s3
          obtain ⟨ad193, A193_2, c193_2, e193, hx193_0, hx193_1, hx193_2, HC193_2, HR193_2⟩ := as_T57 HR191_1.out x17_2 p193 q193
          cases e193
          replace hx193_0 := cell_up HB.out hx193_0
          replace hx193_1 := cell_up HB.out hx193_1
          replace hx193_2 := cell_up HB.out hx193_2
          replace p193 := eq_true p193
          replace q193 := eq_true q193
          go_wp2_with (first | ((with_reducible refine gate_dst (N := 6) rfl ?_); refine box_ev (N := 6) (cs := #[.string (⟨#[]⟩ : ByteArray), .int .u8 0, .slice none 0 0]) (t := 57) ?_; intro gb194 hg w14 hbox hb; have BK194 := zM (hbox); have GE194 := zM (box_ge (n := w.heap.size) hg (below_size q6_7)); have NB190_194 := zM (box_ne hg (g := gb190) q6_6); have NB194_190 := zM (box_ne' hg (g := gb190) q6_6); have NB192_194 := zM (box_ne hg (g := gb192) q6_12); have NB194_192 := zM (box_ne' hg (g := gb192) q6_12); replace BK190 := zM (blk_below (g := gb190) q6_6 hb); replace BK192 := zM (blk_below (g := gb192) q6_12 hb); replace HB := zM (below_step q6_7 hb); clear hb hbox hg; have hnb15 := NB194_190.out; have hnc15 := NB190_194.out; have hnb16 := NB194_192.out; have hnc16 := NB192_194.out; obtain ⟨hcz17_0, hcz17_1, hcz17_2, hfz17_0, hfz17_1, hfz17_2⟩ := blk3 BK194.out))
          go_ret
          exact ⟨s6, q6_21⟩
         rw [if_neg c13] at H
         have c13b0 := dngt c13
         clear c13
         have H' := zM H
         clear H
         have p193 : 0 ≤ (x17_2 : Int) := zO s3
         have q193 : x17_2 < (((rd_T61 l0_3 x10_1).f1).length : Int) := zO s3
         obtain ⟨ad193, A193_2, c193_2, e193, hx193_0, hx193_1, hx193_2, HC193_2, HR193_2⟩ := as_T57 HR191_1.out x17_2 p193 q193
         cases e193
         replace hx193_0 := cell_up HB.out hx193_0
         replace hx193_1 := cell_up HB.out hx193_1
         replace hx193_2 := cell_up HB.out hx193_2
         replace p193 := eq_true p193
         replace q193 := eq_true q193
         go_wp2_with (first | ((with_reducible refine gate_dst (N := 6) rfl ?_); refine box_ev (N := 6) (cs := #[.string (⟨#[]⟩ : ByteArray), .int .u8 0, .slice none 0 0]) (t := 57) ?_; intro gb194 hg w18 hbox hb; have BK194 := zM (hbox); have GE194 := zM (box_ge (n := w.heap.size) hg (below_size q6_7)); have NB190_194 := zM (box_ne hg (g := gb190) q6_6); have NB194_190 := zM (box_ne' hg (g := gb190) q6_6); have NB192_194 := zM (box_ne hg (g := gb192) q6_12); have NB194_192 := zM (box_ne' hg (g := gb192) q6_12); replace BK190 := zM (blk_below (g := gb190) q6_6 hb); replace BK192 := zM (blk_below (g := gb192) q6_12 hb); replace HB := zM (below_step q6_7 hb); clear hb hbox hg; have hnb19 := NB194_190.out; have hnc19 := NB190_194.out; have hnb20 := NB194_192.out; have hnc20 := NB192_194.out; obtain ⟨hcz21_0, hcz21_1, hcz21_2, hfz21_0, hfz21_1, hfz21_2⟩ := blk3 BK194.out))
         go_roundg k2
         case measure => have := HK1.out; have := HK2.out; omega
         case rel => exact ⟨(wrap64 (x17_2 + 1)), s7, H', ⟨(by have := HK1.out; have := HK2.out; omega)⟩, ⟨(by (iterate 3 ((with_reducible repeat (first | refine blk_drewN ?_ _ | refine blk_drew ?_ | refine blk_alloc ?_ _)); refine blk_far ?_ NB190_194.out _)); (with_reducible repeat (first | refine blk_drewN ?_ _ | refine blk_drew ?_ | refine blk_alloc ?_ _)); exact BK190.out)⟩, ⟨(by (iterate 3 ((with_reducible repeat (first | refine blk_drewN ?_ _ | refine blk_drew ?_ | refine blk_alloc ?_ _)); refine blk_far ?_ NB192_194.out _)); (with_reducible repeat (first | refine blk_drewN ?_ _ | refine blk_drew ?_ | refine blk_alloc ?_ _)); exact BK192.out)⟩, ⟨q6_21⟩⟩
        rw [if_neg c12] at H
        exact absurd H (by simp)
       rw [if_neg c11] at H
       exact absurd H (by simp)
      rw [if_neg c10] at H
      have c10b0 := decide_eq_false c10
      clear c10
      have H' := zM H
      clear H
      go_wp2
      go_roundg k2
      case measure => have := HK1.out; have := HK2.out; omega
      case rel => exact ⟨(wrap64 (x10_1 + 1)), s7, H', ⟨(by have := HK1.out; have := HK2.out; omega)⟩, ⟨q6_6⟩, ⟨q6_7⟩⟩
    rw [if_neg c6] at H
    exact absurd H (by simp)
   rw [if_neg c5] at H
   exact absurd H (by simp)
  rw [if_neg c4] at H
  have c4b0 := decide_eq_false c4
  clear c4
  obtain rfl := Option.some.inj H
  go_wp2
  go_ret
  exact ⟨s6, q6_14⟩

/-! ### net_edges_1: function 54 -/
/-- The closure: its captured variable is an automaton; its locations are told. -/
def net_edges_1.f (a0 : Int) (l1 : List (S57)) : Option Bool := some (decide (0 ≤ a0) && decide (a0 < (l1.length : Int)))
set_option maxHeartbeats 1000000 in
set_option maxRecDepth 100000 in
theorem net_edges_1.calls (a0 : Int) (A1 : Option Addr) (c1 : Nat) (l1 : List (S57)) (r : Bool) (w : World) (hr1 : Kd.C k57 w A1 l1.length l1) (hc1 : l1.length ≤ c1) (h : net_edges_1.f a0 l1 = some r) {g : Nat}
    (hcap : w.cell? ⟨g, 1, none⟩ = some (.slice A1 l1.length c1) := by first | assumption | (go_simp; done) | (go_simp; rfl) | (simp [*]; done)) :
    Calls Tryd.prog 54 #[.int .i64 a0, .pointer (some ⟨g, 0, none⟩)] w fun e w' => e = .returned (.bool r) ∧ Drawn0 w w' := by
  have hu := Tryd.underlying61
  have hr := Option.some.inj h
  clear h hr1 hc1
  by_cases h0 : 0 ≤ a0
  · have d0 : decide (0 ≤ a0) = true := zD h0
    have d1 : decide (a0 ≥ 0) = true := zD h0
    by_cases h1 : a0 < (l1.length : Int)
    · have d2 : decide (a0 < (l1.length : Int)) = true := zD h1
      rw [d0, d2] at hr
      subst hr
      clear h0 h1
      go_enter Tryd.func54, Tryd.ntmps54
      go_wp2
      go_ret
      exact ⟨rfl, Drawn0.refl _⟩
    · have d2 : decide (a0 < (l1.length : Int)) = false := decide_eq_false h1
      rw [d0, d2] at hr
      subst hr
      clear h0 h1
      go_enter Tryd.func54, Tryd.ntmps54
      go_wp2
      go_ret
      exact ⟨rfl, Drawn0.refl _⟩
  · have d0 : decide (0 ≤ a0) = false := decide_eq_false h0
    have d1 : decide (a0 ≥ 0) = false := decide_eq_false h0
    rw [d0, Bool.false_and] at hr
    subst hr
    clear h0
    go_enter Tryd.func54, Tryd.ntmps54
    go_wp2
    go_ret
    exact ⟨rfl, Drawn0.refl _⟩

end Go.Proofs.YtpmhfahligjhaaaDoor.POrd
