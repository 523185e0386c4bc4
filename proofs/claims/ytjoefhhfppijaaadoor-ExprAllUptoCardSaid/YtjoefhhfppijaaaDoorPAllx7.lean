-- written by wip/tools/xprint.py (over the kit's print.py): not trusted, Lean checks it.
import Derived.Test.YtjoefhhfppijaaaDoorPAllx0
import Derived.Test.YtjoefhhfppijaaaDoorPAllx2
import Derived.Test.YtjoefhhfppijaaaDoorPAllx5
import Derived.Test.YtjoefhhfppijaaaDoorPAllx6
namespace Go.Proofs.YtjoefhhfppijaaaDoor.PAll
open Go.RowKit Go.Proofs.YtjoefhhfppijaaaDoorW.PrintWords Go.Proofs.YtjoefhhfppijaaaDoorW.PrintLast Go.Proofs.YtjoefhhfppijaaaDoorW.PrintMore Go.Proofs.YtjoefhhfppijaaaDoorXW
attribute [local go_sem high] cell_set_map Option.map_some
attribute [local go_sem] max2_int min2_int max_two min_two max_three min_three max_four min_four   -- for this text's walks alone
set_option linter.unusedVariables false
set_option linter.unusedSimpArgs false

theorem q7_0 {p : Prop} (h : p := by repeat (first | (with_reducible first | exact HB.out | apply below_alloc | apply pw_below_drewN | apply below_drew1) | exact HB.out)) : p := h
theorem q7_1 {p : Prop} (h : p := by exact (Reps.c2 (show Kd.M k96 _ _ _ (⟨4, 0⟩ : S96) [.int .u8 4, .int .i64 0] from (k96_mkM _ _ _ (⟨4, 0⟩ : S96) )) (Reps.c2 (show Kd.M k96 _ _ _ (⟨1, 1⟩ : S96) [.int .u8 1, .int .i64 1] from (k96_mkM _ _ _ (⟨1, 1⟩ : S96) )) (Reps.c2 (show Kd.M k96 _ _ _ (⟨6, 0⟩ : S96) [.int .u8 6, .int .i64 0] from (k96_mkM _ _ _ (⟨6, 0⟩ : S96) )) (Reps.c2 (show Kd.M k96 _ _ _ (⟨2, 0⟩ : S96) [.int .u8 2, .int .i64 0] from (k96_mkM _ _ _ (⟨2, 0⟩ : S96) )) (Reps.c2 (show Kd.M k96 _ _ _ (⟨1, 2⟩ : S96) [.int .u8 1, .int .i64 2] from (k96_mkM _ _ _ (⟨1, 2⟩ : S96) )) (Reps.none _ _))))))) : p := h
theorem q7_2 {p : Prop} (h : p := by (try simp only [List.map_toArray, List.map_cons, List.map_nil]); first | done | rfl | (simp only [List.length_drop, List.length_take]; rfl)) : p := h
theorem q7_3 {p : Prop} (h : p := by (with_reducible repeat (first | apply Kd.R_alloc | apply Kd.R_drewN | apply Kd.R_drew)); exact HO209.out) : p := h
theorem q7_4 {p : Prop} (h : p := by repeat (first | exact (HGL.out.below HB.out) | (with_reducible refine Glob.alloc ?_ _) | (with_reducible refine Glob.drewN ?_ _) | (with_reducible refine Glob.drew ?_))) : p := h
theorem q7_5 {p : Prop} (h : p := by repeat (first | exact (Kd.R_reads' HO209.out).2.2 | (with_reducible refine Kd.C_alloc ?_ _) | (with_reducible refine Kd.C_drewN ?_ _) | (with_reducible refine Kd.C_drew ?_))) : p := h
theorem q7_6 {p : Prop} (h : p := by (with_reducible repeat (first | apply Kd.R_alloc | apply Kd.R_drewN | apply Kd.R_drew)); exact HO212.out) : p := h
theorem q7_7 {p : Prop} (h : p := by repeat (first | (with_reducible exact HR229_0.out) | (with_reducible refine Kd.C_alloc ?_ _) | (with_reducible refine Kd.C_drewN ?_ _) | (with_reducible refine Kd.C_drew ?_) | exact HR229_0.out)) : p := h
theorem q7_8 {p : Prop} (h : p := by repeat (first | exact (Kd.R_reads' HO217.out).2.2 | (with_reducible refine Kd.C_alloc ?_ _) | (with_reducible refine Kd.C_drewN ?_ _) | (with_reducible refine Kd.C_drew ?_))) : p := h
theorem q7_9 {p : Prop} (h : p := by repeat (first | exact (Kd.R_reads' HO212.out).2.2 | (with_reducible refine Kd.C_alloc ?_ _) | (with_reducible refine Kd.C_drewN ?_ _) | (with_reducible refine Kd.C_drew ?_))) : p := h
theorem q7_10 {p : Prop} (h : p := by first | (go_simp; done) | (go_simp; rfl)) : p := h
theorem q7_11 {p : Prop} (h : p := by first | (with_reducible assumption) | assumption) : p := h
theorem q7_12 {p : Prop} (h : p := by (with_reducible repeat (first | apply Kd.R_alloc | apply Kd.R_drewN | apply Kd.R_drew)); exact HO217.out) : p := h
theorem q7_13 {p : Prop} (h : p := by exact (Reps.one (show Kd.M Kd.string _ _ _ (⟨#[110]⟩ : ByteArray) [.string (⟨#[110]⟩ : ByteArray)] from rfl) (Reps.none _ _))) : p := h
theorem q7_14 {p : Prop} (h : p := by first | rfl | (simp; done) | (simp [*]; done)) : p := h
theorem q7_15 {p : Prop} (h : p := by exact (Reps.one (show Kd.M (Kd.int .i64) _ _ _ 3 [.int .i64 3] from rfl) (Reps.none _ _))) : p := h
theorem q7_16 {p : Prop} (h : p := by (with_reducible repeat (first | apply Kd.V_alloc | apply Kd.V_drewN | apply Kd.V_drew)); exact HL229_0.out) : p := h
theorem q7_17 {p : Prop} (h : p := by (with_reducible repeat (first | apply Kd.V_alloc | apply Kd.V_drewN | apply Kd.V_drew)); exact HO_6.out) : p := h
theorem q7_18 {p : Prop} (h : p := by (with_reducible repeat (first | apply Kd.R_alloc | apply Kd.R_drewN | apply Kd.R_drew)); exact HO_3.out) : p := h
theorem q7_19 {p : Prop} (h : p := by exact (Kd.R_reads' HO209.out).2.1) : p := h
theorem q7_20 {p : Prop} (h : p := by first | exact q229 | exact of_decide_eq_true q7_11 | (have e_ := (Kd.V_reads' HO_6.out).1; omega)) : p := h
theorem q7_21 {p : Prop} (h : p := by repeat (first | exact (Kd.C_below HR0.out HB.out) | (with_reducible refine Kd.C_alloc ?_ _) | (with_reducible refine Kd.C_drewN ?_ _) | (with_reducible refine Kd.C_drew ?_))) : p := h
theorem q7_22 {p : Prop} (h : p := by repeat (first | exact HR0.out | (with_reducible refine Kd.C_alloc ?_ _) | (with_reducible refine Kd.C_drewN ?_ _) | (with_reducible refine Kd.C_drew ?_))) : p := h
theorem q7_23 {p : Prop} (h : p := by repeat (first | exact HGL.out | (with_reducible refine Glob.alloc ?_ _) | (with_reducible refine Glob.drewN ?_ _) | (with_reducible refine Glob.drew ?_))) : p := h
theorem q7_24 {p : Prop} (h : p := by exact (Kd.R_reads' HO217.out).2.1) : p := h
theorem q7_25 {p : Prop} (h : p := by exact (Kd.R_reads' HO212.out).2.1) : p := h
/-! ### expr_Print: function 43 -/
def expr_Print.f (k : Nat) (l0 : List (S96)) (l1 : List ByteArray) : Option (ByteArray × Int) := (expr_Right.f k l0 (l1.length : Int)).bind fun t205 => (if t205 = 0 then ((expr_text.f k l0 0 l1).bind fun t206 => (some (t206, 0))) else (some ((⟨#[]⟩ : ByteArray), t205)))
theorem expr_Print.mono : ∀ a0 a1 k, LeO (expr_Print.f k a0 a1) (expr_Print.f (k + 1) a0 a1) := by
 intro a0 a1 k
 unfold expr_Print.f
 repeat' first
   | (with_reducible exact expr_Right.mono _ _ _)
   | (with_reducible exact expr_text.mono _ _ _ _)
   | (with_reducible exact LeO.refl _)
   | (with_reducible exact LeO.none _)
   | (with_reducible refine LeO.ite ?_ ?_)
   | (with_reducible refine LeO.bind ?_ (fun _ => ?_))
   | exact expr_Right.mono _ _ _
   | exact expr_text.mono _ _ _ _
   | exact LeO.none _
   | refine LeO.ite ?_ ?_
   | refine LeO.bind ?_ (fun _ => ?_)
set_option maxHeartbeats 8000000 in
set_option maxRecDepth 100000 in
theorem expr_Print.calls (k : Nat) (A0 : Option Addr) (c0 : Nat) (l0 : List (S96)) (A1 : Option Addr) (c1 : Nat) (l1 : List ByteArray) (r1 : ByteArray) (r2 : Int) (w : World) (hG : Glob w) (hr0 : Kd.C k96 w A0 l0.length l0) (hc0 : l0.length ≤ c0) (hr1 : Kd.C Kd.string w A1 l1.length l1) (hc1 : l1.length ≤ c1) (h : expr_Print.f k l0 l1 = some (r1, r2)) :
  Calls Tryd.prog 43 #[.slice A0 l0.length c0, .slice A1 l1.length c1] w fun e w' => e = .returned (.tuple #[.string r1, .int .i64 r2]) ∧ Below w.heap.size w w' := by
 have HR0 := Aside0.mk hr0
 have HC0 := Aside0.mk hc0
 clear hr0 hc0
 have HR1 := Aside0.mk hr1
 have HC1 := Aside0.mk hc1
 clear hr1 hc1
 have HGL := Aside0.mk hG
 clear hG
 have HB := Aside0.mk (Below.refl w.heap.size w)
 have H : ((expr_Right.f k l0 (l1.length : Int)).bind fun t205 => (if t205 = 0 then ((expr_text.f k l0 0 l1).bind fun t206 => (some (t206, 0))) else (some ((⟨#[]⟩ : ByteArray), t205)))) = some (r1, r2) := h
 clear h
 replace H := Option.bind_eq_some_iff.mp H
 obtain ⟨t205, A30, H⟩ := H
 replace H : (if t205 = 0 then ((expr_text.f k l0 0 l1).bind fun t206 => (some (t206, 0))) else (some ((⟨#[]⟩ : ByteArray), t205))) = some (r1, r2) := H
 have A3 := Aside0.mk A30
 clear A30
 by_cases c4 : t205 = 0
 ·
  rw [if_pos c4] at H
  have c4b0 : (t205 == 0) = true := beq_iff_eq.mpr c4
  have c4b1 : (t205 != 0) = false := bne_eq_false_iff_eq.mpr c4
  clear c4
  replace H := Option.bind_eq_some_iff.mp H
  obtain ⟨t206, A50, H⟩ := H
  replace H : (some (t206, 0)) = some (r1, r2) := H
  have A5 := Aside0.mk A50
  clear A50
  simp only [Option.some.injEq, Prod.mk.injEq] at H
  obtain ⟨rfl, rfl⟩ := H
  go_enter Tryd.func43, Tryd.ntmps43
  go_wp2_with (first | ((with_reducible refine gate_callee (f := 39) rfl ?_); refine goesL_ (some 10) rfl rfl Tryd.func39 (by kernel_rfl) rfl #[.slice A0 l0.length c0, .int .i64 (l1.length : Int)] rfl q7_2 ?_; (with_reducible refine (expr_Right.calls k _ _ l0 (l1.length : Int) t205 _ ?side3 ?side1 ?side2 A3.out).mono ?_); (case side1 => exact q7_22); (case side2 => exact HC0.out); (case side3 => exact q7_23); rintro e w6 ⟨rfl, hb⟩; refine ⟨_, rfl, ?_⟩; have n0_ := Aside0.mk (below_step q7_0 hb); clear HB; have HB := n0_; clear n0_; (try clear hb); (try clear hb2); (try clear hk); (try clear hi)) | ((with_reducible refine gate_callee (f := 106) rfl ?_); refine goesL_ (some 16) rfl rfl Tryd.func106 (by kernel_rfl) rfl #[.slice A0 l0.length c0, .int .i64 0, .slice A1 l1.length c1] rfl q7_2 ?_; (with_reducible refine (expr_text.calls k _ _ l0 0 _ _ l1 t206 _ ?side5 ?side1 ?side2 ?side3 ?side4 A5.out).mono ?_); (case side1 => exact q7_21); (case side2 => exact HC0.out); (case side3 => repeat (first | exact (Kd.C_below HR1.out HB.out) | (with_reducible refine Kd.C_alloc ?_ _) | (with_reducible refine Kd.C_drewN ?_ _) | (with_reducible refine Kd.C_drew ?_))); (case side4 => exact HC1.out); (case side5 => exact q7_4); rintro e w7 ⟨rfl, hb⟩; refine ⟨_, rfl, ?_⟩; have n0_ := Aside0.mk (below_step q7_0 hb); clear HB; have HB := n0_; clear n0_; (try clear hb); (try clear hb2); (try clear hk); (try clear hi)))
  go_ret2
  exact ⟨by first | rfl | (simp [errW_none, errW_some] <;> rfl) | (simp [*, errW_none, errW_some] <;> rfl), by repeat (first | (with_reducible first | exact HB.out | apply below_alloc | apply pw_below_drewN | apply below_drew1) | exact HB.out)⟩
 ·
  rw [if_neg c4] at H
  have c4b0 : (t205 == 0) = false := beq_eq_false_iff_ne.mpr c4
  have c4b1 : (t205 != 0) = true := bne_iff_ne.mpr c4
  simp only [Option.some.injEq, Prod.mk.injEq] at H
  obtain ⟨rfl, rfl⟩ := H
  go_enter Tryd.func43, Tryd.ntmps43
  go_wp2_with (first | ((with_reducible refine gate_callee (f := 39) rfl ?_); refine goesL_ (some 10) rfl rfl Tryd.func39 (by kernel_rfl) rfl #[.slice A0 l0.length c0, .int .i64 (l1.length : Int)] rfl q7_2 ?_; (with_reducible refine (expr_Right.calls k _ _ l0 (l1.length : Int) t205 _ ?side3 ?side1 ?side2 A3.out).mono ?_); (case side1 => exact q7_22); (case side2 => exact HC0.out); (case side3 => exact q7_23); rintro e w8 ⟨rfl, hb⟩; refine ⟨_, rfl, ?_⟩; have n0_ := Aside0.mk (below_step q7_0 hb); clear HB; have HB := n0_; clear n0_; (try clear hb); (try clear hb2); (try clear hk); (try clear hi)))
  go_ret2
  exact ⟨by first | rfl | (simp [errW_none, errW_some] <;> rfl) | (simp [*, errW_none, errW_some] <;> rfl), by repeat (first | (with_reducible first | exact HB.out | apply below_alloc | apply pw_below_drewN | apply below_drew1) | exact HB.out)⟩

/-! ### gnomonlaw08_live: function 9 -/
def gnomonlaw08_live.f (k : Nat)  : Option (Bool) := (some (([(⟨4, 0⟩ : S96), (⟨1, 1⟩ : S96), (⟨6, 0⟩ : S96), (⟨2, 0⟩ : S96), (⟨1, 2⟩ : S96)] : List (S96)) : List (S96))).bind fun y207 => ((expr_Value.f k y207 (([3] : List Int))).bind fun bt213 => ((expr_Print.f k y207 (([(⟨#[110]⟩ : ByteArray)] : List ByteArray))).bind fun bt218 => (if bt213.2 = 0 then (if bt213.1 = 7 then (if bt218.2 = 0 then (if bt218.1.toList = ([49, 32, 43, 32, 110, 32, 42, 32, 50] : List UInt8) then ((expr_Right.f k y207 0).bind fun t220 => (some (t220 == 121))) else (some false)) else (some false)) else (some false)) else (some false))))
theorem gnomonlaw08_live.mono : ∀ k, LeO (gnomonlaw08_live.f k ) (gnomonlaw08_live.f (k + 1) ) := by
 intro  k
 unfold gnomonlaw08_live.f
 repeat' first
   | (with_reducible exact expr_Print.mono _ _ _)
   | (with_reducible exact expr_Right.mono _ _ _)
   | (with_reducible exact expr_Value.mono _ _ _)
   | (with_reducible exact LeO.refl _)
   | (with_reducible exact LeO.none _)
   | (with_reducible refine LeO.ite ?_ ?_)
   | (with_reducible refine LeO.bind ?_ (fun _ => ?_))
   | exact expr_Print.mono _ _ _
   | exact expr_Right.mono _ _ _
   | exact expr_Value.mono _ _ _
   | exact LeO.none _
   | refine LeO.ite ?_ ?_
   | refine LeO.bind ?_ (fun _ => ?_)
set_option maxHeartbeats 8000000 in
set_option maxRecDepth 100000 in
theorem gnomonlaw08_live.calls (k : Nat)  (r : Bool) (w : World) (hG : Glob w) (h : gnomonlaw08_live.f k  = some r) :
  Calls Tryd.prog 9 #[] w fun e w' => e = .returned (.bool r) ∧ Below w.heap.size w w' := by
 have hu96 := Tryd.underlying96
 have HGL := Aside0.mk hG
 clear hG
 have HB := Aside0.mk (Below.refl w.heap.size w)
 have H : ((some (([(⟨4, 0⟩ : S96), (⟨1, 1⟩ : S96), (⟨6, 0⟩ : S96), (⟨2, 0⟩ : S96), (⟨1, 2⟩ : S96)] : List (S96)) : List (S96))).bind fun y207 => ((expr_Value.f k y207 (([3] : List Int))).bind fun bt213 => ((expr_Print.f k y207 (([(⟨#[110]⟩ : ByteArray)] : List ByteArray))).bind fun bt218 => (if bt213.2 = 0 then (if bt213.1 = 7 then (if bt218.2 = 0 then (if bt218.1.toList = ([49, 32, 43, 32, 110, 32, 42, 32, 50] : List UInt8) then ((expr_Right.f k y207 0).bind fun t220 => (some (t220 == 121))) else (some false)) else (some false)) else (some false)) else (some false))))) = some r := h
 clear h
 obtain ⟨y207, hy207⟩ : ∃ y_ : List (S96), y_ = (([(⟨4, 0⟩ : S96), (⟨1, 1⟩ : S96), (⟨6, 0⟩ : S96), (⟨2, 0⟩ : S96), (⟨1, 2⟩ : S96)] : List (S96))) := ⟨_, rfl⟩
 replace H : ((expr_Value.f k y207 (([3] : List Int))).bind fun bt213 => ((expr_Print.f k y207 (([(⟨#[110]⟩ : ByteArray)] : List ByteArray))).bind fun bt218 => (if bt213.2 = 0 then (if bt213.1 = 7 then (if bt218.2 = 0 then (if bt218.1.toList = ([49, 32, 43, 32, 110, 32, 42, 32, 50] : List UInt8) then ((expr_Right.f k y207 0).bind fun t220 => (some (t220 == 121))) else (some false)) else (some false)) else (some false)) else (some false)))) = some r := by first | (rw [hy207]; with_reducible exact H) | (have H2_ := (Option.bind_some _ _).symm.trans H; rw [hy207]; with_reducible exact H2_) | (have H2_ := (Option.bind_some _ _).symm.trans H; with_reducible exact H2_) | with_reducible exact H | (rw [hy207]; exact H) | exact H
 have Ny207 := Aside0.mk hy207
 clear hy207
 obtain ⟨y210, hy210⟩ : ∃ y_ : List Int, y_ = (([3] : List Int)) := ⟨_, rfl⟩
 replace H : ((expr_Value.f k y207 y210).bind fun bt213 => ((expr_Print.f k y207 (([(⟨#[110]⟩ : ByteArray)] : List ByteArray))).bind fun bt218 => (if bt213.2 = 0 then (if bt213.1 = 7 then (if bt218.2 = 0 then (if bt218.1.toList = ([49, 32, 43, 32, 110, 32, 42, 32, 50] : List UInt8) then ((expr_Right.f k y207 0).bind fun t220 => (some (t220 == 121))) else (some false)) else (some false)) else (some false)) else (some false)))) = some r := by first | (rw [hy210]; with_reducible exact H) | (have H2_ := (Option.bind_some _ _).symm.trans H; rw [hy210]; with_reducible exact H2_) | (have H2_ := (Option.bind_some _ _).symm.trans H; with_reducible exact H2_) | with_reducible exact H | (rw [hy210]; exact H) | exact H
 have Ny210 := Aside0.mk hy210
 clear hy210
 replace H := Option.bind_eq_some_iff.mp H
 obtain ⟨⟨t213, t214⟩, A10, H⟩ := H
 replace H : ((expr_Print.f k y207 (([(⟨#[110]⟩ : ByteArray)] : List ByteArray))).bind fun bt218 => (if t214 = 0 then (if t213 = 7 then (if bt218.2 = 0 then (if bt218.1.toList = ([49, 32, 43, 32, 110, 32, 42, 32, 50] : List UInt8) then ((expr_Right.f k y207 0).bind fun t220 => (some (t220 == 121))) else (some false)) else (some false)) else (some false)) else (some false))) = some r := H
 have A1 := Aside0.mk A10
 clear A10
 obtain ⟨y215, hy215⟩ : ∃ y_ : List ByteArray, y_ = (([(⟨#[110]⟩ : ByteArray)] : List ByteArray)) := ⟨_, rfl⟩
 replace H : ((expr_Print.f k y207 y215).bind fun bt218 => (if t214 = 0 then (if t213 = 7 then (if bt218.2 = 0 then (if bt218.1.toList = ([49, 32, 43, 32, 110, 32, 42, 32, 50] : List UInt8) then ((expr_Right.f k y207 0).bind fun t220 => (some (t220 == 121))) else (some false)) else (some false)) else (some false)) else (some false))) = some r := by first | (rw [hy215]; with_reducible exact H) | (have H2_ := (Option.bind_some _ _).symm.trans H; rw [hy215]; with_reducible exact H2_) | (have H2_ := (Option.bind_some _ _).symm.trans H; with_reducible exact H2_) | with_reducible exact H | (rw [hy215]; exact H) | exact H
 have Ny215 := Aside0.mk hy215
 clear hy215
 replace H := Option.bind_eq_some_iff.mp H
 obtain ⟨⟨t218, t219⟩, A20, H⟩ := H
 replace H : (if t214 = 0 then (if t213 = 7 then (if t219 = 0 then (if t218.toList = ([49, 32, 43, 32, 110, 32, 42, 32, 50] : List UInt8) then ((expr_Right.f k y207 0).bind fun t220 => (some (t220 == 121))) else (some false)) else (some false)) else (some false)) else (some false)) = some r := H
 have A2 := Aside0.mk A20
 clear A20
 by_cases c3 : t214 = 0
 ·
  rw [if_pos c3] at H
  have c3b0 : (t214 == 0) = true := beq_iff_eq.mpr c3
  have c3b1 : (t214 != 0) = false := bne_eq_false_iff_eq.mpr c3
  clear c3
  by_cases c4 : t213 = 7
  ·
   rw [if_pos c4] at H
   have c4b0 : (t213 == 7) = true := beq_iff_eq.mpr c4
   have c4b1 : (t213 != 7) = false := bne_eq_false_iff_eq.mpr c4
   clear c4
   by_cases c5 : t219 = 0
   ·
    rw [if_pos c5] at H
    have c5b0 : (t219 == 0) = true := beq_iff_eq.mpr c5
    have c5b1 : (t219 != 0) = false := bne_eq_false_iff_eq.mpr c5
    clear c5
    by_cases c6 : t218.toList = ([49, 32, 43, 32, 110, 32, 42, 32, 50] : List UInt8)
    ·
     rw [if_pos c6] at H
     have c6b0 : (t218.toList == ([49, 32, 43, 32, 110, 32, 42, 32, 50] : List UInt8)) = true := beq_iff_eq.mpr c6
     have c6b1 : (t218.toList != ([49, 32, 43, 32, 110, 32, 42, 32, 50] : List UInt8)) = false := bne_eq_false_iff_eq.mpr c6
     clear c6
     replace H := Option.bind_eq_some_iff.mp H
     obtain ⟨t220, A70, H⟩ := H
     replace H : (some (t220 == 121)) = some r := H
     have A7 := Aside0.mk A70
     clear A70
     obtain rfl := Option.some.inj H
     go_enter Tryd.func9, Tryd.ntmps9
     go_wp2_with (first | ((with_reducible refine gate_dst (N := 11) rfl ?_); refine Kd.R_lit k96 _ 96 ?hg (N := 11) ?hd (xs := ([(⟨4, 0⟩ : S96), (⟨1, 1⟩ : S96), (⟨6, 0⟩ : S96), (⟨2, 0⟩ : S96), (⟨1, 2⟩ : S96)] : List (S96))) (inner := [.int .u8 4, .int .i64 0, .int .u8 1, .int .i64 1, .int .u8 6, .int .i64 0, .int .u8 2, .int .i64 0, .int .u8 1, .int .i64 2]) (ok := fun _ => True) (okp := fun _ => True) ?hr ?hp (fun _ hk => hk) trivial (Below.refl _ _) (Nat.le_refl _) (by simp) ?_; (case hd => rfl); (case hg => rfl); (case hr => exact q7_10); (case hp => exact q7_1); intro v208 w8 ho9 hb hg_ hnew_; clear hg_ hnew_; (first | rw [← Ny207.out] at ho9 | (simp only [Int.reduceToNat] at ho9; rw [← Ny207.out] at ho9)); have n0_ := Aside0.mk (Kd.R_lower ho9 (below_size q7_0)); have n1_ := Aside0.mk (below_step q7_0 hb); clear HB; have HO209 := n0_; have HB := n1_; clear n0_ n1_; clear hb ho9) | ((with_reducible refine gate_dst (N := 14) rfl ?_); refine Kd.R_lit (Kd.int .i64) _ 3 ?hg (N := 14) ?hd (xs := ([3] : List Int)) (inner := [.int .i64 3]) (ok := fun _ => True) (okp := fun _ => True) ?hr ?hp (fun _ hk => hk) trivial (Below.refl _ _) (Nat.le_refl _) (by simp) ?_; (case hd => rfl); (case hg => rfl); (case hr => exact q7_10); (case hp => exact q7_15); intro v211 w10 ho11 hb hg_ hnew_; clear hg_ hnew_; (first | rw [← Ny210.out] at ho11 | (simp only [Int.reduceToNat] at ho11; rw [← Ny210.out] at ho11)); have n0_ := Aside0.mk (Kd.R_below q7_3 hb); have n1_ := Aside0.mk (Kd.R_lower ho11 (below_size q7_0)); have n2_ := Aside0.mk (below_step q7_0 hb); clear HO209; clear HB; have HO209 := n0_; have HO212 := n1_; have HB := n2_; clear n0_ n1_ n2_; clear hb ho11; obtain ⟨Ao12, co12, eo12⟩ := Kd.R_slice HO209.out; subst eo12; obtain ⟨Ao13, co13, eo13⟩ := Kd.R_slice HO212.out; subst eo13) | ((with_reducible refine gate_callee (f := 42) rfl ?_); refine goesL_ (some 15) rfl rfl Tryd.func42 (by kernel_rfl) rfl #[.slice Ao12 y207.length co12, .slice Ao13 y210.length co13] rfl q7_2 ?_; (with_reducible refine (expr_Value.calls k _ _ y207 _ _ y210 t213 t214 _ ?side5 ?side1 ?side2 ?side3 ?side4 A1.out).mono ?_); (case side1 => exact q7_5); (case side2 => exact q7_19); (case side3 => exact q7_9); (case side4 => exact q7_25); (case side5 => exact q7_4); rintro e w14 ⟨rfl, hb⟩; refine ⟨_, rfl, ?_⟩; have n0_ := Aside0.mk (Kd.R_below q7_3 hb); have n1_ := Aside0.mk (Kd.R_below q7_6 hb); have n2_ := Aside0.mk (below_step q7_0 hb); clear HO209; clear HO212; clear HB; have HO209 := n0_; have HO212 := n1_; have HB := n2_; clear n0_ n1_ n2_; (try clear hb); (try clear hb2); (try clear hk); (try clear hi)) | ((with_reducible refine gate_dst (N := 20) rfl ?_); refine Kd.R_lit Kd.string _ 9 ?hg (N := 20) ?hd (xs := ([(⟨#[110]⟩ : ByteArray)] : List ByteArray)) (inner := [.string (⟨#[110]⟩ : ByteArray)]) (ok := fun _ => True) (okp := fun _ => True) ?hr ?hp (fun _ hk => hk) trivial (Below.refl _ _) (Nat.le_refl _) (by simp) ?_; (case hd => rfl); (case hg => rfl); (case hr => exact q7_10); (case hp => exact q7_13); intro v216 w15 ho16 hb hg_ hnew_; clear hg_ hnew_; (first | rw [← Ny215.out] at ho16 | (simp only [Int.reduceToNat] at ho16; rw [← Ny215.out] at ho16)); have n0_ := Aside0.mk (Kd.R_below q7_3 hb); have n1_ := Aside0.mk (Kd.R_below q7_6 hb); have n2_ := Aside0.mk (Kd.R_lower ho16 (below_size q7_0)); have n3_ := Aside0.mk (below_step q7_0 hb); clear HO209; clear HO212; clear HB; have HO209 := n0_; have HO212 := n1_; have HO217 := n2_; have HB := n3_; clear n0_ n1_ n2_ n3_; clear hb ho16; obtain ⟨Ao17, co17, eo17⟩ := Kd.R_slice HO217.out; subst eo17) | ((with_reducible refine gate_callee (f := 43) rfl ?_); refine goesL_ (some 21) rfl rfl Tryd.func43 (by kernel_rfl) rfl #[.slice Ao12 y207.length co12, .slice Ao17 y215.length co17] rfl q7_2 ?_; (with_reducible refine (expr_Print.calls k _ _ y207 _ _ y215 t218 t219 _ ?side5 ?side1 ?side2 ?side3 ?side4 A2.out).mono ?_); (case side1 => exact q7_5); (case side2 => exact q7_19); (case side3 => exact q7_8); (case side4 => exact q7_24); (case side5 => exact q7_4); rintro e w18 ⟨rfl, hb⟩; refine ⟨_, rfl, ?_⟩; have n0_ := Aside0.mk (Kd.R_below q7_3 hb); have n1_ := Aside0.mk (Kd.R_below q7_6 hb); have n2_ := Aside0.mk (Kd.R_below q7_12 hb); have n3_ := Aside0.mk (below_step q7_0 hb); clear HO209; clear HO212; clear HO217; clear HB; have HO209 := n0_; have HO212 := n1_; have HO217 := n2_; have HB := n3_; clear n0_ n1_ n2_ n3_; (try clear hb); (try clear hb2); (try clear hk); (try clear hi)) | (go_at_call 39; (with_reducible refine (expr_Right.calls k _ _ y207 0 t220 _ ?side3 ?side1 ?side2 A7.out).mono ?_); (case side1 => exact q7_5); (case side2 => exact q7_19); (case side3 => exact q7_4); rintro e w19 ⟨rfl, hb⟩; have n0_ := Aside0.mk (Kd.R_below q7_3 hb); have n1_ := Aside0.mk (Kd.R_below q7_6 hb); have n2_ := Aside0.mk (Kd.R_below q7_12 hb); have n3_ := Aside0.mk (below_step q7_0 hb); clear HO209; clear HO212; clear HO217; clear HB; have HO209 := n0_; have HO212 := n1_; have HO217 := n2_; have HB := n3_; clear n0_ n1_ n2_ n3_; (try clear hb); (try clear hb2); (try clear hk); (try clear hi)))
     go_ret
     exact ⟨by first | rfl | (simp [errW_none, errW_some] <;> rfl) | (simp [*, errW_none, errW_some] <;> rfl), by repeat (first | (with_reducible first | exact HB.out | apply below_alloc | apply pw_below_drewN | apply below_drew1) | exact HB.out)⟩
    ·
     rw [if_neg c6] at H
     have c6b0 : (t218.toList == ([49, 32, 43, 32, 110, 32, 42, 32, 50] : List UInt8)) = false := beq_eq_false_iff_ne.mpr c6
     have c6b1 : (t218.toList != ([49, 32, 43, 32, 110, 32, 42, 32, 50] : List UInt8)) = true := bne_iff_ne.mpr c6
     obtain rfl := Option.some.inj H
     go_enter Tryd.func9, Tryd.ntmps9
     go_wp2_with (first | ((with_reducible refine gate_dst (N := 11) rfl ?_); refine Kd.R_lit k96 _ 96 ?hg (N := 11) ?hd (xs := ([(⟨4, 0⟩ : S96), (⟨1, 1⟩ : S96), (⟨6, 0⟩ : S96), (⟨2, 0⟩ : S96), (⟨1, 2⟩ : S96)] : List (S96))) (inner := [.int .u8 4, .int .i64 0, .int .u8 1, .int .i64 1, .int .u8 6, .int .i64 0, .int .u8 2, .int .i64 0, .int .u8 1, .int .i64 2]) (ok := fun _ => True) (okp := fun _ => True) ?hr ?hp (fun _ hk => hk) trivial (Below.refl _ _) (Nat.le_refl _) (by simp) ?_; (case hd => rfl); (case hg => rfl); (case hr => exact q7_10); (case hp => exact q7_1); intro v208 w20 ho21 hb hg_ hnew_; clear hg_ hnew_; (first | rw [← Ny207.out] at ho21 | (simp only [Int.reduceToNat] at ho21; rw [← Ny207.out] at ho21)); have n0_ := Aside0.mk (Kd.R_lower ho21 (below_size q7_0)); have n1_ := Aside0.mk (below_step q7_0 hb); clear HB; have HO209 := n0_; have HB := n1_; clear n0_ n1_; clear hb ho21) | ((with_reducible refine gate_dst (N := 14) rfl ?_); refine Kd.R_lit (Kd.int .i64) _ 3 ?hg (N := 14) ?hd (xs := ([3] : List Int)) (inner := [.int .i64 3]) (ok := fun _ => True) (okp := fun _ => True) ?hr ?hp (fun _ hk => hk) trivial (Below.refl _ _) (Nat.le_refl _) (by simp) ?_; (case hd => rfl); (case hg => rfl); (case hr => exact q7_10); (case hp => exact q7_15); intro v211 w22 ho23 hb hg_ hnew_; clear hg_ hnew_; (first | rw [← Ny210.out] at ho23 | (simp only [Int.reduceToNat] at ho23; rw [← Ny210.out] at ho23)); have n0_ := Aside0.mk (Kd.R_below q7_3 hb); have n1_ := Aside0.mk (Kd.R_lower ho23 (below_size q7_0)); have n2_ := Aside0.mk (below_step q7_0 hb); clear HO209; clear HB; have HO209 := n0_; have HO212 := n1_; have HB := n2_; clear n0_ n1_ n2_; clear hb ho23; obtain ⟨Ao24, co24, eo24⟩ := Kd.R_slice HO209.out; subst eo24; obtain ⟨Ao25, co25, eo25⟩ := Kd.R_slice HO212.out; subst eo25) | ((with_reducible refine gate_callee (f := 42) rfl ?_); refine goesL_ (some 15) rfl rfl Tryd.func42 (by kernel_rfl) rfl #[.slice Ao24 y207.length co24, .slice Ao25 y210.length co25] rfl q7_2 ?_; (with_reducible refine (expr_Value.calls k _ _ y207 _ _ y210 t213 t214 _ ?side5 ?side1 ?side2 ?side3 ?side4 A1.out).mono ?_); (case side1 => exact q7_5); (case side2 => exact q7_19); (case side3 => exact q7_9); (case side4 => exact q7_25); (case side5 => exact q7_4); rintro e w26 ⟨rfl, hb⟩; refine ⟨_, rfl, ?_⟩; have n0_ := Aside0.mk (Kd.R_below q7_3 hb); have n1_ := Aside0.mk (Kd.R_below q7_6 hb); have n2_ := Aside0.mk (below_step q7_0 hb); clear HO209; clear HO212; clear HB; have HO209 := n0_; have HO212 := n1_; have HB := n2_; clear n0_ n1_ n2_; (try clear hb); (try clear hb2); (try clear hk); (try clear hi)) | ((with_reducible refine gate_dst (N := 20) rfl ?_); refine Kd.R_lit Kd.string _ 9 ?hg (N := 20) ?hd (xs := ([(⟨#[110]⟩ : ByteArray)] : List ByteArray)) (inner := [.string (⟨#[110]⟩ : ByteArray)]) (ok := fun _ => True) (okp := fun _ => True) ?hr ?hp (fun _ hk => hk) trivial (Below.refl _ _) (Nat.le_refl _) (by simp) ?_; (case hd => rfl); (case hg => rfl); (case hr => exact q7_10); (case hp => exact q7_13); intro v216 w27 ho28 hb hg_ hnew_; clear hg_ hnew_; (first | rw [← Ny215.out] at ho28 | (simp only [Int.reduceToNat] at ho28; rw [← Ny215.out] at ho28)); have n0_ := Aside0.mk (Kd.R_below q7_3 hb); have n1_ := Aside0.mk (Kd.R_below q7_6 hb); have n2_ := Aside0.mk (Kd.R_lower ho28 (below_size q7_0)); have n3_ := Aside0.mk (below_step q7_0 hb); clear HO209; clear HO212; clear HB; have HO209 := n0_; have HO212 := n1_; have HO217 := n2_; have HB := n3_; clear n0_ n1_ n2_ n3_; clear hb ho28; obtain ⟨Ao29, co29, eo29⟩ := Kd.R_slice HO217.out; subst eo29) | ((with_reducible refine gate_callee (f := 43) rfl ?_); refine goesL_ (some 21) rfl rfl Tryd.func43 (by kernel_rfl) rfl #[.slice Ao24 y207.length co24, .slice Ao29 y215.length co29] rfl q7_2 ?_; (with_reducible refine (expr_Print.calls k _ _ y207 _ _ y215 t218 t219 _ ?side5 ?side1 ?side2 ?side3 ?side4 A2.out).mono ?_); (case side1 => exact q7_5); (case side2 => exact q7_19); (case side3 => exact q7_8); (case side4 => exact q7_24); (case side5 => exact q7_4); rintro e w30 ⟨rfl, hb⟩; refine ⟨_, rfl, ?_⟩; have n0_ := Aside0.mk (Kd.R_below q7_3 hb); have n1_ := Aside0.mk (Kd.R_below q7_6 hb); have n2_ := Aside0.mk (Kd.R_below q7_12 hb); have n3_ := Aside0.mk (below_step q7_0 hb); clear HO209; clear HO212; clear HO217; clear HB; have HO209 := n0_; have HO212 := n1_; have HO217 := n2_; have HB := n3_; clear n0_ n1_ n2_ n3_; (try clear hb); (try clear hb2); (try clear hk); (try clear hi)))
     go_ret
     exact ⟨by first | rfl | (simp [errW_none, errW_some] <;> rfl) | (simp [*, errW_none, errW_some] <;> rfl), by repeat (first | (with_reducible first | exact HB.out | apply below_alloc | apply pw_below_drewN | apply below_drew1) | exact HB.out)⟩
   ·
    rw [if_neg c5] at H
    have c5b0 : (t219 == 0) = false := beq_eq_false_iff_ne.mpr c5
    have c5b1 : (t219 != 0) = true := bne_iff_ne.mpr c5
    obtain rfl := Option.some.inj H
    go_enter Tryd.func9, Tryd.ntmps9
    go_wp2_with (first | ((with_reducible refine gate_dst (N := 11) rfl ?_); refine Kd.R_lit k96 _ 96 ?hg (N := 11) ?hd (xs := ([(⟨4, 0⟩ : S96), (⟨1, 1⟩ : S96), (⟨6, 0⟩ : S96), (⟨2, 0⟩ : S96), (⟨1, 2⟩ : S96)] : List (S96))) (inner := [.int .u8 4, .int .i64 0, .int .u8 1, .int .i64 1, .int .u8 6, .int .i64 0, .int .u8 2, .int .i64 0, .int .u8 1, .int .i64 2]) (ok := fun _ => True) (okp := fun _ => True) ?hr ?hp (fun _ hk => hk) trivial (Below.refl _ _) (Nat.le_refl _) (by simp) ?_; (case hd => rfl); (case hg => rfl); (case hr => exact q7_10); (case hp => exact q7_1); intro v208 w31 ho32 hb hg_ hnew_; clear hg_ hnew_; (first | rw [← Ny207.out] at ho32 | (simp only [Int.reduceToNat] at ho32; rw [← Ny207.out] at ho32)); have n0_ := Aside0.mk (Kd.R_lower ho32 (below_size q7_0)); have n1_ := Aside0.mk (below_step q7_0 hb); clear HB; have HO209 := n0_; have HB := n1_; clear n0_ n1_; clear hb ho32) | ((with_reducible refine gate_dst (N := 14) rfl ?_); refine Kd.R_lit (Kd.int .i64) _ 3 ?hg (N := 14) ?hd (xs := ([3] : List Int)) (inner := [.int .i64 3]) (ok := fun _ => True) (okp := fun _ => True) ?hr ?hp (fun _ hk => hk) trivial (Below.refl _ _) (Nat.le_refl _) (by simp) ?_; (case hd => rfl); (case hg => rfl); (case hr => exact q7_10); (case hp => exact q7_15); intro v211 w33 ho34 hb hg_ hnew_; clear hg_ hnew_; (first | rw [← Ny210.out] at ho34 | (simp only [Int.reduceToNat] at ho34; rw [← Ny210.out] at ho34)); have n0_ := Aside0.mk (Kd.R_below q7_3 hb); have n1_ := Aside0.mk (Kd.R_lower ho34 (below_size q7_0)); have n2_ := Aside0.mk (below_step q7_0 hb); clear HO209; clear HB; have HO209 := n0_; have HO212 := n1_; have HB := n2_; clear n0_ n1_ n2_; clear hb ho34; obtain ⟨Ao35, co35, eo35⟩ := Kd.R_slice HO209.out; subst eo35; obtain ⟨Ao36, co36, eo36⟩ := Kd.R_slice HO212.out; subst eo36) | ((with_reducible refine gate_callee (f := 42) rfl ?_); refine goesL_ (some 15) rfl rfl Tryd.func42 (by kernel_rfl) rfl #[.slice Ao35 y207.length co35, .slice Ao36 y210.length co36] rfl q7_2 ?_; (with_reducible refine (expr_Value.calls k _ _ y207 _ _ y210 t213 t214 _ ?side5 ?side1 ?side2 ?side3 ?side4 A1.out).mono ?_); (case side1 => exact q7_5); (case side2 => exact q7_19); (case side3 => exact q7_9); (case side4 => exact q7_25); (case side5 => exact q7_4); rintro e w37 ⟨rfl, hb⟩; refine ⟨_, rfl, ?_⟩; have n0_ := Aside0.mk (Kd.R_below q7_3 hb); have n1_ := Aside0.mk (Kd.R_below q7_6 hb); have n2_ := Aside0.mk (below_step q7_0 hb); clear HO209; clear HO212; clear HB; have HO209 := n0_; have HO212 := n1_; have HB := n2_; clear n0_ n1_ n2_; (try clear hb); (try clear hb2); (try clear hk); (try clear hi)) | ((with_reducible refine gate_dst (N := 20) rfl ?_); refine Kd.R_lit Kd.string _ 9 ?hg (N := 20) ?hd (xs := ([(⟨#[110]⟩ : ByteArray)] : List ByteArray)) (inner := [.string (⟨#[110]⟩ : ByteArray)]) (ok := fun _ => True) (okp := fun _ => True) ?hr ?hp (fun _ hk => hk) trivial (Below.refl _ _) (Nat.le_refl _) (by simp) ?_; (case hd => rfl); (case hg => rfl); (case hr => exact q7_10); (case hp => exact q7_13); intro v216 w38 ho39 hb hg_ hnew_; clear hg_ hnew_; (first | rw [← Ny215.out] at ho39 | (simp only [Int.reduceToNat] at ho39; rw [← Ny215.out] at ho39)); have n0_ := Aside0.mk (Kd.R_below q7_3 hb); have n1_ := Aside0.mk (Kd.R_below q7_6 hb); have n2_ := Aside0.mk (Kd.R_lower ho39 (below_size q7_0)); have n3_ := Aside0.mk (below_step q7_0 hb); clear HO209; clear HO212; clear HB; have HO209 := n0_; have HO212 := n1_; have HO217 := n2_; have HB := n3_; clear n0_ n1_ n2_ n3_; clear hb ho39; obtain ⟨Ao40, co40, eo40⟩ := Kd.R_slice HO217.out; subst eo40) | ((with_reducible refine gate_callee (f := 43) rfl ?_); refine goesL_ (some 21) rfl rfl Tryd.func43 (by kernel_rfl) rfl #[.slice Ao35 y207.length co35, .slice Ao40 y215.length co40] rfl q7_2 ?_; (with_reducible refine (expr_Print.calls k _ _ y207 _ _ y215 t218 t219 _ ?side5 ?side1 ?side2 ?side3 ?side4 A2.out).mono ?_); (case side1 => exact q7_5); (case side2 => exact q7_19); (case side3 => exact q7_8); (case side4 => exact q7_24); (case side5 => exact q7_4); rintro e w41 ⟨rfl, hb⟩; refine ⟨_, rfl, ?_⟩; have n0_ := Aside0.mk (Kd.R_below q7_3 hb); have n1_ := Aside0.mk (Kd.R_below q7_6 hb); have n2_ := Aside0.mk (Kd.R_below q7_12 hb); have n3_ := Aside0.mk (below_step q7_0 hb); clear HO209; clear HO212; clear HO217; clear HB; have HO209 := n0_; have HO212 := n1_; have HO217 := n2_; have HB := n3_; clear n0_ n1_ n2_ n3_; (try clear hb); (try clear hb2); (try clear hk); (try clear hi)))
    go_ret
    exact ⟨by first | rfl | (simp [errW_none, errW_some] <;> rfl) | (simp [*, errW_none, errW_some] <;> rfl), by repeat (first | (with_reducible first | exact HB.out | apply below_alloc | apply pw_below_drewN | apply below_drew1) | exact HB.out)⟩
  ·
   rw [if_neg c4] at H
   have c4b0 : (t213 == 7) = false := beq_eq_false_iff_ne.mpr c4
   have c4b1 : (t213 != 7) = true := bne_iff_ne.mpr c4
   obtain rfl := Option.some.inj H
   go_enter Tryd.func9, Tryd.ntmps9
   go_wp2_with (first | ((with_reducible refine gate_dst (N := 11) rfl ?_); refine Kd.R_lit k96 _ 96 ?hg (N := 11) ?hd (xs := ([(⟨4, 0⟩ : S96), (⟨1, 1⟩ : S96), (⟨6, 0⟩ : S96), (⟨2, 0⟩ : S96), (⟨1, 2⟩ : S96)] : List (S96))) (inner := [.int .u8 4, .int .i64 0, .int .u8 1, .int .i64 1, .int .u8 6, .int .i64 0, .int .u8 2, .int .i64 0, .int .u8 1, .int .i64 2]) (ok := fun _ => True) (okp := fun _ => True) ?hr ?hp (fun _ hk => hk) trivial (Below.refl _ _) (Nat.le_refl _) (by simp) ?_; (case hd => rfl); (case hg => rfl); (case hr => exact q7_10); (case hp => exact q7_1); intro v208 w42 ho43 hb hg_ hnew_; clear hg_ hnew_; (first | rw [← Ny207.out] at ho43 | (simp only [Int.reduceToNat] at ho43; rw [← Ny207.out] at ho43)); have n0_ := Aside0.mk (Kd.R_lower ho43 (below_size q7_0)); have n1_ := Aside0.mk (below_step q7_0 hb); clear HB; have HO209 := n0_; have HB := n1_; clear n0_ n1_; clear hb ho43) | ((with_reducible refine gate_dst (N := 14) rfl ?_); refine Kd.R_lit (Kd.int .i64) _ 3 ?hg (N := 14) ?hd (xs := ([3] : List Int)) (inner := [.int .i64 3]) (ok := fun _ => True) (okp := fun _ => True) ?hr ?hp (fun _ hk => hk) trivial (Below.refl _ _) (Nat.le_refl _) (by simp) ?_; (case hd => rfl); (case hg => rfl); (case hr => exact q7_10); (case hp => exact q7_15); intro v211 w44 ho45 hb hg_ hnew_; clear hg_ hnew_; (first | rw [← Ny210.out] at ho45 | (simp only [Int.reduceToNat] at ho45; rw [← Ny210.out] at ho45)); have n0_ := Aside0.mk (Kd.R_below q7_3 hb); have n1_ := Aside0.mk (Kd.R_lower ho45 (below_size q7_0)); have n2_ := Aside0.mk (below_step q7_0 hb); clear HO209; clear HB; have HO209 := n0_; have HO212 := n1_; have HB := n2_; clear n0_ n1_ n2_; clear hb ho45; obtain ⟨Ao46, co46, eo46⟩ := Kd.R_slice HO209.out; subst eo46; obtain ⟨Ao47, co47, eo47⟩ := Kd.R_slice HO212.out; subst eo47) | ((with_reducible refine gate_callee (f := 42) rfl ?_); refine goesL_ (some 15) rfl rfl Tryd.func42 (by kernel_rfl) rfl #[.slice Ao46 y207.length co46, .slice Ao47 y210.length co47] rfl q7_2 ?_; (with_reducible refine (expr_Value.calls k _ _ y207 _ _ y210 t213 t214 _ ?side5 ?side1 ?side2 ?side3 ?side4 A1.out).mono ?_); (case side1 => exact q7_5); (case side2 => exact q7_19); (case side3 => exact q7_9); (case side4 => exact q7_25); (case side5 => exact q7_4); rintro e w48 ⟨rfl, hb⟩; refine ⟨_, rfl, ?_⟩; have n0_ := Aside0.mk (Kd.R_below q7_3 hb); have n1_ := Aside0.mk (Kd.R_below q7_6 hb); have n2_ := Aside0.mk (below_step q7_0 hb); clear HO209; clear HO212; clear HB; have HO209 := n0_; have HO212 := n1_; have HB := n2_; clear n0_ n1_ n2_; (try clear hb); (try clear hb2); (try clear hk); (try clear hi)) | ((with_reducible refine gate_dst (N := 20) rfl ?_); refine Kd.R_lit Kd.string _ 9 ?hg (N := 20) ?hd (xs := ([(⟨#[110]⟩ : ByteArray)] : List ByteArray)) (inner := [.string (⟨#[110]⟩ : ByteArray)]) (ok := fun _ => True) (okp := fun _ => True) ?hr ?hp (fun _ hk => hk) trivial (Below.refl _ _) (Nat.le_refl _) (by simp) ?_; (case hd => rfl); (case hg => rfl); (case hr => exact q7_10); (case hp => exact q7_13); intro v216 w49 ho50 hb hg_ hnew_; clear hg_ hnew_; (first | rw [← Ny215.out] at ho50 | (simp only [Int.reduceToNat] at ho50; rw [← Ny215.out] at ho50)); have n0_ := Aside0.mk (Kd.R_below q7_3 hb); have n1_ := Aside0.mk (Kd.R_below q7_6 hb); have n2_ := Aside0.mk (Kd.R_lower ho50 (below_size q7_0)); have n3_ := Aside0.mk (below_step q7_0 hb); clear HO209; clear HO212; clear HB; have HO209 := n0_; have HO212 := n1_; have HO217 := n2_; have HB := n3_; clear n0_ n1_ n2_ n3_; clear hb ho50; obtain ⟨Ao51, co51, eo51⟩ := Kd.R_slice HO217.out; subst eo51) | ((with_reducible refine gate_callee (f := 43) rfl ?_); refine goesL_ (some 21) rfl rfl Tryd.func43 (by kernel_rfl) rfl #[.slice Ao46 y207.length co46, .slice Ao51 y215.length co51] rfl q7_2 ?_; (with_reducible refine (expr_Print.calls k _ _ y207 _ _ y215 t218 t219 _ ?side5 ?side1 ?side2 ?side3 ?side4 A2.out).mono ?_); (case side1 => exact q7_5); (case side2 => exact q7_19); (case side3 => exact q7_8); (case side4 => exact q7_24); (case side5 => exact q7_4); rintro e w52 ⟨rfl, hb⟩; refine ⟨_, rfl, ?_⟩; have n0_ := Aside0.mk (Kd.R_below q7_3 hb); have n1_ := Aside0.mk (Kd.R_below q7_6 hb); have n2_ := Aside0.mk (Kd.R_below q7_12 hb); have n3_ := Aside0.mk (below_step q7_0 hb); clear HO209; clear HO212; clear HO217; clear HB; have HO209 := n0_; have HO212 := n1_; have HO217 := n2_; have HB := n3_; clear n0_ n1_ n2_ n3_; (try clear hb); (try clear hb2); (try clear hk); (try clear hi)))
   go_ret
   exact ⟨by first | rfl | (simp [errW_none, errW_some] <;> rfl) | (simp [*, errW_none, errW_some] <;> rfl), by repeat (first | (with_reducible first | exact HB.out | apply below_alloc | apply pw_below_drewN | apply below_drew1) | exact HB.out)⟩
 ·
  rw [if_neg c3] at H
  have c3b0 : (t214 == 0) = false := beq_eq_false_iff_ne.mpr c3
  have c3b1 : (t214 != 0) = true := bne_iff_ne.mpr c3
  obtain rfl := Option.some.inj H
  go_enter Tryd.func9, Tryd.ntmps9
  go_wp2_with (first | ((with_reducible refine gate_dst (N := 11) rfl ?_); refine Kd.R_lit k96 _ 96 ?hg (N := 11) ?hd (xs := ([(⟨4, 0⟩ : S96), (⟨1, 1⟩ : S96), (⟨6, 0⟩ : S96), (⟨2, 0⟩ : S96), (⟨1, 2⟩ : S96)] : List (S96))) (inner := [.int .u8 4, .int .i64 0, .int .u8 1, .int .i64 1, .int .u8 6, .int .i64 0, .int .u8 2, .int .i64 0, .int .u8 1, .int .i64 2]) (ok := fun _ => True) (okp := fun _ => True) ?hr ?hp (fun _ hk => hk) trivial (Below.refl _ _) (Nat.le_refl _) (by simp) ?_; (case hd => rfl); (case hg => rfl); (case hr => exact q7_10); (case hp => exact q7_1); intro v208 w53 ho54 hb hg_ hnew_; clear hg_ hnew_; (first | rw [← Ny207.out] at ho54 | (simp only [Int.reduceToNat] at ho54; rw [← Ny207.out] at ho54)); have n0_ := Aside0.mk (Kd.R_lower ho54 (below_size q7_0)); have n1_ := Aside0.mk (below_step q7_0 hb); clear HB; have HO209 := n0_; have HB := n1_; clear n0_ n1_; clear hb ho54) | ((with_reducible refine gate_dst (N := 14) rfl ?_); refine Kd.R_lit (Kd.int .i64) _ 3 ?hg (N := 14) ?hd (xs := ([3] : List Int)) (inner := [.int .i64 3]) (ok := fun _ => True) (okp := fun _ => True) ?hr ?hp (fun _ hk => hk) trivial (Below.refl _ _) (Nat.le_refl _) (by simp) ?_; (case hd => rfl); (case hg => rfl); (case hr => exact q7_10); (case hp => exact q7_15); intro v211 w55 ho56 hb hg_ hnew_; clear hg_ hnew_; (first | rw [← Ny210.out] at ho56 | (simp only [Int.reduceToNat] at ho56; rw [← Ny210.out] at ho56)); have n0_ := Aside0.mk (Kd.R_below q7_3 hb); have n1_ := Aside0.mk (Kd.R_lower ho56 (below_size q7_0)); have n2_ := Aside0.mk (below_step q7_0 hb); clear HO209; clear HB; have HO209 := n0_; have HO212 := n1_; have HB := n2_; clear n0_ n1_ n2_; clear hb ho56; obtain ⟨Ao57, co57, eo57⟩ := Kd.R_slice HO209.out; subst eo57; obtain ⟨Ao58, co58, eo58⟩ := Kd.R_slice HO212.out; subst eo58) | ((with_reducible refine gate_callee (f := 42) rfl ?_); refine goesL_ (some 15) rfl rfl Tryd.func42 (by kernel_rfl) rfl #[.slice Ao57 y207.length co57, .slice Ao58 y210.length co58] rfl q7_2 ?_; (with_reducible refine (expr_Value.calls k _ _ y207 _ _ y210 t213 t214 _ ?side5 ?side1 ?side2 ?side3 ?side4 A1.out).mono ?_); (case side1 => exact q7_5); (case side2 => exact q7_19); (case side3 => exact q7_9); (case side4 => exact q7_25); (case side5 => exact q7_4); rintro e w59 ⟨rfl, hb⟩; refine ⟨_, rfl, ?_⟩; have n0_ := Aside0.mk (Kd.R_below q7_3 hb); have n1_ := Aside0.mk (Kd.R_below q7_6 hb); have n2_ := Aside0.mk (below_step q7_0 hb); clear HO209; clear HO212; clear HB; have HO209 := n0_; have HO212 := n1_; have HB := n2_; clear n0_ n1_ n2_; (try clear hb); (try clear hb2); (try clear hk); (try clear hi)) | ((with_reducible refine gate_dst (N := 20) rfl ?_); refine Kd.R_lit Kd.string _ 9 ?hg (N := 20) ?hd (xs := ([(⟨#[110]⟩ : ByteArray)] : List ByteArray)) (inner := [.string (⟨#[110]⟩ : ByteArray)]) (ok := fun _ => True) (okp := fun _ => True) ?hr ?hp (fun _ hk => hk) trivial (Below.refl _ _) (Nat.le_refl _) (by simp) ?_; (case hd => rfl); (case hg => rfl); (case hr => exact q7_10); (case hp => exact q7_13); intro v216 w60 ho61 hb hg_ hnew_; clear hg_ hnew_; (first | rw [← Ny215.out] at ho61 | (simp only [Int.reduceToNat] at ho61; rw [← Ny215.out] at ho61)); have n0_ := Aside0.mk (Kd.R_below q7_3 hb); have n1_ := Aside0.mk (Kd.R_below q7_6 hb); have n2_ := Aside0.mk (Kd.R_lower ho61 (below_size q7_0)); have n3_ := Aside0.mk (below_step q7_0 hb); clear HO209; clear HO212; clear HB; have HO209 := n0_; have HO212 := n1_; have HO217 := n2_; have HB := n3_; clear n0_ n1_ n2_ n3_; clear hb ho61; obtain ⟨Ao62, co62, eo62⟩ := Kd.R_slice HO217.out; subst eo62) | ((with_reducible refine gate_callee (f := 43) rfl ?_); refine goesL_ (some 21) rfl rfl Tryd.func43 (by kernel_rfl) rfl #[.slice Ao57 y207.length co57, .slice Ao62 y215.length co62] rfl q7_2 ?_; (with_reducible refine (expr_Print.calls k _ _ y207 _ _ y215 t218 t219 _ ?side5 ?side1 ?side2 ?side3 ?side4 A2.out).mono ?_); (case side1 => exact q7_5); (case side2 => exact q7_19); (case side3 => exact q7_8); (case side4 => exact q7_24); (case side5 => exact q7_4); rintro e w63 ⟨rfl, hb⟩; refine ⟨_, rfl, ?_⟩; have n0_ := Aside0.mk (Kd.R_below q7_3 hb); have n1_ := Aside0.mk (Kd.R_below q7_6 hb); have n2_ := Aside0.mk (Kd.R_below q7_12 hb); have n3_ := Aside0.mk (below_step q7_0 hb); clear HO209; clear HO212; clear HO217; clear HB; have HO209 := n0_; have HO212 := n1_; have HO217 := n2_; have HB := n3_; clear n0_ n1_ n2_ n3_; (try clear hb); (try clear hb2); (try clear hk); (try clear hi)))
  go_ret
  exact ⟨by first | rfl | (simp [errW_none, errW_some] <;> rfl) | (simp [*, errW_none, errW_some] <;> rfl), by repeat (first | (with_reducible first | exact HB.out | apply below_alloc | apply pw_below_drewN | apply below_drew1) | exact HB.out)⟩

/-! ### api_Node_44: function 44 -/
def api_Node_44.f (l0 : List (S96)) : Option (List (S96)) := if l0.length < 8796093022208 then some l0 else none
set_option maxHeartbeats 4000000 in
set_option maxRecDepth 100000 in
theorem api_Node_44.calls (A0 : Option Addr) (c0 : Nat) (l0 : List (S96)) (r : List (S96)) (w : World) (hr0 : Kd.C k96 w A0 l0.length l0) (hc0 : l0.length ≤ c0) (h : api_Node_44.f l0 = some r) :
  Calls Tryd.prog 44 #[.slice A0 l0.length c0] w fun e w' => ∃ v0_ : Value, e = .returned (v0_) ∧ Kd.R k96 96 w' w.heap.size (fun _ => True) v0_ r ∧ Below w.heap.size w w' := by
  unfold api_Node_44.f at h
  by_cases hlen : l0.length < 8796093022208
  · rw [if_pos hlen] at h
    obtain rfl := Option.some.inj h
    clear h
    have hinfo : (Tryd.prog.info? 96).map (fun i => (i.zero, i.size, i.bytes)) = some (some (.agg #[(.int .u8 0), (.int .i64 0)]), 2, 16) := by kernel_rfl
    have HI := Aside0.mk hinfo
    have HR0 := Aside0.mk hr0
    have HC0 := Aside0.mk hc0
    have HL := Aside0.mk hlen
    have HB := Aside0.mk (Below.refl w.heap.size w)
    clear hr0 hc0 hlen hinfo
    have hq : ∀ (W : World) (a : Option Addr) (n c n' c' : Nat), (binOp .eql 27 (.slice a n c) (.slice none n' c')).run Tryd.prog W = .ok (.bool a.isNone) W := fun W a n c n' c' => Lib.run_eql_slice_nil W _ _ a n c n' c' Tryd.underlying27
    cases A0 with
    | none =>
      obtain rfl : l0 = [] := by
        rcases Nat.eq_zero_or_pos l0.length with hz | hz
        · exact List.eq_nil_of_length_eq_zero hz
        · obtain ⟨ad, had, _⟩ := HR0.out.2.2 hz
          cases had
      clear HR0
      go_enter Tryd.func44, Tryd.ntmps44
      go_wp2
      go_ret
      exact ⟨_, by first | rfl | (simp; done), Kd.R_nil _ _ _ _ _, by repeat (first | (with_reducible first | exact HB.out | apply below_alloc | apply pw_below_drewN | apply below_drew1) | exact HB.out)⟩
    | some ad =>
      go_enter Tryd.func44, Tryd.ntmps44
      go_wp2_with (first | ((with_reducible refine gate_dst (N := 5) rfl ?_); refine Kd.R_lit k96 _ 96 ?hg (N := 5) ?hd (xs := ([] : List (S96))) (inner := []) (ok := fun _ => True) (okp := fun _ => True) ?hr ?hp (fun _ hk => hk) trivial (Below.refl _ _) (Nat.le_refl _) (by simp) ?_; (case hd => rfl); (case hg => rfl); (case hr => exact q7_10); (case hp => exact (Reps.none _ _)); intro v222 w4 ho5 hb hg_ hnew_; clear hg_ hnew_; have n0_ := Aside0.mk (Kd.R_lower ho5 (below_size q7_0)); have n1_ := Aside0.mk (below_step q7_0 hb); clear HB; have HO223 := n0_; have HB := n1_; clear n0_ n1_; clear hb ho5) | ((with_reducible refine gate_builtin (b := .append) (xs := #[.tmp 5, .tmp 6]) rfl ?_); at_builtin; refine Kd.R_append_rows k96 (w0 := w) w.heap.size rfl (.tmp 5) (.tmp 6) 27 96 (.agg #[(.int .u8 0), (.int .i64 0)]) 16 rfl Tryd.underlying27 HI.out rfl (by decide) (by omega) v222 ([] : List (S96)) l0 _ _ _ (fun _ => True) (fun _ => False) rfl rfl ?aO ?aR (fun _ _ h => h) (fun _ h => h.elim) ?aF ?aB ?aS ?aL ?_; (case aR => exact q7_21); (case aB => exact q7_0); (case aF => exact (fun _ _ => trivial)); (case aO => exact (by (with_reducible repeat (first | apply Kd.R_alloc | apply Kd.R_drewN | apply Kd.R_drew)); exact HO223.out)); (case aS => exact (below_size q7_0)); (case aL => have := HL.out; simp only [List.length_nil]; omega); intro v225 w6 ho hb hg hat; rw [List.nil_append] at ho; have n0_ := Aside0.mk (hb); have n1_ := Aside0.mk (ho); clear HB; clear HO223; have HB := n0_; have HO226 := n1_; clear n0_ n1_; clear ho hb hg hat))
      go_ret
      exact ⟨_, by first | rfl | (simp; done), by (with_reducible repeat (first | apply Kd.R_alloc | apply Kd.R_drewN | apply Kd.R_drew)); exact HO226.out, by repeat (first | (with_reducible first | exact HB.out | apply below_alloc | apply pw_below_drewN | apply below_drew1) | exact HB.out)⟩
  · rw [if_neg hlen] at h
    cases h


/-! ### api_Node_107: function 107 -/
/-- Of a slice that is nil. -/
def api_Node_107.f (l0 : List (S96)) (a1 : Int) : Option (List (S96)) := if l0 = [] ∧ 0 ≤ a1 ∧ a1 < 8796093022208 then some [] else none
set_option maxHeartbeats 4000000 in
set_option maxRecDepth 100000 in
theorem api_Node_107.calls (A0 : Option Addr) (c0 : Nat) (l0 : List (S96)) (a1 : Int) (r : List (S96)) (w : World) (hr0 : Kd.C k96 w A0 l0.length l0) (hc0 : l0.length ≤ c0) (h : api_Node_107.f l0 a1 = some r) (hn : A0 = none ∧ c0 = 0 := by exact ⟨rfl, rfl⟩) :
  Calls Tryd.prog 107 #[.slice A0 l0.length c0, .int .i64 a1] w fun e w' => ∃ v0_ : Value, e = .returned (v0_) ∧ Kd.R k96 96 w' w.heap.size (fun _ => True) v0_ r ∧ Below w.heap.size w w' := by
  unfold api_Node_107.f at h
  obtain ⟨rfl, rfl⟩ := hn
  by_cases hlen : l0 = [] ∧ 0 ≤ a1 ∧ a1 < 8796093022208
  · rw [if_pos hlen] at h
    obtain rfl := Option.some.inj h
    obtain ⟨rfl, h0, h1⟩ := hlen
    clear h hr0 hc0
    have hinfo : (Tryd.prog.info? 96).map (fun i => (i.zero, i.size, i.bytes)) = some (some (.agg #[(.int .u8 0), (.int .i64 0)]), 2, 16) := by kernel_rfl
    have HI := Aside0.mk hinfo
    have H0 := Aside0.mk h0
    have H1 := Aside0.mk h1
    have HB := Aside0.mk (Below.refl w.heap.size w)
    have d1 : decide (a1 < 0) = false := decide_eq_false (by omega)
    have d3 : wrap64 a1 = a1 := by unfold wrap64; omega
    have D3 := Aside0.mk d3
    by_cases hz : 0 < a1
    · have d2 : decide (wrap64 a1 > 0) = true := decide_eq_true (by rw [d3]; exact hz)
      have d4 : decide (0 < wrap64 a1) = true := decide_eq_true (by rw [d3]; exact hz)
      clear h0 h1 hz hinfo d3
      go_enter Tryd.func107, Tryd.ntmps107
      go_wp2_with (first | ((with_reducible refine gate_builtin (b := .append) (xs := #[.tmp 20, .tmp 21]) rfl ?_); at_builtin; refine Kd.R_append_zeros k96 (w0 := w) w.heap.size rfl (.tmp 20) (.tmp 21) 27 3 96 (.agg #[(.int .u8 0), (.int .i64 0)]) 16 rfl Tryd.underlying27 Tryd.underlying3 HI.out rfl (by decide) (by omega) (.slice none 0 0) ([] : List (S96)) z96 (wrap64 a1) (fun _ => True) rfl rfl ?aZ (fun _ _ => trivial) (Kd.R_nil _ _ _ _ _) (by rw [D3.out]; exact H0.out) ?aB ?aS ?aL ?_; (case aB => exact q7_0); (case aS => exact (below_size q7_0)); (case aL => have := H1.out; have := H0.out; rw [D3.out]; simp only [List.length_nil]; omega); (case aZ => first | exact k96_mkM _ _ _ z96 | exact rfl | trivial); intro v225 w6 ho hb hg hat; rw [List.nil_append] at ho; have n0_ := Aside0.mk (hb); have n1_ := Aside0.mk (ho); clear HB; have HB := n0_; have HO226 := n1_; clear n0_ n1_; clear ho hb hg hat; obtain ⟨Ao7, co7, eo7⟩ := Kd.R_slice HO226.out; subst eo7))
      go_ret
      exact ⟨_, by first | rfl | (simp; done), by (with_reducible repeat (first | apply Kd.R_alloc | apply Kd.R_drewN | apply Kd.R_drew)); exact Kd.R_take (m := 0) HO226.out (Nat.zero_le _), by repeat (first | (with_reducible first | exact HB.out | apply below_alloc | apply pw_below_drewN | apply below_drew1) | exact HB.out)⟩
    · have d2 : decide (a1 > 0) = false := decide_eq_false hz
      have d4 : decide (0 < a1) = false := decide_eq_false hz
      clear h0 h1 hz hinfo
      go_enter Tryd.func107, Tryd.ntmps107
      go_wp2
      go_ret
      exact ⟨_, by first | rfl | (simp; done), Kd.R_nil _ _ _ _ _, by repeat (first | (with_reducible first | exact HB.out | apply below_alloc | apply pw_below_drewN | apply below_drew1) | exact HB.out)⟩
  · rw [if_neg hlen] at h
    cases h

/-! ### api_Node_45: function 45 -/
mutual
def api_Node_45.l0 : Nat → List (List (S96)) → Int → List (List (S96)) → Int → Int → Option ((List (S96)))
 | 0, _, _, _, _, _ => none
 | k + 1, x0, x3, x9, x10, x11 => if x11 < x10 then (if 0 ≤ x11 then (if x11 < (x9.length : Int) then (if (wrap64 (x3 + ((rd_L6 x9 x11).length : Int))) < 0 then (none) else (api_Node_45.l0 k x0 (wrap64 (x3 + ((rd_L6 x9 x11).length : Int))) x9 x10 (wrap64 (x11 + 1)))) else (none)) else (none)) else ((api_Node_107.f ([] : List (S96)) x3).bind fun t222 => (api_Node_45.l1 k t222 x0 (x0.length : Int) 0))
def api_Node_45.l1 : Nat → List (S96) → List (List (S96)) → Int → Int → Option ((List (S96)))
 | 0, _, _, _, _ => none
 | k + 1, x6, x25, x26, x27 => if x27 < x26 then (if 0 ≤ x27 then (if x27 < (x25.length : Int) then (if x6.length + (rd_L6 x25 x27).length < 8796093022208 then (api_Node_45.l1 k (x6 ++ (rd_L6 x25 x27)) x25 x26 (wrap64 (x27 + 1))) else (none)) else (none)) else (none)) else (some x6)
end
def api_Node_45.f (k : Nat) (l0 : List (List (S96))) : Option ((List (S96))) := api_Node_45.l0 k l0 0 l0 (l0.length : Int) 0
theorem api_Node_45.mono_l : ∀ k, (∀ y0 y1 y2 y3 y4, LeO (api_Node_45.l0 k y0 y1 y2 y3 y4) (api_Node_45.l0 (k + 1) y0 y1 y2 y3 y4)) ∧ (∀ y0 y1 y2 y3, LeO (api_Node_45.l1 k y0 y1 y2 y3) (api_Node_45.l1 (k + 1) y0 y1 y2 y3))
 | 0 => ⟨fun _ _ _ _ _ r h => by simp [api_Node_45.l0] at h, fun _ _ _ _ r h => by simp [api_Node_45.l1] at h⟩
 | k + 1 => by
  obtain ⟨ih0, ih1⟩ := api_Node_45.mono_l k
  refine ⟨?_, ?_⟩
  ·
   intro y0 y1 y2 y3 y4
   unfold api_Node_45.l0
   repeat' first
   | (with_reducible exact ih0 _ _ _ _ _)
   | (with_reducible exact ih1 _ _ _ _)
   | (with_reducible exact LeO.refl _)
   | (with_reducible exact LeO.none _)
   | (with_reducible refine LeO.ite ?_ ?_)
   | (with_reducible refine LeO.bind ?_ (fun _ => ?_))
   | exact ih0 _ _ _ _ _
   | exact ih1 _ _ _ _
   | exact LeO.none _
   | refine LeO.ite ?_ ?_
   | refine LeO.bind ?_ (fun _ => ?_)
  ·
   intro y0 y1 y2 y3
   unfold api_Node_45.l1
   repeat' first
   | (with_reducible exact ih0 _ _ _ _ _)
   | (with_reducible exact ih1 _ _ _ _)
   | (with_reducible exact LeO.refl _)
   | (with_reducible exact LeO.none _)
   | (with_reducible refine LeO.ite ?_ ?_)
   | (with_reducible refine LeO.bind ?_ (fun _ => ?_))
   | exact ih0 _ _ _ _ _
   | exact ih1 _ _ _ _
   | exact LeO.none _
   | refine LeO.ite ?_ ?_
   | refine LeO.bind ?_ (fun _ => ?_)
theorem api_Node_45.mono : ∀ a0 k, LeO (api_Node_45.f k a0) (api_Node_45.f (k + 1) a0) := by
 intro a0 k
 obtain ⟨ih0, ih1⟩ := api_Node_45.mono_l k
 unfold api_Node_45.f
 repeat' first
   | (with_reducible exact ih0 _ _ _ _ _)
   | (with_reducible exact ih1 _ _ _ _)
   | (with_reducible exact LeO.refl _)
   | (with_reducible exact LeO.none _)
   | (with_reducible refine LeO.ite ?_ ?_)
   | (with_reducible refine LeO.bind ?_ (fun _ => ?_))
   | exact ih0 _ _ _ _ _
   | exact ih1 _ _ _ _
   | exact LeO.none _
   | refine LeO.ite ?_ ?_
   | refine LeO.bind ?_ (fun _ => ?_)
set_option maxHeartbeats 8000000 in
set_option maxRecDepth 100000 in
theorem api_Node_45.calls (k : Nat) (A0 : Option Addr) (c0 : Nat) (l0 : List (List (S96))) (r : List (S96)) (w : World) (hr0 : Kd.C (Kd.slice 96 k96) w A0 l0.length l0) (hc0 : l0.length ≤ c0) (h : api_Node_45.f k l0 = some r) :
  Calls Tryd.prog 45 #[.slice A0 l0.length c0] w fun e w' => ∃ v0_ : Value, e = .returned (v0_) ∧ Kd.R k96 96 w' w.heap.size (fun _ => True) v0_ r ∧ Below w.heap.size w w' := by
 have HR0 := Aside0.mk hr0
 have HC0 := Aside0.mk hc0
 clear hr0 hc0
 have HB := Aside0.mk (Below.refl w.heap.size w)
 have H : (api_Node_45.l0 k l0 0 l0 (l0.length : Int) 0) = some r := h
 clear h
 have H' := Aside0.mk H
 clear H
 go_enter Tryd.func45, Tryd.ntmps45
 go_wp2
 go_loopg [3, 11] k (fun kq v3 v11 w' => ∃ (x3_1 : Int) (x11_1 : Int), v3 = .int .i64 x3_1 ∧ v11 = .int .i64 x11_1 ∧ Aside0 (api_Node_45.l0 kq l0 x3_1 l0 (l0.length : Int) x11_1 = some r) ∧ Aside0 (kq ≤ k) ∧ Aside0 (Below w.heap.size w w'))
 case atStart => exact ⟨(0), (0), q7_14, q7_14, H', ⟨Nat.le_refl _⟩, ⟨by repeat (first | (with_reducible first | exact HB.out | apply below_alloc | apply pw_below_drewN | apply below_drew1) | exact HB.out)⟩⟩
 case round =>
  clear H'
  obtain ⟨x3_1, x11_1, rfl, rfl, HA, HK1, HB⟩ := hrel
  cases gk with
  | zero => exact absurd HA.out (by simp [api_Node_45.l0])
  | succ k1 =>
   have H := HA.out
   clear HA
   simp only [api_Node_45.l0] at H
   by_cases c2 : x11_1 < (l0.length : Int)
   ·
    rw [if_pos c2] at H
    have c2b0 : decide (x11_1 < (l0.length : Int)) = true := decide_eq_true c2
    clear c2
    by_cases c3 : 0 ≤ x11_1
    ·
     rw [if_pos c3] at H
     have c3b0 : decide (0 ≤ x11_1) = true := decide_eq_true c3
     clear c3
     by_cases c4 : x11_1 < (l0.length : Int)
     ·
      rw [if_pos c4] at H
      have c4b0 : decide (x11_1 < (l0.length : Int)) = true := decide_eq_true c4
      clear c4
      by_cases c5 : (wrap64 (x3_1 + ((rd_L6 l0 x11_1).length : Int))) < 0
      ·
       rw [if_pos c5] at H
       exact absurd H (by simp)
      ·
       rw [if_neg c5] at H
       have c5b0 : decide ((wrap64 (x3_1 + ((rd_L6 l0 x11_1).length : Int))) < 0) = false := decide_eq_false c5
       clear c5
       have H' := Aside0.mk H
       clear H
       have p221 : 0 ≤ (x11_1 : Int) := of_decide_eq_true q7_11
       have q221 : x11_1 < (l0.length : Int) := of_decide_eq_true q7_11
       obtain ⟨ad221, A221_0, c221_0, e221, hx221_0, hl221_0, hi221_0⟩ := at_L6 HR0.out x11_1 p221 q221
       cases e221
       replace hx221_0 := (HB.out.cell (World.block_lt_of_cell? w _ hx221_0)).trans hx221_0
       have HR221_0 := Aside0.mk hi221_0
       have HC221_0 := Aside0.mk hl221_0
       clear hi221_0 hl221_0
       replace p221 := eq_true p221
       replace q221 := eq_true q221
       go_wp2
       go_roundg k1
       case measure => have := HK1.out; omega
       case rel => exact ⟨(wrap64 (x3_1 + ((rd_L6 l0 x11_1).length : Int))), (wrap64 (x11_1 + 1)), q7_14, q7_14, H', ⟨by have := HK1.out; omega⟩, ⟨by repeat (first | (with_reducible first | exact HB.out | apply below_alloc | apply pw_below_drewN | apply below_drew1) | exact HB.out)⟩⟩
     ·
      rw [if_neg c4] at H
      exact absurd H (by simp)
    ·
     rw [if_neg c3] at H
     exact absurd H (by simp)
   ·
    rw [if_neg c2] at H
    have c2b0 : decide (x11_1 < (l0.length : Int)) = false := decide_eq_false c2
    clear c2
    replace H := Option.bind_eq_some_iff.mp H
    obtain ⟨t222, A60, H⟩ := H
    replace H : (api_Node_45.l1 k1 t222 l0 (l0.length : Int) 0) = some r := H
    have A6 := Aside0.mk A60
    clear A60
    have H' := Aside0.mk H
    clear H
    go_wp2_with (first | ((with_reducible refine gate_callee (f := 107) rfl ?_); refine goesL_ (some 24) rfl rfl Tryd.func107 (by kernel_rfl) rfl #[.slice none 0 0, .int .i64 x3_1] rfl q7_2 ?_; (refine (api_Node_107.calls _ _ ([] : List (S96)) x3_1 t222 _ ?side1 ?side2 A6.out).mono ?_); (case side1 => exact Kd.C_nil _ _); (case side2 => exact Nat.le_refl _); rintro e w7 ⟨v223, rfl, ho0, hb⟩; refine ⟨_, rfl, ?_⟩; have n0_ := Aside0.mk (Kd.R_lower ho0 (below_size q7_0)); have n1_ := Aside0.mk (below_step q7_0 hb); clear HB; have HO224 := n0_; have HB := n1_; clear n0_ n1_; (try clear hb); (try clear hb2); (try clear hk); (try clear hi); (try clear ho0)))
    go_loopg [6, 27] k1 (fun kq v6 v27 w' => ∃ (x6_2 : List (S96)) (x27_2 : Int), v27 = .int .i64 x27_2 ∧ Aside0 (api_Node_45.l1 kq x6_2 l0 (l0.length : Int) x27_2 = some r) ∧ Aside0 (kq ≤ k1) ∧ Aside0 (Kd.R k96 96 w' w.heap.size (fun _ => True) v6 x6_2) ∧ Aside0 (Below w.heap.size w w'))
    case atStart => exact ⟨(t222), (0), q7_14, H', ⟨Nat.le_refl _⟩, ⟨by (with_reducible repeat (first | apply Kd.R_alloc | apply Kd.R_drewN | apply Kd.R_drew)); exact HO224.out⟩, ⟨by repeat (first | (with_reducible first | exact HB.out | apply below_alloc | apply pw_below_drewN | apply below_drew1) | exact HB.out)⟩⟩
    case round =>
     clear H'
     try clear c1
     try clear c2
     try clear c2b0
     try clear p2
     try clear q2
     try clear hx2
     try clear c3
     try clear c3b0
     try clear c4
     try clear c4b0
     try clear c5
     try clear c5b0
     try clear p6
     try clear hx221_0
     try clear p221
     try clear q221
     obtain ⟨x6_2, x27_2, rfl, HA, HK2, HO_6, HB⟩ := hrel
     cases gk with
     | zero => exact absurd HA.out (by simp [api_Node_45.l1])
     | succ k2 =>
      have H := HA.out
      clear HA
      simp only [api_Node_45.l1] at H
      by_cases c8 : x27_2 < (l0.length : Int)
      ·
       rw [if_pos c8] at H
       have c8b0 : decide (x27_2 < (l0.length : Int)) = true := decide_eq_true c8
       clear c8
       by_cases c9 : 0 ≤ x27_2
       ·
        rw [if_pos c9] at H
        have c9b0 : decide (0 ≤ x27_2) = true := decide_eq_true c9
        clear c9
        by_cases c10 : x27_2 < (l0.length : Int)
        ·
         rw [if_pos c10] at H
         have c10b0 : decide (x27_2 < (l0.length : Int)) = true := decide_eq_true c10
         clear c10
         by_cases c11 : x6_2.length + (rd_L6 l0 x27_2).length < 8796093022208
         ·
          rw [if_pos c11] at H
          have LMc11 := Aside0.mk c11
          clear c11
          obtain ⟨y226, hy226⟩ : ∃ y_ : List (S96), y_ = (x6_2 ++ (rd_L6 l0 x27_2)) := ⟨_, rfl⟩
          replace H : (api_Node_45.l1 k2 y226 l0 (l0.length : Int) (wrap64 (x27_2 + 1))) = some r := by first | (rw [hy226]; with_reducible exact H) | (have H2_ := (Option.bind_some _ _).symm.trans H; rw [hy226]; with_reducible exact H2_) | (have H2_ := (Option.bind_some _ _).symm.trans H; with_reducible exact H2_) | with_reducible exact H | (rw [hy226]; exact H) | exact H
          have Ny226 := Aside0.mk hy226
          clear hy226
          have H' := Aside0.mk H
          clear H
          have p225 : 0 ≤ (x27_2 : Int) := of_decide_eq_true q7_11
          have q225 : x27_2 < (l0.length : Int) := of_decide_eq_true q7_11
          obtain ⟨ad225, A225_0, c225_0, e225, hx225_0, hl225_0, hi225_0⟩ := at_L6 HR0.out x27_2 p225 q225
          cases e225
          replace hx225_0 := (HB.out.cell (World.block_lt_of_cell? w _ hx225_0)).trans hx225_0
          have HR225_0 := Aside0.mk hi225_0
          have HC225_0 := Aside0.mk hl225_0
          clear hi225_0 hl225_0
          replace p225 := eq_true p225
          replace q225 := eq_true q225
          go_wp2_with (first | ((with_reducible refine gate_builtin (b := .append) (xs := #[.tmp 31, .tmp 32]) rfl ?_); at_builtin; refine Kd.R_append_rows k96 (w0 := w) w.heap.size rfl (.tmp 31) (.tmp 32) 27 96 (.agg #[(.int .u8 0), (.int .i64 0)]) 16 rfl Tryd.underlying27 info96 rfl (by decide) (by omega) u6 x6_2 (rd_L6 l0 x27_2) _ _ _ (fun _ => True) (fun _ => False) rfl rfl ?aO ?aR (fun _ _ h => h) (fun _ h => h.elim) ?aF ?aB ?aS ?aL ?_; (case aR => repeat (first | exact (Kd.C_below HR225_0.out HB.out) | (with_reducible refine Kd.C_alloc ?_ _) | (with_reducible refine Kd.C_drewN ?_ _) | (with_reducible refine Kd.C_drew ?_))); (case aB => exact q7_0); (case aF => exact (fun _ _ => trivial)); (case aO => exact (by (with_reducible repeat (first | apply Kd.R_alloc | apply Kd.R_drewN | apply Kd.R_drew)); exact HO_6.out)); (case aS => exact (below_size q7_0)); (case aL => have := LMc11.out; omega); intro v227 w12 ho hb hg hat; rw [← Ny226.out] at ho; have n0_ := Aside0.mk (hb); have n1_ := Aside0.mk (ho); clear HB; clear HO_6; have HB := n0_; have HO228 := n1_; clear n0_ n1_; clear ho hb hg hat))
          go_roundg k2
          case measure => have := HK1.out; have := HK2.out; omega
          case rel => exact ⟨(y226), (wrap64 (x27_2 + 1)), q7_14, H', ⟨by have := HK1.out; have := HK2.out; omega⟩, ⟨by (with_reducible repeat (first | apply Kd.R_alloc | apply Kd.R_drewN | apply Kd.R_drew)); exact HO228.out⟩, ⟨by repeat (first | (with_reducible first | exact HB.out | apply below_alloc | apply pw_below_drewN | apply below_drew1) | exact HB.out)⟩⟩
         ·
          rw [if_neg c11] at H
          exact absurd H (by simp)
        ·
         rw [if_neg c10] at H
         exact absurd H (by simp)
       ·
        rw [if_neg c9] at H
        exact absurd H (by simp)
      ·
       rw [if_neg c8] at H
       have c8b0 : decide (x27_2 < (l0.length : Int)) = false := decide_eq_false c8
       clear c8
       obtain rfl := Option.some.inj H
       go_wp2
       go_ret
       exact ⟨_, by first | rfl | (simp [errW_none, errW_some] <;> rfl) | (simp [*, errW_none, errW_some] <;> rfl), by (with_reducible repeat (first | apply Kd.R_alloc | apply Kd.R_drewN | apply Kd.R_drew)); exact HO_6.out, by repeat (first | (with_reducible first | exact HB.out | apply below_alloc | apply pw_below_drewN | apply below_drew1) | exact HB.out)⟩

/-! ### expr_All: function 10 -/
def expr_All.l0 : Nat → List (S96) → List (List (S96)) → Int → Int → Option ((List (S96)))
 | 0, _, _, _, _ => none
 | k + 1, x3, x6, x7, x8 => if x8 < x7 then (if 0 ≤ x8 then (if x8 < (x6.length : Int) then (if ((rd_L6 x6 x8).length : Int) = 0 then (expr_All.l0 k x3 x6 x7 (wrap64 (x8 + 1))) else (if (x3.length : Int) = 0 then ((api_Node_44.f (rd_L6 x6 x8)).bind fun t230 => (expr_All.l0 k t230 x6 x7 (wrap64 (x8 + 1)))) else ((api_Node_45.f k (([(([(⟨13, 0⟩ : S96)] : List (S96))), x3, rd_L6 x6 x8] : List (List (S96))))).bind fun t239 => (expr_All.l0 k t239 x6 x7 (wrap64 (x8 + 1)))))) else (none)) else (none)) else (some x3)
def expr_All.f (k : Nat) (l0 : List (List (S96))) : Option ((List (S96))) := expr_All.l0 k ([] : List (S96)) l0 (l0.length : Int) 0
theorem expr_All.mono_l : ∀ k, (∀ y0 y1 y2 y3, LeO (expr_All.l0 k y0 y1 y2 y3) (expr_All.l0 (k + 1) y0 y1 y2 y3))
 | 0 => fun _ _ _ _ r h => by simp [expr_All.l0] at h
 | k + 1 => by
  have ih0 := expr_All.mono_l k
  ·
   intro y0 y1 y2 y3
   unfold expr_All.l0
   repeat' first
   | (with_reducible exact ih0 _ _ _ _)
   | (with_reducible exact api_Node_45.mono _ _)
   | (with_reducible exact LeO.refl _)
   | (with_reducible exact LeO.none _)
   | (with_reducible refine LeO.ite ?_ ?_)
   | (with_reducible refine LeO.bind ?_ (fun _ => ?_))
   | exact ih0 _ _ _ _
   | exact api_Node_45.mono _ _
   | exact LeO.none _
   | refine LeO.ite ?_ ?_
   | refine LeO.bind ?_ (fun _ => ?_)
theorem expr_All.mono : ∀ a0 k, LeO (expr_All.f k a0) (expr_All.f (k + 1) a0) := by
 intro a0 k
 have ih0 := expr_All.mono_l k
 unfold expr_All.f
 repeat' first
   | (with_reducible exact ih0 _ _ _ _)
   | (with_reducible exact api_Node_45.mono _ _)
   | (with_reducible exact LeO.refl _)
   | (with_reducible exact LeO.none _)
   | (with_reducible refine LeO.ite ?_ ?_)
   | (with_reducible refine LeO.bind ?_ (fun _ => ?_))
   | exact ih0 _ _ _ _
   | exact api_Node_45.mono _ _
   | exact LeO.none _
   | refine LeO.ite ?_ ?_
   | refine LeO.bind ?_ (fun _ => ?_)
theorem all_some {α : Type} {d : Kd α} {w : World} {A : Option Addr} {n : Nat} {xs : List α} (h : Kd.C d w A n xs) (hx : ¬ xs = []) : A.isNone = false := by
 have hn : 0 < n := by
  have := h.1
  rcases Nat.eq_zero_or_pos n with hz | hz
  · exact absurd (List.eq_nil_of_length_eq_zero (by omega)) hx
  · exact hz
 obtain ⟨ad, rfl, _⟩ := h.2.2 hn
 rfl
theorem all_clone_ne {l t : List S96} (hl : ¬ l = []) (h : api_Node_44.f l = some t) : ¬ t = [] := by
 unfold api_Node_44.f at h
 split at h
 · rw [← Option.some.inj h]; exact hl
 · cases h
theorem all_concat_l1 : ∀ (k : Nat) (x : List S96) (l : List (List S96)) (i : Nat) (r : List S96), api_Node_45.l1 k x l (l.length : Int) (i : Int) = some r → l.length ≤ 140737488351232 → i ≤ l.length → r = x ++ (l.drop i).flatten
 | 0, _, _, _, _, h, _, _ => by simp [api_Node_45.l1] at h
 | k + 1, x, l, i, r, h, hb, hi => by
  rw [api_Node_45.l1] at h
  by_cases hlt : i < l.length
  · rw [if_pos (by omega), if_pos (by omega), if_pos (by omega)] at h
    split at h
    · rw [show wrap64 ((i : Int) + 1) = ((i + 1 : Nat) : Int) by unfold wrap64; omega] at h
      rw [all_concat_l1 k _ l (i + 1) r h hb (by omega), List.drop_eq_getElem_cons hlt, List.flatten_cons, List.append_assoc]
      congr 2
      simp [rd_L6, List.getD, hlt]
    · cases h
  · rw [if_neg (by omega)] at h
    rw [← Option.some.inj h, List.drop_eq_nil_of_le (by omega)]
    simp
theorem all_concat_l0 : ∀ (k : Nat) (l0 : List (List S96)) (s : Int) (l : List (List S96)) (n i : Int) (r : List S96), api_Node_45.l0 k l0 s l n i = some r → ∃ k', api_Node_45.l1 k' [] l0 (l0.length : Int) 0 = some r
 | 0, _, _, _, _, _, _, h => by simp [api_Node_45.l0] at h
 | k + 1, l0, s, l, n, i, r, h => by
  rw [api_Node_45.l0] at h
  split at h
  · split at h
    · split at h
      · split at h
        · cases h
        · exact all_concat_l0 k _ _ _ _ _ r h
      · cases h
    · cases h
  · obtain ⟨t, ht, h⟩ := Option.bind_eq_some_iff.1 h
    have : t = [] := by
      unfold api_Node_107.f at ht
      split at ht
      · exact (Option.some.inj ht).symm
      · cases ht
    subst this
    exact ⟨k, h⟩
theorem all_concat {k : Nat} {l : List (List S96)} {r : List S96} (hb : l.length ≤ 140737488351232) (h : api_Node_45.f k l = some r) : r = l.flatten := by
 unfold api_Node_45.f at h
 obtain ⟨k', h'⟩ := all_concat_l0 _ _ _ _ _ _ _ h
 have := all_concat_l1 k' [] l 0 r h' hb (Nat.zero_le _)
 simpa using this
theorem all_concat_ne {k : Nat} {l : List (List S96)} {x r : List S96} (hm : x ∈ l) (hx : ¬ x = []) (h : api_Node_45.f k l = some r) (hb : l.length ≤ 140737488351232) : ¬ r = [] := by
 rw [all_concat hb h]
 intro e
 exact hx (List.eq_nil_iff_forall_not_mem.2 fun y hy => by have := List.mem_flatten.2 ⟨x, hm, hy⟩; rw [e] at this; cases this)
set_option maxHeartbeats 8000000 in
set_option maxRecDepth 100000 in
theorem expr_All.calls (k : Nat) (P0_ : Nat → Prop) (A0 : Option Addr) (c0 : Nat) (l0 : List (List (S96))) (r : List (S96)) (w : World) (hs0 : Kd.V (Kd.slice 96 k96) 27 w w.heap.size (fun k_ => P0_ k_) (.slice A0 l0.length c0) l0) (h : expr_All.f k l0 = some r) :
  Calls Tryd.prog 10 #[.slice A0 l0.length c0] w fun e w' => ∃ v0_ : Value, e = .returned (v0_) ∧ Kd.R k96 96 w' w.heap.size (fun k_ => (w.heap.size ≤ k_)) v0_ r ∧ Below w.heap.size w w' := by
 have hu96 := Tryd.underlying96
 have HO0 := Aside0.mk (show Kd.V (Kd.slice 96 k96) 27 w w.heap.size (fun k_ => (P0_ k_ ∨ w.heap.size ≤ k_)) (.slice A0 l0.length c0) l0 from Kd.V_mono hs0 (fun k_ hk => .inl hk))
 have HB := Aside0.mk (Below.refl w.heap.size w)
 have H : (expr_All.l0 k ([] : List (S96)) l0 (l0.length : Int) 0) = some r := h
 clear h
 have H' := Aside0.mk H
 clear H
 go_enter Tryd.func10, Tryd.ntmps10
 go_wp2
 go_loopg [3, 8] k (fun kq v3 v8 w' => ∃ (x3_1 : List (S96)) (x8_1 : Int), v8 = .int .i64 x8_1 ∧ Aside0 (expr_All.l0 kq x3_1 l0 (l0.length : Int) x8_1 = some r) ∧ Aside0 (kq ≤ k) ∧ Aside0 (Kd.R k96 96 w' w.heap.size (fun k_ => (w.heap.size ≤ k_)) v3 x3_1) ∧ Aside0 (x3_1 = [] → v3 = .slice none 0 0) ∧ Aside0 (Kd.V (Kd.slice 96 k96) 27 w' w.heap.size (fun k_ => (P0_ k_ ∨ w.heap.size ≤ k_) ∧ some k_ ≠ (v3 : Value).ownBlock) (.slice A0 l0.length c0) l0) ∧ Aside0 (Below w.heap.size w w'))
 case atStart => exact ⟨(([] : List (S96))), (0), q7_14, H', ⟨Nat.le_refl _⟩, ⟨by first | exact Kd.R_nil _ _ _ _ _ | exact Kd.N_nil _ _ _ _ _ | exact Kd.V_nil _ _ _ _ _ | exact Kd.Q_nil _ _ _ _ _ | exact Kd.S_nil _ _ _ _ _⟩, ⟨fun _ => rfl⟩, ⟨by (with_reducible repeat (first | apply Kd.V_alloc | apply Kd.V_drewN | apply Kd.V_drew)); exact Kd.V_mono HO0.out (fun _ hk => ⟨hk, (by simp [Value.ownBlock])⟩)⟩, ⟨by repeat (first | (with_reducible first | exact HB.out | apply below_alloc | apply pw_below_drewN | apply below_drew1) | exact HB.out)⟩⟩
 case round =>
  clear H'
  try clear c1
  obtain ⟨x3_1, x8_1, rfl, HA, HK1, HO_3, HN_, HO_6, HB⟩ := hrel
  cases gk with
  | zero => exact absurd HA.out (by simp [expr_All.l0])
  | succ k1 =>
   have H := HA.out
   clear HA
   simp only [expr_All.l0] at H
   by_cases c2 : x8_1 < (l0.length : Int)
   ·
    rw [if_pos c2] at H
    have c2b0 : decide (x8_1 < (l0.length : Int)) = true := decide_eq_true c2
    clear c2
    by_cases c3 : 0 ≤ x8_1
    ·
     rw [if_pos c3] at H
     have c3b0 : decide (0 ≤ x8_1) = true := decide_eq_true c3
     clear c3
     by_cases c4 : x8_1 < (l0.length : Int)
     ·
      rw [if_pos c4] at H
      have c4b0 : decide (x8_1 < (l0.length : Int)) = true := decide_eq_true c4
      clear c4
      by_cases c5 : ((rd_L6 l0 x8_1).length : Int) = 0
      ·
       rw [if_pos c5] at H
       have c5b0 : (((rd_L6 l0 x8_1).length : Int) == 0) = true := beq_iff_eq.mpr c5
       have c5b1 : (((rd_L6 l0 x8_1).length : Int) != 0) = false := bne_eq_false_iff_eq.mpr c5
       clear c5
       have H' := Aside0.mk H
       clear H
       have p229 : 0 ≤ (x8_1 : Int) := of_decide_eq_true q7_11
       have q229 : x8_1 < (l0.length : Int) := of_decide_eq_true q7_11
       obtain ⟨ad229, A229_0, c229_0, e229, hx229_0, hl229_0, hi229_0⟩ := at_L6 (Kd.V_reads' HO_6.out).2.2 x8_1 p229 q229
       cases e229
       obtain ⟨ce229, hce229, hMe229, hcc229⟩ := Kd.V_get HO_6.out [] x8_1 p229 q7_20
       obtain ⟨ua229_0, uc229_0, rfl, ul229_0, ge229_0⟩ := Kd.FK_slice_open hMe229
       have hv229_0 := hcc229 0 _ rfl
       rw [Nat.add_zero, show ((Kd.slice 96 k96)).sz = 1 from rfl, Nat.mul_one] at hv229_0
       replace hv229_0 := Option.some.inj (hv229_0.symm.trans hx229_0)
       injection hv229_0 with hva_ hvn_ hvc_
       rw [hva_] at ge229_0
       rw [hvc_] at ul229_0
       have HL229_0 := Aside0.mk (show Kd.V k96 96 _ w.heap.size _ _ (rd_L6 l0 x8_1) from Kd.V_mk ul229_0 ge229_0)
       clear hva_ hvn_ hvc_ ge229_0 ul229_0
       clear hcc229 hce229
       have HR229_0 := Aside0.mk hi229_0
       have HC229_0 := Aside0.mk hl229_0
       clear hi229_0 hl229_0
       replace p229 := eq_true p229
       replace q229 := eq_true q229
       go_wp2
       go_roundg k1
       case measure => have := HK1.out; omega
       case rel => exact ⟨(x3_1), (wrap64 (x8_1 + 1)), q7_14, H', ⟨by have := HK1.out; omega⟩, ⟨by (with_reducible repeat (first | apply Kd.R_alloc | apply Kd.R_drewN | apply Kd.R_drew)); exact HO_3.out⟩, HN_, ⟨by (with_reducible repeat (first | apply Kd.V_alloc | apply Kd.V_drewN | apply Kd.V_drew)); exact HO_6.out⟩, ⟨by repeat (first | (with_reducible first | exact HB.out | apply below_alloc | apply pw_below_drewN | apply below_drew1) | exact HB.out)⟩⟩
      ·
       rw [if_neg c5] at H
       have c5b0 : (((rd_L6 l0 x8_1).length : Int) == 0) = false := beq_eq_false_iff_ne.mpr c5
       have c5b1 : (((rd_L6 l0 x8_1).length : Int) != 0) = true := bne_iff_ne.mpr c5
       have c5b2 : ¬ ((rd_L6 l0 x8_1) = []) := fun h_ => c5 (by rw [h_]; rfl)
       by_cases c6 : (x3_1.length : Int) = 0
       ·
        rw [if_pos c6] at H
        have c6b0 : ((x3_1.length : Int) == 0) = true := beq_iff_eq.mpr c6
        have c6b1 : ((x3_1.length : Int) != 0) = false := bne_eq_false_iff_eq.mpr c6
        clear c6
        replace H := Option.bind_eq_some_iff.mp H
        obtain ⟨t230, A70, H⟩ := H
        replace H : (expr_All.l0 k1 t230 l0 (l0.length : Int) (wrap64 (x8_1 + 1))) = some r := H
        have A7 := Aside0.mk A70
        clear A70
        have H' := Aside0.mk H
        clear H
        have p229 : 0 ≤ (x8_1 : Int) := of_decide_eq_true q7_11
        have q229 : x8_1 < (l0.length : Int) := of_decide_eq_true q7_11
        obtain ⟨ad229, A229_0, c229_0, e229, hx229_0, hl229_0, hi229_0⟩ := at_L6 (Kd.V_reads' HO_6.out).2.2 x8_1 p229 q229
        cases e229
        obtain ⟨ce229, hce229, hMe229, hcc229⟩ := Kd.V_get HO_6.out [] x8_1 p229 q7_20
        obtain ⟨ua229_0, uc229_0, rfl, ul229_0, ge229_0⟩ := Kd.FK_slice_open hMe229
        have hv229_0 := hcc229 0 _ rfl
        rw [Nat.add_zero, show ((Kd.slice 96 k96)).sz = 1 from rfl, Nat.mul_one] at hv229_0
        replace hv229_0 := Option.some.inj (hv229_0.symm.trans hx229_0)
        injection hv229_0 with hva_ hvn_ hvc_
        rw [hva_] at ge229_0
        rw [hvc_] at ul229_0
        have HL229_0 := Aside0.mk (show Kd.V k96 96 _ w.heap.size _ _ (rd_L6 l0 x8_1) from Kd.V_mk ul229_0 ge229_0)
        clear hva_ hvn_ hvc_ ge229_0 ul229_0
        clear hcc229 hce229
        have HR229_0 := Aside0.mk hi229_0
        have HC229_0 := Aside0.mk hl229_0
        clear hi229_0 hl229_0
        replace p229 := eq_true p229
        replace q229 := eq_true q229
        obtain ⟨Ao8, co8, eo8⟩ := Kd.R_slice HO_3.out
        subst eo8
        have hq_ : ∀ (W : World) (a : Option Addr) (n c n' c' : Nat), (binOp .eql 27 (.slice a n c) (.slice none n' c')).run Tryd.prog W = .ok (.bool a.isNone) W := fun W a n c n' c' => Lib.run_eql_slice_nil W _ _ a n c n' c' Tryd.underlying27
        have hi_ : Ao8.isNone = true := by have h_ := HN_.out (List.eq_nil_of_length_eq_zero (by have := beq_iff_eq.1 c6b0; omega)); injection h_ with h1_; rw [h1_]; rfl
        go_wp2_with (first | ((with_reducible refine gate_callee (f := 44) rfl ?_); refine goesL_ (some 26) rfl rfl Tryd.func44 (by kernel_rfl) rfl #[.slice A229_0 (rd_L6 l0 x8_1).length c229_0] rfl q7_2 ?_; (with_reducible refine (api_Node_44.calls _ _ (rd_L6 l0 x8_1) t230 _ ?side1 ?side2 A7.out).mono ?_); (case side1 => repeat (first | exact q7_7 | (with_reducible refine Kd.C_alloc ?_ _) | (with_reducible refine Kd.C_drewN ?_ _) | (with_reducible refine Kd.C_drew ?_))); (case side2 => exact HC229_0.out); rintro e w9 ⟨v231, rfl, ho0, hb⟩; refine ⟨_, rfl, ?_⟩; have n0_ := Aside0.mk (Kd.R_elder' q7_18 (Kd.R_base ho0) hb); have n1_ := Aside0.mk (Kd.V_elder' q7_17 (Kd.R_base ho0) hb); have n2_ := Aside0.mk (Kd.V_elder' q7_16 (Kd.R_base ho0) hb); have n3_ := Aside0.mk (Kd.R_lower (Kd.R_new' (Kd.R_newM (M := fun k_ => (w.heap.size ≤ k_)) ho0 (below_size q7_0) (fun k_ h_ => h_)) (Kd.R_lt q7_18)) (below_size q7_0)); have n4_ := Aside0.mk (Kd.C_below q7_7 hb); have n5_ := Aside0.mk (below_step q7_0 hb); clear HO_3; clear HO_6; clear HL229_0; clear HR229_0; clear HB; have HO_3 := n0_; have HO_6 := n1_; have HL229_0 := n2_; have HO232 := n3_; have HR229_0 := n4_; have HB := n5_; clear n0_ n1_ n2_ n3_ n4_ n5_; (try clear hb); (try clear hb2); (try clear hk); (try clear hi); (try clear ho0)))
        go_roundg k1
        case measure => have := HK1.out; omega
        case rel => exact ⟨(t230), (wrap64 (x8_1 + 1)), q7_14, H', ⟨by have := HK1.out; omega⟩, ⟨by (with_reducible repeat (first | apply Kd.R_alloc | apply Kd.R_drewN | apply Kd.R_drew)); exact Kd.R_mono HO232.out (fun _ hk => hk.1.1)⟩, ⟨fun e_ => absurd e_ (all_clone_ne c5b2 A7.out)⟩, ⟨by (with_reducible repeat (first | apply Kd.V_alloc | apply Kd.V_drewN | apply Kd.V_drew)); exact Kd.V_mono HO_6.out (fun _ hk => ⟨hk.1.1, hk.2⟩)⟩, ⟨by repeat (first | (with_reducible first | exact HB.out | apply below_alloc | apply pw_below_drewN | apply below_drew1) | exact HB.out)⟩⟩
       ·
        rw [if_neg c6] at H
        have c6b0 : ((x3_1.length : Int) == 0) = false := beq_eq_false_iff_ne.mpr c6
        have c6b1 : ((x3_1.length : Int) != 0) = true := bne_iff_ne.mpr c6
        have c6b2 : ¬ (x3_1 = []) := fun h_ => c6 (by rw [h_]; rfl)
        obtain ⟨y233, hy233⟩ : ∃ y_ : List (S96), y_ = (([(⟨13, 0⟩ : S96)] : List (S96))) := ⟨_, rfl⟩
        replace H : ((api_Node_45.f k1 (([y233, x3_1, rd_L6 l0 x8_1] : List (List (S96))))).bind fun t239 => (expr_All.l0 k1 t239 l0 (l0.length : Int) (wrap64 (x8_1 + 1)))) = some r := by first | (rw [hy233]; with_reducible exact H) | (have H2_ := (Option.bind_some _ _).symm.trans H; rw [hy233]; with_reducible exact H2_) | (have H2_ := (Option.bind_some _ _).symm.trans H; with_reducible exact H2_) | with_reducible exact H | (rw [hy233]; exact H) | exact H
        have Ny233 := Aside0.mk hy233
        clear hy233
        obtain ⟨y236, hy236⟩ : ∃ y_ : List (List (S96)), y_ = (([y233, x3_1, rd_L6 l0 x8_1] : List (List (S96)))) := ⟨_, rfl⟩
        replace H : ((api_Node_45.f k1 y236).bind fun t239 => (expr_All.l0 k1 t239 l0 (l0.length : Int) (wrap64 (x8_1 + 1)))) = some r := by first | (rw [hy236]; with_reducible exact H) | (have H2_ := (Option.bind_some _ _).symm.trans H; rw [hy236]; with_reducible exact H2_) | (have H2_ := (Option.bind_some _ _).symm.trans H; with_reducible exact H2_) | with_reducible exact H | (rw [hy236]; exact H) | exact H
        have Ny236 := Aside0.mk hy236
        clear hy236
        replace H := Option.bind_eq_some_iff.mp H
        obtain ⟨t239, A100, H⟩ := H
        replace H : (expr_All.l0 k1 t239 l0 (l0.length : Int) (wrap64 (x8_1 + 1))) = some r := H
        have A10 := Aside0.mk A100
        clear A100
        have H' := Aside0.mk H
        clear H
        have p229 : 0 ≤ (x8_1 : Int) := of_decide_eq_true q7_11
        have q229 : x8_1 < (l0.length : Int) := of_decide_eq_true q7_11
        obtain ⟨ad229, A229_0, c229_0, e229, hx229_0, hl229_0, hi229_0⟩ := at_L6 (Kd.V_reads' HO_6.out).2.2 x8_1 p229 q229
        cases e229
        obtain ⟨ce229, hce229, hMe229, hcc229⟩ := Kd.V_get HO_6.out [] x8_1 p229 q7_20
        obtain ⟨ua229_0, uc229_0, rfl, ul229_0, ge229_0⟩ := Kd.FK_slice_open hMe229
        have hv229_0 := hcc229 0 _ rfl
        rw [Nat.add_zero, show ((Kd.slice 96 k96)).sz = 1 from rfl, Nat.mul_one] at hv229_0
        replace hv229_0 := Option.some.inj (hv229_0.symm.trans hx229_0)
        injection hv229_0 with hva_ hvn_ hvc_
        rw [hva_] at ge229_0
        rw [hvc_] at ul229_0
        have HL229_0 := Aside0.mk (show Kd.V k96 96 _ w.heap.size _ _ (rd_L6 l0 x8_1) from Kd.V_mk ul229_0 ge229_0)
        clear hva_ hvn_ hvc_ ge229_0 ul229_0
        clear hcc229 hce229
        have HR229_0 := Aside0.mk hi229_0
        have HC229_0 := Aside0.mk hl229_0
        clear hi229_0 hl229_0
        replace p229 := eq_true p229
        replace q229 := eq_true q229
        obtain ⟨Ao11, co11, eo11⟩ := Kd.R_slice HO_3.out
        subst eo11
        have hq_ : ∀ (W : World) (a : Option Addr) (n c n' c' : Nat), (binOp .eql 27 (.slice a n c) (.slice none n' c')).run Tryd.prog W = .ok (.bool a.isNone) W := fun W a n c n' c' => Lib.run_eql_slice_nil W _ _ a n c n' c' Tryd.underlying27
        have hi_ : Ao11.isNone = false := all_some (Kd.R_reads' HO_3.out).2.2 c6b2
        go_wp2_with (first | ((with_reducible refine gate_dst (N := 13) rfl ?_); refine Kd.R_lit k96 _ 96 ?hg (N := 13) ?hd (xs := ([(⟨13, 0⟩ : S96)] : List (S96))) (inner := [.int .u8 13, .int .i64 0]) (ok := fun _ => True) (okp := fun _ => True) ?hr ?hp (fun _ hk => hk) trivial (Below.refl _ _) (Nat.le_refl _) (by simp) ?_; (case hd => rfl); (case hg => rfl); (case hr => exact q7_10); (case hp => exact (Reps.c2 (show Kd.M k96 _ _ _ (⟨13, 0⟩ : S96) [.int .u8 13, .int .i64 0] from (k96_mkM _ _ _ (⟨13, 0⟩ : S96) )) (Reps.none _ _))); intro v234 w12 ho13 hb hg_ hnew_; clear hg_ hnew_; (first | rw [← Ny233.out] at ho13 | (simp only [Int.reduceToNat] at ho13; rw [← Ny233.out] at ho13)); have n0_ := Aside0.mk (Kd.R_elder' q7_18 (Kd.R_base ho13) hb); have n1_ := Aside0.mk (Kd.V_elder' q7_17 (Kd.R_base ho13) hb); have n2_ := Aside0.mk (Kd.V_elder' q7_16 (Kd.R_base ho13) hb); have n3_ := Aside0.mk (Kd.R_lower (Kd.R_new' (Kd.R_newM (M := fun k_ => (w.heap.size ≤ k_)) ho13 (below_size q7_0) (fun k_ h_ => h_)) (Kd.R_lt q7_18)) (below_size q7_0)); have n4_ := Aside0.mk (Kd.C_below q7_7 hb); have n5_ := Aside0.mk (below_step q7_0 hb); clear HO_3; clear HO_6; clear HL229_0; clear HR229_0; clear HB; have HO_3 := n0_; have HO_6 := n1_; have HL229_0 := n2_; have HO235 := n3_; have HR229_0 := n4_; have HB := n5_; clear n0_ n1_ n2_ n3_ n4_ n5_; clear hb ho13; obtain ⟨Ao14, co14, eo14⟩ := Kd.R_slice HO235.out; subst eo14) | ((with_reducible refine gate_dst (N := 16) rfl ?_); refine Kd.N_lit (Kd.slice 96 k96) _ 27 ?hg (N' := 16) ?hd (xs := ([y233, x3_1, rd_L6 l0 x8_1] : List (List (S96)))) (inner := [.slice Ao14 y233.length co14, .slice Ao11 x3_1.length co11, .slice A229_0 (rd_L6 l0 x8_1).length c229_0]) (ok := (fun k_ => (P0_ k_ ∨ w.heap.size ≤ k_))) (okp := (fun k_ => (P0_ k_ ∨ w.heap.size ≤ k_))) ?hr ?hp (fun _ hk => hk) ((show ∀ k_, w12.heap.size ≤ k_ → (fun k_ => (P0_ k_ ∨ w.heap.size ≤ k_)) k_ from fun k_ hk => (.inr (Nat.le_trans (below_size q7_0) hk))) _ (Nat.le_refl _)) (Below.refl _ _) (Nat.le_refl _) (by simp) ?_; (case hd => rfl); (case hg => rfl); (case hr => exact q7_10); (case hp => exact (Reps.one (show Kd.FK (Kd.slice 96 k96) _ _ y233 [.slice Ao14 y233.length co14] from (Kd.FK_slice_mk (Kd.R_reads' (Kd.R_mono (ok' := (fun k_ => (P0_ k_ ∨ w.heap.size ≤ k_))) (HO235.out) (fun k_ hk => (.inr (hk.1.1))))).2.1 (Kd.R_F (Kd.R_mono (ok' := (fun k_ => (P0_ k_ ∨ w.heap.size ≤ k_))) (HO235.out) (fun k_ hk => (.inr (hk.1.1))))))) (Reps.one (show Kd.FK (Kd.slice 96 k96) _ _ x3_1 [.slice Ao11 x3_1.length co11] from (Kd.FK_slice_mk (Kd.R_reads' (Kd.R_mono (ok' := (fun k_ => (P0_ k_ ∨ w.heap.size ≤ k_))) (HO_3.out) (fun k_ hk => (.inr (hk.1))))).2.1 (Kd.R_F (Kd.R_mono (ok' := (fun k_ => (P0_ k_ ∨ w.heap.size ≤ k_))) (HO_3.out) (fun k_ hk => (.inr (hk.1))))))) (Reps.one (show Kd.FK (Kd.slice 96 k96) _ _ (rd_L6 l0 x8_1) [.slice A229_0 (rd_L6 l0 x8_1).length c229_0] from (Kd.FK_slice_mk (Kd.V_reads' (Kd.V_mono (ok' := (fun k_ => (P0_ k_ ∨ w.heap.size ≤ k_))) (HL229_0.out) (fun k_ hk => hk.1.1))).2.1 (Kd.V_F (Kd.V_mono (ok' := (fun k_ => (P0_ k_ ∨ w.heap.size ≤ k_))) (HL229_0.out) (fun k_ hk => hk.1.1))))) (Reps.none _ _))))); intro v237 w15 ho16 hb hg_ hnew_; clear hg_ hnew_; (first | rw [← Ny236.out] at ho16 | (simp only [Int.reduceToNat] at ho16; rw [← Ny236.out] at ho16)); have n0_ := Aside0.mk (Kd.V_elder' q7_17 (Kd.N_base ho16) hb); have n1_ := Aside0.mk (Kd.V_elder' q7_16 (Kd.N_base ho16) hb); have n2_ := Aside0.mk (Kd.N_lower ho16 (below_size q7_0)); have n3_ := Aside0.mk (Kd.C_below q7_7 hb); have n4_ := Aside0.mk (below_step q7_0 hb); clear HO_6; clear HL229_0; clear HR229_0; clear HB; clear HO235; clear HO_3; have HO_6 := n0_; have HL229_0 := n1_; have HO238 := n2_; have HR229_0 := n3_; have HB := n4_; clear n0_ n1_ n2_ n3_ n4_; clear hb ho16; obtain ⟨Ao17, co17, eo17⟩ := Kd.N_slice HO238.out; subst eo17) | ((with_reducible refine gate_callee (f := 45) rfl ?_); refine goesL_ (some 17) rfl rfl Tryd.func45 (by kernel_rfl) rfl #[.slice Ao17 y236.length co17] rfl q7_2 ?_; (with_reducible refine (api_Node_45.calls k1 _ _ y236 t239 _ ?side1 ?side2 A10.out).mono ?_); (case side1 => repeat (first | exact (Kd.N_reads' HO238.out).2.2 | (with_reducible refine Kd.C_alloc ?_ _) | (with_reducible refine Kd.C_drewN ?_ _) | (with_reducible refine Kd.C_drew ?_))); (case side2 => exact (Kd.N_reads' HO238.out).2.1); rintro e w18 ⟨v240, rfl, ho0, hb⟩; refine ⟨_, rfl, ?_⟩; have n0_ := Aside0.mk (Kd.V_elder' q7_17 (Kd.R_base ho0) hb); have n1_ := Aside0.mk (Kd.V_elder' q7_16 (Kd.R_base ho0) hb); have n2_ := Aside0.mk (Kd.N_elder' (by (with_reducible repeat (first | apply Kd.N_alloc | apply Kd.N_drewN | apply Kd.N_drew)); exact HO238.out) (Kd.R_base ho0) hb); have n3_ := Aside0.mk (Kd.R_lower (Kd.R_newM (M := fun k_ => (w.heap.size ≤ k_)) ho0 (below_size q7_0) (fun k_ h_ => h_)) (below_size q7_0)); have n4_ := Aside0.mk (Kd.C_below q7_7 hb); have n5_ := Aside0.mk (below_step q7_0 hb); clear HO_6; clear HL229_0; clear HO238; clear HR229_0; clear HB; have HO_6 := n0_; have HL229_0 := n1_; have HO238 := n2_; have HO241 := n3_; have HR229_0 := n4_; have HB := n5_; clear n0_ n1_ n2_ n3_ n4_ n5_; (try clear hb); (try clear hb2); (try clear hk); (try clear hi); (try clear ho0)))
        go_roundg k1
        case measure => have := HK1.out; omega
        case rel => exact ⟨(t239), (wrap64 (x8_1 + 1)), q7_14, H', ⟨by have := HK1.out; omega⟩, ⟨by (with_reducible repeat (first | apply Kd.R_alloc | apply Kd.R_drewN | apply Kd.R_drew)); exact Kd.R_mono HO241.out (fun _ hk => hk.1)⟩, ⟨fun e_ => absurd e_ (all_concat_ne (by rw [Ny236.out]; exact List.mem_cons_of_mem _ List.mem_cons_self) c6b2 A10.out (by rw [Ny236.out]; simp))⟩, ⟨by (with_reducible repeat (first | apply Kd.V_alloc | apply Kd.V_drewN | apply Kd.V_drew)); exact Kd.V_mono HO_6.out (fun _ hk => ⟨hk.1.1.1.1, hk.2⟩)⟩, ⟨by repeat (first | (with_reducible first | exact HB.out | apply below_alloc | apply pw_below_drewN | apply below_drew1) | exact HB.out)⟩⟩
     ·
      rw [if_neg c4] at H
      exact absurd H (by simp)
    ·
     rw [if_neg c3] at H
     exact absurd H (by simp)
   ·
    rw [if_neg c2] at H
    have c2b0 : decide (x8_1 < (l0.length : Int)) = false := decide_eq_false c2
    clear c2
    obtain rfl := Option.some.inj H
    go_wp2
    go_ret
    exact ⟨_, by first | rfl | (simp [errW_none, errW_some] <;> rfl) | (simp [*, errW_none, errW_some] <;> rfl), by (with_reducible repeat (first | apply Kd.R_alloc | apply Kd.R_drewN | apply Kd.R_drew)); exact HO_3.out, by repeat (first | (with_reducible first | exact HB.out | apply below_alloc | apply pw_below_drewN | apply below_drew1) | exact HB.out)⟩

end Go.Proofs.YtjoefhhfppijaaaDoor.PAll
