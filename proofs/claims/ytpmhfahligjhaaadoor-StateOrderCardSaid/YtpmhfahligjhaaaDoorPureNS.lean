/-
  States: comparing rows of numbers, and bytes; a state's bytes; 'is one of the network'.
-/
import Derived.Test.YtpmhfahligjhaaaDoorPureNC
import Derived.Test.YtpmhfahligjhaaaDoorPOrdx1
import Derived.Test.YtpmhfahligjhaaaDoorPOrdx14
import Derived.Test.YtpmhfahligjhaaaDoorPOrdx16
import Derived.Test.YtpmhfahligjhaaaDoorPOrdx19
namespace Go.Proofs.YtpmhfahligjhaaaDoor.POrd
set_option linter.unusedVariables false
set_option linter.unusedSimpArgs false
open Go Go.RowKit Go.Proofs.YtpmhfahligjhaaaDoorW.PrintWords Go.Proofs.YtpmhfahligjhaaaDoorW.PrintMore
/-! Comparing -/
def cmpI (a b : Int) : Int := if a < b then -1 else if a > b then 1 else 0
def cmpL : List Int → List Int → Int
  | [], [] => 0
  | [], _ :: _ => -1
  | _ :: _, [] => 1
  | x :: s, y :: t => if cmpI x y = 0 then cmpL s t else cmpI x y
theorem cmpL_nn : cmpL [] [] = 0 := rfl
theorem cmpL_nc (y : Int) (t : List Int) : cmpL [] (y :: t) = -1 := rfl
theorem cmpL_cn (x : Int) (s : List Int) : cmpL (x :: s) [] = 1 := rfl
theorem cmpL_cc (x y : Int) (s t : List Int) : cmpL (x :: s) (y :: t) = if cmpI x y = 0 then cmpL s t else cmpI x y := rfl
theorem cmpI_eq (a b : Int) : cmp_Compare_int.f a b = some (cmpI a b) := by
  unfold cmp_Compare_int.f cmp_isNaN_int.f cmpI
  simp only [Option.bind_some, bne_self_eq_false, Bool.false_eq_true, if_false]
  by_cases h1 : a < b
  · rw [if_pos h1, if_pos h1]
  · rw [if_neg h1, if_neg h1]
    by_cases h2 : a > b
    · rw [if_pos h2, if_pos h2]
    · rw [if_neg h2, if_neg h2]
theorem rd_at {xs : List Int} {i : Nat} {x : Int} {t : List Int} (h : xs.drop i = x :: t) : rd xs (i : Int) = x := by
  have := (drop_at h).2.1
  simp [rd, this]
theorem Compare_ev {a b : List Int} (ha : a.length ≤ cap) : Ev (fun k => slices_Compare_int_int.f k a b) (cmpL a b) := by
  have key : ∀ n i : Nat, a.length - i ≤ n → i ≤ a.length → i ≤ b.length → Ev (fun k => slices_Compare_int_int.l0 k a b a (a.length : Int) (i : Int)) (cmpL (a.drop i) (b.drop i)) := by
    intro n
    induction n with
    | zero =>
      intro i h1 h2 h3
      obtain rfl : i = a.length := by omega
      rw [List.drop_eq_nil_of_le (Nat.le_refl a.length)]
      by_cases hl : (a.length : Int) < (b.length : Int)
      · rw [List.drop_eq_getElem_cons (show a.length < b.length by omega), cmpL_nc]
        exact Ev.step (fun k => by rw [slices_Compare_int_int.l0, if_neg (by omega), if_pos hl]) (Ev.now _)
      · rw [List.drop_eq_nil_of_le (show b.length ≤ a.length by omega), cmpL_nn]
        exact Ev.step (fun k => by rw [slices_Compare_int_int.l0, if_neg (by omega), if_neg hl]) (Ev.now _)
    | succ n ih =>
      intro i h1 h2 h3
      rcases Nat.lt_or_ge i a.length with h | h
      · have hd := List.drop_eq_getElem_cons h
        have hin := inside hd ha
        rcases Nat.lt_or_ge i b.length with h4 | h4
        · have hd2 := List.drop_eq_getElem_cons h4
          refine Ev.step (fun k => by rw [slices_Compare_int_int.l0, if_pos hin.1, if_pos hin.2.1, if_pos hin.1, if_neg (by omega), if_pos (by omega), rd_at hd, rd_at hd2, cmpI_eq, Option.bind_some, hin.2.2]) ?_
          rw [hd, hd2, cmpL_cc]
          by_cases h0 : cmpI a[i] b[i] = 0
          · rw [if_pos h0]; exact Ev.congr (fun k => by rw [if_pos h0]) (ih (i + 1) (by omega) (by omega) (by omega))
          · rw [if_neg h0]; exact Ev.congr (fun k => by rw [if_neg h0]) (Ev.now _)
        · rw [hd, List.drop_eq_nil_of_le h4, cmpL_cn]
          exact Ev.step (fun k => by rw [slices_Compare_int_int.l0, if_pos hin.1, if_pos hin.2.1, if_pos hin.1, if_pos (by omega)]) (Ev.now _)
      · obtain rfl : i = a.length := by omega
        rw [List.drop_eq_nil_of_le (Nat.le_refl a.length)]
        by_cases hl : (a.length : Int) < (b.length : Int)
        · rw [List.drop_eq_getElem_cons (show a.length < b.length by omega), cmpL_nc]
          exact Ev.step (fun k => by rw [slices_Compare_int_int.l0, if_neg (by omega), if_pos hl]) (Ev.now _)
        · rw [List.drop_eq_nil_of_le (show b.length ≤ a.length by omega), cmpL_nn]
          exact Ev.step (fun k => by rw [slices_Compare_int_int.l0, if_neg (by omega), if_neg hl]) (Ev.now _)
  have := key a.length 0 (by omega) (Nat.zero_le _) (Nat.zero_le _)
  show Ev (fun k => slices_Compare_int_int.l0 k a b a (a.length : Int) 0) _
  simpa using this
theorem row_ev {a b : List Int} (ha : a.length ≤ cap) : Ev (fun k => gnomonref13_row.f k a b) (cmpL a b) := by
  have key : ∀ n i : Nat, a.length - i ≤ n → i ≤ a.length → i ≤ b.length → Ev (fun k => gnomonref13_row.l0 k a b (i : Int)) (cmpL (a.drop i) (b.drop i)) := by
    intro n
    induction n with
    | zero =>
      intro i h1 h2 h3
      obtain rfl : i = a.length := by omega
      rw [List.drop_eq_nil_of_le (Nat.le_refl a.length)]
      refine Ev.step (fun k => by rw [gnomonref13_row.l0, if_neg (by omega)]) ?_
      by_cases hl : (a.length : Int) < (b.length : Int)
      · rw [List.drop_eq_getElem_cons (show a.length < b.length by omega), cmpL_nc]
        exact Ev.step (fun k => by rw [gnomonref13_row.j1, if_neg (by decide), if_pos hl]) (Ev.now _)
      · rw [List.drop_eq_nil_of_le (show b.length ≤ a.length by omega), cmpL_nn]
        exact Ev.step (fun k => by rw [gnomonref13_row.j1, if_neg (by decide), if_neg hl, if_neg (by omega)]) (Ev.now _)
    | succ n ih =>
      intro i h1 h2 h3
      rcases Nat.lt_or_ge i a.length with h | h
      · have hd := List.drop_eq_getElem_cons h
        have hin := inside hd ha
        refine Ev.step (fun k => by rw [gnomonref13_row.l0, if_pos hin.1]) ?_
        rcases Nat.lt_or_ge i b.length with h4 | h4
        · have hd2 := List.drop_eq_getElem_cons h4
          rw [decide_eq_true (show (i : Int) < (b.length : Int) by omega)]
          refine Ev.step (fun k => by rw [gnomonref13_row.j1, if_pos rfl, if_pos hin.2.1, if_pos hin.1, if_pos (show (i : Int) < (b.length : Int) by omega), rd_at hd, rd_at hd2, hin.2.2]) ?_
          rw [hd, hd2, cmpL_cc]
          unfold cmpI
          by_cases c1 : a[i] < b[i]
          · exact Ev.congr (fun k => by rw [if_pos c1]) (by rw [if_pos c1]; exact Ev.now (-1))
          · by_cases c2 : a[i] > b[i]
            · exact Ev.congr (fun k => by rw [if_neg c1, if_pos c2]) (by rw [if_neg c1, if_pos c2]; exact Ev.now 1)
            · exact Ev.congr (fun k => by rw [if_neg c1, if_neg c2]) (by rw [if_neg c1, if_neg c2, if_pos rfl]; exact ih (i + 1) (by omega) (by omega) (by omega))
        · rw [hd, List.drop_eq_nil_of_le h4, cmpL_cn, decide_eq_false (show ¬ (i : Int) < (b.length : Int) by omega)]
          exact Ev.step (fun k => by rw [gnomonref13_row.j1, if_neg (by decide), if_neg (by omega), if_pos (by omega)]) (Ev.now _)
      · obtain rfl : i = a.length := by omega
        rw [List.drop_eq_nil_of_le (Nat.le_refl a.length)]
        refine Ev.step (fun k => by rw [gnomonref13_row.l0, if_neg (by omega)]) ?_
        by_cases hl : (a.length : Int) < (b.length : Int)
        · rw [List.drop_eq_getElem_cons (show a.length < b.length by omega), cmpL_nc]
          exact Ev.step (fun k => by rw [gnomonref13_row.j1, if_neg (by decide), if_pos hl]) (Ev.now _)
        · rw [List.drop_eq_nil_of_le (show b.length ≤ a.length by omega), cmpL_nn]
          exact Ev.step (fun k => by rw [gnomonref13_row.j1, if_neg (by decide), if_neg hl, if_neg (by omega)]) (Ev.now _)
  have := key a.length 0 (by omega) (Nat.zero_le _) (Nat.zero_le _)
  show Ev (fun k => gnomonref13_row.l0 k a b 0) _
  simpa using this
/-- Two states, compared. -/
def cmpS (a p b q : List Int) : Int := if cmpL a b = 0 then cmpL p q else cmpL a b
theorem Or_ev (c e : Int) : Ev (fun k => cmp_Or_int.f k [c, e]) (if c = 0 then e else c) := by
  have w1 : wrap64 ((0 : Int) + 1) = 1 := by unfold wrap64; omega
  have w2 : wrap64 ((1 : Int) + 1) = 2 := by unfold wrap64; omega
  have r0 : rd [c, e] 0 = c := rfl
  have r1 : rd [c, e] 1 = e := rfl
  show Ev (fun k => cmp_Or_int.l0 k [c, e] 2 0) _
  by_cases h0 : c = 0
  · rw [if_pos h0]
    refine Ev.step (fun k => by rw [cmp_Or_int.l0, if_pos (by omega), if_pos (by omega), if_pos (by simp), r0, if_pos h0, w1]) ?_
    by_cases h1 : e = 0
    · refine Ev.step (fun k => by rw [cmp_Or_int.l0, if_pos (by omega), if_pos (by omega), if_pos (by simp), r1, if_pos h1, w2]) ?_
      rw [h1]
      exact Ev.step (fun k => by rw [cmp_Or_int.l0, if_neg (by omega)]) (Ev.now _)
    · exact Ev.step (fun k => by rw [cmp_Or_int.l0, if_pos (by omega), if_pos (by omega), if_pos (by simp), r1, if_neg h1]) (Ev.now _)
  · rw [if_neg h0]
    exact Ev.step (fun k => by rw [cmp_Or_int.l0, if_pos (by omega), if_pos (by omega), if_pos (by simp), r0, if_neg h0]) (Ev.now _)
theorem sCompare_ev {a p b q : List Int} (ha : a.length ≤ cap) (hp : p.length ≤ cap) : Ev (fun k => state_Compare.f k a p b q) (cmpS a p b q) :=
  Ev.congr (fun k => by rw [state_Compare.f]) (Ev.bind (Compare_ev ha) (Ev.bind (Compare_ev hp) (Ev.bind (Or_ev _ _) (Ev.now _))))
theorem rCompare_ev {a p b q : List Int} (ha : a.length ≤ cap) (hp : p.length ≤ cap) : Ev (fun k => gnomonref13_Compare.f k a p b q) (cmpS a p b q) := by
  refine Ev.congr (fun k => by rw [gnomonref13_Compare.f]) (Ev.bind (row_ev ha) ?_)
  unfold cmpS
  by_cases h0 : cmpL a b = 0
  · rw [if_pos h0]
    exact Ev.congr (fun k => by (rw [if_pos h0]; try rfl)) (Ev.bind (row_ev hp) (Ev.now _))
  · rw [if_neg h0]
    exact Ev.congr (fun k => by rw [if_neg h0]) (Ev.now _)
theorem cmpI_neg (a b : Int) : cmpI b a = -cmpI a b := by
  unfold cmpI
  repeat' split
  all_goals omega
theorem cmpL_neg : ∀ a b : List Int, cmpL b a = -cmpL a b
  | [], [] => rfl
  | [], _ :: _ => rfl
  | _ :: _, [] => rfl
  | x :: s, y :: t => by
    simp only [cmpL_cc]
    rw [cmpI_neg x y]
    by_cases h : cmpI x y = 0
    · rw [if_pos h, if_pos (by omega)]; exact cmpL_neg s t
    · rw [if_neg h, if_neg (by omega)]
theorem cmpS_neg (a p b q : List Int) : cmpS b q a p = -cmpS a p b q := by
  unfold cmpS
  rw [cmpL_neg a b, cmpL_neg p q]
  by_cases h : cmpL a b = 0
  · rw [if_pos h, if_pos (by omega)]
  · rw [if_neg h, if_neg (by omega)]
theorem cmpI_range (a b : Int) : -1 ≤ cmpI a b ∧ cmpI a b ≤ 1 := by
  unfold cmpI
  by_cases h1 : a < b
  · rw [if_pos h1]; omega
  · rw [if_neg h1]
    by_cases h2 : a > b
    · rw [if_pos h2]; omega
    · rw [if_neg h2]; omega
theorem cmpL_range : ∀ a b : List Int, -1 ≤ cmpL a b ∧ cmpL a b ≤ 1
  | [], [] => by unfold cmpL; omega
  | [], _ :: _ => by unfold cmpL; omega
  | _ :: _, [] => by unfold cmpL; omega
  | x :: s, y :: t => by
    simp only [cmpL_cc]
    have := cmpI_range x y
    have := cmpL_range s t
    by_cases h : cmpI x y = 0
    · rw [if_pos h]; omega
    · rw [if_neg h]; omega
theorem cmpS_range (a p b q : List Int) : -1 ≤ cmpS a p b q ∧ cmpS a p b q ≤ 1 := by
  unfold cmpS
  have := cmpL_range a b
  have := cmpL_range p q
  by_cases h : cmpL a b = 0
  · rw [if_pos h]; omega
  · rw [if_neg h]; omega
theorem cmpI_zero {a b : Int} : cmpI a b = 0 ↔ a = b := by
  unfold cmpI
  by_cases h1 : a < b
  · rw [if_pos h1]; omega
  · rw [if_neg h1]
    by_cases h2 : a > b
    · rw [if_pos h2]; omega
    · rw [if_neg h2]; omega
theorem cmpL_zero : ∀ {a b : List Int}, cmpL a b = 0 ↔ a = b
  | [], [] => by simp [cmpL]
  | [], _ :: _ => by simp [cmpL]
  | _ :: _, [] => by simp [cmpL]
  | x :: s, y :: t => by
    simp only [cmpL_cc]
    by_cases h : cmpI x y = 0
    · rw [if_pos h, cmpL_zero, List.cons.injEq]
      exact ⟨fun h2 => ⟨cmpI_zero.1 h, h2⟩, fun h2 => h2.2⟩
    · rw [if_neg h]
      exact ⟨fun h2 => absurd h2 h, fun h2 => absurd (cmpI_zero.2 (List.cons.inj h2).1) h⟩
/-- One behind the other: of rows as long. -/
theorem cmpL_append : ∀ {a b : List Int} (p q : List Int), a.length = b.length → cmpL (a ++ p) (b ++ q) = if cmpL a b = 0 then cmpL p q else cmpL a b
  | [], [], p, q, _ => by simp [cmpL]
  | [], _ :: _, p, q, h => by simp at h
  | _ :: _, [], p, q, h => by simp at h
  | x :: s, y :: t, p, q, h => by
    rw [List.cons_append, List.cons_append, cmpL_cc, cmpL_cc]
    by_cases h0 : cmpI x y = 0
    · rw [if_pos h0, if_pos h0]; exact cmpL_append p q (by simpa using h)
    · rw [if_neg h0, if_neg h0, if_neg h0]
/-! Bytes -/
def byte (x : Int) : Prop := 0 ≤ x ∧ x < 256
theorem bytesLess_cmp : ∀ {a b : List Int}, (∀ x ∈ a, byte x) → (∀ x ∈ b, byte x) → Op.bytesLess (a.map fun n => UInt8.ofNat n.toNat) (b.map fun n => UInt8.ofNat n.toNat) = decide (cmpL a b < 0) ∧ ((a.map fun n => UInt8.ofNat n.toNat) == (b.map fun n => UInt8.ofNat n.toNat)) = (cmpL a b == 0)
  | [], [], _, _ => by simp [Op.bytesLess, cmpL]
  | [], _ :: _, _, _ => by simp [Op.bytesLess, cmpL]
  | _ :: _, [], _, _ => by simp [Op.bytesLess, cmpL]
  | x :: s, y :: t, ha, hb => by
    have hx := ha x List.mem_cons_self
    have hy := hb y List.mem_cons_self
    have ih := bytesLess_cmp (a := s) (b := t) (fun z hz => ha z (List.mem_cons_of_mem _ hz)) (fun z hz => hb z (List.mem_cons_of_mem _ hz))
    have e1 : (UInt8.ofNat x.toNat < UInt8.ofNat y.toNat) ↔ x < y := by
      rw [UInt8.lt_iff_toNat_lt, UInt8.toNat_ofNat', UInt8.toNat_ofNat', Nat.mod_eq_of_lt (by have := hx.1; have := hx.2; omega), Nat.mod_eq_of_lt (by have := hy.1; have := hy.2; omega)]
      have := hx.1; have := hy.1; omega
    have e2 : (UInt8.ofNat x.toNat = UInt8.ofNat y.toNat) ↔ x = y := by
      constructor
      · intro h
        have h2 := congrArg UInt8.toNat h
        rw [UInt8.toNat_ofNat', UInt8.toNat_ofNat', Nat.mod_eq_of_lt (by have := hx.1; have := hx.2; omega), Nat.mod_eq_of_lt (by have := hy.1; have := hy.2; omega)] at h2
        have := hx.1; have := hy.1; omega
      · intro h; rw [h]
    rw [List.map_cons, List.map_cons]
    rw [cmpL_cc]
    unfold Op.bytesLess cmpI
    rcases Int.lt_trichotomy x y with h | h | h
    · have n1 : ¬ x = y := by omega
      simp [e1, e2, h, n1, List.cons_beq_cons]
    · subst h
      simp only [ih.1, List.cons_beq_cons, ih.2]
      simp
    · have n1 : ¬ x = y := by omega
      have n2 : ¬ x < y := by omega
      simp [e1, e2, h, n1, n2, List.cons_beq_cons]
end Go.Proofs.YtpmhfahligjhaaaDoor.POrd
