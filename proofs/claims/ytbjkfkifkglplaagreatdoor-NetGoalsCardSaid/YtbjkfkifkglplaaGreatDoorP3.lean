/-
  Whole: the program and the document answer the same.
-/
import Derived.Test.YtbjkfkifkglplaaGreatDoorP2
set_option linter.unusedSectionVars false
set_option linter.unusedVariables false
set_option linter.unusedSimpArgs false
set_option maxRecDepth 100000
namespace Go.Proofs.YtbjkfkifkglplaaGreatDoor.Q
open Go Go.Den Go.RowKit Go.Proofs
noncomputable section
theorem some_or (p q : Bool) : some (p || q) = if p = true then some true else some q := by cases p <;> rfl
theorem any_false {α : Type} : ∀ l : List α, (l.any fun _ => false) = false
  | [] => rfl
  | _ :: t => any_false t
theorem isValue_eq (n : Int) : r10_isValue.f n = some (decide (-1048576 ≤ n ∧ n ≤ 1048576)) := by
  unfold r10_isValue.f
  repeat' split
  all_goals (congr 1; first | (apply decide_eq_decide.2; omega) | (symm; apply decide_eq_true; omega) | (symm; apply decide_eq_false; omega))
theorem clockless_eq (a b c d) (g : S43) : r10_clockless.f a b c d g.f0 g.f1 g.f2 g.f3 = some (badC a g) := by
  have e : badC a g = decide (g.f0 < 1 ∨ g.f0 > (a.length : Int) ∨ g.f1 < 0 ∨ g.f1 > (a.length : Int)) := by
    rw [Bool.eq_iff_iff]
    simp only [badC, isC, Bool.or_eq_true, Bool.and_eq_true, Bool.not_eq_true', Bool.and_eq_false_iff, decide_eq_true_eq, decide_eq_false_iff_not]
    omega
  rw [e]
  unfold r10_clockless.f
  repeat' split
  all_goals (congr 1; first | (apply decide_eq_decide.2; omega) | (symm; apply decide_eq_true; omega) | (symm; apply decide_eq_false; omega))
theorem cmpless_eq (g : S43) : r10_cmpless.f g.f0 g.f1 g.f2 g.f3 = some (badF g) := by
  unfold r10_cmpless.f badF
  split
  · next h => rw [decide_eq_true h]; rfl
  · next h => rw [decide_eq_false h]; rfl
def gB (a : List ByteArray) (w : Int) (g : S43) : Bool := (decide (w = 12) && badC a g) || (decide (w = 7) && badF g)
theorem rguards0 (w : Int) (a b c d) : ∀ l, r10_guards.L0 w a b c d l = some (l.any (gB a w))
  | [] => rfl
  | g :: t => by
    rw [r10_guards.L0, clockless_eq, cmpless_eq, Option.bind_some, Option.bind_some, rguards0 w a b c d t, List.any_cons, some_or, gB]
    simp only [or_if, and_if, dec_if]
theorem rguards_eq (w : Int) {a b c d} {l : List S43} (hl : l.length ≤ cap) : r10_guards.g a b c d l w = some (l.any (gB a w)) := by
  have := cap_is
  rw [r10_guards.g, if_pos (show l.length ≤ 9223372036854775807 by omega), rguards0]
def sB (a : List ByteArray) (b : List S86) (w : Int) (s : S81) : Bool := if w = 12 then badS a s else if w = 7 then badG s else if w = 121 then badX b s else false
theorem badS_eq (a : List ByteArray) (s : S81) : badS a s = (decide (s.f0 < 0) || decide (s.f0 > (a.length : Int))) := by
  rw [Bool.eq_iff_iff]
  simp only [badS, isC, Bool.or_eq_true, Bool.and_eq_true, Bool.not_eq_true', Bool.and_eq_false_iff, decide_eq_true_eq, decide_eq_false_iff_not]
  omega
theorem redge1 (w : Int) (a : List ByteArray) {b : List S86} (hb : b.length ≤ cap) : ∀ l, (∀ s ∈ l, okS s) → r10_edge.L1 w a b l = some (l.any (sB a b w))
  | [], _ => rfl
  | s :: t, h => by
    rw [r10_edge.L1, rightr_eq (hd_of h).2 hb, Option.bind_some, isTr_eq (hd_of h).2, Option.bind_some, redge1 w a hb t (tl_of h), List.any_cons, some_or, sB]
    by_cases h1 : w = 12
    · rw [if_pos h1, if_pos h1, badS_eq]
      simp only [or_if, dec_if]
    · rw [if_neg h1, if_neg h1]
      by_cases h2 : w = 7
      · rw [if_pos h2, if_pos h2, badG]
        simp only [or_if, and_if, not_if, dec_if]
        repeat' split
        all_goals first | rfl | contradiction
      · rw [if_neg h2, if_neg h2]
        by_cases h3 : w = 121
        · rw [if_pos h3, if_pos h3, badX]
          simp only [or_if, and_if, not_if, dec_if]
        · rw [if_neg h3, if_neg h3, if_neg (by decide)]
theorem testless_eq {a b c d} {l : List S151} (ho : opsOk l) (hb : b.length ≤ cap) : r10_testless.g a b c d l = some (badT b l) := by
  rw [r10_testless.g, rightr_eq ho hb, Option.bind_some, isTr_eq ho, Option.bind_some, badT]
  by_cases h : (l.length : Int) > 0
  · rw [if_pos h, decide_eq_true h, Bool.true_and]
    by_cases h1 : sRight l (b.length : Int) = 0
    · rw [if_pos h1, decide_eq_true h1]; rfl
    · rw [if_neg h1, decide_eq_false h1]; rfl
  · rw [if_neg h, decide_eq_false h, Bool.false_and]
def eB (a : List ByteArray) (b : List S86) (c : List ByteArray) (x : S76) (w : Int) (e : S79) : Bool := if w = 123 then badE c x e else (decide (w = 121) && badT b e.f3) || e.f6.any (sB a b w)
theorem badE_eq (c : List ByteArray) (x : S76) (e : S79) : some (badE c x e) = (if e.f0 < 0 then (some true) else (if e.f0 ≥ (x.f1.length : Int) then (some true) else (if e.f1 < 0 then (some true) else (if e.f1 ≥ (x.f1.length : Int) then (some true) else (if e.f4 < 0 then (some true) else (if e.f4 > (c.length : Int) then (some true) else (if e.f4 = 0 then (some e.f5) else (some false)))))))) := by
  have e1 : ∀ i : Int, inL x i = decide (0 ≤ i ∧ i < (x.f1.length : Int)) := fun i => by
    rw [Bool.eq_iff_iff]; simp only [inL, Bool.and_eq_true, decide_eq_true_eq]
  have e2 : badE c x e = (decide (e.f0 < 0 ∨ e.f0 ≥ (x.f1.length : Int) ∨ e.f1 < 0 ∨ e.f1 ≥ (x.f1.length : Int) ∨ e.f4 < 0 ∨ e.f4 > (c.length : Int)) || (e.f5 && decide (e.f4 = 0))) := by
    rw [badE, e1, e1]
    cases e.f5 with
    | false =>
      rw [Bool.eq_iff_iff]
      simp only [Bool.or_eq_true, Bool.not_eq_true', decide_eq_true_eq, decide_eq_false_iff_not, Bool.false_and, Bool.false_eq_true, or_false]
      omega
    | true =>
      rw [Bool.eq_iff_iff]
      simp only [Bool.or_eq_true, Bool.not_eq_true', decide_eq_true_eq, decide_eq_false_iff_not, Bool.true_and]
      omega
  rw [e2]
  by_cases h : (e.f0 < 0 ∨ e.f0 ≥ (x.f1.length : Int) ∨ e.f1 < 0 ∨ e.f1 ≥ (x.f1.length : Int) ∨ e.f4 < 0 ∨ e.f4 > (c.length : Int))
  · rw [decide_eq_true h, Bool.true_or]
    repeat' split
    all_goals first | rfl | (exfalso; omega)
  · rw [decide_eq_false h, Bool.false_or, if_neg (by omega), if_neg (by omega), if_neg (by omega), if_neg (by omega), if_neg (by omega), if_neg (by omega)]
    by_cases h0 : e.f4 = 0
    · rw [if_pos h0, decide_eq_true h0, Bool.and_true]
    · rw [if_neg h0, decide_eq_false h0, Bool.and_false]
theorem redge_eq (w : Int) {a b c d} (hb : b.length ≤ cap) (x : S76) {e : S79} (he : okE e) : r10_edge.g a b c d x.f0 x.f1 x.f2 e.f0 e.f1 e.f2 e.f3 e.f4 e.f5 e.f6 w = some (eB a b c x w e) := by
  have := cap_is
  have h6 := he.2.2.1
  rw [r10_edge.g, if_pos (show e.f6.length ≤ 9223372036854775807 by omega), redge1 w a hb _ he.2.2.2, testless_eq he.2.1.2 hb, Option.bind_some, eB]
  by_cases h1 : w = 123
  · rw [if_pos h1, if_pos h1, badE_eq]
  · rw [if_neg h1, if_neg h1, some_or]
    by_cases h2 : w = 121
    · rw [if_pos h2, decide_eq_true h2, Bool.true_and]
    · rw [if_neg h2, decide_eq_false h2, Bool.false_and, if_neg (by decide)]
def eW (a : List ByteArray) (b : List S86) (c : List ByteArray) (x : S76) (w : Int) (e : S79) : Bool := e.f2.any (gB a w) || eB a b c x w e
def lW (a : List ByteArray) (w : Int) (l : S84) : Bool := (decide (w = 122) && badK l) || l.f2.any (gB a w)
def bW (a : List ByteArray) (b : List S86) (c : List ByteArray) (d : List S76) (w : Int) : Bool := d.any fun x => x.f1.any (lW a w) || x.f2.any (eW a b c x w)
theorem rwrong2 (w : Int) {a b c d} (hb : b.length ≤ cap) (x : S76) (K : Option Bool) : ∀ l, (∀ e ∈ l, okE e) → r10_wrong.L2 w a b c d x.f0 x.f1 x.f2 K l = if l.any (eW a b c x w) = true then some true else K
  | [], _ => rfl
  | e :: t, h => by
    rw [r10_wrong.L2, rguards_eq w (hd_of h).1, Option.bind_some, redge_eq w hb x (hd_of h), Option.bind_some, rwrong2 w hb x K t (tl_of h), List.any_cons, or_if, eW, or_if]
theorem rwrong1 (w : Int) {a b c d} (hb : b.length ≤ cap) {x : S76} (hx : okA x) (K : Option Bool) : ∀ l, (∀ e ∈ l, okL e) → r10_wrong.L1 w a b c d x.f0 x.f1 x.f2 K l = if l.any (lW a w) = true then some true else if x.f2.any (eW a b c x w) = true then some true else K
  | [], _ => by
    have := cap_is
    have h2 := hx.2.2.1
    rw [r10_wrong.L1, if_pos (show x.f2.length ≤ 9223372036854775807 by omega), rwrong2 w hb x K _ hx.2.2.2]; rfl
  | l :: t, h => by
    rw [r10_wrong.L1, rguards_eq w (hd_of h).2, Option.bind_some, rwrong1 w hb hx K t (tl_of h), List.any_cons, or_if, lW, badK]
    simp only [or_if, and_if, dec_if]
theorem rwrong0 (w : Int) {a b c d} (hb : b.length ≤ cap) : ∀ l, (∀ x ∈ l, okA x) → r10_wrong.L0 w a b c d l = some (bW a b c l w)
  | [], _ => rfl
  | x :: t, h => by
    have := cap_is
    have h1 := (hd_of h).2.1.1
    rw [r10_wrong.L0, if_pos (show x.f1.length ≤ 9223372036854775807 by omega), rwrong1 w hb (hd_of h) _ _ (hd_of h).2.1.2, rwrong0 w hb t (tl_of h), bW, bW, List.any_cons, some_or, or_if]
theorem rwrong_eq (w : Int) {a b c d} (h : OkN a b c d) : r10_wrong.g a b c d w = some (bW a b c d w) := by
  have := cap_is
  have := h.dl
  rw [r10_wrong.g, if_pos (show d.length ≤ 9223372036854775807 by omega), rwrong0 w h.bl d h.ds]
/-! The five ways -/
theorem gB_no {a : List ByteArray} {w : Int} (h : w ≠ 12) (h' : w ≠ 7) (l : List S43) : l.any (gB a w) = false := by
  rw [← any_false l]
  exact any_congr fun g _ => by unfold gB; rw [decide_eq_false h, decide_eq_false h']; rfl
theorem gB_12 (a : List ByteArray) (l : List S43) : l.any (gB a 12) = l.any (badC a) := any_congr fun g _ => by unfold gB; simp
theorem gB_7 (a : List ByteArray) (l : List S43) : l.any (gB a 7) = l.any badF := any_congr fun g _ => by unfold gB; simp
theorem sB_no {a b} {w : Int} (h : w ≠ 12) (h' : w ≠ 7) (h2 : w ≠ 121) (l : List S81) : l.any (sB a b w) = false := by
  rw [← any_false l]
  exact any_congr fun g _ => by unfold sB; rw [if_neg h, if_neg h', if_neg h2]
theorem way122 (a b c d) : bW a b c d 122 = bLocs d := by
  refine any_congr fun x _ => ?_
  have e1 : x.f1.any (lW a 122) = x.f1.any badK := any_congr fun l _ => by unfold lW; rw [gB_no (by decide) (by decide)]; simp
  have e2 : x.f2.any (eW a b c x 122) = false := by
    rw [← any_false x.f2]
    exact any_congr fun e _ => by unfold eW eB; rw [gB_no (by decide) (by decide), sB_no (by decide) (by decide) (by decide), if_neg (by decide)]; rfl
  rw [e1, e2, Bool.or_false]
theorem lW_no {a : List ByteArray} {w : Int} (h : w ≠ 12) (h' : w ≠ 7) (h2 : w ≠ 122) (l : List S84) : l.any (lW a w) = false := by
  rw [← any_false l]
  exact any_congr fun g _ => by unfold lW; rw [gB_no h h', decide_eq_false h2]; rfl
theorem way123 (a b c d) : bW a b c d 123 = bEdges c d := by
  refine any_congr fun x _ => ?_
  rw [lW_no (by decide) (by decide) (by decide), Bool.false_or]
  exact any_congr fun e _ => by unfold eW eB; rw [gB_no (by decide) (by decide), if_pos rfl]; rfl
theorem way121 (a b c d) : bW a b c d 121 = bTests b d := by
  unfold bTests setsL
  rw [flat_any, any_or]
  refine any_congr fun x _ => ?_
  rw [lW_no (by decide) (by decide) (by decide), Bool.false_or, flat_any, any_or]
  refine any_congr fun e _ => ?_
  unfold eW eB
  rw [gB_no (by decide) (by decide), if_neg (by decide), Bool.false_or, decide_eq_true rfl, Bool.true_and]
  congr 1
theorem way_gs (a b c d) (w : Int) (hw : w ≠ 122 ∧ w ≠ 123 ∧ w ≠ 121) : bW a b c d w = ((guardsL d).any (gB a w) || (setsL d).any (sB a b w)) := by
  unfold guardsL setsL
  rw [flat_any, flat_any, any_or]
  refine any_congr fun x _ => ?_
  rw [List.any_append, flat_any, flat_any, flat_any, Bool.or_assoc, any_or]
  have e1 : x.f1.any (lW a w) = x.f1.any fun l => l.f2.any (gB a w) := any_congr fun l _ => by unfold lW; rw [decide_eq_false hw.1]; rfl
  have e2 : x.f2.any (eW a b c x w) = x.f2.any fun e => e.f2.any (gB a w) || e.f6.any (sB a b w) := any_congr fun e _ => by unfold eW eB; rw [if_neg hw.2.1, decide_eq_false hw.2.2]; rfl
  rw [e1, e2]
theorem way12 (a b c d) : bW a b c d 12 = bClocks a d := by
  rw [way_gs a b c d 12 (by decide), gB_12, bClocks]
  congr 1
theorem way7 (a b c d) : bW a b c d 7 = bForms d := by
  rw [way_gs a b c d 7 (by decide), gB_7, bForms]
  congr 1
/-! Whole -/
def sWhole (a : List ByteArray) (b : List S86) (c : List ByteArray) (d : List S76) : Int :=
  if bSome d = true then 2 else if bSizes a b c d = true then 6 else if bNames a b c d = true then 112 else if b.any badV = true then 124 else if bLocs d = true then 122 else
  if bEdges c d = true then 123 else if bClocks a d = true then 12 else if bForms d = true then 7 else if bTests b d = true then 121 else 0
theorem first_if {e : Int} (he : e ≠ 0) (p : Bool) (K : Option Int) : (some (if p = true then e else 0)).bind (fun t => if t = 0 then K else some t) = if p = true then some e else K := by
  cases p with
  | true => rw [if_pos rfl, if_pos rfl, Option.bind_some, if_neg he]
  | false => rw [if_neg (by decide), if_neg (by decide), Option.bind_some, if_pos rfl]
theorem whole_eq {a b c d} (h : OkN a b c d) : net_Whole.g a b c d = some (sWhole a b c d) := by
  rw [net_Whole.g, if_pos (by simp)]
  simp only [net_Whole.L0, Sum.elim_inl, Sum.elim_inr]
  rw [some_eq h.dl, first_if (by decide), sizes_eq h, first_if (by decide)]
  unfold sWhole
  by_cases h1 : bSome d = true
  · rw [if_pos h1, if_pos h1]
  rw [if_neg h1, if_neg h1]
  by_cases h2 : bSizes a b c d = true
  · rw [if_pos h2, if_pos h2]
  have hf := few_of (Bool.not_eq_true _ ▸ h2)
  rw [if_neg h2, if_neg h2, names_eq h hf, first_if (by decide), vars_eq h, first_if (by decide), locs_eq h, first_if (by decide), edges_eq h, first_if (by decide), clocks_eq h hf, first_if (by decide), forms_eq h hf, first_if (by decide), tests_eq h hf, first_if (by decide)]
  repeat' split
  all_goals rfl
theorem rvars1 {a b c d} (K : Option Int) (hK : r10_Whole.L1 a b c d [] = K) : ∀ l, r10_Whole.L1 a b c d l = if l.any badV = true then some 124 else K
  | [] => hK
  | v :: t => by
    rw [r10_Whole.L1, isValue_eq, isValue_eq, isValue_eq, Option.bind_some, Option.bind_some, Option.bind_some, rvars1 K hK t, List.any_cons, or_if]
    have e : badV v = decide (¬ ((-1048576 ≤ v.f1 ∧ v.f1 ≤ 1048576) ∧ (-1048576 ≤ v.f3 ∧ v.f3 ≤ 1048576) ∧ (-1048576 ≤ v.f2 ∧ v.f2 ≤ 1048576) ∧ ¬ v.f1 > v.f3 ∧ ¬ v.f3 > v.f2)) := by
      rw [Bool.eq_iff_iff]
      simp only [badV, Bool.or_eq_true, decide_eq_true_eq]
      omega
    rw [e, dec_if]
    simp only [not_if, dec_if]
    repeat' split
    all_goals first | rfl | (exfalso; omega)
theorem rfirst0 {a b c d} (K : Option Int) (hK : r10_Whole.L0 a b c d [] = K) : ∀ l, r10_Whole.L0 a b c d l = if (l.any fun x => decide ((x.f1.length : Int) = 0)) = true then some 2 else K
  | [] => hK
  | x :: t => by rw [r10_Whole.L0, rfirst0 K hK t, List.any_cons, or_if, dec_if]
theorem way_if (p : Bool) (e : Int) (K : Option Int) : (some p).bind (fun t => if t = true then some e else K) = if p = true then some e else K := rfl
theorem rwhole_eq {a b c d} (h : OkN a b c d) : r10_Whole.g a b c d = some (sWhole a b c d) := by
  have := cap_is
  have h1 := h.dl
  have h2 := h.bl
  rw [r10_Whole.g, if_pos (show d.length ≤ 9223372036854775807 by omega), rfirst0 _ rfl, r10_Whole.L0, long_eq h, Option.bind_some, if_pos (show b.length ≤ 9223372036854775807 by omega), rvars1 _ rfl, r10_Whole.L1, if_pos (show ([122, 123, 12, 7, 121] : List Int).length ≤ 9223372036854775807 by simp)]
  simp only [r10_Whole.L2]
  rw [rwrong_eq 122 h, way_if, rwrong_eq 123 h, way_if, rwrong_eq 12 h, way_if, rwrong_eq 7 h, way_if, rwrong_eq 121 h, way_if, way122, way123, way12, way7, way121]
  unfold sWhole
  rw [bSome, or_if, dec_if]
  by_cases g1 : (d.length : Int) = 0
  · rw [if_pos g1, if_pos g1]
  rw [if_neg g1, if_neg g1]
  by_cases g2 : (d.any fun x => decide ((x.f1.length : Int) = 0)) = true
  · rw [if_pos g2, if_pos g2]
  rw [if_neg g2, if_neg g2]
  by_cases g3 : bSizes a b c d = true
  · rw [if_pos g3, if_pos g3]
  have hf := few_of (Bool.not_eq_true _ ▸ g3)
  rw [if_neg g3, if_neg g3, wrongNames_eq h hf, Option.bind_some]
  repeat' split
  all_goals rfl
end
end Go.Proofs.YtbjkfkifkglplaaGreatDoor.Q
