import Derived.Test.YtpmhfahligjhaaaDoorPOrdx11
namespace Go.Proofs.YtpmhfahligjhaaaDoor.POrd
open Go.RowKit Go.Proofs.YtpmhfahligjhaaaDoorW.PrintWords Go.Proofs.YtpmhfahligjhaaaDoorW.PrintLast Go.Proofs.YtpmhfahligjhaaaDoorW.PrintMore Go.Proofs.YtpmhfahligjhaaaDoorXW
set_option linter.unusedVariables false
set_option linter.unusedSimpArgs false
/-! gnomonref08_parts -/
def gnomonref08_parts.j0 : Nat → Int → Bool → Option (Int)
 | 0, _, _ => none
 | k + 1, x3, x4 => if x4 = true then (some 1) else (if x3 = 4 then (some 2) else (if x3 = 5 then (some 2) else (if x3 = 6 then (some 2) else (if x3 = 8 then (some 2) else (if x3 = 9 then (some 2) else (if x3 = 10 then (some 2) else (if x3 = 11 then (some 2) else (if x3 = 13 then (some 2) else (if x3 = 14 then (some 2) else (some 0))))))))))
def gnomonref08_parts.f (k : Nat) (a0 : Int) : Option (Int) := if a0 = 3 then (gnomonref08_parts.j0 k a0 (a0 == 3)) else (gnomonref08_parts.j0 k a0 (a0 == 12))
theorem gnomonref08_parts.mono_l : ∀ k, (∀ y0 y1, LeO (gnomonref08_parts.j0 k y0 y1) (gnomonref08_parts.j0 (k + 1) y0 y1))
 | 0 => fun _ _ r h => by simp [gnomonref08_parts.j0] at h
 | k + 1 => by
  have ih0 := gnomonref08_parts.mono_l k
  ·
   intro y0 y1
   unfold gnomonref08_parts.j0
   repeat' first
   | (with_reducible exact ih0 _ _)
   | (with_reducible exact LeO.refl _)
   | (with_reducible exact LeO.none _)
   | (with_reducible refine LeO.ite ?_ ?_)
   | (with_reducible refine LeO.bind ?_ (fun _ => ?_))
   | exact ih0 _ _
   | exact LeO.none _
   | refine LeO.ite ?_ ?_
   | refine LeO.bind ?_ (fun _ => ?_)
theorem gnomonref08_parts.mono : ∀ a0 k, LeO (gnomonref08_parts.f k a0) (gnomonref08_parts.f (k + 1) a0) := by
 intro a0 k
 have ih0 := gnomonref08_parts.mono_l k
 unfold gnomonref08_parts.f
 repeat' first
   | (with_reducible exact ih0 _ _)
   | (with_reducible exact LeO.refl _)
   | (with_reducible exact LeO.none _)
   | (with_reducible refine LeO.ite ?_ ?_)
   | (with_reducible refine LeO.bind ?_ (fun _ => ?_))
   | exact ih0 _ _
   | exact LeO.none _
   | refine LeO.ite ?_ ?_
   | refine LeO.bind ?_ (fun _ => ?_)
/-! gnomonref08_End -/
mutual
def gnomonref08_End.j0 : Nat → List (S122) → Int → Bool → Option (Int)
 | 0, _, _, _ => none
 | k + 1, x0, x1, x14 => if x14 = true then (some 0) else (gnomonref08_End.l0 k x0 1 x1)
def gnomonref08_End.l0 : Nat → List (S122) → Int → Int → Option (Int)
 | 0, _, _, _ => none
 | k + 1, x0, x5, x6 => if x6 < (x0.length : Int) then (if 0 ≤ x6 then ((gnomonref08_parts.f k ((rd_T122 x0 x6).f0)).bind fun t159 => (if (wrap64 (x5 + (wrap64 (t159 - 1)))) = 0 then (some (wrap64 (x6 + 1))) else (gnomonref08_End.l0 k x0 (wrap64 (x5 + (wrap64 (t159 - 1)))) (wrap64 (x6 + 1))))) else (none)) else (some 0)
end
def gnomonref08_End.f (k : Nat) (l0 : List (S122)) (a1 : Int) : Option (Int) := if a1 < 0 then (gnomonref08_End.j0 k l0 a1 true) else (gnomonref08_End.j0 k l0 a1 (decide (a1 ≥ (l0.length : Int))))
theorem gnomonref08_End.mono_l : ∀ k, (∀ y0 y1 y2, LeO (gnomonref08_End.j0 k y0 y1 y2) (gnomonref08_End.j0 (k + 1) y0 y1 y2)) ∧ (∀ y0 y1 y2, LeO (gnomonref08_End.l0 k y0 y1 y2) (gnomonref08_End.l0 (k + 1) y0 y1 y2))
 | 0 => ⟨fun _ _ _ r h => by simp [gnomonref08_End.j0] at h, fun _ _ _ r h => by simp [gnomonref08_End.l0] at h⟩
 | k + 1 => by
  obtain ⟨ih0, ih1⟩ := gnomonref08_End.mono_l k
  refine ⟨?_, ?_⟩
  ·
   intro y0 y1 y2
   unfold gnomonref08_End.j0
   repeat' first
   | (with_reducible exact ih0 _ _ _)
   | (with_reducible exact ih1 _ _ _)
   | (with_reducible exact gnomonref08_parts.mono _ _)
   | (with_reducible exact LeO.refl _)
   | (with_reducible exact LeO.none _)
   | (with_reducible refine LeO.ite ?_ ?_)
   | (with_reducible refine LeO.bind ?_ (fun _ => ?_))
   | exact ih0 _ _ _
   | exact ih1 _ _ _
   | exact gnomonref08_parts.mono _ _
   | exact LeO.none _
   | refine LeO.ite ?_ ?_
   | refine LeO.bind ?_ (fun _ => ?_)
  ·
   intro y0 y1 y2
   unfold gnomonref08_End.l0
   repeat' first
   | (with_reducible exact ih0 _ _ _)
   | (with_reducible exact ih1 _ _ _)
   | (with_reducible exact gnomonref08_parts.mono _ _)
   | (with_reducible exact LeO.refl _)
   | (with_reducible exact LeO.none _)
   | (with_reducible refine LeO.ite ?_ ?_)
   | (with_reducible refine LeO.bind ?_ (fun _ => ?_))
   | exact ih0 _ _ _
   | exact ih1 _ _ _
   | exact gnomonref08_parts.mono _ _
   | exact LeO.none _
   | refine LeO.ite ?_ ?_
   | refine LeO.bind ?_ (fun _ => ?_)
theorem gnomonref08_End.mono : ∀ a0 a1 k, LeO (gnomonref08_End.f k a0 a1) (gnomonref08_End.f (k + 1) a0 a1) := by
 intro a0 a1 k
 obtain ⟨ih0, ih1⟩ := gnomonref08_End.mono_l k
 unfold gnomonref08_End.f
 repeat' first
   | (with_reducible exact ih0 _ _ _)
   | (with_reducible exact ih1 _ _ _)
   | (with_reducible exact gnomonref08_parts.mono _ _)
   | (with_reducible exact LeO.refl _)
   | (with_reducible exact LeO.none _)
   | (with_reducible refine LeO.ite ?_ ?_)
   | (with_reducible refine LeO.bind ?_ (fun _ => ?_))
   | exact ih0 _ _ _
   | exact ih1 _ _ _
   | exact gnomonref08_parts.mono _ _
   | exact LeO.none _
   | refine LeO.ite ?_ ?_
   | refine LeO.bind ?_ (fun _ => ?_)
/-! gnomonref08_truth -/
def gnomonref08_truth.f (a0 : Int) : Option (Bool) := if a0 ≥ 7 then (some (decide (a0 ≤ 14))) else (some false)
/-! gnomonref08_numbers -/
def gnomonref08_numbers.f (a0 : Int) : Option (Bool) := if a0 = 3 then (some true) else (if a0 = 4 then (some true) else (if a0 = 5 then (some true) else (if a0 = 6 then (some true) else (if a0 ≥ 8 then (some (decide (a0 ≤ 11))) else (some false)))))
/-! gnomonref08_Right -/
mutual
def gnomonref08_Right.j0 : Nat → List (S122) → Int → Bool → Option (Int)
 | 0, _, _, _ => none
 | k + 1, x0, x1, x24 => if x24 = true then (some 121) else (gnomonref08_Right.l0 k x0 x1 0)
def gnomonref08_Right.l0 : Nat → List (S122) → Int → Int → Option (Int)
 | 0, _, _, _ => none
 | k + 1, x0, x1, x5 => if x5 < (x0.length : Int) then (if 0 ≤ x5 then (if ((rd_T122 x0 x5).f0) < 1 then (gnomonref08_Right.j2 k x0 x1 x5 ((rd_T122 x0 x5).f0) ((rd_T122 x0 x5).f1) true) else (gnomonref08_Right.j2 k x0 x1 x5 ((rd_T122 x0 x5).f0) ((rd_T122 x0 x5).f1) (decide (((rd_T122 x0 x5).f0) > 14)))) else (none)) else (some 0)
def gnomonref08_Right.j2 : Nat → List (S122) → Int → Int → Int → Int → Bool → Option (Int)
 | 0, _, _, _, _, _, _ => none
 | k + 1, x0, x1, x5, x6, x7, x46 => if x46 = true then (some 121) else (if x6 = 1 then (if x7 < 0 then (gnomonref08_Right.j3 k x0 x1 x5 x6 true) else (if x7 > 1048576 then (gnomonref08_Right.j3 k x0 x1 x5 x6 true) else (if x6 = 2 then (if x7 ≥ x1 then (gnomonref08_Right.j3 k x0 x1 x5 x6 true) else (gnomonref08_Right.j3 k x0 x1 x5 x6 false)) else (gnomonref08_Right.j3 k x0 x1 x5 x6 false)))) else (if x6 = 2 then (if x7 < 0 then (gnomonref08_Right.j3 k x0 x1 x5 x6 true) else (if x7 ≥ x1 then (gnomonref08_Right.j3 k x0 x1 x5 x6 true) else (gnomonref08_Right.j3 k x0 x1 x5 x6 false))) else (gnomonref08_Right.j3 k x0 x1 x5 x6 (x7 != 0))))
def gnomonref08_Right.j3 : Nat → List (S122) → Int → Int → Int → Bool → Option (Int)
 | 0, _, _, _, _, _ => none
 | k + 1, x0, x1, x5, x6, x81 => if x81 = true then (some 121) else (gnomonref08_Right.l1 k x0 x1 x5 x6 (wrap64 (x5 + 1)) 0)
def gnomonref08_Right.l1 : Nat → List (S122) → Int → Int → Int → Int → Int → Option (Int)
 | 0, _, _, _, _, _, _ => none
 | k + 1, x0, x1, x5, x6, x8, x9 => (gnomonref08_parts.f k x6).bind fun t163 => (if x9 < t163 then (if 0 ≤ x8 then (if x8 < (x0.length : Int) then ((gnomonref08_truth.f ((rd_T122 x0 x8).f0)).bind fun t165 => ((gnomonref08_numbers.f x6).bind fun t166 => (if (t165 == t166) = true then (some 121) else ((gnomonref08_End.f k x0 x8).bind fun t167 => (gnomonref08_Right.l1 k x0 x1 x5 x6 t167 (wrap64 (x9 + 1))))))) else (none)) else (none)) else (gnomonref08_Right.l0 k x0 x1 (wrap64 (x5 + 1))))
end
def gnomonref08_Right.f (k : Nat) (l0 : List (S122)) (a1 : Int) : Option (Int) := if (l0.length : Int) = 0 then (gnomonref08_Right.j0 k l0 a1 true) else (if (l0.length : Int) > 64 then (gnomonref08_Right.j0 k l0 a1 true) else ((gnomonref08_End.f k l0 0).bind fun t160 => (gnomonref08_Right.j0 k l0 a1 (t160 != (l0.length : Int)))))
theorem gnomonref08_Right.mono_l : ∀ k, (∀ y0 y1 y2, LeO (gnomonref08_Right.j0 k y0 y1 y2) (gnomonref08_Right.j0 (k + 1) y0 y1 y2)) ∧ (∀ y0 y1 y2, LeO (gnomonref08_Right.l0 k y0 y1 y2) (gnomonref08_Right.l0 (k + 1) y0 y1 y2)) ∧ (∀ y0 y1 y2 y3 y4 y5, LeO (gnomonref08_Right.j2 k y0 y1 y2 y3 y4 y5) (gnomonref08_Right.j2 (k + 1) y0 y1 y2 y3 y4 y5)) ∧ (∀ y0 y1 y2 y3 y4, LeO (gnomonref08_Right.j3 k y0 y1 y2 y3 y4) (gnomonref08_Right.j3 (k + 1) y0 y1 y2 y3 y4)) ∧ (∀ y0 y1 y2 y3 y4 y5, LeO (gnomonref08_Right.l1 k y0 y1 y2 y3 y4 y5) (gnomonref08_Right.l1 (k + 1) y0 y1 y2 y3 y4 y5))
 | 0 => ⟨fun _ _ _ r h => by simp [gnomonref08_Right.j0] at h, fun _ _ _ r h => by simp [gnomonref08_Right.l0] at h, fun _ _ _ _ _ _ r h => by simp [gnomonref08_Right.j2] at h, fun _ _ _ _ _ r h => by simp [gnomonref08_Right.j3] at h, fun _ _ _ _ _ _ r h => by simp [gnomonref08_Right.l1] at h⟩
 | k + 1 => by
  obtain ⟨ih0, ih1, ih2, ih3, ih4⟩ := gnomonref08_Right.mono_l k
  refine ⟨?_, ?_, ?_, ?_, ?_⟩
  ·
   intro y0 y1 y2
   unfold gnomonref08_Right.j0
   repeat' first
   | (with_reducible exact ih0 _ _ _)
   | (with_reducible exact ih1 _ _ _)
   | (with_reducible exact ih2 _ _ _ _ _ _)
   | (with_reducible exact ih3 _ _ _ _ _)
   | (with_reducible exact ih4 _ _ _ _ _ _)
   | (with_reducible exact gnomonref08_End.mono _ _ _)
   | (with_reducible exact gnomonref08_parts.mono _ _)
   | (with_reducible exact LeO.refl _)
   | (with_reducible exact LeO.none _)
   | (with_reducible refine LeO.ite ?_ ?_)
   | (with_reducible refine LeO.bind ?_ (fun _ => ?_))
   | exact ih0 _ _ _
   | exact ih1 _ _ _
   | exact ih2 _ _ _ _ _ _
   | exact ih3 _ _ _ _ _
   | exact ih4 _ _ _ _ _ _
   | exact gnomonref08_End.mono _ _ _
   | exact gnomonref08_parts.mono _ _
   | exact LeO.none _
   | refine LeO.ite ?_ ?_
   | refine LeO.bind ?_ (fun _ => ?_)
  ·
   intro y0 y1 y2
   unfold gnomonref08_Right.l0
   repeat' first
   | (with_reducible exact ih0 _ _ _)
   | (with_reducible exact ih1 _ _ _)
   | (with_reducible exact ih2 _ _ _ _ _ _)
   | (with_reducible exact ih3 _ _ _ _ _)
   | (with_reducible exact ih4 _ _ _ _ _ _)
   | (with_reducible exact gnomonref08_End.mono _ _ _)
   | (with_reducible exact gnomonref08_parts.mono _ _)
   | (with_reducible exact LeO.refl _)
   | (with_reducible exact LeO.none _)
   | (with_reducible refine LeO.ite ?_ ?_)
   | (with_reducible refine LeO.bind ?_ (fun _ => ?_))
   | exact ih0 _ _ _
   | exact ih1 _ _ _
   | exact ih2 _ _ _ _ _ _
   | exact ih3 _ _ _ _ _
   | exact ih4 _ _ _ _ _ _
   | exact gnomonref08_End.mono _ _ _
   | exact gnomonref08_parts.mono _ _
   | exact LeO.none _
   | refine LeO.ite ?_ ?_
   | refine LeO.bind ?_ (fun _ => ?_)
  ·
   intro y0 y1 y2 y3 y4 y5
   unfold gnomonref08_Right.j2
   repeat' first
   | (with_reducible exact ih0 _ _ _)
   | (with_reducible exact ih1 _ _ _)
   | (with_reducible exact ih2 _ _ _ _ _ _)
   | (with_reducible exact ih3 _ _ _ _ _)
   | (with_reducible exact ih4 _ _ _ _ _ _)
   | (with_reducible exact gnomonref08_End.mono _ _ _)
   | (with_reducible exact gnomonref08_parts.mono _ _)
   | (with_reducible exact LeO.refl _)
   | (with_reducible exact LeO.none _)
   | (with_reducible refine LeO.ite ?_ ?_)
   | (with_reducible refine LeO.bind ?_ (fun _ => ?_))
   | exact ih0 _ _ _
   | exact ih1 _ _ _
   | exact ih2 _ _ _ _ _ _
   | exact ih3 _ _ _ _ _
   | exact ih4 _ _ _ _ _ _
   | exact gnomonref08_End.mono _ _ _
   | exact gnomonref08_parts.mono _ _
   | exact LeO.none _
   | refine LeO.ite ?_ ?_
   | refine LeO.bind ?_ (fun _ => ?_)
  ·
   intro y0 y1 y2 y3 y4
   unfold gnomonref08_Right.j3
   repeat' first
   | (with_reducible exact ih0 _ _ _)
   | (with_reducible exact ih1 _ _ _)
   | (with_reducible exact ih2 _ _ _ _ _ _)
   | (with_reducible exact ih3 _ _ _ _ _)
   | (with_reducible exact ih4 _ _ _ _ _ _)
   | (with_reducible exact gnomonref08_End.mono _ _ _)
   | (with_reducible exact gnomonref08_parts.mono _ _)
   | (with_reducible exact LeO.refl _)
   | (with_reducible exact LeO.none _)
   | (with_reducible refine LeO.ite ?_ ?_)
   | (with_reducible refine LeO.bind ?_ (fun _ => ?_))
   | exact ih0 _ _ _
   | exact ih1 _ _ _
   | exact ih2 _ _ _ _ _ _
   | exact ih3 _ _ _ _ _
   | exact ih4 _ _ _ _ _ _
   | exact gnomonref08_End.mono _ _ _
   | exact gnomonref08_parts.mono _ _
   | exact LeO.none _
   | refine LeO.ite ?_ ?_
   | refine LeO.bind ?_ (fun _ => ?_)
  ·
   intro y0 y1 y2 y3 y4 y5
   unfold gnomonref08_Right.l1
   repeat' first
   | (with_reducible exact ih0 _ _ _)
   | (with_reducible exact ih1 _ _ _)
   | (with_reducible exact ih2 _ _ _ _ _ _)
   | (with_reducible exact ih3 _ _ _ _ _)
   | (with_reducible exact ih4 _ _ _ _ _ _)
   | (with_reducible exact gnomonref08_End.mono _ _ _)
   | (with_reducible exact gnomonref08_parts.mono _ _)
   | (with_reducible exact LeO.refl _)
   | (with_reducible exact LeO.none _)
   | (with_reducible refine LeO.ite ?_ ?_)
   | (with_reducible refine LeO.bind ?_ (fun _ => ?_))
   | exact ih0 _ _ _
   | exact ih1 _ _ _
   | exact ih2 _ _ _ _ _ _
   | exact ih3 _ _ _ _ _
   | exact ih4 _ _ _ _ _ _
   | exact gnomonref08_End.mono _ _ _
   | exact gnomonref08_parts.mono _ _
   | exact LeO.none _
   | refine LeO.ite ?_ ?_
   | refine LeO.bind ?_ (fun _ => ?_)
theorem gnomonref08_Right.mono : ∀ a0 a1 k, LeO (gnomonref08_Right.f k a0 a1) (gnomonref08_Right.f (k + 1) a0 a1) := by
 intro a0 a1 k
 obtain ⟨ih0, ih1, ih2, ih3, ih4⟩ := gnomonref08_Right.mono_l k
 unfold gnomonref08_Right.f
 repeat' first
   | (with_reducible exact ih0 _ _ _)
   | (with_reducible exact ih1 _ _ _)
   | (with_reducible exact ih2 _ _ _ _ _ _)
   | (with_reducible exact ih3 _ _ _ _ _)
   | (with_reducible exact ih4 _ _ _ _ _ _)
   | (with_reducible exact gnomonref08_End.mono _ _ _)
   | (with_reducible exact gnomonref08_parts.mono _ _)
   | (with_reducible exact LeO.refl _)
   | (with_reducible exact LeO.none _)
   | (with_reducible refine LeO.ite ?_ ?_)
   | (with_reducible refine LeO.bind ?_ (fun _ => ?_))
   | exact ih0 _ _ _
   | exact ih1 _ _ _
   | exact ih2 _ _ _ _ _ _
   | exact ih3 _ _ _ _ _
   | exact ih4 _ _ _ _ _ _
   | exact gnomonref08_End.mono _ _ _
   | exact gnomonref08_parts.mono _ _
   | exact LeO.none _
   | refine LeO.ite ?_ ?_
   | refine LeO.bind ?_ (fun _ => ?_)
end Go.Proofs.YtpmhfahligjhaaaDoor.POrd
