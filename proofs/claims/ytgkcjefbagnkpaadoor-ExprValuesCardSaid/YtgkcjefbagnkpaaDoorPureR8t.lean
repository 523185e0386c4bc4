import Derived.Test.YtgkcjefbagnkpaaDoorPValx13
import Derived.Test.YtgkcjefbagnkpaaDoorPValx12
import Derived.Test.YtgkcjefbagnkpaaDoorPValx11
import Derived.Test.YtgkcjefbagnkpaaDoorPValx9
import Derived.Test.YtgkcjefbagnkpaaDoorPValx10
import Derived.Test.YtgkcjefbagnkpaaDoorPValx7
import Derived.Test.YtgkcjefbagnkpaaDoorPValx4
import Derived.Test.YtgkcjefbagnkpaaDoorPValx5
namespace Go.Proofs.YtgkcjefbagnkpaaDoor.PVal
open Go.RowKit Go.Proofs.YtgkcjefbagnkpaaDoorW.PrintWords Go.Proofs.YtgkcjefbagnkpaaDoorW.PrintLast Go.Proofs.YtgkcjefbagnkpaaDoorW.PrintMore Go.Proofs.YtgkcjefbagnkpaaDoorXW
set_option linter.unusedVariables false
set_option linter.unusedSimpArgs false
/-! gnomonref08_binds -/
mutual
def gnomonref08_binds.j0 : Nat → Int → Bool → Option (Int)
 | 0, _, _ => none
 | k + 1, x3, x8 => if x8 = true then (some 3) else (if x3 = 4 then (gnomonref08_binds.j1 k x3 (x3 == 4)) else (gnomonref08_binds.j1 k x3 (x3 == 5)))
def gnomonref08_binds.j1 : Nat → Int → Bool → Option (Int)
 | 0, _, _ => none
 | k + 1, x3, x13 => if x13 = true then (some 4) else (if x3 = 6 then (some 5) else (if x3 = 3 then (some 6) else (some 7)))
end
def gnomonref08_binds.f (k : Nat) (a0 : Int) : Option (Int) := if a0 = 14 then (some 1) else (if a0 = 13 then (some 2) else (if a0 = 8 then (gnomonref08_binds.j0 k a0 (a0 == 8)) else (if a0 = 9 then (gnomonref08_binds.j0 k a0 (a0 == 9)) else (if a0 = 10 then (gnomonref08_binds.j0 k a0 (a0 == 10)) else (gnomonref08_binds.j0 k a0 (a0 == 11))))))
theorem gnomonref08_binds.mono_l : ∀ k, (∀ y0 y1, LeO (gnomonref08_binds.j0 k y0 y1) (gnomonref08_binds.j0 (k + 1) y0 y1)) ∧ (∀ y0 y1, LeO (gnomonref08_binds.j1 k y0 y1) (gnomonref08_binds.j1 (k + 1) y0 y1))
 | 0 => ⟨fun _ _ r h => by simp [gnomonref08_binds.j0] at h, fun _ _ r h => by simp [gnomonref08_binds.j1] at h⟩
 | k + 1 => by
  obtain ⟨ih0, ih1⟩ := gnomonref08_binds.mono_l k
  refine ⟨?_, ?_⟩
  ·
   intro y0 y1
   unfold gnomonref08_binds.j0
   repeat' first
   | (with_reducible exact ih0 _ _)
   | (with_reducible exact ih1 _ _)
   | (with_reducible exact LeO.refl _)
   | (with_reducible exact LeO.none _)
   | (with_reducible refine LeO.ite ?_ ?_)
   | (with_reducible refine LeO.bind ?_ (fun _ => ?_))
   | exact ih0 _ _
   | exact ih1 _ _
   | exact LeO.none _
   | refine LeO.ite ?_ ?_
   | refine LeO.bind ?_ (fun _ => ?_)
  ·
   intro y0 y1
   unfold gnomonref08_binds.j1
   repeat' first
   | (with_reducible exact ih0 _ _)
   | (with_reducible exact ih1 _ _)
   | (with_reducible exact LeO.refl _)
   | (with_reducible exact LeO.none _)
   | (with_reducible refine LeO.ite ?_ ?_)
   | (with_reducible refine LeO.bind ?_ (fun _ => ?_))
   | exact ih0 _ _
   | exact ih1 _ _
   | exact LeO.none _
   | refine LeO.ite ?_ ?_
   | refine LeO.bind ?_ (fun _ => ?_)
theorem gnomonref08_binds.mono : ∀ a0 k, LeO (gnomonref08_binds.f k a0) (gnomonref08_binds.f (k + 1) a0) := by
 intro a0 k
 obtain ⟨ih0, ih1⟩ := gnomonref08_binds.mono_l k
 unfold gnomonref08_binds.f
 repeat' first
   | (with_reducible exact ih0 _ _)
   | (with_reducible exact ih1 _ _)
   | (with_reducible exact LeO.refl _)
   | (with_reducible exact LeO.none _)
   | (with_reducible refine LeO.ite ?_ ?_)
   | (with_reducible refine LeO.bind ?_ (fun _ => ?_))
   | exact ih0 _ _
   | exact ih1 _ _
   | exact LeO.none _
   | refine LeO.ite ?_ ?_
   | refine LeO.bind ?_ (fun _ => ?_)
/-! gnomonref08_sign -/
def gnomonref08_sign.f (a0 : Int) : Option (ByteArray) := if a0 = 4 then (some (⟨#[43]⟩ : ByteArray)) else (if a0 = 5 then (some (⟨#[45]⟩ : ByteArray)) else (if a0 = 6 then (some (⟨#[42]⟩ : ByteArray)) else (if a0 = 8 then (some (⟨#[60]⟩ : ByteArray)) else (if a0 = 9 then (some (⟨#[60, 61]⟩ : ByteArray)) else (if a0 = 10 then (some (⟨#[61, 61]⟩ : ByteArray)) else (if a0 = 11 then (some (⟨#[33, 61]⟩ : ByteArray)) else (if a0 = 13 then (some (⟨#[38, 38]⟩ : ByteArray)) else (some (⟨#[124, 124]⟩ : ByteArray)))))))))
/-! gnomonref08_text -/
mutual
def gnomonref08_text.j0 : Nat → List (S68) → Int → List ByteArray → Int → Int → Option (ByteArray)
 | 0, _, _, _, _, _ => none
 | k + 1, x0, x1, x2, x7, x8 => (gnomonref08_text.p k x0 (wrap64 (x1 + 1)) x8 x2).bind fun t180 => (if t180.size + 1 ≤ 9223372036854775807 then ((gnomonref08_sign.f x7).bind fun t181 => (if (t180 ++ (⟨#[32]⟩ : ByteArray)).size + t181.size ≤ 9223372036854775807 then (if ((t180 ++ (⟨#[32]⟩ : ByteArray)) ++ t181).size + 1 ≤ 9223372036854775807 then ((gnomonref08_End.f k x0 (wrap64 (x1 + 1))).bind fun t182 => ((gnomonref08_binds.f k x7).bind fun t183 => ((gnomonref08_text.p k x0 t182 (wrap64 (t183 + 1)) x2).bind fun t184 => (if (((t180 ++ (⟨#[32]⟩ : ByteArray)) ++ t181) ++ (⟨#[32]⟩ : ByteArray)).size + t184.size ≤ 9223372036854775807 then (some ((((t180 ++ (⟨#[32]⟩ : ByteArray)) ++ t181) ++ (⟨#[32]⟩ : ByteArray)) ++ t184)) else (none))))) else (none)) else (none))) else (none))
def gnomonref08_text.f : Nat → List (S68) → Int → List ByteArray → Option (ByteArray)
 | 0, _, _, _ => none
 | k + 1, l0, a1, l2 => if 0 ≤ a1 then (if a1 < (l0.length : Int) then (if ((rd_T68 l0 a1).f0) = 1 then ((strconv_Itoa.f ((rd_T68 l0 a1).f1)).bind fun t173 => (some t173)) else (if ((rd_T68 l0 a1).f0) = 2 then (if 0 ≤ ((rd_T68 l0 a1).f1) then (if ((rd_T68 l0 a1).f1) < (l2.length : Int) then (some (rdOf ByteArray.empty l2 ((rd_T68 l0 a1).f1))) else (none)) else (none)) else (if ((rd_T68 l0 a1).f0) = 7 then (some (⟨#[116, 114, 117, 101]⟩ : ByteArray)) else (if ((rd_T68 l0 a1).f0) = 3 then ((gnomonref08_binds.f k ((rd_T68 l0 a1).f0)).bind fun t176 => ((gnomonref08_text.p k l0 (wrap64 (a1 + 1)) t176 l2).bind fun t177 => (if 1 + t177.size ≤ 9223372036854775807 then (some ((⟨#[45]⟩ : ByteArray) ++ t177)) else (none)))) else (if ((rd_T68 l0 a1).f0) = 12 then ((gnomonref08_text.f k l0 (wrap64 (a1 + 1)) l2).bind fun t178 => (if 2 + t178.size ≤ 9223372036854775807 then (if ((⟨#[33, 40]⟩ : ByteArray) ++ t178).size + 1 ≤ 9223372036854775807 then (some (((⟨#[33, 40]⟩ : ByteArray) ++ t178) ++ (⟨#[41]⟩ : ByteArray))) else (none)) else (none))) else ((gnomonref08_binds.f k ((rd_T68 l0 a1).f0)).bind fun t179 => (if t179 = 3 then (gnomonref08_text.j0 k l0 a1 l2 ((rd_T68 l0 a1).f0) (wrap64 (t179 + 1))) else (gnomonref08_text.j0 k l0 a1 l2 ((rd_T68 l0 a1).f0) t179)))))))) else (none)) else (none)
def gnomonref08_text.p : Nat → List (S68) → Int → Int → List ByteArray → Option (ByteArray)
  | 0, _, _, _, _ => none
  | k + 1, l0, a1, a2, l3 => (gnomonref08_text.f k l0 a1 l3).bind fun t168 => (if 0 ≤ a1 then (if a1 < (l0.length : Int) then ((gnomonref08_binds.f k ((rd_T68 l0 a1).f0)).bind fun t170 => (if t170 < a2 then (if 1 + t168.size ≤ 9223372036854775807 then (if ((⟨#[40]⟩ : ByteArray) ++ t168).size + 1 ≤ 9223372036854775807 then (some (((⟨#[40]⟩ : ByteArray) ++ t168) ++ (⟨#[41]⟩ : ByteArray))) else (none)) else (none)) else (some t168))) else (none)) else (none))
end
theorem gnomonref08_text.mono_l : ∀ k, (∀ y0 y1 y2, LeO (gnomonref08_text.f k y0 y1 y2) (gnomonref08_text.f (k + 1) y0 y1 y2)) ∧ (∀ y0 y1 y2 y3, LeO (gnomonref08_text.p k y0 y1 y2 y3) (gnomonref08_text.p (k + 1) y0 y1 y2 y3)) ∧ (∀ y0 y1 y2 y3 y4, LeO (gnomonref08_text.j0 k y0 y1 y2 y3 y4) (gnomonref08_text.j0 (k + 1) y0 y1 y2 y3 y4))
 | 0 => ⟨fun _ _ _ r h => by simp [gnomonref08_text.f] at h, fun _ _ _ _ r h => by simp [gnomonref08_text.p] at h, fun _ _ _ _ _ r h => by simp [gnomonref08_text.j0] at h⟩
 | k + 1 => by
  obtain ⟨ih0, ih1, ih2⟩ := gnomonref08_text.mono_l k
  refine ⟨?_, ?_, ?_⟩
  ·
   intro y0 y1 y2
   unfold gnomonref08_text.f
   repeat' first
   | (with_reducible exact ih0 _ _ _)
   | (with_reducible exact ih1 _ _ _ _)
   | (with_reducible exact ih2 _ _ _ _ _)
   | (with_reducible exact gnomonref08_End.mono _ _ _)
   | (with_reducible exact gnomonref08_binds.mono _ _)
   | (with_reducible exact LeO.refl _)
   | (with_reducible exact LeO.none _)
   | (with_reducible refine LeO.ite ?_ ?_)
   | (with_reducible refine LeO.bind ?_ (fun _ => ?_))
   | exact ih0 _ _ _
   | exact ih1 _ _ _ _
   | exact ih2 _ _ _ _ _
   | exact gnomonref08_End.mono _ _ _
   | exact gnomonref08_binds.mono _ _
   | exact LeO.none _
   | refine LeO.ite ?_ ?_
   | refine LeO.bind ?_ (fun _ => ?_)
  ·
   intro y0 y1 y2 y3
   unfold gnomonref08_text.p
   repeat' first
   | (with_reducible exact ih0 _ _ _)
   | (with_reducible exact ih1 _ _ _ _)
   | (with_reducible exact ih2 _ _ _ _ _)
   | (with_reducible exact gnomonref08_End.mono _ _ _)
   | (with_reducible exact gnomonref08_binds.mono _ _)
   | (with_reducible exact LeO.refl _)
   | (with_reducible exact LeO.none _)
   | (with_reducible refine LeO.ite ?_ ?_)
   | (with_reducible refine LeO.bind ?_ (fun _ => ?_))
   | exact ih0 _ _ _
   | exact ih1 _ _ _ _
   | exact ih2 _ _ _ _ _
   | exact gnomonref08_End.mono _ _ _
   | exact gnomonref08_binds.mono _ _
   | exact LeO.none _
   | refine LeO.ite ?_ ?_
   | refine LeO.bind ?_ (fun _ => ?_)
  ·
   intro y0 y1 y2 y3 y4
   unfold gnomonref08_text.j0
   repeat' first
   | (with_reducible exact ih0 _ _ _)
   | (with_reducible exact ih1 _ _ _ _)
   | (with_reducible exact ih2 _ _ _ _ _)
   | (with_reducible exact gnomonref08_End.mono _ _ _)
   | (with_reducible exact gnomonref08_binds.mono _ _)
   | (with_reducible exact LeO.refl _)
   | (with_reducible exact LeO.none _)
   | (with_reducible refine LeO.ite ?_ ?_)
   | (with_reducible refine LeO.bind ?_ (fun _ => ?_))
   | exact ih0 _ _ _
   | exact ih1 _ _ _ _
   | exact ih2 _ _ _ _ _
   | exact gnomonref08_End.mono _ _ _
   | exact gnomonref08_binds.mono _ _
   | exact LeO.none _
   | refine LeO.ite ?_ ?_
   | refine LeO.bind ?_ (fun _ => ?_)
theorem gnomonref08_text.mono : ∀ a0 a1 a2 k, LeO (gnomonref08_text.f k a0 a1 a2) (gnomonref08_text.f (k + 1) a0 a1 a2) := by
 intro a0 a1 a2 k
 obtain ⟨ih0, ih1, ih2⟩ := gnomonref08_text.mono_l k
 exact ih0 a0 a1 a2

/-! gnomonref08_Print -/
def gnomonref08_Print.f (k : Nat) (l0 : List (S68)) (l1 : List ByteArray) : Option (ByteArray × Int) := (gnomonref08_Right.f k l0 (l1.length : Int)).bind fun t185 => (if t185 = 0 then ((gnomonref08_text.f k l0 0 l1).bind fun t186 => (some (t186, 0))) else (some ((⟨#[]⟩ : ByteArray), 121)))
theorem gnomonref08_Print.mono : ∀ a0 a1 k, LeO (gnomonref08_Print.f k a0 a1) (gnomonref08_Print.f (k + 1) a0 a1) := by
 intro a0 a1 k
 unfold gnomonref08_Print.f
 repeat' first
   | (with_reducible exact gnomonref08_Right.mono _ _ _)
   | (with_reducible exact gnomonref08_text.mono _ _ _ _)
   | (with_reducible exact LeO.refl _)
   | (with_reducible exact LeO.none _)
   | (with_reducible refine LeO.ite ?_ ?_)
   | (with_reducible refine LeO.bind ?_ (fun _ => ?_))
   | exact gnomonref08_Right.mono _ _ _
   | exact gnomonref08_text.mono _ _ _ _
   | exact LeO.none _
   | refine LeO.ite ?_ ?_
   | refine LeO.bind ?_ (fun _ => ?_)
end Go.Proofs.YtgkcjefbagnkpaaDoor.PVal
