/-
  The document's functions as plain Lean.
-/
import Derived.Test.YtfajafegkechhaaDoorT3
import Derived.Test.YtfajafegkechhaaDoorD6
set_option linter.unusedVariables false
set_option maxRecDepth 100000
namespace Go.Proofs.YtfajafegkechhaaDoor.Q
open Go Go.Den Go.RowKit Go.Proofs
section
variable [Wr]
def gnomonref08_parts.j0 : Nat → Int → Bool → Option Int
 | 0, _, _ => none
 | k + 1, x3, x4 => if x4 = true then (some 1) else (if x3 = 4 then (if x3 = 4 then (some 2) else (some 0)) else (if x3 = 5 then (if x3 = 5 then (some 2) else (some 0)) else (if x3 = 6 then (if x3 = 6 then (some 2) else (some 0)) else (if x3 = 8 then (if x3 = 8 then (some 2) else (some 0)) else (if x3 = 9 then (if x3 = 9 then (some 2) else (some 0)) else (if x3 = 10 then (if x3 = 10 then (some 2) else (some 0)) else (if x3 = 11 then (if x3 = 11 then (some 2) else (some 0)) else (if x3 = 13 then (if x3 = 13 then (some 2) else (some 0)) else (if x3 = 14 then (some 2) else (some 0))))))))))
def gnomonref08_parts.f (k : Nat) (a0 : Int) : Option Int := if a0 = 3 then (gnomonref08_parts.j0 k a0 (decide (a0 = 3))) else (gnomonref08_parts.j0 k a0 (decide (a0 = 12)))
mutual
def gnomonref08_End.j0 : Nat → (List S116) → Int → Option Int
 | 0, _, _ => none
 | k + 1, x0, x1 => gnomonref08_End.l1 k x0 1 x1
def gnomonref08_End.l1 : Nat → (List S116) → Int → Int → Option Int
 | 0, _, _, _ => none
 | k + 1, x0, x5, x6 => if x6 < (x0.length : Int) then (if 0 ≤ x6 then (if x6 < (x0.length : Int) then ((gnomonref08_parts.f k ((rd_T116 x0 x6).f0)).bind fun t1 => (if (w64 (x5 + (w64 (t1 - 1)))) = 0 then (some (w64 (x6 + 1))) else (gnomonref08_End.l1 k x0 (w64 (x5 + (w64 (t1 - 1)))) (w64 (x6 + 1))))) else (none)) else (none)) else (some 0)
end
def gnomonref08_End.f (k : Nat) (a0 : List S116) (a1 : Int) : Option Int := if a1 < 0 then (some 0) else (if a1 ≥ (a0.length : Int) then (some 0) else (gnomonref08_End.j0 k a0 a1))
def gnomonref08_truth.f (a0 : Int) : Option Bool := if a0 ≥ 7 then (some (decide (a0 ≤ 14))) else (some false)
def gnomonref08_numbers.f (a0 : Int) : Option Bool := if a0 = 3 then (some true) else (if a0 = 4 then (some true) else (if a0 = 5 then (some true) else (if a0 = 6 then (some true) else (if a0 ≥ 8 then (some (decide (a0 ≤ 11))) else (some false)))))
mutual
def gnomonref08_Right.j0 : Nat → (List S116) → Int → Option Int
 | 0, _, _ => none
 | k + 1, x0, x1 => gnomonref08_Right.l1 k x0 x1 0
def gnomonref08_Right.l1 : Nat → (List S116) → Int → Int → Option Int
 | 0, _, _, _ => none
 | k + 1, x0, x1, x5 => if x5 < (x0.length : Int) then (if 0 ≤ x5 then (if x5 < (x0.length : Int) then (if 0 ≤ x5 then (if x5 < (x0.length : Int) then (if ((rd_T116 x0 x5).f0) < 1 then (some 121) else (if ((rd_T116 x0 x5).f0) > 14 then (some 121) else (gnomonref08_Right.j2 k x0 x1 x5 ((rd_T116 x0 x5).f0) ((rd_T116 x0 x5).f1)))) else (none)) else (none)) else (none)) else (none)) else (some 0)
def gnomonref08_Right.j2 : Nat → (List S116) → Int → Int → Int → Int → Option Int
 | 0, _, _, _, _, _ => none
 | k + 1, x0, x1, x5, x6, x7 => if x6 = 1 then (if x7 < 0 then (some 121) else (if x7 > 1048576 then (some 121) else (if x6 = 2 then (if x7 < 0 then (some 121) else (if x7 ≥ x1 then (some 121) else (if x6 = 1 then (gnomonref08_Right.j3 k x0 x1 x5 x6) else (if x6 = 2 then (gnomonref08_Right.j3 k x0 x1 x5 x6) else (if x7 = 0 then (gnomonref08_Right.j3 k x0 x1 x5 x6) else (some 121)))))) else (if x6 = 1 then (gnomonref08_Right.j3 k x0 x1 x5 x6) else (if x6 = 2 then (gnomonref08_Right.j3 k x0 x1 x5 x6) else (if x7 = 0 then (gnomonref08_Right.j3 k x0 x1 x5 x6) else (some 121))))))) else (if x6 = 2 then (if x7 < 0 then (some 121) else (if x7 ≥ x1 then (some 121) else (if x6 = 1 then (gnomonref08_Right.j3 k x0 x1 x5 x6) else (if x6 = 2 then (gnomonref08_Right.j3 k x0 x1 x5 x6) else (if x7 = 0 then (gnomonref08_Right.j3 k x0 x1 x5 x6) else (some 121)))))) else (if x6 = 1 then (gnomonref08_Right.j3 k x0 x1 x5 x6) else (if x6 = 2 then (gnomonref08_Right.j3 k x0 x1 x5 x6) else (if x7 = 0 then (gnomonref08_Right.j3 k x0 x1 x5 x6) else (some 121)))))
def gnomonref08_Right.j3 : Nat → (List S116) → Int → Int → Int → Option Int
 | 0, _, _, _, _ => none
 | k + 1, x0, x1, x5, x6 => gnomonref08_Right.l4 k x0 x1 x5 x6 (w64 (x5 + 1)) 0
def gnomonref08_Right.l4 : Nat → (List S116) → Int → Int → Int → Int → Int → Option Int
 | 0, _, _, _, _, _, _ => none
 | k + 1, x0, x1, x5, x6, x8, x9 => (gnomonref08_parts.f k x6).bind fun t2 => (if x9 < t2 then (if 0 ≤ x8 then (if x8 < (x0.length : Int) then ((gnomonref08_truth.f ((rd_T116 x0 x8).f0)).bind fun t3 => ((gnomonref08_numbers.f x6).bind fun t4 => (if t3 = t4 then (some 121) else ((gnomonref08_End.f k x0 x8).bind fun t5 => (gnomonref08_Right.l4 k x0 x1 x5 x6 t5 (w64 (x9 + 1))))))) else (none)) else (none)) else (gnomonref08_Right.l1 k x0 x1 (w64 (x5 + 1))))
end
def gnomonref08_Right.f (k : Nat) (a0 : List S116) (a1 : Int) : Option Int := if (a0.length : Int) = 0 then (some 121) else (if (a0.length : Int) > 64 then (some 121) else ((gnomonref08_End.f k a0 0).bind fun t1 => (if t1 = (a0.length : Int) then (gnomonref08_Right.j0 k a0 a1) else (some 121))))
def gnomonref08_IsTruth.f (a0 : List S116) : Option Bool := if (a0.length : Int) > 0 then (if 0 ≤ 0 then (if 0 < (a0.length : Int) then ((gnomonref08_truth.f ((rd_T116 a0 0).f0)).bind fun t1 => (some t1)) else (none)) else (none)) else (some false)
end
end Go.Proofs.YtfajafegkechhaaDoor.Q
