/-
  The document's functions as plain Lean.
-/
import Derived.Test.YtbjkfkifkglplaaGreatDoorT3
import Derived.Test.YtbjkfkifkglplaaGreatDoorD6
set_option linter.unusedSectionVars false
set_option linter.unusedSimpArgs false
set_option linter.unusedVariables false
set_option maxRecDepth 100000
namespace Go.Proofs.YtbjkfkifkglplaaGreatDoor.Q
open Go Go.Den Go.RowKit Go.Proofs
section
variable [Wr]
mutual
def gnomonref09_begin.l0 : Nat → ByteArray → Int → Option Int
 | 0, _, _ => none
 | k + 1, x0, x1 => if x1 < (x0.size : Int) then (if 0 ≤ x1 then (if x1 < (x0.size : Int) then (if (btI x0 x1) = 32 then (gnomonref09_begin.j1 k x0 x1 (btI x0 x1) (decide ((btI x0 x1) = 32))) else (if (btI x0 x1) = 9 then (gnomonref09_begin.j1 k x0 x1 (btI x0 x1) (decide ((btI x0 x1) = 9))) else (if (btI x0 x1) = 13 then (gnomonref09_begin.j1 k x0 x1 (btI x0 x1) (decide ((btI x0 x1) = 13))) else (gnomonref09_begin.j1 k x0 x1 (btI x0 x1) (decide ((btI x0 x1) = 10)))))) else (none)) else (none)) else (some x1)
def gnomonref09_begin.j1 : Nat → ByteArray → Int → Int → Bool → Option Int
 | 0, _, _, _, _ => none
 | k + 1, x0, x1, x11, x13 => if x13 = true then (gnomonref09_begin.l0 k x0 (w64 (x1 + 1))) else (if x11 = 35 then (gnomonref09_begin.l2 k x0 x1) else (some x1))
def gnomonref09_begin.l2 : Nat → ByteArray → Int → Option Int
 | 0, _, _ => none
 | k + 1, x0, x1 => if x1 < (x0.size : Int) then (if 0 ≤ x1 then (if x1 < (x0.size : Int) then (if (btI x0 x1) = 10 then (gnomonref09_begin.l0 k x0 x1) else (gnomonref09_begin.l2 k x0 (w64 (x1 + 1)))) else (none)) else (none)) else (gnomonref09_begin.l0 k x0 x1)
end
def gnomonref09_begin.f (k : Nat) (a0 : ByteArray) (a1 : Int) : Option Int := gnomonref09_begin.l0 k a0 a1
def gnomonref09_digit.f (a0 : Int) : Option Bool := if a0 ≥ 48 then (some (decide (a0 ≤ 57))) else (some false)
mutual
def gnomonref09_number.l0 : Nat → ByteArray → Int → Int → Int → Int → ByteArray → Int → Int → Option (Int × ByteArray × Int × Int × Int × Int)
 | 0, _, _, _, _, _, _, _, _ => none
 | k + 1, x0, x1, x7, x8, x4_0, x4_1, x4_2, x4_3 => if x7 < (x0.size : Int) then (if 0 ≤ x7 then (if x7 < (x0.size : Int) then ((gnomonref09_digit.f (btI x0 x7)).bind fun t1 => (if t1 = true then (gnomonref09_number.j1 k x0 x1 x7 x8 x4_0 x4_1 x4_2 x4_3) else (if 0 ≤ x1 then (if x1 < (x0.size : Int) then (if (btI x0 x1) = 48 then (if x7 > (w64 (x1 + 1)) then (some (0, (⟨#[]⟩ : ByteArray), 0, 0, x1, 91)) else (if x8 > 2147483647 then (some (0, (⟨#[]⟩ : ByteArray), 0, 0, x1, 91)) else (if 0 ≤ x7 then (if x7 ≤ (x0.size : Int) then (if 0 ≤ x1 then (if x1 ≤ x7 then (some (2, (x0.extract (Int.toNat (x1)) (Int.toNat (x7))), x8, x1, x7, 0)) else (none)) else (none)) else (none)) else (none)))) else (if x8 > 2147483647 then (some (0, (⟨#[]⟩ : ByteArray), 0, 0, x1, 91)) else (if 0 ≤ x7 then (if x7 ≤ (x0.size : Int) then (if 0 ≤ x1 then (if x1 ≤ x7 then (some (2, (x0.extract (Int.toNat (x1)) (Int.toNat (x7))), x8, x1, x7, 0)) else (none)) else (none)) else (none)) else (none)))) else (none)) else (none)))) else (none)) else (none)) else (if 0 ≤ x1 then (if x1 < (x0.size : Int) then (if (btI x0 x1) = 48 then (if x7 > (w64 (x1 + 1)) then (some (0, (⟨#[]⟩ : ByteArray), 0, 0, x1, 91)) else (if x8 > 2147483647 then (some (0, (⟨#[]⟩ : ByteArray), 0, 0, x1, 91)) else (if 0 ≤ x7 then (if x7 ≤ (x0.size : Int) then (if 0 ≤ x1 then (if x1 ≤ x7 then (some (2, (x0.extract (Int.toNat (x1)) (Int.toNat (x7))), x8, x1, x7, 0)) else (none)) else (none)) else (none)) else (none)))) else (if x8 > 2147483647 then (some (0, (⟨#[]⟩ : ByteArray), 0, 0, x1, 91)) else (if 0 ≤ x7 then (if x7 ≤ (x0.size : Int) then (if 0 ≤ x1 then (if x1 ≤ x7 then (some (2, (x0.extract (Int.toNat (x1)) (Int.toNat (x7))), x8, x1, x7, 0)) else (none)) else (none)) else (none)) else (none)))) else (none)) else (none))
def gnomonref09_number.j1 : Nat → ByteArray → Int → Int → Int → Int → ByteArray → Int → Int → Option (Int × ByteArray × Int × Int × Int × Int)
 | 0, _, _, _, _, _, _, _, _ => none
 | k + 1, x0, x1, x7, x8, x4_0, x4_1, x4_2, x4_3 => if x8 ≤ 2147483648 then (if 0 ≤ x7 then (if x7 < (x0.size : Int) then (gnomonref09_number.l0 k x0 x1 (w64 (x7 + 1)) (w64 ((w64 ((w64 (x8 * 10)) + (w64 ((btI x0 x7))))) - 48)) x4_0 x4_1 x4_2 x4_3) else (none)) else (none)) else (gnomonref09_number.l0 k x0 x1 (w64 (x7 + 1)) x8 x4_0 x4_1 x4_2 x4_3)
end
def gnomonref09_number.f (k : Nat) (a0 : ByteArray) (a1 : Int) : Option (Int × ByteArray × Int × Int × Int × Int) := gnomonref09_number.l0 k a0 a1 a1 0 0 (⟨#[]⟩ : ByteArray) 0 0
def gnomonref09_letter.f (a0 : Int) : Option Bool := if a0 ≥ 97 then (if a0 ≤ 122 then (some true) else (if a0 ≥ 65 then (some (decide (a0 ≤ 90))) else (some false))) else (if a0 ≥ 65 then (some (decide (a0 ≤ 90))) else (some false))
mutual
def gnomonref09_Next.j0 : Nat → ByteArray → Int → Int → ByteArray → Int → Int → Option (Int × ByteArray × Int × Int × Int × Int)
 | 0, _, _, _, _, _, _ => none
 | k + 1, x0, x1, x4_0, x4_1, x4_2, x4_3 => (gnomonref09_begin.f k x0 x1).bind fun t1 => (if t1 = (x0.size : Int) then (some (0, (⟨#[]⟩ : ByteArray), 0, t1, t1, 0)) else (if 0 ≤ t1 then (if t1 < (x0.size : Int) then ((gnomonref09_digit.f (btI x0 t1)).bind fun t2 => (if t2 = true then ((gnomonref09_number.f k x0 t1).bind fun t3 => (some (t3.1, t3.2.1, t3.2.2.1, t3.2.2.2.1, t3.2.2.2.2.1, t3.2.2.2.2.2))) else (if 0 ≤ t1 then (if t1 < (x0.size : Int) then ((gnomonref09_letter.f (btI x0 t1)).bind fun t4 => (if t4 = true then (gnomonref09_Next.l1 k x0 t1 t1 x4_0 x4_1 x4_2 x4_3) else (gnomonref09_Next.l2 k x0 t1 ((⟨#[46, 46]⟩ : ByteArray), (⟨#[58, 61]⟩ : ByteArray), (⟨#[45, 62]⟩ : ByteArray), (⟨#[38, 38]⟩ : ByteArray), (⟨#[124, 124]⟩ : ByteArray), (⟨#[33, 61]⟩ : ByteArray), (⟨#[60, 61]⟩ : ByteArray), (⟨#[61, 61]⟩ : ByteArray), (⟨#[62, 61]⟩ : ByteArray), (⟨#[]⟩ : ByteArray), (⟨#[]⟩ : ByteArray)) 0 x4_0 x4_1 x4_2 x4_3))) else (none)) else (none)))) else (none)) else (none)))
def gnomonref09_Next.l1 : Nat → ByteArray → Int → Int → Int → ByteArray → Int → Int → Option (Int × ByteArray × Int × Int × Int × Int)
 | 0, _, _, _, _, _, _, _ => none
 | k + 1, x0, x1, x7, x4_0, x4_1, x4_2, x4_3 => if x7 < (x0.size : Int) then (if 0 ≤ x7 then (if x7 < (x0.size : Int) then ((gnomonref09_letter.f (btI x0 x7)).bind fun t5 => (if t5 = true then (gnomonref09_Next.l1 k x0 x1 (w64 (x7 + 1)) x4_0 x4_1 x4_2 x4_3) else (if 0 ≤ x7 then (if x7 < (x0.size : Int) then ((gnomonref09_digit.f (btI x0 x7)).bind fun t6 => (if t6 = true then (gnomonref09_Next.l1 k x0 x1 (w64 (x7 + 1)) x4_0 x4_1 x4_2 x4_3) else (if 0 ≤ x7 then (if x7 < (x0.size : Int) then (if (btI x0 x7) = 95 then (gnomonref09_Next.l1 k x0 x1 (w64 (x7 + 1)) x4_0 x4_1 x4_2 x4_3) else (if 0 ≤ x7 then (if x7 ≤ (x0.size : Int) then (if 0 ≤ x1 then (if x1 ≤ x7 then (some (1, (x0.extract (Int.toNat (x1)) (Int.toNat (x7))), 0, x1, x7, 0)) else (none)) else (none)) else (none)) else (none))) else (none)) else (none)))) else (none)) else (none)))) else (none)) else (none)) else (if 0 ≤ x7 then (if x7 ≤ (x0.size : Int) then (if 0 ≤ x1 then (if x1 ≤ x7 then (some (1, (x0.extract (Int.toNat (x1)) (Int.toNat (x7))), 0, x1, x7, 0)) else (none)) else (none)) else (none)) else (none))
def gnomonref09_Next.l2 : Nat → ByteArray → Int → (ByteArray × ByteArray × ByteArray × ByteArray × ByteArray × ByteArray × ByteArray × ByteArray × ByteArray × ByteArray × ByteArray) → Int → Int → ByteArray → Int → Int → Option (Int × ByteArray × Int × Int × Int × Int)
 | 0, _, _, _, _, _, _, _, _ => none
 | k + 1, x0, x1, x8, x9, x4_0, x4_1, x4_2, x4_3 => if x9 < 9 then (if (w64 (x1 + 2)) ≤ (x0.size : Int) then (if 0 ≤ w64 (x1 + 2) then (if w64 (x1 + 2) ≤ (x0.size : Int) then (if 0 ≤ x1 then (if x1 ≤ w64 (x1 + 2) then (if 0 ≤ x9 then (if x9 < ((11 : Nat) : Int) then (if (x0.extract (Int.toNat (x1)) (Int.toNat (w64 (x1 + 2)))) = (rdT .str ([x8.1, x8.2.1, x8.2.2.1, x8.2.2.2.1, x8.2.2.2.2.1, x8.2.2.2.2.2.1, x8.2.2.2.2.2.2.1, x8.2.2.2.2.2.2.2.1, x8.2.2.2.2.2.2.2.2.1, x8.2.2.2.2.2.2.2.2.2.1, x8.2.2.2.2.2.2.2.2.2.2] : List ByteArray) x9) then (if 0 ≤ x9 then (if x9 < ((11 : Nat) : Int) then (some (3, (rdT .str ([x8.1, x8.2.1, x8.2.2.1, x8.2.2.2.1, x8.2.2.2.2.1, x8.2.2.2.2.2.1, x8.2.2.2.2.2.2.1, x8.2.2.2.2.2.2.2.1, x8.2.2.2.2.2.2.2.2.1, x8.2.2.2.2.2.2.2.2.2.1, x8.2.2.2.2.2.2.2.2.2.2] : List ByteArray) x9), 0, x1, w64 (x1 + 2), 0)) else (none)) else (none)) else (gnomonref09_Next.l2 k x0 x1 x8 (w64 (x9 + 1)) x4_0 x4_1 x4_2 x4_3)) else (none)) else (none)) else (none)) else (none)) else (none)) else (none)) else (gnomonref09_Next.l2 k x0 x1 x8 (w64 (x9 + 1)) x4_0 x4_1 x4_2 x4_3)) else (gnomonref09_Next.l3 k x0 x1 (⟨#[44, 59, 46, 123, 125, 40, 41, 33, 60, 62, 63, 43, 45, 42]⟩ : ByteArray) 0 x4_0 x4_1 x4_2 x4_3)
def gnomonref09_Next.l3 : Nat → ByteArray → Int → ByteArray → Int → Int → ByteArray → Int → Int → Option (Int × ByteArray × Int × Int × Int × Int)
 | 0, _, _, _, _, _, _, _, _ => none
 | k + 1, x0, x1, x10, x11, x4_0, x4_1, x4_2, x4_3 => if x11 < (x10.size : Int) then (if 0 ≤ x1 then (if x1 < (x0.size : Int) then (if 0 ≤ x11 then (if x11 < (x10.size : Int) then (if (btI x0 x1) = (btI x10 x11) then (if 0 ≤ w64 (x11 + 1) then (if w64 (x11 + 1) ≤ (x10.size : Int) then (if 0 ≤ x11 then (if x11 ≤ w64 (x11 + 1) then (some (3, (x10.extract (Int.toNat (x11)) (Int.toNat (w64 (x11 + 1)))), 0, x1, w64 (x1 + 1), 0)) else (none)) else (none)) else (none)) else (none)) else (gnomonref09_Next.l3 k x0 x1 x10 (w64 (x11 + 1)) x4_0 x4_1 x4_2 x4_3)) else (none)) else (none)) else (none)) else (none)) else (some (0, (⟨#[]⟩ : ByteArray), 0, 0, x1, 90))
end
def gnomonref09_Next.f (k : Nat) (a0 : ByteArray) (a1 : Int) : Option (Int × ByteArray × Int × Int × Int × Int) := if a1 < 0 then (some (0, (⟨#[]⟩ : ByteArray), 0, 0, 0, 2)) else (if a1 > (a0.size : Int) then (some (0, (⟨#[]⟩ : ByteArray), 0, 0, 0, 2)) else (gnomonref09_Next.j0 k a0 a1 0 (⟨#[]⟩ : ByteArray) 0 0))
def gnomonref09_IsName.l0 : Nat → ByteArray → (ByteArray × ByteArray × ByteArray × ByteArray × ByteArray × ByteArray × ByteArray × ByteArray × ByteArray × ByteArray × ByteArray × ByteArray × ByteArray × ByteArray × ByteArray) → Int → Option Bool
 | 0, _, _, _ => none
 | k + 1, x0, x3, x4 => if x4 < 15 then (if 0 ≤ x4 then (if x4 < ((15 : Nat) : Int) then (if x0 = (rdT .str ([x3.1, x3.2.1, x3.2.2.1, x3.2.2.2.1, x3.2.2.2.2.1, x3.2.2.2.2.2.1, x3.2.2.2.2.2.2.1, x3.2.2.2.2.2.2.2.1, x3.2.2.2.2.2.2.2.2.1, x3.2.2.2.2.2.2.2.2.2.1, x3.2.2.2.2.2.2.2.2.2.2.1, x3.2.2.2.2.2.2.2.2.2.2.2.1, x3.2.2.2.2.2.2.2.2.2.2.2.2.1, x3.2.2.2.2.2.2.2.2.2.2.2.2.2.1, x3.2.2.2.2.2.2.2.2.2.2.2.2.2.2] : List ByteArray) x4) then (some false) else (gnomonref09_IsName.l0 k x0 x3 (w64 (x4 + 1)))) else (none)) else (none)) else ((gnomonref09_Next.f k x0 0).bind fun t1 => (if x0 = (⟨#[110, 101, 118, 101, 114]⟩ : ByteArray) then (some false) else (if t1.2.2.2.2.2 = 0 then (if t1.1 = 1 then (if t1.2.2.2.2.1 = (x0.size : Int) then (if t1.2.2.2.1 = 0 then (some (decide ((x0.size : Int) ≤ 16))) else (some false)) else (some false)) else (some false)) else (some false))))
def gnomonref09_IsName.f (k : Nat) (a0 : ByteArray) : Option Bool := gnomonref09_IsName.l0 k a0 ((⟨#[99, 108, 111, 99, 107]⟩ : ByteArray), (⟨#[105, 110, 116]⟩ : ByteArray), (⟨#[99, 104, 97, 110]⟩ : ByteArray), (⟨#[97, 117, 116, 111]⟩ : ByteArray), (⟨#[108, 111, 99]⟩ : ByteArray), (⟨#[101, 100, 103, 101]⟩ : ByteArray), (⟨#[105, 110]⟩ : ByteArray), (⟨#[105, 110, 118]⟩ : ByteArray), (⟨#[119, 104, 101, 110]⟩ : ByteArray), (⟨#[115, 121, 110, 99]⟩ : ByteArray), (⟨#[100, 111]⟩ : ByteArray), (⟨#[117, 114, 103, 101, 110, 116]⟩ : ByteArray), (⟨#[99, 111, 109, 109, 105, 116, 116, 101, 100]⟩ : ByteArray), (⟨#[116, 114, 117, 101]⟩ : ByteArray), (⟨#[114, 101, 97, 99, 104]⟩ : ByteArray)) 0
def gnomonref08_parts.j0 : Nat → Int → Bool → Option Int
 | 0, _, _ => none
 | k + 1, x3, x4 => if x4 = true then (some 1) else (if x3 = 4 then (if x3 = 4 then (some 2) else (some 0)) else (if x3 = 5 then (if x3 = 5 then (some 2) else (some 0)) else (if x3 = 6 then (if x3 = 6 then (some 2) else (some 0)) else (if x3 = 8 then (if x3 = 8 then (some 2) else (some 0)) else (if x3 = 9 then (if x3 = 9 then (some 2) else (some 0)) else (if x3 = 10 then (if x3 = 10 then (some 2) else (some 0)) else (if x3 = 11 then (if x3 = 11 then (some 2) else (some 0)) else (if x3 = 13 then (if x3 = 13 then (some 2) else (some 0)) else (if x3 = 14 then (some 2) else (some 0))))))))))
def gnomonref08_parts.f (k : Nat) (a0 : Int) : Option Int := if a0 = 3 then (gnomonref08_parts.j0 k a0 (decide (a0 = 3))) else (gnomonref08_parts.j0 k a0 (decide (a0 = 12)))
mutual
def gnomonref08_End.j0 : Nat → (List S151) → Int → Option Int
 | 0, _, _ => none
 | k + 1, x0, x1 => gnomonref08_End.l1 k x0 1 x1
def gnomonref08_End.l1 : Nat → (List S151) → Int → Int → Option Int
 | 0, _, _, _ => none
 | k + 1, x0, x5, x6 => if x6 < (x0.length : Int) then (if 0 ≤ x6 then (if x6 < (x0.length : Int) then ((gnomonref08_parts.f k ((rd_T151 x0 x6).f0)).bind fun t1 => (if (w64 (x5 + (w64 (t1 - 1)))) = 0 then (some (w64 (x6 + 1))) else (gnomonref08_End.l1 k x0 (w64 (x5 + (w64 (t1 - 1)))) (w64 (x6 + 1))))) else (none)) else (none)) else (some 0)
end
def gnomonref08_End.f (k : Nat) (a0 : List S151) (a1 : Int) : Option Int := if a1 < 0 then (some 0) else (if a1 ≥ (a0.length : Int) then (some 0) else (gnomonref08_End.j0 k a0 a1))
def gnomonref08_truth.f (a0 : Int) : Option Bool := if a0 ≥ 7 then (some (decide (a0 ≤ 14))) else (some false)
def gnomonref08_numbers.f (a0 : Int) : Option Bool := if a0 = 3 then (some true) else (if a0 = 4 then (some true) else (if a0 = 5 then (some true) else (if a0 = 6 then (some true) else (if a0 ≥ 8 then (some (decide (a0 ≤ 11))) else (some false)))))
mutual
def gnomonref08_Right.j0 : Nat → (List S151) → Int → Option Int
 | 0, _, _ => none
 | k + 1, x0, x1 => gnomonref08_Right.l1 k x0 x1 0
def gnomonref08_Right.l1 : Nat → (List S151) → Int → Int → Option Int
 | 0, _, _, _ => none
 | k + 1, x0, x1, x5 => if x5 < (x0.length : Int) then (if 0 ≤ x5 then (if x5 < (x0.length : Int) then (if 0 ≤ x5 then (if x5 < (x0.length : Int) then (if ((rd_T151 x0 x5).f0) < 1 then (some 121) else (if ((rd_T151 x0 x5).f0) > 14 then (some 121) else (gnomonref08_Right.j2 k x0 x1 x5 ((rd_T151 x0 x5).f0) ((rd_T151 x0 x5).f1)))) else (none)) else (none)) else (none)) else (none)) else (some 0)
def gnomonref08_Right.j2 : Nat → (List S151) → Int → Int → Int → Int → Option Int
 | 0, _, _, _, _, _ => none
 | k + 1, x0, x1, x5, x6, x7 => if x6 = 1 then (if x7 < 0 then (some 121) else (if x7 > 1048576 then (some 121) else (if x6 = 2 then (if x7 < 0 then (some 121) else (if x7 ≥ x1 then (some 121) else (if x6 = 1 then (gnomonref08_Right.j3 k x0 x1 x5 x6) else (if x6 = 2 then (gnomonref08_Right.j3 k x0 x1 x5 x6) else (if x7 = 0 then (gnomonref08_Right.j3 k x0 x1 x5 x6) else (some 121)))))) else (if x6 = 1 then (gnomonref08_Right.j3 k x0 x1 x5 x6) else (if x6 = 2 then (gnomonref08_Right.j3 k x0 x1 x5 x6) else (if x7 = 0 then (gnomonref08_Right.j3 k x0 x1 x5 x6) else (some 121))))))) else (if x6 = 2 then (if x7 < 0 then (some 121) else (if x7 ≥ x1 then (some 121) else (if x6 = 1 then (gnomonref08_Right.j3 k x0 x1 x5 x6) else (if x6 = 2 then (gnomonref08_Right.j3 k x0 x1 x5 x6) else (if x7 = 0 then (gnomonref08_Right.j3 k x0 x1 x5 x6) else (some 121)))))) else (if x6 = 1 then (gnomonref08_Right.j3 k x0 x1 x5 x6) else (if x6 = 2 then (gnomonref08_Right.j3 k x0 x1 x5 x6) else (if x7 = 0 then (gnomonref08_Right.j3 k x0 x1 x5 x6) else (some 121)))))
def gnomonref08_Right.j3 : Nat → (List S151) → Int → Int → Int → Option Int
 | 0, _, _, _, _ => none
 | k + 1, x0, x1, x5, x6 => gnomonref08_Right.l4 k x0 x1 x5 x6 (w64 (x5 + 1)) 0
def gnomonref08_Right.l4 : Nat → (List S151) → Int → Int → Int → Int → Int → Option Int
 | 0, _, _, _, _, _, _ => none
 | k + 1, x0, x1, x5, x6, x8, x9 => (gnomonref08_parts.f k x6).bind fun t2 => (if x9 < t2 then (if 0 ≤ x8 then (if x8 < (x0.length : Int) then ((gnomonref08_truth.f ((rd_T151 x0 x8).f0)).bind fun t3 => ((gnomonref08_numbers.f x6).bind fun t4 => (if t3 = t4 then (some 121) else ((gnomonref08_End.f k x0 x8).bind fun t5 => (gnomonref08_Right.l4 k x0 x1 x5 x6 t5 (w64 (x9 + 1))))))) else (none)) else (none)) else (gnomonref08_Right.l1 k x0 x1 (w64 (x5 + 1))))
end
def gnomonref08_Right.f (k : Nat) (a0 : List S151) (a1 : Int) : Option Int := if (a0.length : Int) = 0 then (some 121) else (if (a0.length : Int) > 64 then (some 121) else ((gnomonref08_End.f k a0 0).bind fun t1 => (if t1 = (a0.length : Int) then (gnomonref08_Right.j0 k a0 a1) else (some 121))))
end
end Go.Proofs.YtbjkfkifkglplaaGreatDoor.Q
