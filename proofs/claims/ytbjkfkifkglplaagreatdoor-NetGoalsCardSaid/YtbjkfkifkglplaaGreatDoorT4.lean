/- Part of the proof: T4. -/
import Derived.Test.YtbjkfkifkglplaaGreatDoorH2
set_option linter.unusedSectionVars false
set_option linter.unusedVariables false
set_option linter.unusedSimpArgs false
set_option maxRecDepth 100000
namespace Go.Proofs.YtbjkfkifkglplaaGreatDoor.Q
open Go Go.Den Go.Proofs
noncomputable section
def slX.L0 : List S76 → Nat → Option Int
 | [], i => some (-1)
 | y8 :: u8, i => (net_some_1.f (y8.f0) (y8.f1) (y8.f2)).bind fun t1 => (if t1 = true then (some (i : Int)) else (slX.L0 u8 (i + 1)))
theorem slX.L0_le (x0 : List S76) (x1 : Bool) (hlen : x0.length ≤ 9223372036854775807) : ∀ (l : List S76) (i : Nat), List.drop i (x0) = l → Le (slX.L0 l i) (fun k => slX.l0 k x0 x1 (x0.length : Int) (i : Int))
  | [], i, hd => by
    have hn := drop_nil hd
    refine le_step ?_
    simp only [slX.l0, slX.L0]
    exact le_neg (by omega) le_rfl
  | y8 :: u8, i, hd => by
    have hw := w_next hd hlen
    have hx := drop_cons hd
    have ht := hx.2.2
    have h0 : (0 : Int) ≤ (i : Int) := by omega
    have h1 : (i : Int) < (x0.length : Int) := by have := hx.1; omega
    have h2 := h1
    have hy : (rd_T76 x0 (i : Int)) = y8 := rdT_head (t := T76) hd
    refine le_step ?_
    simp only [slX.l0, slX.L0]
    refine le_pos h1 ?_
    subst hy
    exact (le_pos h0 (le_pos h1 (le_bind le_rfl fun t1 => (le_ite le_rfl (by rw [hw]; exact slX.L0_le x0 x1 hlen u8 (i + 1) ht)))))
def slX.g (a0 : List S76) (a1 : Bool) : Option Int := if a0.length ≤ 9223372036854775807 then (slX.L0 a0 0) else (none)
theorem slX.le (a0 : List S76) (a1 : Bool) : Le (slX.g a0 a1) (fun k => slX.f k a0 a1) := (le_len fun hlen_ => slX.L0_le a0 a1 hlen_ _ 0 rfl)
def slY.g (a0 : List S76) (a1 : Bool) : Option Bool := (slX.g a0 a1).bind fun t1 => (some (decide (t1 ≥ 0)))
theorem slY.le (a0 : List S76) (a1 : Bool) : Le (slY.g a0 a1) (fun k => slY.f k a0 a1) := (le_bind (slX.le a0 a1) fun t1 => le_rfl)
def net_some.g (l0_0 : List ByteArray) (l0_1 : List S86) (l0_2 : List ByteArray) (l0_3 : List S76) : Option Int := if (l0_3.length : Int) = 0 then (some 2) else ((slY.g l0_3 false).bind fun t1 => (if t1 = true then (some 2) else (some 0)))
theorem net_some.le (l0_0 : List ByteArray) (l0_1 : List S86) (l0_2 : List ByteArray) (l0_3 : List S76) : Le (net_some.g l0_0 l0_1 l0_2 l0_3) (fun k => net_some.f k l0_0 l0_1 l0_2 l0_3) := (le_ite le_rfl (le_bind (slY.le l0_3 false) fun t1 => (le_ite le_rfl le_rfl)))
def net_sizes.L6 (K4 : Option Int) : List S81 → Option Int
 | [] => K4
 | y88 :: u88 => if ((y88.f3).length : Int) > 64 then (some 6) else (net_sizes.L6 K4 u88)
theorem net_sizes.L6_le (x86 : List S81) (x34 : List S76) (x35 : Int) (x36 : Int) (x63 : List S79) (x64 : Int) (x65 : Int) (K4 : Option Int) (hK4 : Le (K4) (fun k => net_sizes.l4 k x34 x35 x36 x63 x64 (w64 (x65 + 1)))) (hlen : x86.length ≤ 9223372036854775807) : ∀ (l : List S81) (i : Nat), List.drop i (x86) = l → Le (net_sizes.L6 K4 l) (fun k => net_sizes.l6 k x34 x35 x36 x63 x64 x65 x86 (x86.length : Int) (i : Int))
  | [], i, hd => by
    have hn := drop_nil hd
    refine le_step ?_
    simp only [net_sizes.l6, net_sizes.L6]
    exact le_neg (by omega) (hK4)
  | y88 :: u88, i, hd => by
    have hw := w_next hd hlen
    have hx := drop_cons hd
    have ht := hx.2.2
    have h0 : (0 : Int) ≤ (i : Int) := by omega
    have h1 : (i : Int) < (x86.length : Int) := by have := hx.1; omega
    have h2 := h1
    have hy : (rd_T81 x86 (i : Int)) = y88 := rdT_head (t := T81) hd
    refine le_step ?_
    simp only [net_sizes.l6, net_sizes.L6]
    refine le_pos h1 ?_
    subst hy
    exact (le_pos h0 (le_pos h1 (le_ite le_rfl (by rw [hw]; exact net_sizes.L6_le x86 x34 x35 x36 x63 x64 x65 K4 hK4 hlen u88 (i + 1) ht))))
def net_sizes.L4 (K1 : Option Int) : List S79 → Option Int
 | [] => K1
 | y65 :: u65 => if ((y65.f2).length : Int) > 16 then (some 6) else (if ((y65.f6).length : Int) > 16 then (some 6) else (if ((y65.f3).length : Int) > 64 then (some 6) else (if (y65.f6).length ≤ 9223372036854775807 then (net_sizes.L6 (net_sizes.L4 K1 u65) (y65.f6)) else (none))))
theorem net_sizes.L4_le (x63 : List S79) (x34 : List S76) (x35 : Int) (x36 : Int) (K1 : Option Int) (hK1 : Le (K1) (fun k => net_sizes.l1 k x34 x35 (w64 (x36 + 1)))) (hlen : x63.length ≤ 9223372036854775807) : ∀ (l : List S79) (i : Nat), List.drop i (x63) = l → Le (net_sizes.L4 K1 l) (fun k => net_sizes.l4 k x34 x35 x36 x63 (x63.length : Int) (i : Int))
  | [], i, hd => by
    have hn := drop_nil hd
    refine le_step ?_
    simp only [net_sizes.l4, net_sizes.L4]
    exact le_neg (by omega) (hK1)
  | y65 :: u65, i, hd => by
    have hw := w_next hd hlen
    have hx := drop_cons hd
    have ht := hx.2.2
    have h0 : (0 : Int) ≤ (i : Int) := by omega
    have h1 : (i : Int) < (x63.length : Int) := by have := hx.1; omega
    have h2 := h1
    have hy : (rd_T79 x63 (i : Int)) = y65 := rdT_head (t := T79) hd
    refine le_step ?_
    simp only [net_sizes.l4, net_sizes.L4]
    refine le_pos h1 ?_
    subst hy
    exact (le_pos h0 (le_pos h1 (le_ite le_rfl (le_ite le_rfl (le_ite le_rfl (le_step (by simp only [net_sizes.j5]; exact (le_len fun hlen_ => net_sizes.L6_le ((rd_T79 x63 (i : Int)).f6) x34 x35 x36 x63 (x63.length : Int) (i : Int) _ (by rw [hw]; exact net_sizes.L4_le x63 x34 x35 x36 K1 hK1 hlen u65 (i + 1) ht) hlen_ _ 0 rfl))))))))
def net_sizes.L3 (x4_2 : List S79) (K1 : Option Int) : List S84 → Option Int
 | [] => if x4_2.length ≤ 9223372036854775807 then (net_sizes.L4 K1 x4_2) else (none)
 | y53 :: u53 => if ((y53.f2).length : Int) > 16 then (some 6) else (net_sizes.L3 x4_2 K1 u53)
theorem net_sizes.L3_le (x51 : List S84) (x34 : List S76) (x35 : Int) (x36 : Int) (x4_0 : ByteArray) (x4_1 : List S84) (x4_2 : List S79) (K1 : Option Int) (hK1 : Le (K1) (fun k => net_sizes.l1 k x34 x35 (w64 (x36 + 1)))) (hlen : x51.length ≤ 9223372036854775807) : ∀ (l : List S84) (i : Nat), List.drop i (x51) = l → Le (net_sizes.L3 x4_2 K1 l) (fun k => net_sizes.l3 k x34 x35 x36 x51 (x51.length : Int) (i : Int) x4_0 x4_1 x4_2)
  | [], i, hd => by
    have hn := drop_nil hd
    refine le_step ?_
    simp only [net_sizes.l3, net_sizes.L3]
    exact le_neg (by omega) (le_len fun hlen_ => net_sizes.L4_le x4_2 x34 x35 x36 _ hK1 hlen_ _ 0 rfl)
  | y53 :: u53, i, hd => by
    have hw := w_next hd hlen
    have hx := drop_cons hd
    have ht := hx.2.2
    have h0 : (0 : Int) ≤ (i : Int) := by omega
    have h1 : (i : Int) < (x51.length : Int) := by have := hx.1; omega
    have h2 := h1
    have hy : (rd_T84 x51 (i : Int)) = y53 := rdT_head (t := T84) hd
    refine le_step ?_
    simp only [net_sizes.l3, net_sizes.L3]
    refine le_pos h1 ?_
    subst hy
    exact (le_pos h0 (le_pos h1 (le_ite le_rfl (by rw [hw]; exact net_sizes.L3_le x51 x34 x35 x36 x4_0 x4_1 x4_2 K1 hK1 hlen u53 (i + 1) ht))))
def net_sizes.L1 : List S76 → Option Int
 | [] => some 0
 | y36 :: u36 => if ((y36.f1).length : Int) > 64 then (some 6) else (if ((y36.f2).length : Int) > 256 then (some 6) else (if (y36.f1).length ≤ 9223372036854775807 then (net_sizes.L3 (y36.f2) (net_sizes.L1 u36) (y36.f1)) else (none)))
theorem net_sizes.L1_le (x34 : List S76) (hlen : x34.length ≤ 9223372036854775807) : ∀ (l : List S76) (i : Nat), List.drop i (x34) = l → Le (net_sizes.L1 l) (fun k => net_sizes.l1 k x34 (x34.length : Int) (i : Int))
  | [], i, hd => by
    have hn := drop_nil hd
    refine le_step ?_
    simp only [net_sizes.l1, net_sizes.L1]
    exact le_neg (by omega) le_rfl
  | y36 :: u36, i, hd => by
    have hw := w_next hd hlen
    have hx := drop_cons hd
    have ht := hx.2.2
    have h0 : (0 : Int) ≤ (i : Int) := by omega
    have h1 : (i : Int) < (x34.length : Int) := by have := hx.1; omega
    have h2 := h1
    have hy : (rd_T76 x34 (i : Int)) = y36 := rdT_head (t := T76) hd
    refine le_step ?_
    simp only [net_sizes.l1, net_sizes.L1]
    refine le_pos h1 ?_
    subst hy
    exact (le_pos h0 (le_pos h1 (le_ite le_rfl (le_ite le_rfl (le_step (by simp only [net_sizes.j2]; exact (le_len fun hlen_ => net_sizes.L3_le ((rd_T76 x34 (i : Int)).f1) x34 (x34.length : Int) (i : Int) ((rd_T76 x34 (i : Int)).f0) ((rd_T76 x34 (i : Int)).f1) ((rd_T76 x34 (i : Int)).f2) _ (by rw [hw]; exact net_sizes.L1_le x34 hlen u36 (i + 1) ht) hlen_ _ 0 rfl)))))))
def net_sizes.g (l0_0 : List ByteArray) (l0_1 : List S86) (l0_2 : List ByteArray) (l0_3 : List S76) : Option Int := if (l0_0.length : Int) > 8 then (some 6) else (if (l0_1.length : Int) > 16 then (some 6) else (if (l0_2.length : Int) > 16 then (some 6) else (if (l0_3.length : Int) > 8 then (some 6) else (if l0_3.length ≤ 9223372036854775807 then (net_sizes.L1 l0_3) else (none)))))
theorem net_sizes.le (l0_0 : List ByteArray) (l0_1 : List S86) (l0_2 : List ByteArray) (l0_3 : List S76) : Le (net_sizes.g l0_0 l0_1 l0_2 l0_3) (fun k => net_sizes.f k l0_0 l0_1 l0_2 l0_3) := (le_ite le_rfl (le_ite le_rfl (le_ite le_rfl (le_ite le_rfl (le_step (by simp only [net_sizes.j0]; exact (le_len fun hlen_ => net_sizes.L1_le l0_3 hlen_ _ 0 rfl)))))))
def lex_of.g (a0 : Int) : Option Int := if a0 = 32 then (if (decide (a0 = 32)) = true then (some 1) else (if a0 = 35 then (some 4) else (if a0 ≥ 97 then (if a0 ≤ 122 then (if a0 ≤ 122 then (some 2) else (if a0 ≥ 48 then (if a0 ≤ 57 then (some 3) else (some 0)) else (some 0))) else (if a0 ≥ 65 then (if a0 ≤ 90 then (some 2) else (if a0 ≥ 48 then (if a0 ≤ 57 then (some 3) else (some 0)) else (some 0))) else (if a0 ≥ 48 then (if a0 ≤ 57 then (some 3) else (some 0)) else (some 0)))) else (if a0 ≥ 65 then (if a0 ≤ 90 then (some 2) else (if a0 ≥ 48 then (if a0 ≤ 57 then (some 3) else (some 0)) else (some 0))) else (if a0 ≥ 48 then (if a0 ≤ 57 then (some 3) else (some 0)) else (some 0)))))) else (if a0 = 9 then (if (decide (a0 = 9)) = true then (some 1) else (if a0 = 35 then (some 4) else (if a0 ≥ 97 then (if a0 ≤ 122 then (if a0 ≤ 122 then (some 2) else (if a0 ≥ 48 then (if a0 ≤ 57 then (some 3) else (some 0)) else (some 0))) else (if a0 ≥ 65 then (if a0 ≤ 90 then (some 2) else (if a0 ≥ 48 then (if a0 ≤ 57 then (some 3) else (some 0)) else (some 0))) else (if a0 ≥ 48 then (if a0 ≤ 57 then (some 3) else (some 0)) else (some 0)))) else (if a0 ≥ 65 then (if a0 ≤ 90 then (some 2) else (if a0 ≥ 48 then (if a0 ≤ 57 then (some 3) else (some 0)) else (some 0))) else (if a0 ≥ 48 then (if a0 ≤ 57 then (some 3) else (some 0)) else (some 0)))))) else (if a0 = 13 then (if (decide (a0 = 13)) = true then (some 1) else (if a0 = 35 then (some 4) else (if a0 ≥ 97 then (if a0 ≤ 122 then (if a0 ≤ 122 then (some 2) else (if a0 ≥ 48 then (if a0 ≤ 57 then (some 3) else (some 0)) else (some 0))) else (if a0 ≥ 65 then (if a0 ≤ 90 then (some 2) else (if a0 ≥ 48 then (if a0 ≤ 57 then (some 3) else (some 0)) else (some 0))) else (if a0 ≥ 48 then (if a0 ≤ 57 then (some 3) else (some 0)) else (some 0)))) else (if a0 ≥ 65 then (if a0 ≤ 90 then (some 2) else (if a0 ≥ 48 then (if a0 ≤ 57 then (some 3) else (some 0)) else (some 0))) else (if a0 ≥ 48 then (if a0 ≤ 57 then (some 3) else (some 0)) else (some 0)))))) else (if (decide (a0 = 10)) = true then (some 1) else (if a0 = 35 then (some 4) else (if a0 ≥ 97 then (if a0 ≤ 122 then (if a0 ≤ 122 then (some 2) else (if a0 ≥ 48 then (if a0 ≤ 57 then (some 3) else (some 0)) else (some 0))) else (if a0 ≥ 65 then (if a0 ≤ 90 then (some 2) else (if a0 ≥ 48 then (if a0 ≤ 57 then (some 3) else (some 0)) else (some 0))) else (if a0 ≥ 48 then (if a0 ≤ 57 then (some 3) else (some 0)) else (some 0)))) else (if a0 ≥ 65 then (if a0 ≤ 90 then (some 2) else (if a0 ≥ 48 then (if a0 ≤ 57 then (some 3) else (some 0)) else (some 0))) else (if a0 ≥ 48 then (if a0 ≤ 57 then (some 3) else (some 0)) else (some 0))))))))
theorem lex_of.le (a0 : Int) : Le (lex_of.g a0) (fun k => lex_of.f k a0) := (le_ite (le_step (by simp only [lex_of.j0]; exact (le_ite le_rfl (le_ite le_rfl (le_ite (le_ite (le_ite le_rfl (le_ite (le_ite le_rfl le_rfl) le_rfl)) (le_ite (le_ite le_rfl (le_ite (le_ite le_rfl le_rfl) le_rfl)) (le_ite (le_ite le_rfl le_rfl) le_rfl))) (le_ite (le_ite le_rfl (le_ite (le_ite le_rfl le_rfl) le_rfl)) (le_ite (le_ite le_rfl le_rfl) le_rfl))))))) (le_ite (le_step (by simp only [lex_of.j0]; exact (le_ite le_rfl (le_ite le_rfl (le_ite (le_ite (le_ite le_rfl (le_ite (le_ite le_rfl le_rfl) le_rfl)) (le_ite (le_ite le_rfl (le_ite (le_ite le_rfl le_rfl) le_rfl)) (le_ite (le_ite le_rfl le_rfl) le_rfl))) (le_ite (le_ite le_rfl (le_ite (le_ite le_rfl le_rfl) le_rfl)) (le_ite (le_ite le_rfl le_rfl) le_rfl))))))) (le_ite (le_step (by simp only [lex_of.j0]; exact (le_ite le_rfl (le_ite le_rfl (le_ite (le_ite (le_ite le_rfl (le_ite (le_ite le_rfl le_rfl) le_rfl)) (le_ite (le_ite le_rfl (le_ite (le_ite le_rfl le_rfl) le_rfl)) (le_ite (le_ite le_rfl le_rfl) le_rfl))) (le_ite (le_ite le_rfl (le_ite (le_ite le_rfl le_rfl) le_rfl)) (le_ite (le_ite le_rfl le_rfl) le_rfl))))))) (le_step (by simp only [lex_of.j0]; exact (le_ite le_rfl (le_ite le_rfl (le_ite (le_ite (le_ite le_rfl (le_ite (le_ite le_rfl le_rfl) le_rfl)) (le_ite (le_ite le_rfl (le_ite (le_ite le_rfl le_rfl) le_rfl)) (le_ite (le_ite le_rfl le_rfl) le_rfl))) (le_ite (le_ite le_rfl (le_ite (le_ite le_rfl le_rfl) le_rfl)) (le_ite (le_ite le_rfl le_rfl) le_rfl))))))))))
def lex_word.L0 : List Int → Nat → Option Int
 | [], i => some (i : Int)
 | y3 :: u3, i => (lex_of.g y3).bind fun t1 => (if t1 = 2 then (lex_word.L0 u3 (i + 1)) else ((lex_of.g y3).bind fun t2 => (if t2 = 3 then (lex_word.L0 u3 (i + 1)) else (if y3 = 95 then (lex_word.L0 u3 (i + 1)) else (some (i : Int))))))
theorem lex_word.L0_le (x0 : ByteArray) (hlen : x0.size ≤ 9223372036854775807) : ∀ (l : List Int) (i : Nat), List.drop i (bytesOf x0) = l → Le (lex_word.L0 l i) (fun k => lex_word.l0 k x0 (i : Int))
  | [], i, hd => by
    have hn := drop_nil hd
    rw [bytesOf_len] at hn
    refine le_step ?_
    simp only [lex_word.l0, lex_word.L0]
    exact le_neg (by omega) le_rfl
  | y3 :: u3, i, hd => by
    have hw := w_next hd (by rw [bytesOf_len]; exact hlen)
    have hx := drop_cons hd
    have ht := hx.2.2
    have hl := bytesOf_len x0
    have h0 : (0 : Int) ≤ (i : Int) := by omega
    have h1 : (i : Int) < (x0.size : Int) := by have := hx.1; omega
    have hy : btI x0 (i : Int) = y3 := bt_head hd
    refine le_step ?_
    simp only [lex_word.l0, lex_word.L0]
    refine le_pos h1 ?_
    subst hy
    exact (le_pos h0 (le_pos h1 (le_bind (lex_of.le (btI x0 (i : Int))) fun t1 => (le_ite (by rw [hw]; exact lex_word.L0_le x0 hlen u3 (i + 1) ht) (le_pos h0 (le_pos h1 (le_bind (lex_of.le (btI x0 (i : Int))) fun t2 => (le_ite (by rw [hw]; exact lex_word.L0_le x0 hlen u3 (i + 1) ht) (le_pos h0 (le_pos h1 (le_ite (by rw [hw]; exact lex_word.L0_le x0 hlen u3 (i + 1) ht) le_rfl)))))))))))
def lex_word.g (a0 : ByteArray) : Option Int := if a0.size ≤ 9223372036854775807 then (lex_word.L0 (List.drop 1 (bytesOf a0)) 1) else (none)
theorem lex_word.le (a0 : ByteArray) : Le (lex_word.g a0) (fun k => lex_word.f k a0) := (le_len fun hlen_ => lex_word.L0_le a0 hlen_ _ 1 rfl)
def slI.L0 (x1 : ByteArray) : List ByteArray → Nat → Option Int
 | [], i => some (-1)
 | y8 :: u8, i => if x1 = y8 then (some (i : Int)) else (slI.L0 x1 u8 (i + 1))
theorem slI.L0_le (x0 : List ByteArray) (x1 : ByteArray) (hlen : x0.length ≤ 9223372036854775807) : ∀ (l : List ByteArray) (i : Nat), List.drop i (x0) = l → Le (slI.L0 x1 l i) (fun k => slI.l0 k x0 x1 (x0.length : Int) (i : Int))
  | [], i, hd => by
    have hn := drop_nil hd
    refine le_step ?_
    simp only [slI.l0, slI.L0]
    exact le_neg (by omega) le_rfl
  | y8 :: u8, i, hd => by
    have hw := w_next hd hlen
    have hx := drop_cons hd
    have ht := hx.2.2
    have h0 : (0 : Int) ≤ (i : Int) := by omega
    have h1 : (i : Int) < (x0.length : Int) := by have := hx.1; omega
    have h2 := h1
    have hy : (rdT .str x0 (i : Int)) = y8 := rdT_head (t := .str) hd
    refine le_step ?_
    simp only [slI.l0, slI.L0]
    refine le_pos h1 ?_
    subst hy
    exact (le_pos h0 (le_pos h1 (le_ite le_rfl (by rw [hw]; exact slI.L0_le x0 x1 hlen u8 (i + 1) ht))))
def slI.g (a0 : List ByteArray) (a1 : ByteArray) : Option Int := if a0.length ≤ 9223372036854775807 then (slI.L0 a1 a0 0) else (none)
theorem slI.le (a0 : List ByteArray) (a1 : ByteArray) : Le (slI.g a0 a1) (fun k => slI.f k a0 a1) := (le_len fun hlen_ => slI.L0_le a0 a1 hlen_ _ 0 rfl)
def slN.g (a0 : List ByteArray) (a1 : ByteArray) : Option Bool := (slI.g a0 a1).bind fun t1 => (some (decide (t1 ≥ 0)))
theorem slN.le (a0 : List ByteArray) (a1 : ByteArray) : Le (slN.g a0 a1) (fun k => slN.f k a0 a1) := (le_bind (slI.le a0 a1) fun t1 => le_rfl)
def lex_IsName.g (a0 : ByteArray) : Option Bool := if a0 = (⟨#[]⟩ : ByteArray) then (some false) else (if (a0.size : Int) ≤ 16 then (if 0 ≤ 0 then (if 0 < (a0.size : Int) then ((lex_of.g (btI a0 0)).bind fun t1 => (if t1 = 2 then ((lex_word.g a0).bind fun t2 => (if t2 = (a0.size : Int) then ((slN.g lex_kept a0).bind fun t3 => (some (!t3))) else (some false))) else (some false))) else (none)) else (none)) else (some false))
theorem lex_IsName.le (a0 : ByteArray) : Le (lex_IsName.g a0) (fun k => lex_IsName.f k a0) := (le_ite le_rfl (le_ite (le_ite (le_ite (le_bind (lex_of.le (btI a0 0)) fun t1 => (le_ite (le_bind (lex_word.le a0) fun t2 => (le_ite (le_bind (slN.le lex_kept a0) fun t3 => le_rfl) le_rfl)) le_rfl)) le_none) le_none) le_rfl))
def net_given.L0 : List ByteArray → (List ByteArray) → Option Bool
 | [], x3 => some true
 | y9 :: u9, x3 => (lex_IsName.g y9).bind fun t1 => (if (!t1) = true then (some false) else (if (y9.size : Int) > 16 then (some false) else (if y9.size ≤ 9223372036854775807 then (if (hasK y9 x3) = true then (some false) else (if y9.size ≤ 9223372036854775807 then (if x3.length < 9223372036854775807 then (net_given.L0 u9 (y9 :: x3)) else (none)) else (none))) else (none))))
theorem net_given.L0_le (x7 : List ByteArray) (hlen : x7.length ≤ 9223372036854775807) : ∀ (l : List ByteArray) (i : Nat) (x3 : List ByteArray), List.drop i (x7) = l → Le (net_given.L0 l x3) (fun k => net_given.l0 k x3 x7 (x7.length : Int) (i : Int))
  | [], i, x3, hd => by
    have hn := drop_nil hd
    refine le_step ?_
    simp only [net_given.l0, net_given.L0]
    exact le_neg (by omega) le_rfl
  | y9 :: u9, i, x3, hd => by
    have hw := w_next hd hlen
    have hx := drop_cons hd
    have ht := hx.2.2
    have h0 : (0 : Int) ≤ (i : Int) := by omega
    have h1 : (i : Int) < (x7.length : Int) := by have := hx.1; omega
    have h2 := h1
    have hy : (rdT .str x7 (i : Int)) = y9 := rdT_head (t := .str) hd
    refine le_step ?_
    simp only [net_given.l0, net_given.L0]
    refine le_pos h1 ?_
    subst hy
    exact (le_pos h0 (le_pos h1 (le_bind (lex_IsName.le (rdT .str x7 (i : Int))) fun t1 => (le_ite le_rfl (le_ite le_rfl (le_ite (le_ite le_rfl (le_ite (le_ite (by rw [hw]; exact net_given.L0_le x7 hlen u9 (i + 1) ((rdT .str x7 (i : Int)) :: x3) ht) le_none) le_none)) le_none))))))
def net_given.g (a0 : List ByteArray) : Option Bool := if a0.length ≤ 9223372036854775807 then (net_given.L0 a0 ([] : List ByteArray)) else (none)
theorem net_given.le (a0 : List ByteArray) : Le (net_given.g a0) (fun k => net_given.f k a0) := (le_len fun hlen_ => net_given.L0_le a0 hlen_ _ 0 ([] : List ByteArray) rfl)
def net_Names.L0 : List S86 → (List ByteArray) → Option (List ByteArray)
 | [], x3 => some x3
 | y9 :: u9, x3 => if x3.length < 8796093022208 then (net_Names.L0 u9 (x3 ++ [y9.f0])) else (none)
theorem net_Names.L0_le (x7 : List S86) (hlen : x7.length ≤ 9223372036854775807) : ∀ (l : List S86) (i : Nat) (x3 : List ByteArray), List.drop i (x7) = l → Le (net_Names.L0 l x3) (fun k => net_Names.l0 k x3 x7 (x7.length : Int) (i : Int))
  | [], i, x3, hd => by
    have hn := drop_nil hd
    refine le_step ?_
    simp only [net_Names.l0, net_Names.L0]
    exact le_neg (by omega) le_rfl
  | y9 :: u9, i, x3, hd => by
    have hw := w_next hd hlen
    have hx := drop_cons hd
    have ht := hx.2.2
    have h0 : (0 : Int) ≤ (i : Int) := by omega
    have h1 : (i : Int) < (x7.length : Int) := by have := hx.1; omega
    have h2 := h1
    have hy : (rd_T86 x7 (i : Int)) = y9 := rdT_head (t := T86) hd
    refine le_step ?_
    simp only [net_Names.l0, net_Names.L0]
    refine le_pos h1 ?_
    subst hy
    exact (le_pos h0 (le_pos h1 (le_ite (by rw [hw]; exact net_Names.L0_le x7 hlen u9 (i + 1) (x3 ++ [(rd_T86 x7 (i : Int)).f0]) ht) le_none)))
def net_Names.g (l0_0 : List ByteArray) (l0_1 : List S86) (l0_2 : List ByteArray) (l0_3 : List S76) : Option (List ByteArray) := if l0_1.length ≤ 9223372036854775807 then (net_Names.L0 l0_1 ([] : List ByteArray)) else (none)
theorem net_Names.le (l0_0 : List ByteArray) (l0_1 : List S86) (l0_2 : List ByteArray) (l0_3 : List S76) : Le (net_Names.g l0_0 l0_1 l0_2 l0_3) (fun k => net_Names.f k l0_0 l0_1 l0_2 l0_3) := (le_len fun hlen_ => net_Names.L0_le l0_1 hlen_ _ 0 ([] : List ByteArray) rfl)
def slC.L1 : List (List ByteArray) → (List ByteArray) → Option (List ByteArray)
 | [], x6 => some x6
 | y27 :: u27, x6 => if x6.length + y27.length ≤ 8796093022208 then (slC.L1 u27 (x6 ++ y27)) else (none)
theorem slC.L1_le (x25 : List (List ByteArray)) (hlen : x25.length ≤ 9223372036854775807) : ∀ (l : List (List ByteArray)) (i : Nat) (x6 : List ByteArray), List.drop i (x25) = l → Le (slC.L1 l x6) (fun k => slC.l1 k x6 x25 (x25.length : Int) (i : Int))
  | [], i, x6, hd => by
    have hn := drop_nil hd
    refine le_step ?_
    simp only [slC.l1, slC.L1]
    exact le_neg (by omega) le_rfl
  | y27 :: u27, i, x6, hd => by
    have hw := w_next hd hlen
    have hx := drop_cons hd
    have ht := hx.2.2
    have h0 : (0 : Int) ≤ (i : Int) := by omega
    have h1 : (i : Int) < (x25.length : Int) := by have := hx.1; omega
    have h2 := h1
    have hy : (rdT (.list .str) x25 (i : Int)) = y27 := rdT_head (t := (.list .str)) hd
    refine le_step ?_
    simp only [slC.l1, slC.L1]
    refine le_pos h1 ?_
    subst hy
    exact (le_pos h0 (le_pos h1 (le_ite (by rw [hw]; exact slC.L1_le x25 hlen u27 (i + 1) (x6 ++ (rdT (.list .str) x25 (i : Int))) ht) le_none)))
def slC.L0 (x0 : List (List ByteArray)) : List (List ByteArray) → Int → Option (List ByteArray)
 | [], x3 => (slG.f () x3).bind fun t1 => (if x0.length ≤ 9223372036854775807 then (slC.L1 x0 t1) else (none))
 | y11 :: u11, x3 => if (w64 (x3 + (y11.length : Int))) < 0 then (none) else (slC.L0 x0 u11 (w64 (x3 + (y11.length : Int))))
theorem slC.L0_le (x9 : List (List ByteArray)) (x0 : List (List ByteArray)) (hlen : x9.length ≤ 9223372036854775807) : ∀ (l : List (List ByteArray)) (i : Nat) (x3 : Int), List.drop i (x9) = l → Le (slC.L0 x0 l x3) (fun k => slC.l0 k x0 x3 x9 (x9.length : Int) (i : Int))
  | [], i, x3, hd => by
    have hn := drop_nil hd
    refine le_step ?_
    simp only [slC.l0, slC.L0]
    exact le_neg (by omega) (le_bind le_rfl fun t1 => (le_len fun hlen_ => slC.L1_le x0 hlen_ _ 0 t1 rfl))
  | y11 :: u11, i, x3, hd => by
    have hw := w_next hd hlen
    have hx := drop_cons hd
    have ht := hx.2.2
    have h0 : (0 : Int) ≤ (i : Int) := by omega
    have h1 : (i : Int) < (x9.length : Int) := by have := hx.1; omega
    have h2 := h1
    have hy : (rdT (.list .str) x9 (i : Int)) = y11 := rdT_head (t := (.list .str)) hd
    refine le_step ?_
    simp only [slC.l0, slC.L0]
    refine le_pos h1 ?_
    subst hy
    exact (le_pos h0 (le_pos h1 (le_ite le_none (by rw [hw]; exact slC.L0_le x9 x0 hlen u11 (i + 1) (w64 (x3 + ((rdT (.list .str) x9 (i : Int)).length : Int))) ht))))
def slC.g (a0 : List (List ByteArray)) : Option (List ByteArray) := if a0.length ≤ 9223372036854775807 then (slC.L0 a0 a0 0) else (none)
theorem slC.le (a0 : List (List ByteArray)) : Le (slC.g a0) (fun k => slC.f k a0) := (le_len fun hlen_ => slC.L0_le a0 a0 hlen_ _ 0 0 rfl)
def net_all.L0 : List S76 → (List ByteArray) → Option (List ByteArray)
 | [], x3 => some x3
 | y17 :: u17, x3 => if x3.length < 8796093022208 then (net_all.L0 u17 (x3 ++ [y17.f0])) else (none)
theorem net_all.L0_le (x15 : List S76) (hlen : x15.length ≤ 9223372036854775807) : ∀ (l : List S76) (i : Nat) (x3 : List ByteArray), List.drop i (x15) = l → Le (net_all.L0 l x3) (fun k => net_all.l0 k x3 x15 (x15.length : Int) (i : Int))
  | [], i, x3, hd => by
    have hn := drop_nil hd
    refine le_step ?_
    simp only [net_all.l0, net_all.L0]
    exact le_neg (by omega) le_rfl
  | y17 :: u17, i, x3, hd => by
    have hw := w_next hd hlen
    have hx := drop_cons hd
    have ht := hx.2.2
    have h0 : (0 : Int) ≤ (i : Int) := by omega
    have h1 : (i : Int) < (x15.length : Int) := by have := hx.1; omega
    have h2 := h1
    have hy : (rd_T76 x15 (i : Int)) = y17 := rdT_head (t := T76) hd
    refine le_step ?_
    simp only [net_all.l0, net_all.L0]
    refine le_pos h1 ?_
    subst hy
    exact (le_pos h0 (le_pos h1 (le_ite (by rw [hw]; exact net_all.L0_le x15 hlen u17 (i + 1) (x3 ++ [(rd_T76 x15 (i : Int)).f0]) ht) le_none)))
def net_all.g (l0_0 : List ByteArray) (l0_1 : List S86) (l0_2 : List ByteArray) (l0_3 : List S76) : Option (List ByteArray) := (net_Names.g l0_0 l0_1 l0_2 l0_3).bind fun t1 => ((slC.g ([l0_0, t1, l0_2] : List (List ByteArray))).bind fun t2 => (if l0_3.length ≤ 9223372036854775807 then (net_all.L0 l0_3 t2) else (none)))
theorem net_all.le (l0_0 : List ByteArray) (l0_1 : List S86) (l0_2 : List ByteArray) (l0_3 : List S76) : Le (net_all.g l0_0 l0_1 l0_2 l0_3) (fun k => net_all.f k l0_0 l0_1 l0_2 l0_3) := (le_bind (net_Names.le l0_0 l0_1 l0_2 l0_3) fun t1 => (le_bind (slC.le ([l0_0, t1, l0_2] : List (List ByteArray))) fun t2 => (le_len fun hlen_ => net_all.L0_le l0_3 hlen_ _ 0 t2 rfl)))
def net_locNames.L0 : List S84 → (List ByteArray) → Option (List ByteArray)
 | [], x3 => some x3
 | y9 :: u9, x3 => if x3.length < 8796093022208 then (net_locNames.L0 u9 (x3 ++ [y9.f0])) else (none)
theorem net_locNames.L0_le (x7 : List S84) (hlen : x7.length ≤ 9223372036854775807) : ∀ (l : List S84) (i : Nat) (x3 : List ByteArray), List.drop i (x7) = l → Le (net_locNames.L0 l x3) (fun k => net_locNames.l0 k x3 x7 (x7.length : Int) (i : Int))
  | [], i, x3, hd => by
    have hn := drop_nil hd
    refine le_step ?_
    simp only [net_locNames.l0, net_locNames.L0]
    exact le_neg (by omega) le_rfl
  | y9 :: u9, i, x3, hd => by
    have hw := w_next hd hlen
    have hx := drop_cons hd
    have ht := hx.2.2
    have h0 : (0 : Int) ≤ (i : Int) := by omega
    have h1 : (i : Int) < (x7.length : Int) := by have := hx.1; omega
    have h2 := h1
    have hy : (rd_T84 x7 (i : Int)) = y9 := rdT_head (t := T84) hd
    refine le_step ?_
    simp only [net_locNames.l0, net_locNames.L0]
    refine le_pos h1 ?_
    subst hy
    exact (le_pos h0 (le_pos h1 (le_ite (by rw [hw]; exact net_locNames.L0_le x7 hlen u9 (i + 1) (x3 ++ [(rd_T84 x7 (i : Int)).f0]) ht) le_none)))
def net_locNames.g (l0_0 : ByteArray) (l0_1 : List S84) (l0_2 : List S79) : Option (List ByteArray) := if l0_1.length ≤ 9223372036854775807 then (net_locNames.L0 l0_1 ([] : List ByteArray)) else (none)
theorem net_locNames.le (l0_0 : ByteArray) (l0_1 : List S84) (l0_2 : List S79) : Le (net_locNames.g l0_0 l0_1 l0_2) (fun k => net_locNames.f k l0_0 l0_1 l0_2) := (le_len fun hlen_ => net_locNames.L0_le l0_1 hlen_ _ 0 ([] : List ByteArray) rfl)
def net_names.L0 : List S76 → Option Int
 | [] => some 0
 | y12 :: u12 => (net_locNames.g (y12.f0) (y12.f1) (y12.f2)).bind fun t3 => ((net_given.g t3).bind fun t4 => (if (!t4) = true then (some 112) else (net_names.L0 u12)))
theorem net_names.L0_le (x10 : List S76) (hlen : x10.length ≤ 9223372036854775807) : ∀ (l : List S76) (i : Nat), List.drop i (x10) = l → Le (net_names.L0 l) (fun k => net_names.l0 k x10 (x10.length : Int) (i : Int))
  | [], i, hd => by
    have hn := drop_nil hd
    refine le_step ?_
    simp only [net_names.l0, net_names.L0]
    exact le_neg (by omega) le_rfl
  | y12 :: u12, i, hd => by
    have hw := w_next hd hlen
    have hx := drop_cons hd
    have ht := hx.2.2
    have h0 : (0 : Int) ≤ (i : Int) := by omega
    have h1 : (i : Int) < (x10.length : Int) := by have := hx.1; omega
    have h2 := h1
    have hy : (rd_T76 x10 (i : Int)) = y12 := rdT_head (t := T76) hd
    refine le_step ?_
    simp only [net_names.l0, net_names.L0]
    refine le_pos h1 ?_
    subst hy
    exact (le_pos h0 (le_pos h1 (le_bind (net_locNames.le ((rd_T76 x10 (i : Int)).f0) ((rd_T76 x10 (i : Int)).f1) ((rd_T76 x10 (i : Int)).f2)) fun t3 => (le_bind (net_given.le t3) fun t4 => (le_ite le_rfl (by rw [hw]; exact net_names.L0_le x10 hlen u12 (i + 1) ht))))))
def net_names.g (l0_0 : List ByteArray) (l0_1 : List S86) (l0_2 : List ByteArray) (l0_3 : List S76) : Option Int := (net_all.g l0_0 l0_1 l0_2 l0_3).bind fun t1 => ((net_given.g t1).bind fun t2 => (if (!t2) = true then (some 112) else (if l0_3.length ≤ 9223372036854775807 then (net_names.L0 l0_3) else (none))))
theorem net_names.le (l0_0 : List ByteArray) (l0_1 : List S86) (l0_2 : List ByteArray) (l0_3 : List S76) : Le (net_names.g l0_0 l0_1 l0_2 l0_3) (fun k => net_names.f k l0_0 l0_1 l0_2 l0_3) := (le_bind (net_all.le l0_0 l0_1 l0_2 l0_3) fun t1 => (le_bind (net_given.le t1) fun t2 => (le_ite le_rfl (le_len fun hlen_ => net_names.L0_le l0_3 hlen_ _ 0 rfl))))
def net_vars.L0 : List S86 → Option Int
 | [] => some 0
 | y8 :: u8 => if (y8.f1) > (y8.f3) then (some 124) else (if (y8.f3) > (y8.f2) then (some 124) else (if (y8.f1) < (-1048576) then (some 124) else (if (y8.f2) > 1048576 then (some 124) else (net_vars.L0 u8))))
theorem net_vars.L0_le (x6 : List S86) (hlen : x6.length ≤ 9223372036854775807) : ∀ (l : List S86) (i : Nat), List.drop i (x6) = l → Le (net_vars.L0 l) (fun k => net_vars.l0 k x6 (x6.length : Int) (i : Int))
  | [], i, hd => by
    have hn := drop_nil hd
    refine le_step ?_
    simp only [net_vars.l0, net_vars.L0]
    exact le_neg (by omega) le_rfl
  | y8 :: u8, i, hd => by
    have hw := w_next hd hlen
    have hx := drop_cons hd
    have ht := hx.2.2
    have h0 : (0 : Int) ≤ (i : Int) := by omega
    have h1 : (i : Int) < (x6.length : Int) := by have := hx.1; omega
    have h2 := h1
    have hy : (rd_T86 x6 (i : Int)) = y8 := rdT_head (t := T86) hd
    refine le_step ?_
    simp only [net_vars.l0, net_vars.L0]
    refine le_pos h1 ?_
    subst hy
    exact (le_pos h0 (le_pos h1 (le_ite le_rfl (le_ite le_rfl (le_ite le_rfl (le_ite le_rfl (by rw [hw]; exact net_vars.L0_le x6 hlen u8 (i + 1) ht)))))))
def net_vars.g (l0_0 : List ByteArray) (l0_1 : List S86) (l0_2 : List ByteArray) (l0_3 : List S76) : Option Int := if l0_1.length ≤ 9223372036854775807 then (net_vars.L0 l0_1) else (none)
theorem net_vars.le (l0_0 : List ByteArray) (l0_1 : List S86) (l0_2 : List ByteArray) (l0_3 : List S76) : Le (net_vars.g l0_0 l0_1 l0_2 l0_3) (fun k => net_vars.f k l0_0 l0_1 l0_2 l0_3) := (le_len fun hlen_ => net_vars.L0_le l0_1 hlen_ _ 0 rfl)
def net_locs.L1 (K0 : Option Int) : List S84 → Option Int
 | [] => K0
 | y17 :: u17 => if (y17.f1) > 2 then (some 122) else (net_locs.L1 K0 u17)
theorem net_locs.L1_le (x15 : List S84) (x8 : List S76) (x9 : Int) (x10 : Int) (K0 : Option Int) (hK0 : Le (K0) (fun k => net_locs.l0 k x8 x9 (w64 (x10 + 1)))) (hlen : x15.length ≤ 9223372036854775807) : ∀ (l : List S84) (i : Nat), List.drop i (x15) = l → Le (net_locs.L1 K0 l) (fun k => net_locs.l1 k x8 x9 x10 x15 (x15.length : Int) (i : Int))
  | [], i, hd => by
    have hn := drop_nil hd
    refine le_step ?_
    simp only [net_locs.l1, net_locs.L1]
    exact le_neg (by omega) (hK0)
  | y17 :: u17, i, hd => by
    have hw := w_next hd hlen
    have hx := drop_cons hd
    have ht := hx.2.2
    have h0 : (0 : Int) ≤ (i : Int) := by omega
    have h1 : (i : Int) < (x15.length : Int) := by have := hx.1; omega
    have h2 := h1
    have hy : (rd_T84 x15 (i : Int)) = y17 := rdT_head (t := T84) hd
    refine le_step ?_
    simp only [net_locs.l1, net_locs.L1]
    refine le_pos h1 ?_
    subst hy
    exact (le_pos h0 (le_pos h1 (le_ite le_rfl (by rw [hw]; exact net_locs.L1_le x15 x8 x9 x10 K0 hK0 hlen u17 (i + 1) ht))))
def net_locs.L0 : List S76 → Option Int
 | [] => some 0
 | y10 :: u10 => if (y10.f1).length ≤ 9223372036854775807 then (net_locs.L1 (net_locs.L0 u10) (y10.f1)) else (none)
theorem net_locs.L0_le (x8 : List S76) (hlen : x8.length ≤ 9223372036854775807) : ∀ (l : List S76) (i : Nat), List.drop i (x8) = l → Le (net_locs.L0 l) (fun k => net_locs.l0 k x8 (x8.length : Int) (i : Int))
  | [], i, hd => by
    have hn := drop_nil hd
    refine le_step ?_
    simp only [net_locs.l0, net_locs.L0]
    exact le_neg (by omega) le_rfl
  | y10 :: u10, i, hd => by
    have hw := w_next hd hlen
    have hx := drop_cons hd
    have ht := hx.2.2
    have h0 : (0 : Int) ≤ (i : Int) := by omega
    have h1 : (i : Int) < (x8.length : Int) := by have := hx.1; omega
    have h2 := h1
    have hy : (rd_T76 x8 (i : Int)) = y10 := rdT_head (t := T76) hd
    refine le_step ?_
    simp only [net_locs.l0, net_locs.L0]
    refine le_pos h1 ?_
    subst hy
    exact (le_pos h0 (le_pos h1 (le_len fun hlen_ => net_locs.L1_le ((rd_T76 x8 (i : Int)).f1) x8 (x8.length : Int) (i : Int) _ (by rw [hw]; exact net_locs.L0_le x8 hlen u10 (i + 1) ht) hlen_ _ 0 rfl)))
def net_locs.g (l0_0 : List ByteArray) (l0_1 : List S86) (l0_2 : List ByteArray) (l0_3 : List S76) : Option Int := if l0_3.length ≤ 9223372036854775807 then (net_locs.L0 l0_3) else (none)
theorem net_locs.le (l0_0 : List ByteArray) (l0_1 : List S86) (l0_2 : List ByteArray) (l0_3 : List S76) : Le (net_locs.g l0_0 l0_1 l0_2 l0_3) (fun k => net_locs.f k l0_0 l0_1 l0_2 l0_3) := (le_len fun hlen_ => net_locs.L0_le l0_3 hlen_ _ 0 rfl)
def net_edges.L1 (x5 : S76) (x1_2 : List ByteArray) (K0 : Option Int) : List S79 → Option Int
 | [] => K0
 | y19 :: u19 => (net_edges_1.f (y19.f0) x5).bind fun t1 => (if (!t1) = true then (some 123) else ((net_edges_1.f (y19.f1) x5).bind fun t2 => (if (!t2) = true then (some 123) else (if (y19.f4) < 0 then (some 123) else (if (y19.f4) > (x1_2.length : Int) then (some 123) else (if (y19.f5) = true then (if (y19.f4) = 0 then (some 123) else (net_edges.L1 x5 x1_2 K0 u19)) else (net_edges.L1 x5 x1_2 K0 u19)))))))
theorem net_edges.L1_le (x17 : List S79) (x5 : S76) (x9 : List S76) (x10 : Int) (x11 : Int) (x1_0 : List ByteArray) (x1_1 : List S86) (x1_2 : List ByteArray) (x1_3 : List S76) (K0 : Option Int) (hK0 : Le (K0) (fun k => net_edges.l0 k x9 x10 (w64 (x11 + 1)) x1_0 x1_1 x1_2 x1_3)) (hlen : x17.length ≤ 9223372036854775807) : ∀ (l : List S79) (i : Nat), List.drop i (x17) = l → Le (net_edges.L1 x5 x1_2 K0 l) (fun k => net_edges.l1 k x5 x9 x10 x11 x17 (x17.length : Int) (i : Int) x1_0 x1_1 x1_2 x1_3)
  | [], i, hd => by
    have hn := drop_nil hd
    refine le_step ?_
    simp only [net_edges.l1, net_edges.L1]
    exact le_neg (by omega) (hK0)
  | y19 :: u19, i, hd => by
    have hw := w_next hd hlen
    have hx := drop_cons hd
    have ht := hx.2.2
    have h0 : (0 : Int) ≤ (i : Int) := by omega
    have h1 : (i : Int) < (x17.length : Int) := by have := hx.1; omega
    have h2 := h1
    have hy : (rd_T79 x17 (i : Int)) = y19 := rdT_head (t := T79) hd
    refine le_step ?_
    simp only [net_edges.l1, net_edges.L1]
    refine le_pos h1 ?_
    subst hy
    exact (le_pos h0 (le_pos h1 (le_bind le_rfl fun t1 => (le_ite le_rfl (le_bind le_rfl fun t2 => (le_ite le_rfl (le_ite le_rfl (le_ite le_rfl (le_ite (le_ite le_rfl (by rw [hw]; exact net_edges.L1_le x17 x5 x9 x10 x11 x1_0 x1_1 x1_2 x1_3 K0 hK0 hlen u19 (i + 1) ht)) (by rw [hw]; exact net_edges.L1_le x17 x5 x9 x10 x11 x1_0 x1_1 x1_2 x1_3 K0 hK0 hlen u19 (i + 1) ht))))))))))
def net_edges.L0 (x1_2 : List ByteArray) : List S76 → Option Int
 | [] => some 0
 | y11 :: u11 => if (y11.f2).length ≤ 9223372036854775807 then (net_edges.L1 y11 x1_2 (net_edges.L0 x1_2 u11) (y11.f2)) else (none)
theorem net_edges.L0_le (x9 : List S76) (x1_0 : List ByteArray) (x1_1 : List S86) (x1_2 : List ByteArray) (x1_3 : List S76) (hlen : x9.length ≤ 9223372036854775807) : ∀ (l : List S76) (i : Nat), List.drop i (x9) = l → Le (net_edges.L0 x1_2 l) (fun k => net_edges.l0 k x9 (x9.length : Int) (i : Int) x1_0 x1_1 x1_2 x1_3)
  | [], i, hd => by
    have hn := drop_nil hd
    refine le_step ?_
    simp only [net_edges.l0, net_edges.L0]
    exact le_neg (by omega) le_rfl
  | y11 :: u11, i, hd => by
    have hw := w_next hd hlen
    have hx := drop_cons hd
    have ht := hx.2.2
    have h0 : (0 : Int) ≤ (i : Int) := by omega
    have h1 : (i : Int) < (x9.length : Int) := by have := hx.1; omega
    have h2 := h1
    have hy : (rd_T76 x9 (i : Int)) = y11 := rdT_head (t := T76) hd
    refine le_step ?_
    simp only [net_edges.l0, net_edges.L0]
    refine le_pos h1 ?_
    subst hy
    exact (le_pos h0 (le_pos h1 (le_len fun hlen_ => net_edges.L1_le ((rd_T76 x9 (i : Int)).f2) (rd_T76 x9 (i : Int)) x9 (x9.length : Int) (i : Int) x1_0 x1_1 x1_2 x1_3 _ (by rw [hw]; exact net_edges.L0_le x9 x1_0 x1_1 x1_2 x1_3 hlen u11 (i + 1) ht) hlen_ _ 0 rfl)))
def net_edges.g (l0_0 : List ByteArray) (l0_1 : List S86) (l0_2 : List ByteArray) (l0_3 : List S76) : Option Int := if l0_3.length ≤ 9223372036854775807 then (net_edges.L0 l0_2 l0_3) else (none)
theorem net_edges.le (l0_0 : List ByteArray) (l0_1 : List S86) (l0_2 : List ByteArray) (l0_3 : List S76) : Le (net_edges.g l0_0 l0_1 l0_2 l0_3) (fun k => net_edges.f k l0_0 l0_1 l0_2 l0_3) := (le_len fun hlen_ => net_edges.L0_le l0_3 l0_0 l0_1 l0_2 l0_3 hlen_ _ 0 rfl)
def net_clocksOf.L0 (x2_0 : List ByteArray) (x2_1 : List S86) (x2_2 : List ByteArray) (x2_3 : List S76) : List S43 → Option Int
 | [] => some 0
 | y9 :: u9 => (net_isClock.f x2_0 x2_1 x2_2 x2_3 (y9.f0)).bind fun t1 => (if (!t1) = true then (some 12) else (if (y9.f1) = 0 then (net_clocksOf.L0 x2_0 x2_1 x2_2 x2_3 u9) else ((net_isClock.f x2_0 x2_1 x2_2 x2_3 (y9.f1)).bind fun t2 => (if (!t2) = true then (some 12) else (net_clocksOf.L0 x2_0 x2_1 x2_2 x2_3 u9)))))
theorem net_clocksOf.L0_le (x7 : List S43) (x2_0 : List ByteArray) (x2_1 : List S86) (x2_2 : List ByteArray) (x2_3 : List S76) (hlen : x7.length ≤ 9223372036854775807) : ∀ (l : List S43) (i : Nat), List.drop i (x7) = l → Le (net_clocksOf.L0 x2_0 x2_1 x2_2 x2_3 l) (fun k => net_clocksOf.l0 k x7 (x7.length : Int) (i : Int) x2_0 x2_1 x2_2 x2_3)
  | [], i, hd => by
    have hn := drop_nil hd
    refine le_step ?_
    simp only [net_clocksOf.l0, net_clocksOf.L0]
    exact le_neg (by omega) le_rfl
  | y9 :: u9, i, hd => by
    have hw := w_next hd hlen
    have hx := drop_cons hd
    have ht := hx.2.2
    have h0 : (0 : Int) ≤ (i : Int) := by omega
    have h1 : (i : Int) < (x7.length : Int) := by have := hx.1; omega
    have h2 := h1
    have hy : (rd_T43 x7 (i : Int)) = y9 := rdT_head (t := T43) hd
    refine le_step ?_
    simp only [net_clocksOf.l0, net_clocksOf.L0]
    refine le_pos h1 ?_
    subst hy
    exact (le_pos h0 (le_pos h1 (le_bind le_rfl fun t1 => (le_ite le_rfl (le_ite (by rw [hw]; exact net_clocksOf.L0_le x7 x2_0 x2_1 x2_2 x2_3 hlen u9 (i + 1) ht) (le_bind le_rfl fun t2 => (le_ite le_rfl (by rw [hw]; exact net_clocksOf.L0_le x7 x2_0 x2_1 x2_2 x2_3 hlen u9 (i + 1) ht))))))))
def net_clocksOf.g (l0_0 : List ByteArray) (l0_1 : List S86) (l0_2 : List ByteArray) (l0_3 : List S76) (a1 : List S43) : Option Int := if a1.length ≤ 9223372036854775807 then (net_clocksOf.L0 l0_0 l0_1 l0_2 l0_3 a1) else (none)
theorem net_clocksOf.le (l0_0 : List ByteArray) (l0_1 : List S86) (l0_2 : List ByteArray) (l0_3 : List S76) (a1 : List S43) : Le (net_clocksOf.g l0_0 l0_1 l0_2 l0_3 a1) (fun k => net_clocksOf.f k l0_0 l0_1 l0_2 l0_3 a1) := (le_len fun hlen_ => net_clocksOf.L0_le a1 l0_0 l0_1 l0_2 l0_3 hlen_ _ 0 rfl)
def net_guards.L2 (K0 : (List S43) → Option (List S43)) : List S79 → (List S43) → Option (List S43)
 | [], x3 => K0 x3
 | y32 :: u32, x3 => if x3.length + (y32.f2).length ≤ 4398046511104 then (net_guards.L2 K0 u32 (x3 ++ y32.f2)) else (none)
theorem net_guards.L2_le (x30 : List S79) (x11 : List S76) (x12 : Int) (x13 : Int) (K0 : (List S43) → Option (List S43)) (hK0 : ∀ x3', Le (K0 x3') (fun k => net_guards.l0 k x3' x11 x12 (w64 (x13 + 1)))) (hlen : x30.length ≤ 9223372036854775807) : ∀ (l : List S79) (i : Nat) (x3 : List S43), List.drop i (x30) = l → Le (net_guards.L2 K0 l x3) (fun k => net_guards.l2 k x3 x11 x12 x13 x30 (x30.length : Int) (i : Int))
  | [], i, x3, hd => by
    have hn := drop_nil hd
    refine le_step ?_
    simp only [net_guards.l2, net_guards.L2]
    exact le_neg (by omega) (hK0 x3)
  | y32 :: u32, i, x3, hd => by
    have hw := w_next hd hlen
    have hx := drop_cons hd
    have ht := hx.2.2
    have h0 : (0 : Int) ≤ (i : Int) := by omega
    have h1 : (i : Int) < (x30.length : Int) := by have := hx.1; omega
    have h2 := h1
    have hy : (rd_T79 x30 (i : Int)) = y32 := rdT_head (t := T79) hd
    refine le_step ?_
    simp only [net_guards.l2, net_guards.L2]
    refine le_pos h1 ?_
    subst hy
    exact (le_pos h0 (le_pos h1 (le_ite (by rw [hw]; exact net_guards.L2_le x30 x11 x12 x13 K0 hK0 hlen u32 (i + 1) (x3 ++ (rd_T79 x30 (i : Int)).f2) ht) le_none)))
def net_guards.L1 (x5_2 : List S79) (K0 : (List S43) → Option (List S43)) : List S84 → (List S43) → Option (List S43)
 | [], x3 => if x5_2.length ≤ 9223372036854775807 then (net_guards.L2 K0 x5_2 x3) else (none)
 | y20 :: u20, x3 => if x3.length + (y20.f2).length ≤ 4398046511104 then (net_guards.L1 x5_2 K0 u20 (x3 ++ y20.f2)) else (none)
theorem net_guards.L1_le (x18 : List S84) (x11 : List S76) (x12 : Int) (x13 : Int) (x5_0 : ByteArray) (x5_1 : List S84) (x5_2 : List S79) (K0 : (List S43) → Option (List S43)) (hK0 : ∀ x3', Le (K0 x3') (fun k => net_guards.l0 k x3' x11 x12 (w64 (x13 + 1)))) (hlen : x18.length ≤ 9223372036854775807) : ∀ (l : List S84) (i : Nat) (x3 : List S43), List.drop i (x18) = l → Le (net_guards.L1 x5_2 K0 l x3) (fun k => net_guards.l1 k x3 x11 x12 x13 x18 (x18.length : Int) (i : Int) x5_0 x5_1 x5_2)
  | [], i, x3, hd => by
    have hn := drop_nil hd
    refine le_step ?_
    simp only [net_guards.l1, net_guards.L1]
    exact le_neg (by omega) (le_len fun hlen_ => net_guards.L2_le x5_2 x11 x12 x13 _ hK0 hlen_ _ 0 x3 rfl)
  | y20 :: u20, i, x3, hd => by
    have hw := w_next hd hlen
    have hx := drop_cons hd
    have ht := hx.2.2
    have h0 : (0 : Int) ≤ (i : Int) := by omega
    have h1 : (i : Int) < (x18.length : Int) := by have := hx.1; omega
    have h2 := h1
    have hy : (rd_T84 x18 (i : Int)) = y20 := rdT_head (t := T84) hd
    refine le_step ?_
    simp only [net_guards.l1, net_guards.L1]
    refine le_pos h1 ?_
    subst hy
    exact (le_pos h0 (le_pos h1 (le_ite (by rw [hw]; exact net_guards.L1_le x18 x11 x12 x13 x5_0 x5_1 x5_2 K0 hK0 hlen u20 (i + 1) (x3 ++ (rd_T84 x18 (i : Int)).f2) ht) le_none)))
def net_guards.L0 : List S76 → (List S43) → Option (List S43)
 | [], x3 => some x3
 | y13 :: u13, x3 => if (y13.f1).length ≤ 9223372036854775807 then (net_guards.L1 (y13.f2) (fun x3' => net_guards.L0 u13 x3') (y13.f1) x3) else (none)
theorem net_guards.L0_le (x11 : List S76) (hlen : x11.length ≤ 9223372036854775807) : ∀ (l : List S76) (i : Nat) (x3 : List S43), List.drop i (x11) = l → Le (net_guards.L0 l x3) (fun k => net_guards.l0 k x3 x11 (x11.length : Int) (i : Int))
  | [], i, x3, hd => by
    have hn := drop_nil hd
    refine le_step ?_
    simp only [net_guards.l0, net_guards.L0]
    exact le_neg (by omega) le_rfl
  | y13 :: u13, i, x3, hd => by
    have hw := w_next hd hlen
    have hx := drop_cons hd
    have ht := hx.2.2
    have h0 : (0 : Int) ≤ (i : Int) := by omega
    have h1 : (i : Int) < (x11.length : Int) := by have := hx.1; omega
    have h2 := h1
    have hy : (rd_T76 x11 (i : Int)) = y13 := rdT_head (t := T76) hd
    refine le_step ?_
    simp only [net_guards.l0, net_guards.L0]
    refine le_pos h1 ?_
    subst hy
    exact (le_pos h0 (le_pos h1 (le_len fun hlen_ => net_guards.L1_le ((rd_T76 x11 (i : Int)).f1) x11 (x11.length : Int) (i : Int) ((rd_T76 x11 (i : Int)).f0) ((rd_T76 x11 (i : Int)).f1) ((rd_T76 x11 (i : Int)).f2) _ (fun x3' => by rw [hw]; exact net_guards.L0_le x11 hlen u13 (i + 1) x3' ht) hlen_ _ 0 x3 rfl)))
def net_guards.g (l0_0 : List ByteArray) (l0_1 : List S86) (l0_2 : List ByteArray) (l0_3 : List S76) : Option (List S43) := if l0_3.length ≤ 9223372036854775807 then (net_guards.L0 l0_3 ([] : List S43)) else (none)
theorem net_guards.le (l0_0 : List ByteArray) (l0_1 : List S86) (l0_2 : List ByteArray) (l0_3 : List S76) : Le (net_guards.g l0_0 l0_1 l0_2 l0_3) (fun k => net_guards.f k l0_0 l0_1 l0_2 l0_3) := (le_len fun hlen_ => net_guards.L0_le l0_3 hlen_ _ 0 ([] : List S43) rfl)
def net_sets.L1 (K0 : (List S81) → Option (List S81)) : List S79 → (List S81) → Option (List S81)
 | [], x3 => K0 x3
 | y18 :: u18, x3 => if x3.length + (y18.f6).length ≤ 2932031007402 then (net_sets.L1 K0 u18 (x3 ++ y18.f6)) else (none)
theorem net_sets.L1_le (x16 : List S79) (x9 : List S76) (x10 : Int) (x11 : Int) (K0 : (List S81) → Option (List S81)) (hK0 : ∀ x3', Le (K0 x3') (fun k => net_sets.l0 k x3' x9 x10 (w64 (x11 + 1)))) (hlen : x16.length ≤ 9223372036854775807) : ∀ (l : List S79) (i : Nat) (x3 : List S81), List.drop i (x16) = l → Le (net_sets.L1 K0 l x3) (fun k => net_sets.l1 k x3 x9 x10 x11 x16 (x16.length : Int) (i : Int))
  | [], i, x3, hd => by
    have hn := drop_nil hd
    refine le_step ?_
    simp only [net_sets.l1, net_sets.L1]
    exact le_neg (by omega) (hK0 x3)
  | y18 :: u18, i, x3, hd => by
    have hw := w_next hd hlen
    have hx := drop_cons hd
    have ht := hx.2.2
    have h0 : (0 : Int) ≤ (i : Int) := by omega
    have h1 : (i : Int) < (x16.length : Int) := by have := hx.1; omega
    have h2 := h1
    have hy : (rd_T79 x16 (i : Int)) = y18 := rdT_head (t := T79) hd
    refine le_step ?_
    simp only [net_sets.l1, net_sets.L1]
    refine le_pos h1 ?_
    subst hy
    exact (le_pos h0 (le_pos h1 (le_ite (by rw [hw]; exact net_sets.L1_le x16 x9 x10 x11 K0 hK0 hlen u18 (i + 1) (x3 ++ (rd_T79 x16 (i : Int)).f6) ht) le_none)))
def net_sets.L0 : List S76 → (List S81) → Option (List S81)
 | [], x3 => some x3
 | y11 :: u11, x3 => if (y11.f2).length ≤ 9223372036854775807 then (net_sets.L1 (fun x3' => net_sets.L0 u11 x3') (y11.f2) x3) else (none)
theorem net_sets.L0_le (x9 : List S76) (hlen : x9.length ≤ 9223372036854775807) : ∀ (l : List S76) (i : Nat) (x3 : List S81), List.drop i (x9) = l → Le (net_sets.L0 l x3) (fun k => net_sets.l0 k x3 x9 (x9.length : Int) (i : Int))
  | [], i, x3, hd => by
    have hn := drop_nil hd
    refine le_step ?_
    simp only [net_sets.l0, net_sets.L0]
    exact le_neg (by omega) le_rfl
  | y11 :: u11, i, x3, hd => by
    have hw := w_next hd hlen
    have hx := drop_cons hd
    have ht := hx.2.2
    have h0 : (0 : Int) ≤ (i : Int) := by omega
    have h1 : (i : Int) < (x9.length : Int) := by have := hx.1; omega
    have h2 := h1
    have hy : (rd_T76 x9 (i : Int)) = y11 := rdT_head (t := T76) hd
    refine le_step ?_
    simp only [net_sets.l0, net_sets.L0]
    refine le_pos h1 ?_
    subst hy
    exact (le_pos h0 (le_pos h1 (le_len fun hlen_ => net_sets.L1_le ((rd_T76 x9 (i : Int)).f2) x9 (x9.length : Int) (i : Int) _ (fun x3' => by rw [hw]; exact net_sets.L0_le x9 hlen u11 (i + 1) x3' ht) hlen_ _ 0 x3 rfl)))
def net_sets.g (l0_0 : List ByteArray) (l0_1 : List S86) (l0_2 : List ByteArray) (l0_3 : List S76) : Option (List S81) := if l0_3.length ≤ 9223372036854775807 then (net_sets.L0 l0_3 ([] : List S81)) else (none)
theorem net_sets.le (l0_0 : List ByteArray) (l0_1 : List S86) (l0_2 : List ByteArray) (l0_3 : List S76) : Le (net_sets.g l0_0 l0_1 l0_2 l0_3) (fun k => net_sets.f k l0_0 l0_1 l0_2 l0_3) := (le_len fun hlen_ => net_sets.L0_le l0_3 hlen_ _ 0 ([] : List S81) rfl)
def net_clocks.L0 (x1_0 : List ByteArray) (x1_1 : List S86) (x1_2 : List ByteArray) (x1_3 : List S76) : List S81 → Option Int
 | [] => some 0
 | y16 :: u16 => if (y16.f0) = 0 then (net_clocks.L0 x1_0 x1_1 x1_2 x1_3 u16) else ((net_isClock.f x1_0 x1_1 x1_2 x1_3 (y16.f0)).bind fun t4 => (if (!t4) = true then (some 12) else (net_clocks.L0 x1_0 x1_1 x1_2 x1_3 u16)))
theorem net_clocks.L0_le (x14 : List S81) (x1_0 : List ByteArray) (x1_1 : List S86) (x1_2 : List ByteArray) (x1_3 : List S76) (hlen : x14.length ≤ 9223372036854775807) : ∀ (l : List S81) (i : Nat), List.drop i (x14) = l → Le (net_clocks.L0 x1_0 x1_1 x1_2 x1_3 l) (fun k => net_clocks.l0 k x14 (x14.length : Int) (i : Int) x1_0 x1_1 x1_2 x1_3)
  | [], i, hd => by
    have hn := drop_nil hd
    refine le_step ?_
    simp only [net_clocks.l0, net_clocks.L0]
    exact le_neg (by omega) le_rfl
  | y16 :: u16, i, hd => by
    have hw := w_next hd hlen
    have hx := drop_cons hd
    have ht := hx.2.2
    have h0 : (0 : Int) ≤ (i : Int) := by omega
    have h1 : (i : Int) < (x14.length : Int) := by have := hx.1; omega
    have h2 := h1
    have hy : (rd_T81 x14 (i : Int)) = y16 := rdT_head (t := T81) hd
    refine le_step ?_
    simp only [net_clocks.l0, net_clocks.L0]
    refine le_pos h1 ?_
    subst hy
    exact (le_pos h0 (le_pos h1 (le_ite (by rw [hw]; exact net_clocks.L0_le x14 x1_0 x1_1 x1_2 x1_3 hlen u16 (i + 1) ht) (le_bind le_rfl fun t4 => (le_ite le_rfl (by rw [hw]; exact net_clocks.L0_le x14 x1_0 x1_1 x1_2 x1_3 hlen u16 (i + 1) ht))))))
def net_clocks.g (l0_0 : List ByteArray) (l0_1 : List S86) (l0_2 : List ByteArray) (l0_3 : List S76) : Option Int := (net_guards.g l0_0 l0_1 l0_2 l0_3).bind fun t1 => ((net_clocksOf.g l0_0 l0_1 l0_2 l0_3 t1).bind fun t2 => (if t2 = 0 then ((net_sets.g l0_0 l0_1 l0_2 l0_3).bind fun t3 => (if t3.length ≤ 9223372036854775807 then (net_clocks.L0 l0_0 l0_1 l0_2 l0_3 t3) else (none))) else (some t2)))
theorem net_clocks.le (l0_0 : List ByteArray) (l0_1 : List S86) (l0_2 : List ByteArray) (l0_3 : List S76) : Le (net_clocks.g l0_0 l0_1 l0_2 l0_3) (fun k => net_clocks.f k l0_0 l0_1 l0_2 l0_3) := (le_bind (net_guards.le l0_0 l0_1 l0_2 l0_3) fun t1 => (le_bind (net_clocksOf.le l0_0 l0_1 l0_2 l0_3 t1) fun t2 => (le_ite (le_bind (net_sets.le l0_0 l0_1 l0_2 l0_3) fun t3 => (le_len fun hlen_ => net_clocks.L0_le t3 l0_0 l0_1 l0_2 l0_3 hlen_ _ 0 rfl)) le_rfl)))
def net_cmps.L0 : List S43 → Option Int
 | [] => some 0
 | y7 :: u7 => if (y7.f2) < 1 then (some 7) else (if (y7.f2) > 5 then (some 7) else (net_cmps.L0 u7))
theorem net_cmps.L0_le (x5 : List S43) (hlen : x5.length ≤ 9223372036854775807) : ∀ (l : List S43) (i : Nat), List.drop i (x5) = l → Le (net_cmps.L0 l) (fun k => net_cmps.l0 k x5 (x5.length : Int) (i : Int))
  | [], i, hd => by
    have hn := drop_nil hd
    refine le_step ?_
    simp only [net_cmps.l0, net_cmps.L0]
    exact le_neg (by omega) le_rfl
  | y7 :: u7, i, hd => by
    have hw := w_next hd hlen
    have hx := drop_cons hd
    have ht := hx.2.2
    have h0 : (0 : Int) ≤ (i : Int) := by omega
    have h1 : (i : Int) < (x5.length : Int) := by have := hx.1; omega
    have h2 := h1
    have hy : (rd_T43 x5 (i : Int)) = y7 := rdT_head (t := T43) hd
    refine le_step ?_
    simp only [net_cmps.l0, net_cmps.L0]
    refine le_pos h1 ?_
    subst hy
    exact (le_pos h0 (le_pos h1 (le_ite le_rfl (le_ite le_rfl (by rw [hw]; exact net_cmps.L0_le x5 hlen u7 (i + 1) ht)))))
def net_cmps.g (a0 : List S43) : Option Int := if a0.length ≤ 9223372036854775807 then (net_cmps.L0 a0) else (none)
theorem net_cmps.le (a0 : List S43) : Le (net_cmps.g a0) (fun k => net_cmps.f k a0) := (le_len fun hlen_ => net_cmps.L0_le a0 hlen_ _ 0 rfl)
def net_forms.L0 : List S81 → Option Int
 | [] => some 0
 | y15 :: u15 => if (y15.f0) = 0 then (if (y15.f1) = 0 then (if (y15.f0) = 0 then (net_forms.L0 u15) else (if (y15.f2) = 0 then (if ((y15.f3).length : Int) > 0 then (some 7) else (net_forms.L0 u15)) else (some 7))) else (some 7)) else (if (y15.f0) = 0 then (net_forms.L0 u15) else (if (y15.f2) = 0 then (if ((y15.f3).length : Int) > 0 then (some 7) else (net_forms.L0 u15)) else (some 7)))
theorem net_forms.L0_le (x13 : List S81) (hlen : x13.length ≤ 9223372036854775807) : ∀ (l : List S81) (i : Nat), List.drop i (x13) = l → Le (net_forms.L0 l) (fun k => net_forms.l0 k x13 (x13.length : Int) (i : Int))
  | [], i, hd => by
    have hn := drop_nil hd
    refine le_step ?_
    simp only [net_forms.l0, net_forms.L0]
    exact le_neg (by omega) le_rfl
  | y15 :: u15, i, hd => by
    have hw := w_next hd hlen
    have hx := drop_cons hd
    have ht := hx.2.2
    have h0 : (0 : Int) ≤ (i : Int) := by omega
    have h1 : (i : Int) < (x13.length : Int) := by have := hx.1; omega
    have h2 := h1
    have hy : (rd_T81 x13 (i : Int)) = y15 := rdT_head (t := T81) hd
    refine le_step ?_
    simp only [net_forms.l0, net_forms.L0]
    refine le_pos h1 ?_
    subst hy
    exact (le_pos h0 (le_pos h1 (le_ite (le_ite (le_ite (by rw [hw]; exact net_forms.L0_le x13 hlen u15 (i + 1) ht) (le_ite (le_ite le_rfl (by rw [hw]; exact net_forms.L0_le x13 hlen u15 (i + 1) ht)) le_rfl)) le_rfl) (le_ite (by rw [hw]; exact net_forms.L0_le x13 hlen u15 (i + 1) ht) (le_ite (le_ite le_rfl (by rw [hw]; exact net_forms.L0_le x13 hlen u15 (i + 1) ht)) le_rfl)))))
def net_forms.g (l0_0 : List ByteArray) (l0_1 : List S86) (l0_2 : List ByteArray) (l0_3 : List S76) : Option Int := (net_guards.g l0_0 l0_1 l0_2 l0_3).bind fun t1 => ((net_cmps.g t1).bind fun t2 => (if t2 = 0 then ((net_sets.g l0_0 l0_1 l0_2 l0_3).bind fun t3 => (if t3.length ≤ 9223372036854775807 then (net_forms.L0 t3) else (none))) else (some t2)))
theorem net_forms.le (l0_0 : List ByteArray) (l0_1 : List S86) (l0_2 : List ByteArray) (l0_3 : List S76) : Le (net_forms.g l0_0 l0_1 l0_2 l0_3) (fun k => net_forms.f k l0_0 l0_1 l0_2 l0_3) := (le_bind (net_guards.le l0_0 l0_1 l0_2 l0_3) fun t1 => (le_bind (net_cmps.le t1) fun t2 => (le_ite (le_bind (net_sets.le l0_0 l0_1 l0_2 l0_3) fun t3 => (le_len fun hlen_ => net_forms.L0_le t3 hlen_ _ 0 rfl)) le_rfl)))
open Classical in
def expr_Right.g (l : List S151) (n : Int) : Option Int := if opsOk l ∧ 0 ≤ n ∧ n ≤ 140737488355328 then some (sRight l n) else none
theorem expr_Right.le (l : List S151) (n : Int) : Le (expr_Right.g l n) (fun k => expr_Right.f k l n) := fun r h => by
  unfold expr_Right.g at h
  split at h
  · next hc => cases h; exact (right_evs hc.1 hc.2).1
  · cases h
def net_truth.g (l0_0 : List ByteArray) (l0_1 : List S86) (l0_2 : List ByteArray) (l0_3 : List S76) (a1 : List S151) : Option Int := if (a1.length : Int) > 0 then ((expr_Right.g a1 (l0_1.length : Int)).bind fun t1 => (if t1 = 0 then ((expr_IsTruth.f a1).bind fun t2 => (if (!t2) = true then (some 121) else (some 0))) else (some 121))) else (some 0)
theorem net_truth.le (l0_0 : List ByteArray) (l0_1 : List S86) (l0_2 : List ByteArray) (l0_3 : List S76) (a1 : List S151) : Le (net_truth.g l0_0 l0_1 l0_2 l0_3 a1) (fun k => net_truth.f k l0_0 l0_1 l0_2 l0_3 a1) := (le_ite (le_bind (expr_Right.le a1 (l0_1.length : Int)) fun t1 => (le_ite (le_bind le_rfl fun t2 => (le_ite le_rfl le_rfl)) le_rfl)) le_rfl)
def net_tests.L1 (x1_0 : List ByteArray) (x1_1 : List S86) (x1_2 : List ByteArray) (x1_3 : List S76) (K0 : Option Int) : List S79 → Option Int
 | [] => K0
 | y20 :: u20 => (net_truth.g x1_0 x1_1 x1_2 x1_3 (y20.f3)).bind fun t1 => (if t1 = 0 then (net_tests.L1 x1_0 x1_1 x1_2 x1_3 K0 u20) else (some t1))
theorem net_tests.L1_le (x18 : List S79) (x11 : List S76) (x12 : Int) (x13 : Int) (x1_0 : List ByteArray) (x1_1 : List S86) (x1_2 : List ByteArray) (x1_3 : List S76) (K0 : Option Int) (hK0 : Le (K0) (fun k => net_tests.l0 k x11 x12 (w64 (x13 + 1)) x1_0 x1_1 x1_2 x1_3)) (hlen : x18.length ≤ 9223372036854775807) : ∀ (l : List S79) (i : Nat), List.drop i (x18) = l → Le (net_tests.L1 x1_0 x1_1 x1_2 x1_3 K0 l) (fun k => net_tests.l1 k x11 x12 x13 x18 (x18.length : Int) (i : Int) x1_0 x1_1 x1_2 x1_3)
  | [], i, hd => by
    have hn := drop_nil hd
    refine le_step ?_
    simp only [net_tests.l1, net_tests.L1]
    exact le_neg (by omega) (hK0)
  | y20 :: u20, i, hd => by
    have hw := w_next hd hlen
    have hx := drop_cons hd
    have ht := hx.2.2
    have h0 : (0 : Int) ≤ (i : Int) := by omega
    have h1 : (i : Int) < (x18.length : Int) := by have := hx.1; omega
    have h2 := h1
    have hy : (rd_T79 x18 (i : Int)) = y20 := rdT_head (t := T79) hd
    refine le_step ?_
    simp only [net_tests.l1, net_tests.L1]
    refine le_pos h1 ?_
    subst hy
    exact (le_pos h0 (le_pos h1 (le_bind (net_truth.le x1_0 x1_1 x1_2 x1_3 ((rd_T79 x18 (i : Int)).f3)) fun t1 => (le_ite (by rw [hw]; exact net_tests.L1_le x18 x11 x12 x13 x1_0 x1_1 x1_2 x1_3 K0 hK0 hlen u20 (i + 1) ht) le_rfl))))
def net_tests.L2 (x1_1 : List S86) : List S81 → Option Int
 | [] => some 0
 | y36 :: u36 => if (y36.f0) = 0 then (if (y36.f2) < 0 then (some 121) else (if (y36.f2) ≥ (x1_1.length : Int) then (some 121) else ((expr_Right.g (y36.f3) (x1_1.length : Int)).bind fun t3 => (if t3 = 0 then ((expr_IsTruth.f (y36.f3)).bind fun t4 => (if t4 = true then (some 121) else (net_tests.L2 x1_1 u36))) else (some 121))))) else (net_tests.L2 x1_1 u36)
theorem net_tests.L2_le (x34 : List S81) (x1_0 : List ByteArray) (x1_1 : List S86) (x1_2 : List ByteArray) (x1_3 : List S76) (hlen : x34.length ≤ 9223372036854775807) : ∀ (l : List S81) (i : Nat), List.drop i (x34) = l → Le (net_tests.L2 x1_1 l) (fun k => net_tests.l2 k x34 (x34.length : Int) (i : Int) x1_0 x1_1 x1_2 x1_3)
  | [], i, hd => by
    have hn := drop_nil hd
    refine le_step ?_
    simp only [net_tests.l2, net_tests.L2]
    exact le_neg (by omega) le_rfl
  | y36 :: u36, i, hd => by
    have hw := w_next hd hlen
    have hx := drop_cons hd
    have ht := hx.2.2
    have h0 : (0 : Int) ≤ (i : Int) := by omega
    have h1 : (i : Int) < (x34.length : Int) := by have := hx.1; omega
    have h2 := h1
    have hy : (rd_T81 x34 (i : Int)) = y36 := rdT_head (t := T81) hd
    refine le_step ?_
    simp only [net_tests.l2, net_tests.L2]
    refine le_pos h1 ?_
    subst hy
    exact (le_pos h0 (le_pos h1 (le_ite (le_ite le_rfl (le_ite le_rfl (le_bind (expr_Right.le ((rd_T81 x34 (i : Int)).f3) (x1_1.length : Int)) fun t3 => (le_ite (le_bind le_rfl fun t4 => (le_ite le_rfl (by rw [hw]; exact net_tests.L2_le x34 x1_0 x1_1 x1_2 x1_3 hlen u36 (i + 1) ht))) le_rfl)))) (by rw [hw]; exact net_tests.L2_le x34 x1_0 x1_1 x1_2 x1_3 hlen u36 (i + 1) ht))))
def net_tests.L0 (x1_0 : List ByteArray) (x1_1 : List S86) (x1_2 : List ByteArray) (x1_3 : List S76) : List S76 → Option Int
 | [] => (net_sets.g x1_0 x1_1 x1_2 x1_3).bind fun t2 => (if t2.length ≤ 9223372036854775807 then (net_tests.L2 x1_1 t2) else (none))
 | y13 :: u13 => if (y13.f2).length ≤ 9223372036854775807 then (net_tests.L1 x1_0 x1_1 x1_2 x1_3 (net_tests.L0 x1_0 x1_1 x1_2 x1_3 u13) (y13.f2)) else (none)
theorem net_tests.L0_le (x11 : List S76) (x1_0 : List ByteArray) (x1_1 : List S86) (x1_2 : List ByteArray) (x1_3 : List S76) (hlen : x11.length ≤ 9223372036854775807) : ∀ (l : List S76) (i : Nat), List.drop i (x11) = l → Le (net_tests.L0 x1_0 x1_1 x1_2 x1_3 l) (fun k => net_tests.l0 k x11 (x11.length : Int) (i : Int) x1_0 x1_1 x1_2 x1_3)
  | [], i, hd => by
    have hn := drop_nil hd
    refine le_step ?_
    simp only [net_tests.l0, net_tests.L0]
    exact le_neg (by omega) (le_bind (net_sets.le x1_0 x1_1 x1_2 x1_3) fun t2 => (le_len fun hlen_ => net_tests.L2_le t2 x1_0 x1_1 x1_2 x1_3 hlen_ _ 0 rfl))
  | y13 :: u13, i, hd => by
    have hw := w_next hd hlen
    have hx := drop_cons hd
    have ht := hx.2.2
    have h0 : (0 : Int) ≤ (i : Int) := by omega
    have h1 : (i : Int) < (x11.length : Int) := by have := hx.1; omega
    have h2 := h1
    have hy : (rd_T76 x11 (i : Int)) = y13 := rdT_head (t := T76) hd
    refine le_step ?_
    simp only [net_tests.l0, net_tests.L0]
    refine le_pos h1 ?_
    subst hy
    exact (le_pos h0 (le_pos h1 (le_len fun hlen_ => net_tests.L1_le ((rd_T76 x11 (i : Int)).f2) x11 (x11.length : Int) (i : Int) x1_0 x1_1 x1_2 x1_3 _ (by rw [hw]; exact net_tests.L0_le x11 x1_0 x1_1 x1_2 x1_3 hlen u13 (i + 1) ht) hlen_ _ 0 rfl)))
def net_tests.g (l0_0 : List ByteArray) (l0_1 : List S86) (l0_2 : List ByteArray) (l0_3 : List S76) : Option Int := if l0_3.length ≤ 9223372036854775807 then (net_tests.L0 l0_0 l0_1 l0_2 l0_3 l0_3) else (none)
theorem net_tests.le (l0_0 : List ByteArray) (l0_1 : List S86) (l0_2 : List ByteArray) (l0_3 : List S76) : Le (net_tests.g l0_0 l0_1 l0_2 l0_3) (fun k => net_tests.f k l0_0 l0_1 l0_2 l0_3) := (le_len fun hlen_ => net_tests.L0_le l0_3 l0_0 l0_1 l0_2 l0_3 hlen_ _ 0 rfl)
def net_Whole.L0 (x1_0 : List ByteArray) (x1_1 : List S86) (x1_2 : List ByteArray) (x1_3 : List S76) : List DA0 → Option Int
 | [] => some 0
 | y10 :: u10 => (Sum.elim (fun (_ : Bool) => net_some.g x1_0 x1_1 x1_2 x1_3) (Sum.elim (fun (_ : Bool) => net_sizes.g x1_0 x1_1 x1_2 x1_3) (Sum.elim (fun (_ : Bool) => net_names.g x1_0 x1_1 x1_2 x1_3) (Sum.elim (fun (_ : Bool) => net_vars.g x1_0 x1_1 x1_2 x1_3) (Sum.elim (fun (_ : Bool) => net_locs.g x1_0 x1_1 x1_2 x1_3) (Sum.elim (fun (_ : Bool) => net_edges.g x1_0 x1_1 x1_2 x1_3) (Sum.elim (fun (_ : Bool) => net_clocks.g x1_0 x1_1 x1_2 x1_3) (Sum.elim (fun (_ : Bool) => net_forms.g x1_0 x1_1 x1_2 x1_3) (Sum.elim (fun (_ : Bool) => net_tests.g x1_0 x1_1 x1_2 x1_3) (fun _ => none))))))))) y10).bind fun t1 => (if t1 = 0 then (net_Whole.L0 x1_0 x1_1 x1_2 x1_3 u10) else (some t1))
theorem net_Whole.L0_le (x8 : List DA0) (x1_0 : List ByteArray) (x1_1 : List S86) (x1_2 : List ByteArray) (x1_3 : List S76) (hlen : x8.length ≤ 9223372036854775807) : ∀ (l : List DA0) (i : Nat), List.drop i (x8) = l → Le (net_Whole.L0 x1_0 x1_1 x1_2 x1_3 l) (fun k => net_Whole.l0 k x8 (x8.length : Int) (i : Int) x1_0 x1_1 x1_2 x1_3)
  | [], i, hd => by
    have hn := drop_nil hd
    refine le_step ?_
    simp only [net_Whole.l0, net_Whole.L0]
    exact le_neg (by omega) le_rfl
  | y10 :: u10, i, hd => by
    have hw := w_next hd hlen
    have hx := drop_cons hd
    have ht := hx.2.2
    have h0 : (0 : Int) ≤ (i : Int) := by omega
    have h1 : (i : Int) < (x8.length : Int) := by have := hx.1; omega
    have h2 := h1
    have hy : (rdT A0 x8 (i : Int)) = y10 := rdT_head (t := A0) hd
    refine le_step ?_
    simp only [net_Whole.l0, net_Whole.L0]
    refine le_pos h1 ?_
    subst hy
    exact (le_pos h0 (le_pos h1 (le_bind (le_elim (fun (_ : Bool) => (net_some.le x1_0 x1_1 x1_2 x1_3)) (fun _ => le_elim (fun (_ : Bool) => (net_sizes.le x1_0 x1_1 x1_2 x1_3)) (fun _ => le_elim (fun (_ : Bool) => (net_names.le x1_0 x1_1 x1_2 x1_3)) (fun _ => le_elim (fun (_ : Bool) => (net_vars.le x1_0 x1_1 x1_2 x1_3)) (fun _ => le_elim (fun (_ : Bool) => (net_locs.le x1_0 x1_1 x1_2 x1_3)) (fun _ => le_elim (fun (_ : Bool) => (net_edges.le x1_0 x1_1 x1_2 x1_3)) (fun _ => le_elim (fun (_ : Bool) => (net_clocks.le x1_0 x1_1 x1_2 x1_3)) (fun _ => le_elim (fun (_ : Bool) => (net_forms.le x1_0 x1_1 x1_2 x1_3)) (fun _ => le_elim (fun (_ : Bool) => (net_tests.le x1_0 x1_1 x1_2 x1_3)) (fun _ => le_none)))))))))) fun t1 => (le_ite (by rw [hw]; exact net_Whole.L0_le x8 x1_0 x1_1 x1_2 x1_3 hlen u10 (i + 1) ht) le_rfl))))
def net_Whole.g (l0_0 : List ByteArray) (l0_1 : List S86) (l0_2 : List ByteArray) (l0_3 : List S76) : Option Int := if ([(Sum.inl false), (Sum.inr (Sum.inl false)), (Sum.inr (Sum.inr (Sum.inl false))), (Sum.inr (Sum.inr (Sum.inr (Sum.inl false)))), (Sum.inr (Sum.inr (Sum.inr (Sum.inr (Sum.inl false))))), (Sum.inr (Sum.inr (Sum.inr (Sum.inr (Sum.inr (Sum.inl false)))))), (Sum.inr (Sum.inr (Sum.inr (Sum.inr (Sum.inr (Sum.inr (Sum.inl false))))))), (Sum.inr (Sum.inr (Sum.inr (Sum.inr (Sum.inr (Sum.inr (Sum.inr (Sum.inl false)))))))), (Sum.inr (Sum.inr (Sum.inr (Sum.inr (Sum.inr (Sum.inr (Sum.inr (Sum.inr (Sum.inl false)))))))))] : List DA0).length ≤ 9223372036854775807 then (net_Whole.L0 l0_0 l0_1 l0_2 l0_3 ([(Sum.inl false), (Sum.inr (Sum.inl false)), (Sum.inr (Sum.inr (Sum.inl false))), (Sum.inr (Sum.inr (Sum.inr (Sum.inl false)))), (Sum.inr (Sum.inr (Sum.inr (Sum.inr (Sum.inl false))))), (Sum.inr (Sum.inr (Sum.inr (Sum.inr (Sum.inr (Sum.inl false)))))), (Sum.inr (Sum.inr (Sum.inr (Sum.inr (Sum.inr (Sum.inr (Sum.inl false))))))), (Sum.inr (Sum.inr (Sum.inr (Sum.inr (Sum.inr (Sum.inr (Sum.inr (Sum.inl false)))))))), (Sum.inr (Sum.inr (Sum.inr (Sum.inr (Sum.inr (Sum.inr (Sum.inr (Sum.inr (Sum.inl false)))))))))] : List DA0)) else (none)
theorem net_Whole.le (l0_0 : List ByteArray) (l0_1 : List S86) (l0_2 : List ByteArray) (l0_3 : List S76) : Le (net_Whole.g l0_0 l0_1 l0_2 l0_3) (fun k => net_Whole.f k l0_0 l0_1 l0_2 l0_3) := (le_len fun hlen_ => net_Whole.L0_le ([(Sum.inl false), (Sum.inr (Sum.inl false)), (Sum.inr (Sum.inr (Sum.inl false))), (Sum.inr (Sum.inr (Sum.inr (Sum.inl false)))), (Sum.inr (Sum.inr (Sum.inr (Sum.inr (Sum.inl false))))), (Sum.inr (Sum.inr (Sum.inr (Sum.inr (Sum.inr (Sum.inl false)))))), (Sum.inr (Sum.inr (Sum.inr (Sum.inr (Sum.inr (Sum.inr (Sum.inl false))))))), (Sum.inr (Sum.inr (Sum.inr (Sum.inr (Sum.inr (Sum.inr (Sum.inr (Sum.inl false)))))))), (Sum.inr (Sum.inr (Sum.inr (Sum.inr (Sum.inr (Sum.inr (Sum.inr (Sum.inr (Sum.inl false)))))))))] : List DA0) l0_0 l0_1 l0_2 l0_3 hlen_ _ 0 rfl)
def r10_long.L6 (K4 : Option Bool) : List S81 → Option Bool
 | [] => K4
 | y8 :: u8 => if ((y8.f3).length : Int) > 64 then (some true) else (r10_long.L6 K4 u8)
theorem r10_long.L6_le (x7_6 : List S81) (x3 : Int) (x6 : Int) (x1_0 : List ByteArray) (x1_1 : List S86) (x1_2 : List ByteArray) (x1_3 : List S76) (x4_0 : ByteArray) (x4_1 : List S84) (x4_2 : List S79) (x7_0 : Int) (x7_1 : Int) (x7_2 : List S43) (x7_3 : List S151) (x7_4 : Int) (x7_5 : Bool) (K4 : Option Bool) (hK4 : Le (K4) (fun k => r10_long.l4 k x3 (w64 (x6 + 1)) x1_0 x1_1 x1_2 x1_3 x4_0 x4_1 x4_2)) (hlen : x7_6.length ≤ 9223372036854775807) : ∀ (l : List S81) (i : Nat), List.drop i (x7_6) = l → Le (r10_long.L6 K4 l) (fun k => r10_long.l6 k x3 x6 (i : Int) x1_0 x1_1 x1_2 x1_3 x4_0 x4_1 x4_2 x7_0 x7_1 x7_2 x7_3 x7_4 x7_5 x7_6)
  | [], i, hd => by
    have hn := drop_nil hd
    refine le_step ?_
    simp only [r10_long.l6, r10_long.L6]
    exact le_neg (by omega) (hK4)
  | y8 :: u8, i, hd => by
    have hw := w_next hd hlen
    have hx := drop_cons hd
    have ht := hx.2.2
    have h0 : (0 : Int) ≤ (i : Int) := by omega
    have h1 : (i : Int) < (x7_6.length : Int) := by have := hx.1; omega
    have hy : (rd_T81 x7_6 (i : Int)) = y8 := rdT_head (t := T81) hd
    refine le_step ?_
    simp only [r10_long.l6, r10_long.L6]
    refine le_pos h1 ?_
    subst hy
    exact (le_pos h0 (le_pos h1 (le_ite le_rfl (by rw [hw]; exact r10_long.L6_le x7_6 x3 x6 x1_0 x1_1 x1_2 x1_3 x4_0 x4_1 x4_2 x7_0 x7_1 x7_2 x7_3 x7_4 x7_5 K4 hK4 hlen u8 (i + 1) ht))))
def r10_long.L4 (K1 : Option Bool) : List S79 → Option Bool
 | [] => K1
 | y6 :: u6 => if ((y6.f2).length : Int) > 16 then (some true) else (if ((y6.f6).length : Int) > 16 then (some true) else (if ((y6.f3).length : Int) > 64 then (some true) else (if (y6.f6).length ≤ 9223372036854775807 then (r10_long.L6 (r10_long.L4 K1 u6) (y6.f6)) else (none))))
theorem r10_long.L4_le (x4_2 : List S79) (x3 : Int) (x1_0 : List ByteArray) (x1_1 : List S86) (x1_2 : List ByteArray) (x1_3 : List S76) (x4_0 : ByteArray) (x4_1 : List S84) (K1 : Option Bool) (hK1 : Le (K1) (fun k => r10_long.l1 k (w64 (x3 + 1)) x1_0 x1_1 x1_2 x1_3)) (hlen : x4_2.length ≤ 9223372036854775807) : ∀ (l : List S79) (i : Nat), List.drop i (x4_2) = l → Le (r10_long.L4 K1 l) (fun k => r10_long.l4 k x3 (i : Int) x1_0 x1_1 x1_2 x1_3 x4_0 x4_1 x4_2)
  | [], i, hd => by
    have hn := drop_nil hd
    refine le_step ?_
    simp only [r10_long.l4, r10_long.L4]
    exact le_neg (by omega) (hK1)
  | y6 :: u6, i, hd => by
    have hw := w_next hd hlen
    have hx := drop_cons hd
    have ht := hx.2.2
    have h0 : (0 : Int) ≤ (i : Int) := by omega
    have h1 : (i : Int) < (x4_2.length : Int) := by have := hx.1; omega
    have hy : (rd_T79 x4_2 (i : Int)) = y6 := rdT_head (t := T79) hd
    refine le_step ?_
    simp only [r10_long.l4, r10_long.L4]
    refine le_pos h1 ?_
    subst hy
    exact (le_pos h0 (le_pos h1 (le_ite le_rfl (le_ite le_rfl (le_ite le_rfl (le_step (by simp only [r10_long.j5]; exact (le_len fun hlen_ => r10_long.L6_le ((rd_T79 x4_2 (i : Int)).f6) x3 (i : Int) x1_0 x1_1 x1_2 x1_3 x4_0 x4_1 x4_2 ((rd_T79 x4_2 (i : Int)).f0) ((rd_T79 x4_2 (i : Int)).f1) ((rd_T79 x4_2 (i : Int)).f2) ((rd_T79 x4_2 (i : Int)).f3) ((rd_T79 x4_2 (i : Int)).f4) ((rd_T79 x4_2 (i : Int)).f5) _ (by rw [hw]; exact r10_long.L4_le x4_2 x3 x1_0 x1_1 x1_2 x1_3 x4_0 x4_1 K1 hK1 hlen u6 (i + 1) ht) hlen_ _ 0 rfl))))))))
def r10_long.L3 (x4_2 : List S79) (K1 : Option Bool) : List S84 → Option Bool
 | [] => if x4_2.length ≤ 9223372036854775807 then (r10_long.L4 K1 x4_2) else (none)
 | y5 :: u5 => if ((y5.f2).length : Int) > 16 then (some true) else (r10_long.L3 x4_2 K1 u5)
theorem r10_long.L3_le (x4_1 : List S84) (x3 : Int) (x1_0 : List ByteArray) (x1_1 : List S86) (x1_2 : List ByteArray) (x1_3 : List S76) (x4_0 : ByteArray) (x4_2 : List S79) (K1 : Option Bool) (hK1 : Le (K1) (fun k => r10_long.l1 k (w64 (x3 + 1)) x1_0 x1_1 x1_2 x1_3)) (hlen : x4_1.length ≤ 9223372036854775807) : ∀ (l : List S84) (i : Nat), List.drop i (x4_1) = l → Le (r10_long.L3 x4_2 K1 l) (fun k => r10_long.l3 k x3 (i : Int) x1_0 x1_1 x1_2 x1_3 x4_0 x4_1 x4_2)
  | [], i, hd => by
    have hn := drop_nil hd
    refine le_step ?_
    simp only [r10_long.l3, r10_long.L3]
    exact le_neg (by omega) (le_len fun hlen_ => r10_long.L4_le x4_2 x3 x1_0 x1_1 x1_2 x1_3 x4_0 x4_1 _ hK1 hlen_ _ 0 rfl)
  | y5 :: u5, i, hd => by
    have hw := w_next hd hlen
    have hx := drop_cons hd
    have ht := hx.2.2
    have h0 : (0 : Int) ≤ (i : Int) := by omega
    have h1 : (i : Int) < (x4_1.length : Int) := by have := hx.1; omega
    have hy : (rd_T84 x4_1 (i : Int)) = y5 := rdT_head (t := T84) hd
    refine le_step ?_
    simp only [r10_long.l3, r10_long.L3]
    refine le_pos h1 ?_
    subst hy
    exact (le_pos h0 (le_pos h1 (le_ite le_rfl (by rw [hw]; exact r10_long.L3_le x4_1 x3 x1_0 x1_1 x1_2 x1_3 x4_0 x4_2 K1 hK1 hlen u5 (i + 1) ht))))
def r10_long.L1 : List S76 → Option Bool
 | [] => some false
 | y3 :: u3 => if ((y3.f1).length : Int) > 64 then (some true) else (if ((y3.f2).length : Int) > 256 then (some true) else (if (y3.f1).length ≤ 9223372036854775807 then (r10_long.L3 (y3.f2) (r10_long.L1 u3) (y3.f1)) else (none)))
theorem r10_long.L1_le (x1_3 : List S76) (x1_0 : List ByteArray) (x1_1 : List S86) (x1_2 : List ByteArray) (hlen : x1_3.length ≤ 9223372036854775807) : ∀ (l : List S76) (i : Nat), List.drop i (x1_3) = l → Le (r10_long.L1 l) (fun k => r10_long.l1 k (i : Int) x1_0 x1_1 x1_2 x1_3)
  | [], i, hd => by
    have hn := drop_nil hd
    refine le_step ?_
    simp only [r10_long.l1, r10_long.L1]
    exact le_neg (by omega) le_rfl
  | y3 :: u3, i, hd => by
    have hw := w_next hd hlen
    have hx := drop_cons hd
    have ht := hx.2.2
    have h0 : (0 : Int) ≤ (i : Int) := by omega
    have h1 : (i : Int) < (x1_3.length : Int) := by have := hx.1; omega
    have hy : (rd_T76 x1_3 (i : Int)) = y3 := rdT_head (t := T76) hd
    refine le_step ?_
    simp only [r10_long.l1, r10_long.L1]
    refine le_pos h1 ?_
    subst hy
    exact (le_pos h0 (le_pos h1 (le_ite le_rfl (le_ite le_rfl (le_step (by simp only [r10_long.j2]; exact (le_len fun hlen_ => r10_long.L3_le ((rd_T76 x1_3 (i : Int)).f1) (i : Int) x1_0 x1_1 x1_2 x1_3 ((rd_T76 x1_3 (i : Int)).f0) ((rd_T76 x1_3 (i : Int)).f2) _ (by rw [hw]; exact r10_long.L1_le x1_3 x1_0 x1_1 x1_2 hlen u3 (i + 1) ht) hlen_ _ 0 rfl)))))))
def r10_long.g (l0_0 : List ByteArray) (l0_1 : List S86) (l0_2 : List ByteArray) (l0_3 : List S76) : Option Bool := if (l0_0.length : Int) > 8 then (some true) else (if (l0_1.length : Int) > 16 then (some true) else (if (l0_2.length : Int) > 16 then (some true) else (if (l0_3.length : Int) > 8 then (some true) else (if l0_3.length ≤ 9223372036854775807 then (r10_long.L1 l0_3) else (none)))))
theorem r10_long.le (l0_0 : List ByteArray) (l0_1 : List S86) (l0_2 : List ByteArray) (l0_3 : List S76) : Le (r10_long.g l0_0 l0_1 l0_2 l0_3) (fun k => r10_long.f k l0_0 l0_1 l0_2 l0_3) := (le_ite le_rfl (le_ite le_rfl (le_ite le_rfl (le_ite le_rfl (le_step (by simp only [r10_long.j0]; exact (le_len fun hlen_ => r10_long.L1_le l0_3 l0_0 l0_1 l0_2 hlen_ _ 0 rfl)))))))
def r09_IsName.g (s : ByteArray) : Option Bool := if s.size ≤ cap then some (refName s) else none
theorem r09_IsName.le (s : ByteArray) : Le (r09_IsName.g s) (fun k => r09_IsName.f k s) := fun r h => by
  unfold r09_IsName.g at h
  split at h
  · next hc => cases h; exact refName_ev hc
  · cases h
def r10_isName.g (a0 : ByteArray) : Option Bool := (r09_IsName.g a0).bind fun t1 => (if t1 = true then (some (decide ((a0.size : Int) ≤ 16))) else (some false))
theorem r10_isName.le (a0 : ByteArray) : Le (r10_isName.g a0) (fun k => r10_isName.f k a0) := (le_bind (r09_IsName.le a0) fun t1 => (le_ite le_rfl le_rfl))
def r10_named.L : List ByteArray → List ByteArray → Option Bool
 | [], _ => some true
 | x :: t, p => (r10_isName.g x).bind fun b => if (!b) = true then some false else if (p.any fun y => decide (y = x)) = true then some false else r10_named.L t (p ++ [x])
theorem r10_named.L1_le {l : List ByteArray} (hlen : l.length ≤ 9223372036854775807) {x : ByteArray} {t : List ByteArray} {i : Nat} (hi : l.drop i = x :: t) {X : Option Bool} (hX : Le X (fun k => r10_named.l0 k l (w64 ((i : Int) + 1)))) :
    ∀ (q : List ByteArray) (j : Nat), (l.take i).drop j = q → Le (if (q.any fun y => decide (y = x)) = true then some false else X) (fun k => r10_named.l1 k l (i : Int) (j : Int))
  | [], j, h => by
    have h1 := drop_nil h
    have h2 := (drop_cons hi).1
    rw [List.length_take, Nat.min_eq_left (by omega)] at h1
    rw [if_neg (by simp)]
    refine le_step ?_
    simp only [r10_named.l1]
    exact le_neg (by omega) hX
  | y :: q, j, h => by
    obtain ⟨h1, h3, h4⟩ := drop_cons h
    have h2 := (drop_cons hi).1
    rw [List.length_take, Nat.min_eq_left (by omega)] at h1
    have hy : rdT .str l (j : Int) = y := by
      rw [List.getElem?_take_of_lt h1] at h3
      simp [rdT, h3]
    have hx : rdT .str l (i : Int) = x := rdT_head (t := .str) hi
    have ih := r10_named.L1_le hlen hi hX q (j + 1) h4
    have hw : w64 ((j : Int) + 1) = ((j + 1 : Nat) : Int) := by show RowKit.wrap64 _ = _; unfold RowKit.wrap64; omega
    refine le_step ?_
    simp only [r10_named.l1]
    refine le_pos (by omega) (le_pos (by omega) (le_pos (by omega) (le_pos (by omega) (le_pos (by omega) ?_))))
    rw [hy, hx, hw]
    rw [List.any_cons]
    by_cases hxy : y = x
    · rw [decide_eq_true hxy, Bool.true_or, if_pos rfl]
      exact le_pos hxy le_rfl
    · rw [decide_eq_false hxy, Bool.false_or]
      exact le_neg hxy ih
theorem r10_named.L0_le {l : List ByteArray} (hlen : l.length ≤ 9223372036854775807) : ∀ (t : List ByteArray) (i : Nat), l.drop i = t → Le (r10_named.L t (l.take i)) (fun k => r10_named.l0 k l (i : Int))
  | [], i, h => by
    have h1 := drop_nil h
    refine le_step ?_
    simp only [r10_named.l0, r10_named.L]
    exact le_neg (by omega) le_rfl
  | x :: t, i, h => by
    obtain ⟨h1, h3, h4⟩ := drop_cons h
    have hx : rdT .str l (i : Int) = x := rdT_head (t := .str) h
    have ih := r10_named.L0_le hlen t (i + 1) h4
    have hw := w_next h hlen
    have ht : l.take (i + 1) = l.take i ++ [x] := by rw [List.take_add_one, h3]; rfl
    rw [ht] at ih
    rw [← hw] at ih
    refine le_step ?_
    simp only [r10_named.l0, r10_named.L]
    refine le_pos (by omega) (le_pos (by omega) (le_pos (by omega) ?_))
    rw [hx]
    refine le_bind (r10_isName.le x) fun b => le_ite le_rfl ?_
    exact r10_named.L1_le hlen h ih (l.take i) 0 rfl
def r10_named.g (l : List ByteArray) : Option Bool := if l.length ≤ 9223372036854775807 then r10_named.L l [] else none
theorem r10_named.le (l : List ByteArray) : Le (r10_named.g l) (fun k => r10_named.f k l) := le_len fun hlen => r10_named.L0_le hlen l 0 rfl
def r10_Names.L0 : List S86 → (List ByteArray) → Option (List ByteArray)
 | [], x3 => some x3
 | y4 :: u4, x3 => if x3.length < 8796093022208 then (r10_Names.L0 u4 (x3 ++ [y4.f0])) else (none)
theorem r10_Names.L0_le (x1_1 : List S86) (x1_0 : List ByteArray) (x1_2 : List ByteArray) (x1_3 : List S76) (hlen : x1_1.length ≤ 9223372036854775807) : ∀ (l : List S86) (i : Nat) (x3 : List ByteArray), List.drop i (x1_1) = l → Le (r10_Names.L0 l x3) (fun k => r10_Names.l0 k x3 (i : Int) x1_0 x1_1 x1_2 x1_3)
  | [], i, x3, hd => by
    have hn := drop_nil hd
    refine le_step ?_
    simp only [r10_Names.l0, r10_Names.L0]
    exact le_neg (by omega) le_rfl
  | y4 :: u4, i, x3, hd => by
    have hw := w_next hd hlen
    have hx := drop_cons hd
    have ht := hx.2.2
    have h0 : (0 : Int) ≤ (i : Int) := by omega
    have h1 : (i : Int) < (x1_1.length : Int) := by have := hx.1; omega
    have hy : (rd_T86 x1_1 (i : Int)) = y4 := rdT_head (t := T86) hd
    refine le_step ?_
    simp only [r10_Names.l0, r10_Names.L0]
    refine le_pos h1 ?_
    subst hy
    exact (le_pos h0 (le_pos h1 (le_ite (by rw [hw]; exact r10_Names.L0_le x1_1 x1_0 x1_2 x1_3 hlen u4 (i + 1) (x3 ++ [(rd_T86 x1_1 (i : Int)).f0]) ht) le_none)))
def r10_Names.g (l0_0 : List ByteArray) (l0_1 : List S86) (l0_2 : List ByteArray) (l0_3 : List S76) : Option (List ByteArray) := if l0_1.length ≤ 9223372036854775807 then (r10_Names.L0 l0_1 ([] : List ByteArray)) else (none)
theorem r10_Names.le (l0_0 : List ByteArray) (l0_1 : List S86) (l0_2 : List ByteArray) (l0_3 : List S76) : Le (r10_Names.g l0_0 l0_1 l0_2 l0_3) (fun k => r10_Names.f k l0_0 l0_1 l0_2 l0_3) := (le_len fun hlen_ => r10_Names.L0_le l0_1 l0_0 l0_2 l0_3 hlen_ _ 0 ([] : List ByteArray) rfl)
def r10_names.L0 : List S76 → (List ByteArray) → Option (List ByteArray)
 | [], x3 => some x3
 | y4 :: u4, x3 => if x3.length < 8796093022208 then (r10_names.L0 u4 (x3 ++ [y4.f0])) else (none)
theorem r10_names.L0_le (x1_3 : List S76) (x1_0 : List ByteArray) (x1_1 : List S86) (x1_2 : List ByteArray) (hlen : x1_3.length ≤ 9223372036854775807) : ∀ (l : List S76) (i : Nat) (x3 : List ByteArray), List.drop i (x1_3) = l → Le (r10_names.L0 l x3) (fun k => r10_names.l0 k x3 (i : Int) x1_0 x1_1 x1_2 x1_3)
  | [], i, x3, hd => by
    have hn := drop_nil hd
    refine le_step ?_
    simp only [r10_names.l0, r10_names.L0]
    exact le_neg (by omega) le_rfl
  | y4 :: u4, i, x3, hd => by
    have hw := w_next hd hlen
    have hx := drop_cons hd
    have ht := hx.2.2
    have h0 : (0 : Int) ≤ (i : Int) := by omega
    have h1 : (i : Int) < (x1_3.length : Int) := by have := hx.1; omega
    have hy : (rd_T76 x1_3 (i : Int)) = y4 := rdT_head (t := T76) hd
    refine le_step ?_
    simp only [r10_names.l0, r10_names.L0]
    refine le_pos h1 ?_
    subst hy
    exact (le_pos h0 (le_pos h1 (le_ite (by rw [hw]; exact r10_names.L0_le x1_3 x1_0 x1_1 x1_2 hlen u4 (i + 1) (x3 ++ [(rd_T76 x1_3 (i : Int)).f0]) ht) le_none)))
def r10_names.g (l0_0 : List ByteArray) (l0_1 : List S86) (l0_2 : List ByteArray) (l0_3 : List S76) : Option (List ByteArray) := if ([] : List ByteArray).length + l0_0.length ≤ 8796093022208 then ((r10_Names.g l0_0 l0_1 l0_2 l0_3).bind fun t1 => (if (([] : List ByteArray) ++ l0_0).length + t1.length ≤ 8796093022208 then (if ((([] : List ByteArray) ++ l0_0) ++ t1).length + l0_2.length ≤ 8796093022208 then (if l0_3.length ≤ 9223372036854775807 then (r10_names.L0 l0_3 (((([] : List ByteArray) ++ l0_0) ++ t1) ++ l0_2)) else (none)) else (none)) else (none))) else (none)
theorem r10_names.le (l0_0 : List ByteArray) (l0_1 : List S86) (l0_2 : List ByteArray) (l0_3 : List S76) : Le (r10_names.g l0_0 l0_1 l0_2 l0_3) (fun k => r10_names.f k l0_0 l0_1 l0_2 l0_3) := (le_ite (le_bind (r10_Names.le l0_0 l0_1 l0_2 l0_3) fun t1 => (le_ite (le_ite (le_len fun hlen_ => r10_names.L0_le l0_3 l0_0 l0_1 l0_2 hlen_ _ 0 (((([] : List ByteArray) ++ l0_0) ++ t1) ++ l0_2) rfl) le_none) le_none)) le_none)
def r10_wrongNames.L : List S76 → Option Bool
 | [] => some false
 | x :: t => if x.f1.length ≤ 4398046511104 then (r10_named.g (x.f1.map fun l => l.f0)).bind fun b => if (!b) = true then some true else r10_wrongNames.L t else none
theorem r10_wrongNames.L1_le {a : List ByteArray} {b : List S86} {c : List ByteArray} {d : List S76} {i : Nat} {x : S76} {t : List S76} (hi : d.drop i = x :: t) (hx : x.f1.length ≤ 4398046511104) {X : Option Bool} (hX : Le X (fun k => r10_wrongNames.l0 k (w64 ((i : Int) + 1)) a b c d)) :
    ∀ (q : List S84) (j : Nat) (acc : List ByteArray), x.f1.drop j = q → acc.length = j → Le ((r10_named.g (acc ++ q.map fun l => l.f0)).bind fun b => if (!b) = true then some true else X) (fun k => r10_wrongNames.l1 k (i : Int) acc (j : Int) a b c d)
  | [], j, acc, h, ha => by
    have h1 := drop_nil h
    have h2 := (drop_cons hi).1
    have e : rdT T76 d (i : Int) = x := rdT_head (t := T76) hi
    refine le_step ?_
    simp only [r10_wrongNames.l1]
    refine le_pos (by omega) (le_pos (by omega) ?_)
    rw [show rd_T76 d (i : Int) = x from e]
    refine le_neg (by omega) ?_
    rw [List.map_nil, List.append_nil]
    exact le_bind (r10_named.le acc) fun _ => le_ite le_rfl hX
  | y :: q, j, acc, h, ha => by
    obtain ⟨h1, h3, h4⟩ := drop_cons h
    have h2 := (drop_cons hi).1
    have e : rdT T76 d (i : Int) = x := rdT_head (t := T76) hi
    have e2 : rdT T84 x.f1 (j : Int) = y := rdT_head (t := T84) h
    have ih := r10_wrongNames.L1_le hi hx hX q (j + 1) (acc ++ [y.f0]) h4 (by simp [ha])
    rw [← w_next h (by omega)] at ih
    refine le_step ?_
    simp only [r10_wrongNames.l1]
    refine le_pos (by omega) (le_pos (by omega) ?_)
    rw [show rd_T76 d (i : Int) = x from e, show rd_T84 x.f1 (j : Int) = y from e2]
    refine le_pos (by omega) (le_pos (by omega) (le_pos (by omega) (le_pos (by omega) (le_pos (by omega) (le_pos (by omega) ?_)))))
    rw [List.append_assoc] at ih
    exact ih
theorem r10_wrongNames.L_le {a : List ByteArray} {b : List S86} {c : List ByteArray} {d : List S76} (hlen : d.length ≤ 9223372036854775807) : ∀ (t : List S76) (i : Nat), d.drop i = t → Le (r10_wrongNames.L t) (fun k => r10_wrongNames.l0 k (i : Int) a b c d)
  | [], i, h => by
    have h1 := drop_nil h
    refine le_step ?_
    simp only [r10_wrongNames.l0, r10_wrongNames.L]
    exact le_neg (by omega) le_rfl
  | x :: t, i, h => by
    obtain ⟨h1, h3, h4⟩ := drop_cons h
    have ih := r10_wrongNames.L_le (a := a) (b := b) (c := c) hlen t (i + 1) h4
    rw [← w_next h hlen] at ih
    refine le_step ?_
    simp only [r10_wrongNames.l0, r10_wrongNames.L]
    refine le_pos (by omega) (le_len fun hx => ?_)
    exact r10_wrongNames.L1_le h hx ih x.f1 0 [] rfl rfl
def r10_wrongNames.g (l0_0 : List ByteArray) (l0_1 : List S86) (l0_2 : List ByteArray) (l0_3 : List S76) : Option Bool := (r10_names.g l0_0 l0_1 l0_2 l0_3).bind fun t1 => (r10_named.g t1).bind fun t2 => if (!t2) = true then some true else if l0_3.length ≤ 9223372036854775807 then r10_wrongNames.L l0_3 else none
theorem r10_wrongNames.le (l0_0 : List ByteArray) (l0_1 : List S86) (l0_2 : List ByteArray) (l0_3 : List S76) : Le (r10_wrongNames.g l0_0 l0_1 l0_2 l0_3) (fun k => r10_wrongNames.f k l0_0 l0_1 l0_2 l0_3) :=
  le_bind (r10_names.le l0_0 l0_1 l0_2 l0_3) fun t1 => le_bind (r10_named.le t1) fun t2 => le_ite le_rfl (le_len fun h => r10_wrongNames.L_le h l0_3 0 rfl)
def r10_guards.L0 (x2 : Int) (x3_0 : List ByteArray) (x3_1 : List S86) (x3_2 : List ByteArray) (x3_3 : List S76) : List S43 → Option Bool
 | [] => some false
 | y7 :: u7 => if x2 = 12 then ((r10_clockless.f x3_0 x3_1 x3_2 x3_3 (y7.f0) (y7.f1) (y7.f2) (y7.f3)).bind fun t1 => (if t1 = true then (some true) else (if x2 = 7 then ((r10_cmpless.f (y7.f0) (y7.f1) (y7.f2) (y7.f3)).bind fun t2 => (if t2 = true then (some true) else (r10_guards.L0 x2 x3_0 x3_1 x3_2 x3_3 u7))) else (r10_guards.L0 x2 x3_0 x3_1 x3_2 x3_3 u7)))) else (if x2 = 7 then ((r10_cmpless.f (y7.f0) (y7.f1) (y7.f2) (y7.f3)).bind fun t3 => (if t3 = true then (some true) else (r10_guards.L0 x2 x3_0 x3_1 x3_2 x3_3 u7))) else (r10_guards.L0 x2 x3_0 x3_1 x3_2 x3_3 u7))
theorem r10_guards.L0_le (x1 : List S43) (x2 : Int) (x3_0 : List ByteArray) (x3_1 : List S86) (x3_2 : List ByteArray) (x3_3 : List S76) (hlen : x1.length ≤ 9223372036854775807) : ∀ (l : List S43) (i : Nat), List.drop i (x1) = l → Le (r10_guards.L0 x2 x3_0 x3_1 x3_2 x3_3 l) (fun k => r10_guards.l0 k x1 x2 (i : Int) x3_0 x3_1 x3_2 x3_3)
  | [], i, hd => by
    have hn := drop_nil hd
    refine le_step ?_
    simp only [r10_guards.l0, r10_guards.L0]
    exact le_neg (by omega) le_rfl
  | y7 :: u7, i, hd => by
    have hw := w_next hd hlen
    have hx := drop_cons hd
    have ht := hx.2.2
    have h0 : (0 : Int) ≤ (i : Int) := by omega
    have h1 : (i : Int) < (x1.length : Int) := by have := hx.1; omega
    have hy : (rd_T43 x1 (i : Int)) = y7 := rdT_head (t := T43) hd
    refine le_step ?_
    simp only [r10_guards.l0, r10_guards.L0]
    refine le_pos h1 ?_
    subst hy
    exact (le_ite (le_pos h0 (le_pos h1 (le_bind le_rfl fun t1 => (le_ite le_rfl (le_ite (le_pos h0 (le_pos h1 (le_bind le_rfl fun t2 => (le_ite le_rfl (by rw [hw]; exact r10_guards.L0_le x1 x2 x3_0 x3_1 x3_2 x3_3 hlen u7 (i + 1) ht))))) (by rw [hw]; exact r10_guards.L0_le x1 x2 x3_0 x3_1 x3_2 x3_3 hlen u7 (i + 1) ht)))))) (le_ite (le_pos h0 (le_pos h1 (le_bind le_rfl fun t3 => (le_ite le_rfl (by rw [hw]; exact r10_guards.L0_le x1 x2 x3_0 x3_1 x3_2 x3_3 hlen u7 (i + 1) ht))))) (by rw [hw]; exact r10_guards.L0_le x1 x2 x3_0 x3_1 x3_2 x3_3 hlen u7 (i + 1) ht)))
def r10_guards.g (l0_0 : List ByteArray) (l0_1 : List S86) (l0_2 : List ByteArray) (l0_3 : List S76) (a1 : List S43) (a2 : Int) : Option Bool := if a1.length ≤ 9223372036854775807 then (r10_guards.L0 a2 l0_0 l0_1 l0_2 l0_3 a1) else (none)
theorem r10_guards.le (l0_0 : List ByteArray) (l0_1 : List S86) (l0_2 : List ByteArray) (l0_3 : List S76) (a1 : List S43) (a2 : Int) : Le (r10_guards.g l0_0 l0_1 l0_2 l0_3 a1 a2) (fun k => r10_guards.f k l0_0 l0_1 l0_2 l0_3 a1 a2) := (le_len fun hlen_ => r10_guards.L0_le a1 a2 l0_0 l0_1 l0_2 l0_3 hlen_ _ 0 rfl)
open Classical in
def r08_Right.g (l : List S151) (n : Int) : Option Int := if opsOk l ∧ 0 ≤ n ∧ n ≤ 140737488355328 then some (sRight l n) else none
theorem r08_Right.le (l : List S151) (n : Int) : Le (r08_Right.g l n) (fun k => r08_Right.f k l n) := fun r h => by
  unfold r08_Right.g at h
  split at h
  · next hc => cases h; exact (right_evs hc.1 hc.2).2
  · cases h
def r10_testless.g (l0_0 : List ByteArray) (l0_1 : List S86) (l0_2 : List ByteArray) (l0_3 : List S76) (a1 : List S151) : Option Bool := if (a1.length : Int) > 0 then ((r08_Right.g a1 (l0_1.length : Int)).bind fun t1 => (if t1 = 0 then ((r08_IsTruth.f a1).bind fun t2 => (some (!t2))) else (some true))) else (some false)
theorem r10_testless.le (l0_0 : List ByteArray) (l0_1 : List S86) (l0_2 : List ByteArray) (l0_3 : List S76) (a1 : List S151) : Le (r10_testless.g l0_0 l0_1 l0_2 l0_3 a1) (fun k => r10_testless.f k l0_0 l0_1 l0_2 l0_3 a1) := (le_ite (le_bind (r08_Right.le a1 (l0_1.length : Int)) fun t1 => (le_ite (le_bind le_rfl fun t2 => le_rfl) le_rfl)) le_rfl)
def r10_edge.L1 (x3 : Int) (x4_0 : List ByteArray) (x4_1 : List S86) : List S81 → Option Bool
 | [] => some false
 | y9 :: u9 => if x3 = 12 then (if (y9.f0) < 0 then (some true) else (if (y9.f0) > (x4_0.length : Int) then (some true) else (r10_edge.L1 x3 x4_0 x4_1 u9))) else (if x3 = 7 then (if (y9.f0) = 0 then (if (y9.f1) = 0 then (if (y9.f0) = 0 then (r10_edge.L1 x3 x4_0 x4_1 u9) else (if (y9.f2) = 0 then (if ((y9.f3).length : Int) > 0 then (some true) else (r10_edge.L1 x3 x4_0 x4_1 u9)) else (some true))) else (some true)) else (if (y9.f0) = 0 then (r10_edge.L1 x3 x4_0 x4_1 u9) else (if (y9.f2) = 0 then (if ((y9.f3).length : Int) > 0 then (some true) else (r10_edge.L1 x3 x4_0 x4_1 u9)) else (some true)))) else (if x3 = 121 then (if (y9.f0) = 0 then (if (y9.f2) < 0 then (some true) else (if (y9.f2) ≥ (x4_1.length : Int) then (some true) else ((r08_Right.g (y9.f3) (x4_1.length : Int)).bind fun t2 => (if t2 = 0 then ((r08_IsTruth.f (y9.f3)).bind fun t3 => (if t3 = true then (some true) else (r10_edge.L1 x3 x4_0 x4_1 u9))) else (some true))))) else (r10_edge.L1 x3 x4_0 x4_1 u9)) else (r10_edge.L1 x3 x4_0 x4_1 u9)))
theorem r10_edge.L1_le (x6_6 : List S81) (x3 : Int) (x4_0 : List ByteArray) (x4_1 : List S86) (x4_2 : List ByteArray) (x4_3 : List S76) (x6_0 : Int) (x6_1 : Int) (x6_2 : List S43) (x6_3 : List S151) (x6_4 : Int) (x6_5 : Bool) (hlen : x6_6.length ≤ 9223372036854775807) : ∀ (l : List S81) (i : Nat), List.drop i (x6_6) = l → Le (r10_edge.L1 x3 x4_0 x4_1 l) (fun k => r10_edge.l1 k x3 (i : Int) x4_0 x4_1 x4_2 x4_3 x6_0 x6_1 x6_2 x6_3 x6_4 x6_5 x6_6)
  | [], i, hd => by
    have hn := drop_nil hd
    refine le_step ?_
    simp only [r10_edge.l1, r10_edge.L1]
    exact le_neg (by omega) le_rfl
  | y9 :: u9, i, hd => by
    have hw := w_next hd hlen
    have hx := drop_cons hd
    have ht := hx.2.2
    have h0 : (0 : Int) ≤ (i : Int) := by omega
    have h1 : (i : Int) < (x6_6.length : Int) := by have := hx.1; omega
    have hy : (rd_T81 x6_6 (i : Int)) = y9 := rdT_head (t := T81) hd
    refine le_step ?_
    simp only [r10_edge.l1, r10_edge.L1]
    refine le_pos h1 ?_
    subst hy
    exact (le_pos h0 (le_pos h1 (le_ite (le_ite le_rfl (le_ite le_rfl (by rw [hw]; exact r10_edge.L1_le x6_6 x3 x4_0 x4_1 x4_2 x4_3 x6_0 x6_1 x6_2 x6_3 x6_4 x6_5 hlen u9 (i + 1) ht))) (le_ite (le_ite (le_ite (le_ite (by rw [hw]; exact r10_edge.L1_le x6_6 x3 x4_0 x4_1 x4_2 x4_3 x6_0 x6_1 x6_2 x6_3 x6_4 x6_5 hlen u9 (i + 1) ht) (le_ite (le_ite le_rfl (by rw [hw]; exact r10_edge.L1_le x6_6 x3 x4_0 x4_1 x4_2 x4_3 x6_0 x6_1 x6_2 x6_3 x6_4 x6_5 hlen u9 (i + 1) ht)) le_rfl)) le_rfl) (le_ite (by rw [hw]; exact r10_edge.L1_le x6_6 x3 x4_0 x4_1 x4_2 x4_3 x6_0 x6_1 x6_2 x6_3 x6_4 x6_5 hlen u9 (i + 1) ht) (le_ite (le_ite le_rfl (by rw [hw]; exact r10_edge.L1_le x6_6 x3 x4_0 x4_1 x4_2 x4_3 x6_0 x6_1 x6_2 x6_3 x6_4 x6_5 hlen u9 (i + 1) ht)) le_rfl))) (le_ite (le_ite (le_ite le_rfl (le_ite le_rfl (le_bind (r08_Right.le ((rd_T81 x6_6 (i : Int)).f3) (x4_1.length : Int)) fun t2 => (le_ite (le_bind le_rfl fun t3 => (le_ite le_rfl (by rw [hw]; exact r10_edge.L1_le x6_6 x3 x4_0 x4_1 x4_2 x4_3 x6_0 x6_1 x6_2 x6_3 x6_4 x6_5 hlen u9 (i + 1) ht))) le_rfl)))) (by rw [hw]; exact r10_edge.L1_le x6_6 x3 x4_0 x4_1 x4_2 x4_3 x6_0 x6_1 x6_2 x6_3 x6_4 x6_5 hlen u9 (i + 1) ht)) (by rw [hw]; exact r10_edge.L1_le x6_6 x3 x4_0 x4_1 x4_2 x4_3 x6_0 x6_1 x6_2 x6_3 x6_4 x6_5 hlen u9 (i + 1) ht))))))
def r10_edge.g (l0_0 : List ByteArray) (l0_1 : List S86) (l0_2 : List ByteArray) (l0_3 : List S76) (l1_0 : ByteArray) (l1_1 : List S84) (l1_2 : List S79) (l2_0 : Int) (l2_1 : Int) (l2_2 : List S43) (l2_3 : List S151) (l2_4 : Int) (l2_5 : Bool) (l2_6 : List S81) (a3 : Int) : Option Bool := if a3 = 123 then (if l2_0 < 0 then (some true) else (if l2_0 ≥ (l1_1.length : Int) then (some true) else (if l2_1 < 0 then (some true) else (if l2_1 ≥ (l1_1.length : Int) then (some true) else (if l2_4 < 0 then (some true) else (if l2_4 > (l0_2.length : Int) then (some true) else (if l2_4 = 0 then (some l2_5) else (some false)))))))) else (if a3 = 121 then ((r10_testless.g l0_0 l0_1 l0_2 l0_3 l2_3).bind fun t1 => (if t1 = true then (some true) else (if l2_6.length ≤ 9223372036854775807 then (r10_edge.L1 a3 l0_0 l0_1 l2_6) else (none)))) else (if l2_6.length ≤ 9223372036854775807 then (r10_edge.L1 a3 l0_0 l0_1 l2_6) else (none)))
theorem r10_edge.le (l0_0 : List ByteArray) (l0_1 : List S86) (l0_2 : List ByteArray) (l0_3 : List S76) (l1_0 : ByteArray) (l1_1 : List S84) (l1_2 : List S79) (l2_0 : Int) (l2_1 : Int) (l2_2 : List S43) (l2_3 : List S151) (l2_4 : Int) (l2_5 : Bool) (l2_6 : List S81) (a3 : Int) : Le (r10_edge.g l0_0 l0_1 l0_2 l0_3 l1_0 l1_1 l1_2 l2_0 l2_1 l2_2 l2_3 l2_4 l2_5 l2_6 a3) (fun k => r10_edge.f k l0_0 l0_1 l0_2 l0_3 l1_0 l1_1 l1_2 l2_0 l2_1 l2_2 l2_3 l2_4 l2_5 l2_6 a3) := (le_ite (le_ite le_rfl (le_ite le_rfl (le_ite le_rfl (le_ite le_rfl (le_ite le_rfl (le_ite le_rfl (le_ite le_rfl le_rfl))))))) (le_ite (le_bind (r10_testless.le l0_0 l0_1 l0_2 l0_3 l2_3) fun t1 => (le_ite le_rfl (le_step (by simp only [r10_edge.j0]; exact (le_len fun hlen_ => r10_edge.L1_le l2_6 a3 l0_0 l0_1 l0_2 l0_3 l2_0 l2_1 l2_2 l2_3 l2_4 l2_5 hlen_ _ 0 rfl))))) (le_step (by simp only [r10_edge.j0]; exact (le_len fun hlen_ => r10_edge.L1_le l2_6 a3 l0_0 l0_1 l0_2 l0_3 l2_0 l2_1 l2_2 l2_3 l2_4 l2_5 hlen_ _ 0 rfl)))))
def r10_wrong.L2 (x1 : Int) (x2_0 : List ByteArray) (x2_1 : List S86) (x2_2 : List ByteArray) (x2_3 : List S76) (x6_0 : ByteArray) (x6_1 : List S84) (x6_2 : List S79) (K0 : Option Bool) : List S79 → Option Bool
 | [] => K0
 | y8 :: u8 => (r10_guards.g x2_0 x2_1 x2_2 x2_3 (y8.f2) x1).bind fun t3 => (if t3 = true then (some true) else ((r10_edge.g x2_0 x2_1 x2_2 x2_3 x6_0 x6_1 x6_2 (y8.f0) (y8.f1) (y8.f2) (y8.f3) (y8.f4) (y8.f5) (y8.f6) x1).bind fun t4 => (if t4 = true then (some true) else (r10_wrong.L2 x1 x2_0 x2_1 x2_2 x2_3 x6_0 x6_1 x6_2 K0 u8))))
theorem r10_wrong.L2_le (x6_2 : List S79) (x1 : Int) (x5 : Int) (x2_0 : List ByteArray) (x2_1 : List S86) (x2_2 : List ByteArray) (x2_3 : List S76) (x6_0 : ByteArray) (x6_1 : List S84) (K0 : Option Bool) (hK0 : Le (K0) (fun k => r10_wrong.l0 k x1 (w64 (x5 + 1)) x2_0 x2_1 x2_2 x2_3)) (hlen : x6_2.length ≤ 9223372036854775807) : ∀ (l : List S79) (i : Nat), List.drop i (x6_2) = l → Le (r10_wrong.L2 x1 x2_0 x2_1 x2_2 x2_3 x6_0 x6_1 x6_2 K0 l) (fun k => r10_wrong.l2 k x1 x5 (i : Int) x2_0 x2_1 x2_2 x2_3 x6_0 x6_1 x6_2)
  | [], i, hd => by
    have hn := drop_nil hd
    refine le_step ?_
    simp only [r10_wrong.l2, r10_wrong.L2]
    exact le_neg (by omega) (hK0)
  | y8 :: u8, i, hd => by
    have hw := w_next hd hlen
    have hx := drop_cons hd
    have ht := hx.2.2
    have h0 : (0 : Int) ≤ (i : Int) := by omega
    have h1 : (i : Int) < (x6_2.length : Int) := by have := hx.1; omega
    have hy : (rd_T79 x6_2 (i : Int)) = y8 := rdT_head (t := T79) hd
    refine le_step ?_
    simp only [r10_wrong.l2, r10_wrong.L2]
    refine le_pos h1 ?_
    subst hy
    exact (le_pos h0 (le_pos h1 (le_bind (r10_guards.le x2_0 x2_1 x2_2 x2_3 ((rd_T79 x6_2 (i : Int)).f2) x1) fun t3 => (le_ite le_rfl (le_pos h0 (le_pos h1 (le_bind (r10_edge.le x2_0 x2_1 x2_2 x2_3 x6_0 x6_1 x6_2 ((rd_T79 x6_2 (i : Int)).f0) ((rd_T79 x6_2 (i : Int)).f1) ((rd_T79 x6_2 (i : Int)).f2) ((rd_T79 x6_2 (i : Int)).f3) ((rd_T79 x6_2 (i : Int)).f4) ((rd_T79 x6_2 (i : Int)).f5) ((rd_T79 x6_2 (i : Int)).f6) x1) fun t4 => (le_ite le_rfl (by rw [hw]; exact r10_wrong.L2_le x6_2 x1 x5 x2_0 x2_1 x2_2 x2_3 x6_0 x6_1 K0 hK0 hlen u8 (i + 1) ht)))))))))
def r10_wrong.L1 (x1 : Int) (x2_0 : List ByteArray) (x2_1 : List S86) (x2_2 : List ByteArray) (x2_3 : List S76) (x6_0 : ByteArray) (x6_1 : List S84) (x6_2 : List S79) (K0 : Option Bool) : List S84 → Option Bool
 | [] => if x6_2.length ≤ 9223372036854775807 then (r10_wrong.L2 x1 x2_0 x2_1 x2_2 x2_3 x6_0 x6_1 x6_2 K0 x6_2) else (none)
 | y7 :: u7 => if x1 = 122 then (if (y7.f1) > 2 then (some true) else ((r10_guards.g x2_0 x2_1 x2_2 x2_3 (y7.f2) x1).bind fun t1 => (if t1 = true then (some true) else (r10_wrong.L1 x1 x2_0 x2_1 x2_2 x2_3 x6_0 x6_1 x6_2 K0 u7)))) else ((r10_guards.g x2_0 x2_1 x2_2 x2_3 (y7.f2) x1).bind fun t2 => (if t2 = true then (some true) else (r10_wrong.L1 x1 x2_0 x2_1 x2_2 x2_3 x6_0 x6_1 x6_2 K0 u7)))
theorem r10_wrong.L1_le (x6_1 : List S84) (x1 : Int) (x5 : Int) (x2_0 : List ByteArray) (x2_1 : List S86) (x2_2 : List ByteArray) (x2_3 : List S76) (x6_0 : ByteArray) (x6_2 : List S79) (K0 : Option Bool) (hK0 : Le (K0) (fun k => r10_wrong.l0 k x1 (w64 (x5 + 1)) x2_0 x2_1 x2_2 x2_3)) (hlen : x6_1.length ≤ 9223372036854775807) : ∀ (l : List S84) (i : Nat), List.drop i (x6_1) = l → Le (r10_wrong.L1 x1 x2_0 x2_1 x2_2 x2_3 x6_0 x6_1 x6_2 K0 l) (fun k => r10_wrong.l1 k x1 x5 (i : Int) x2_0 x2_1 x2_2 x2_3 x6_0 x6_1 x6_2)
  | [], i, hd => by
    have hn := drop_nil hd
    refine le_step ?_
    simp only [r10_wrong.l1, r10_wrong.L1]
    exact le_neg (by omega) (le_len fun hlen_ => r10_wrong.L2_le x6_2 x1 x5 x2_0 x2_1 x2_2 x2_3 x6_0 x6_1 _ hK0 hlen_ _ 0 rfl)
  | y7 :: u7, i, hd => by
    have hw := w_next hd hlen
    have hx := drop_cons hd
    have ht := hx.2.2
    have h0 : (0 : Int) ≤ (i : Int) := by omega
    have h1 : (i : Int) < (x6_1.length : Int) := by have := hx.1; omega
    have hy : (rd_T84 x6_1 (i : Int)) = y7 := rdT_head (t := T84) hd
    refine le_step ?_
    simp only [r10_wrong.l1, r10_wrong.L1]
    refine le_pos h1 ?_
    subst hy
    exact (le_ite (le_pos h0 (le_pos h1 (le_ite le_rfl (le_pos h0 (le_pos h1 (le_bind (r10_guards.le x2_0 x2_1 x2_2 x2_3 ((rd_T84 x6_1 (i : Int)).f2) x1) fun t1 => (le_ite le_rfl (by rw [hw]; exact r10_wrong.L1_le x6_1 x1 x5 x2_0 x2_1 x2_2 x2_3 x6_0 x6_2 K0 hK0 hlen u7 (i + 1) ht)))))))) (le_pos h0 (le_pos h1 (le_bind (r10_guards.le x2_0 x2_1 x2_2 x2_3 ((rd_T84 x6_1 (i : Int)).f2) x1) fun t2 => (le_ite le_rfl (by rw [hw]; exact r10_wrong.L1_le x6_1 x1 x5 x2_0 x2_1 x2_2 x2_3 x6_0 x6_2 K0 hK0 hlen u7 (i + 1) ht))))))
def r10_wrong.L0 (x1 : Int) (x2_0 : List ByteArray) (x2_1 : List S86) (x2_2 : List ByteArray) (x2_3 : List S76) : List S76 → Option Bool
 | [] => some false
 | y5 :: u5 => if (y5.f1).length ≤ 9223372036854775807 then (r10_wrong.L1 x1 x2_0 x2_1 x2_2 x2_3 (y5.f0) (y5.f1) (y5.f2) (r10_wrong.L0 x1 x2_0 x2_1 x2_2 x2_3 u5) (y5.f1)) else (none)
theorem r10_wrong.L0_le (x2_3 : List S76) (x1 : Int) (x2_0 : List ByteArray) (x2_1 : List S86) (x2_2 : List ByteArray) (hlen : x2_3.length ≤ 9223372036854775807) : ∀ (l : List S76) (i : Nat), List.drop i (x2_3) = l → Le (r10_wrong.L0 x1 x2_0 x2_1 x2_2 x2_3 l) (fun k => r10_wrong.l0 k x1 (i : Int) x2_0 x2_1 x2_2 x2_3)
  | [], i, hd => by
    have hn := drop_nil hd
    refine le_step ?_
    simp only [r10_wrong.l0, r10_wrong.L0]
    exact le_neg (by omega) le_rfl
  | y5 :: u5, i, hd => by
    have hw := w_next hd hlen
    have hx := drop_cons hd
    have ht := hx.2.2
    have h0 : (0 : Int) ≤ (i : Int) := by omega
    have h1 : (i : Int) < (x2_3.length : Int) := by have := hx.1; omega
    have hy : (rd_T76 x2_3 (i : Int)) = y5 := rdT_head (t := T76) hd
    refine le_step ?_
    simp only [r10_wrong.l0, r10_wrong.L0]
    refine le_pos h1 ?_
    subst hy
    exact (le_pos h0 (le_pos h1 (le_len fun hlen_ => r10_wrong.L1_le ((rd_T76 x2_3 (i : Int)).f1) x1 (i : Int) x2_0 x2_1 x2_2 x2_3 ((rd_T76 x2_3 (i : Int)).f0) ((rd_T76 x2_3 (i : Int)).f2) _ (by rw [hw]; exact r10_wrong.L0_le x2_3 x1 x2_0 x2_1 x2_2 hlen u5 (i + 1) ht) hlen_ _ 0 rfl)))
def r10_wrong.g (l0_0 : List ByteArray) (l0_1 : List S86) (l0_2 : List ByteArray) (l0_3 : List S76) (a1 : Int) : Option Bool := if l0_3.length ≤ 9223372036854775807 then (r10_wrong.L0 a1 l0_0 l0_1 l0_2 l0_3 l0_3) else (none)
theorem r10_wrong.le (l0_0 : List ByteArray) (l0_1 : List S86) (l0_2 : List ByteArray) (l0_3 : List S76) (a1 : Int) : Le (r10_wrong.g l0_0 l0_1 l0_2 l0_3 a1) (fun k => r10_wrong.f k l0_0 l0_1 l0_2 l0_3 a1) := (le_len fun hlen_ => r10_wrong.L0_le l0_3 a1 l0_0 l0_1 l0_2 hlen_ _ 0 rfl)
def r10_Whole.L2 (x1_0 : List ByteArray) (x1_1 : List S86) (x1_2 : List ByteArray) (x1_3 : List S76) : List Int → Option Int
 | [] => some 0
 | y7 :: u7 => (r10_wrong.g x1_0 x1_1 x1_2 x1_3 y7).bind fun t6 => (if t6 = true then (some y7) else (r10_Whole.L2 x1_0 x1_1 x1_2 x1_3 u7))
theorem r10_Whole.L2_le (x6 : List Int) (x1_0 : List ByteArray) (x1_1 : List S86) (x1_2 : List ByteArray) (x1_3 : List S76) (hlen : x6.length ≤ 9223372036854775807) : ∀ (l : List Int) (i : Nat), List.drop i (x6) = l → Le (r10_Whole.L2 x1_0 x1_1 x1_2 x1_3 l) (fun k => r10_Whole.l2 k x6 (i : Int) x1_0 x1_1 x1_2 x1_3)
  | [], i, hd => by
    have hn := drop_nil hd
    refine le_step ?_
    simp only [r10_Whole.l2, r10_Whole.L2]
    exact le_neg (by omega) le_rfl
  | y7 :: u7, i, hd => by
    have hw := w_next hd hlen
    have hx := drop_cons hd
    have ht := hx.2.2
    have h0 : (0 : Int) ≤ (i : Int) := by omega
    have h1 : (i : Int) < (x6.length : Int) := by have := hx.1; omega
    have hy : (rd x6 (i : Int)) = y7 := rdT_head (t := (.int .i64)) hd
    refine le_step ?_
    simp only [r10_Whole.l2, r10_Whole.L2]
    refine le_pos h1 ?_
    subst hy
    exact (le_pos h0 (le_pos h1 (le_bind (r10_wrong.le x1_0 x1_1 x1_2 x1_3 (rd x6 (i : Int))) fun t6 => (le_ite (le_pos h0 (le_pos h1 le_rfl)) (by rw [hw]; exact r10_Whole.L2_le x6 x1_0 x1_1 x1_2 x1_3 hlen u7 (i + 1) ht)))))
def r10_Whole.L1 (x1_0 : List ByteArray) (x1_1 : List S86) (x1_2 : List ByteArray) (x1_3 : List S76) : List S86 → Option Int
 | [] => if ([122, 123, 12, 7, 121] : List Int).length ≤ 9223372036854775807 then (r10_Whole.L2 x1_0 x1_1 x1_2 x1_3 ([122, 123, 12, 7, 121] : List Int)) else (none)
 | y4 :: u4 => (r10_isValue.f (y4.f1)).bind fun t3 => (if (!t3) = true then (some 124) else ((r10_isValue.f (y4.f3)).bind fun t4 => (if (!t4) = true then (some 124) else ((r10_isValue.f (y4.f2)).bind fun t5 => (if (!t5) = true then (some 124) else (if (y4.f1) > (y4.f3) then (some 124) else (if (y4.f3) > (y4.f2) then (some 124) else (r10_Whole.L1 x1_0 x1_1 x1_2 x1_3 u4))))))))
theorem r10_Whole.L1_le (x1_1 : List S86) (x1_0 : List ByteArray) (x1_2 : List ByteArray) (x1_3 : List S76) (hlen : x1_1.length ≤ 9223372036854775807) : ∀ (l : List S86) (i : Nat), List.drop i (x1_1) = l → Le (r10_Whole.L1 x1_0 x1_1 x1_2 x1_3 l) (fun k => r10_Whole.l1 k (i : Int) x1_0 x1_1 x1_2 x1_3)
  | [], i, hd => by
    have hn := drop_nil hd
    refine le_step ?_
    simp only [r10_Whole.l1, r10_Whole.L1]
    exact le_neg (by omega) (le_len fun hlen_ => r10_Whole.L2_le ([122, 123, 12, 7, 121] : List Int) x1_0 x1_1 x1_2 x1_3 hlen_ _ 0 rfl)
  | y4 :: u4, i, hd => by
    have hw := w_next hd hlen
    have hx := drop_cons hd
    have ht := hx.2.2
    have h0 : (0 : Int) ≤ (i : Int) := by omega
    have h1 : (i : Int) < (x1_1.length : Int) := by have := hx.1; omega
    have hy : (rd_T86 x1_1 (i : Int)) = y4 := rdT_head (t := T86) hd
    refine le_step ?_
    simp only [r10_Whole.l1, r10_Whole.L1]
    refine le_pos h1 ?_
    subst hy
    exact (le_pos h0 (le_pos h1 (le_bind le_rfl fun t3 => (le_ite le_rfl (le_bind le_rfl fun t4 => (le_ite le_rfl (le_bind le_rfl fun t5 => (le_ite le_rfl (le_ite le_rfl (le_ite le_rfl (by rw [hw]; exact r10_Whole.L1_le x1_1 x1_0 x1_2 x1_3 hlen u4 (i + 1) ht)))))))))))
def r10_Whole.L0 (x1_0 : List ByteArray) (x1_1 : List S86) (x1_2 : List ByteArray) (x1_3 : List S76) : List S76 → Option Int
 | [] => (r10_long.g x1_0 x1_1 x1_2 x1_3).bind fun t1 => (if t1 = true then (some 6) else ((r10_wrongNames.g x1_0 x1_1 x1_2 x1_3).bind fun t2 => (if t2 = true then (some 112) else (if x1_1.length ≤ 9223372036854775807 then (r10_Whole.L1 x1_0 x1_1 x1_2 x1_3 x1_1) else (none)))))
 | y3 :: u3 => if ((y3.f1).length : Int) = 0 then (some 2) else (r10_Whole.L0 x1_0 x1_1 x1_2 x1_3 u3)
theorem r10_Whole.L0_le (x1_3 : List S76) (x1_0 : List ByteArray) (x1_1 : List S86) (x1_2 : List ByteArray) (hlen : x1_3.length ≤ 9223372036854775807) : ∀ (l : List S76) (i : Nat), List.drop i (x1_3) = l → Le (r10_Whole.L0 x1_0 x1_1 x1_2 x1_3 l) (fun k => r10_Whole.l0 k (i : Int) x1_0 x1_1 x1_2 x1_3)
  | [], i, hd => by
    have hn := drop_nil hd
    refine le_step ?_
    simp only [r10_Whole.l0, r10_Whole.L0]
    exact le_neg (by omega) (le_bind (r10_long.le x1_0 x1_1 x1_2 x1_3) fun t1 => (le_ite le_rfl (le_bind (r10_wrongNames.le x1_0 x1_1 x1_2 x1_3) fun t2 => (le_ite le_rfl (le_len fun hlen_ => r10_Whole.L1_le x1_1 x1_0 x1_2 x1_3 hlen_ _ 0 rfl)))))
  | y3 :: u3, i, hd => by
    have hw := w_next hd hlen
    have hx := drop_cons hd
    have ht := hx.2.2
    have h0 : (0 : Int) ≤ (i : Int) := by omega
    have h1 : (i : Int) < (x1_3.length : Int) := by have := hx.1; omega
    have hy : (rd_T76 x1_3 (i : Int)) = y3 := rdT_head (t := T76) hd
    refine le_step ?_
    simp only [r10_Whole.l0, r10_Whole.L0]
    refine le_pos h1 ?_
    subst hy
    exact (le_pos h0 (le_pos h1 (le_ite le_rfl (by rw [hw]; exact r10_Whole.L0_le x1_3 x1_0 x1_1 x1_2 hlen u3 (i + 1) ht))))
def r10_Whole.g (l0_0 : List ByteArray) (l0_1 : List S86) (l0_2 : List ByteArray) (l0_3 : List S76) : Option Int := if (l0_3.length : Int) = 0 then (some 2) else (if l0_3.length ≤ 9223372036854775807 then (r10_Whole.L0 l0_0 l0_1 l0_2 l0_3 l0_3) else (none))
theorem r10_Whole.le (l0_0 : List ByteArray) (l0_1 : List S86) (l0_2 : List ByteArray) (l0_3 : List S76) : Le (r10_Whole.g l0_0 l0_1 l0_2 l0_3) (fun k => r10_Whole.f k l0_0 l0_1 l0_2 l0_3) := (le_ite le_rfl (le_len fun hlen_ => r10_Whole.L0_le l0_3 l0_0 l0_1 l0_2 hlen_ _ 0 rfl))
def gm_SameTexts.L0 (x1 : List ByteArray) : List ByteArray → Nat → Option Bool
 | [], i => some true
 | y5 :: u5, i => if (i : Int) < (x1.length : Int) then (if y5 = (rdT .str x1 (i : Int)) then (gm_SameTexts.L0 x1 u5 (i + 1)) else (some false)) else (none)
theorem gm_SameTexts.L0_le (x0 : List ByteArray) (x1 : List ByteArray) (hlen : x0.length ≤ 9223372036854775807) : ∀ (l : List ByteArray) (i : Nat), List.drop i (x0) = l → Le (gm_SameTexts.L0 x1 l i) (fun k => gm_SameTexts.l0 k x0 x1 (i : Int))
  | [], i, hd => by
    have hn := drop_nil hd
    refine le_step ?_
    simp only [gm_SameTexts.l0, gm_SameTexts.L0]
    exact le_neg (by omega) le_rfl
  | y5 :: u5, i, hd => by
    have hw := w_next hd hlen
    have hx := drop_cons hd
    have ht := hx.2.2
    have h0 : (0 : Int) ≤ (i : Int) := by omega
    have h1 : (i : Int) < (x0.length : Int) := by have := hx.1; omega
    have hy : (rdT .str x0 (i : Int)) = y5 := rdT_head (t := .str) hd
    refine le_step ?_
    simp only [gm_SameTexts.l0, gm_SameTexts.L0]
    refine le_pos h1 ?_
    subst hy
    exact (le_pos h0 (le_pos h1 (le_pos h0 (le_ite (le_ite (by rw [hw]; exact gm_SameTexts.L0_le x0 x1 hlen u5 (i + 1) ht) le_rfl) le_none))))
def gm_SameTexts.g (a0 : List ByteArray) (a1 : List ByteArray) : Option Bool := if (a0.length : Int) = (a1.length : Int) then (if a0.length ≤ 9223372036854775807 then (gm_SameTexts.L0 a1 a0 0) else (none)) else (some false)
theorem gm_SameTexts.le (a0 : List ByteArray) (a1 : List ByteArray) : Le (gm_SameTexts.g a0 a1) (fun k => gm_SameTexts.f k a0 a1) := (le_ite (le_len fun hlen_ => gm_SameTexts.L0_le a0 a1 hlen_ _ 0 rfl) le_rfl)
def gm_SameGuards.L0 (x1 : List S43) : List S43 → Nat → Option Bool
 | [], i => some true
 | y5 :: u5, i => if (i : Int) < (x1.length : Int) then (if y5 = (rd_T43 x1 (i : Int)) then (gm_SameGuards.L0 x1 u5 (i + 1)) else (some false)) else (none)
theorem gm_SameGuards.L0_le (x0 : List S43) (x1 : List S43) (hlen : x0.length ≤ 9223372036854775807) : ∀ (l : List S43) (i : Nat), List.drop i (x0) = l → Le (gm_SameGuards.L0 x1 l i) (fun k => gm_SameGuards.l0 k x0 x1 (i : Int))
  | [], i, hd => by
    have hn := drop_nil hd
    refine le_step ?_
    simp only [gm_SameGuards.l0, gm_SameGuards.L0]
    exact le_neg (by omega) le_rfl
  | y5 :: u5, i, hd => by
    have hw := w_next hd hlen
    have hx := drop_cons hd
    have ht := hx.2.2
    have h0 : (0 : Int) ≤ (i : Int) := by omega
    have h1 : (i : Int) < (x0.length : Int) := by have := hx.1; omega
    have hy : (rd_T43 x0 (i : Int)) = y5 := rdT_head (t := T43) hd
    refine le_step ?_
    simp only [gm_SameGuards.l0, gm_SameGuards.L0]
    refine le_pos h1 ?_
    subst hy
    exact (le_pos h0 (le_pos h1 (le_pos h0 (le_ite (le_ite (by rw [hw]; exact gm_SameGuards.L0_le x0 x1 hlen u5 (i + 1) ht) le_rfl) le_none))))
def gm_SameGuards.g (a0 : List S43) (a1 : List S43) : Option Bool := if (a0.length : Int) = (a1.length : Int) then (if a0.length ≤ 9223372036854775807 then (gm_SameGuards.L0 a1 a0 0) else (none)) else (some false)
theorem gm_SameGuards.le (a0 : List S43) (a1 : List S43) : Le (gm_SameGuards.g a0 a1) (fun k => gm_SameGuards.f k a0 a1) := (le_ite (le_len fun hlen_ => gm_SameGuards.L0_le a0 a1 hlen_ _ 0 rfl) le_rfl)
def gm_SameNodes.L0 (x1 : List S151) : List S151 → Nat → Option Bool
 | [], i => some true
 | y5 :: u5, i => if (i : Int) < (x1.length : Int) then (if y5 = (rd_T151 x1 (i : Int)) then (gm_SameNodes.L0 x1 u5 (i + 1)) else (some false)) else (none)
theorem gm_SameNodes.L0_le (x0 : List S151) (x1 : List S151) (hlen : x0.length ≤ 9223372036854775807) : ∀ (l : List S151) (i : Nat), List.drop i (x0) = l → Le (gm_SameNodes.L0 x1 l i) (fun k => gm_SameNodes.l0 k x0 x1 (i : Int))
  | [], i, hd => by
    have hn := drop_nil hd
    refine le_step ?_
    simp only [gm_SameNodes.l0, gm_SameNodes.L0]
    exact le_neg (by omega) le_rfl
  | y5 :: u5, i, hd => by
    have hw := w_next hd hlen
    have hx := drop_cons hd
    have ht := hx.2.2
    have h0 : (0 : Int) ≤ (i : Int) := by omega
    have h1 : (i : Int) < (x0.length : Int) := by have := hx.1; omega
    have hy : (rd_T151 x0 (i : Int)) = y5 := rdT_head (t := T151) hd
    refine le_step ?_
    simp only [gm_SameNodes.l0, gm_SameNodes.L0]
    refine le_pos h1 ?_
    subst hy
    exact (le_pos h0 (le_pos h1 (le_pos h0 (le_ite (le_ite (by rw [hw]; exact gm_SameNodes.L0_le x0 x1 hlen u5 (i + 1) ht) le_rfl) le_none))))
def gm_SameNodes.g (a0 : List S151) (a1 : List S151) : Option Bool := if (a0.length : Int) = (a1.length : Int) then (if a0.length ≤ 9223372036854775807 then (gm_SameNodes.L0 a1 a0 0) else (none)) else (some false)
theorem gm_SameNodes.le (a0 : List S151) (a1 : List S151) : Le (gm_SameNodes.g a0 a1) (fun k => gm_SameNodes.f k a0 a1) := (le_ite (le_len fun hlen_ => gm_SameNodes.L0_le a0 a1 hlen_ _ 0 rfl) le_rfl)
def gm_sameSets.L0 (x1 : List S81) : List S81 → Nat → Option Bool
 | [], i => some true
 | y5 :: u5, i => if (i : Int) < (x1.length : Int) then (if (y5.f0) = ((rd_T81 x1 (i : Int)).f0) then (if (i : Int) < (x1.length : Int) then (if (y5.f1) = ((rd_T81 x1 (i : Int)).f1) then (if (i : Int) < (x1.length : Int) then (if (y5.f2) = ((rd_T81 x1 (i : Int)).f2) then (if (i : Int) < (x1.length : Int) then ((gm_SameNodes.g (y5.f3) ((rd_T81 x1 (i : Int)).f3)).bind fun t1 => (if (!t1) = true then (some false) else (gm_sameSets.L0 x1 u5 (i + 1)))) else (none)) else (some false)) else (none)) else (some false)) else (none)) else (some false)) else (none)
theorem gm_sameSets.L0_le (x0 : List S81) (x1 : List S81) (hlen : x0.length ≤ 9223372036854775807) : ∀ (l : List S81) (i : Nat), List.drop i (x0) = l → Le (gm_sameSets.L0 x1 l i) (fun k => gm_sameSets.l0 k x0 x1 (i : Int))
  | [], i, hd => by
    have hn := drop_nil hd
    refine le_step ?_
    simp only [gm_sameSets.l0, gm_sameSets.L0]
    exact le_neg (by omega) le_rfl
  | y5 :: u5, i, hd => by
    have hw := w_next hd hlen
    have hx := drop_cons hd
    have ht := hx.2.2
    have h0 : (0 : Int) ≤ (i : Int) := by omega
    have h1 : (i : Int) < (x0.length : Int) := by have := hx.1; omega
    have hy : (rd_T81 x0 (i : Int)) = y5 := rdT_head (t := T81) hd
    refine le_step ?_
    simp only [gm_sameSets.l0, gm_sameSets.L0]
    refine le_pos h1 ?_
    subst hy
    exact (le_pos h0 (le_pos h1 (le_pos h0 (le_ite (le_ite (le_pos h0 (le_pos h1 (le_pos h0 (le_ite (le_ite (le_pos h0 (le_pos h1 (le_pos h0 (le_ite (le_ite (le_pos h0 (le_pos h1 (le_pos h0 (le_ite (le_bind (gm_SameNodes.le ((rd_T81 x0 (i : Int)).f3) ((rd_T81 x1 (i : Int)).f3)) fun t1 => (le_ite le_rfl (by rw [hw]; exact gm_sameSets.L0_le x0 x1 hlen u5 (i + 1) ht))) le_none)))) le_rfl) le_none)))) le_rfl) le_none)))) le_rfl) le_none))))
def gm_sameSets.g (a0 : List S81) (a1 : List S81) : Option Bool := if (a0.length : Int) = (a1.length : Int) then (if a0.length ≤ 9223372036854775807 then (gm_sameSets.L0 a1 a0 0) else (none)) else (some false)
theorem gm_sameSets.le (a0 : List S81) (a1 : List S81) : Le (gm_sameSets.g a0 a1) (fun k => gm_sameSets.f k a0 a1) := (le_ite (le_len fun hlen_ => gm_sameSets.L0_le a0 a1 hlen_ _ 0 rfl) le_rfl)
def gm_sameAuto.L2 (x3_2 : List S79) : List S79 → Nat → Option Bool
 | [], i => some true
 | y6 :: u6, i => if (i : Int) < (x3_2.length : Int) then (if (y6.f0) = ((rd_T79 x3_2 (i : Int)).f0) then (if (y6.f1) = ((rd_T79 x3_2 (i : Int)).f1) then (if (y6.f4) = ((rd_T79 x3_2 (i : Int)).f4) then (if (y6.f5) = ((rd_T79 x3_2 (i : Int)).f5) then ((gm_SameGuards.g (y6.f2) ((rd_T79 x3_2 (i : Int)).f2)).bind fun t2 => (if (!t2) = true then (some false) else ((gm_SameNodes.g (y6.f3) ((rd_T79 x3_2 (i : Int)).f3)).bind fun t3 => (if (!t3) = true then (some false) else ((gm_sameSets.g (y6.f6) ((rd_T79 x3_2 (i : Int)).f6)).bind fun t4 => (if (!t4) = true then (some false) else (gm_sameAuto.L2 x3_2 u6 (i + 1)))))))) else (some false)) else (some false)) else (some false)) else (some false)) else (none)
theorem gm_sameAuto.L2_le (x2_2 : List S79) (x2_0 : ByteArray) (x2_1 : List S84) (x3_0 : ByteArray) (x3_1 : List S84) (x3_2 : List S79) (hlen : x2_2.length ≤ 9223372036854775807) : ∀ (l : List S79) (i : Nat), List.drop i (x2_2) = l → Le (gm_sameAuto.L2 x3_2 l i) (fun k => gm_sameAuto.l2 k (i : Int) x2_0 x2_1 x2_2 x3_0 x3_1 x3_2)
  | [], i, hd => by
    have hn := drop_nil hd
    refine le_step ?_
    simp only [gm_sameAuto.l2, gm_sameAuto.L2]
    exact le_neg (by omega) le_rfl
  | y6 :: u6, i, hd => by
    have hw := w_next hd hlen
    have hx := drop_cons hd
    have ht := hx.2.2
    have h0 : (0 : Int) ≤ (i : Int) := by omega
    have h1 : (i : Int) < (x2_2.length : Int) := by have := hx.1; omega
    have hy : (rd_T79 x2_2 (i : Int)) = y6 := rdT_head (t := T79) hd
    refine le_step ?_
    simp only [gm_sameAuto.l2, gm_sameAuto.L2]
    refine le_pos h1 ?_
    subst hy
    exact (le_pos h0 (le_pos h1 (le_pos h0 (le_ite (le_ite (le_ite (le_ite (le_ite (le_bind (gm_SameGuards.le ((rd_T79 x2_2 (i : Int)).f2) ((rd_T79 x3_2 (i : Int)).f2)) fun t2 => (le_ite le_rfl (le_bind (gm_SameNodes.le ((rd_T79 x2_2 (i : Int)).f3) ((rd_T79 x3_2 (i : Int)).f3)) fun t3 => (le_ite le_rfl (le_bind (gm_sameSets.le ((rd_T79 x2_2 (i : Int)).f6) ((rd_T79 x3_2 (i : Int)).f6)) fun t4 => (le_ite le_rfl (by rw [hw]; exact gm_sameAuto.L2_le x2_2 x2_0 x2_1 x3_0 x3_1 x3_2 hlen u6 (i + 1) ht))))))) le_rfl) le_rfl) le_rfl) le_rfl) le_none))))
def gm_sameAuto.L1 (x2_2 : List S79) (x3_1 : List S84) (x3_2 : List S79) : List S84 → Nat → Option Bool
 | [], i => if x2_2.length ≤ 9223372036854775807 then (gm_sameAuto.L2 x3_2 x2_2 0) else (none)
 | y5 :: u5, i => if (i : Int) < (x3_1.length : Int) then (if (y5.f0) = ((rd_T84 x3_1 (i : Int)).f0) then (if (i : Int) < (x3_1.length : Int) then (if (y5.f1) = ((rd_T84 x3_1 (i : Int)).f1) then (if (i : Int) < (x3_1.length : Int) then ((gm_SameGuards.g (y5.f2) ((rd_T84 x3_1 (i : Int)).f2)).bind fun t1 => (if (!t1) = true then (some false) else (gm_sameAuto.L1 x2_2 x3_1 x3_2 u5 (i + 1)))) else (none)) else (some false)) else (none)) else (some false)) else (none)
theorem gm_sameAuto.L1_le (x2_1 : List S84) (x2_0 : ByteArray) (x2_2 : List S79) (x3_0 : ByteArray) (x3_1 : List S84) (x3_2 : List S79) (hlen : x2_1.length ≤ 9223372036854775807) : ∀ (l : List S84) (i : Nat), List.drop i (x2_1) = l → Le (gm_sameAuto.L1 x2_2 x3_1 x3_2 l i) (fun k => gm_sameAuto.l1 k (i : Int) x2_0 x2_1 x2_2 x3_0 x3_1 x3_2)
  | [], i, hd => by
    have hn := drop_nil hd
    refine le_step ?_
    simp only [gm_sameAuto.l1, gm_sameAuto.L1]
    exact le_neg (by omega) (le_len fun hlen_ => gm_sameAuto.L2_le x2_2 x2_0 x2_1 x3_0 x3_1 x3_2 hlen_ _ 0 rfl)
  | y5 :: u5, i, hd => by
    have hw := w_next hd hlen
    have hx := drop_cons hd
    have ht := hx.2.2
    have h0 : (0 : Int) ≤ (i : Int) := by omega
    have h1 : (i : Int) < (x2_1.length : Int) := by have := hx.1; omega
    have hy : (rd_T84 x2_1 (i : Int)) = y5 := rdT_head (t := T84) hd
    refine le_step ?_
    simp only [gm_sameAuto.l1, gm_sameAuto.L1]
    refine le_pos h1 ?_
    subst hy
    exact (le_pos h0 (le_pos h1 (le_pos h0 (le_ite (le_ite (le_pos h0 (le_pos h1 (le_pos h0 (le_ite (le_ite (le_pos h0 (le_pos h1 (le_pos h0 (le_ite (le_bind (gm_SameGuards.le ((rd_T84 x2_1 (i : Int)).f2) ((rd_T84 x3_1 (i : Int)).f2)) fun t1 => (le_ite le_rfl (by rw [hw]; exact gm_sameAuto.L1_le x2_1 x2_0 x2_2 x3_0 x3_1 x3_2 hlen u5 (i + 1) ht))) le_none)))) le_rfl) le_none)))) le_rfl) le_none))))
def gm_sameAuto.g (l0_0 : ByteArray) (l0_1 : List S84) (l0_2 : List S79) (l1_0 : ByteArray) (l1_1 : List S84) (l1_2 : List S79) : Option Bool := if l0_0 = l1_0 then (if (l0_1.length : Int) = (l1_1.length : Int) then (if (l0_2.length : Int) = (l1_2.length : Int) then (if l0_1.length ≤ 9223372036854775807 then (gm_sameAuto.L1 l0_2 l1_1 l1_2 l0_1 0) else (none)) else (some false)) else (some false)) else (some false)
theorem gm_sameAuto.le (l0_0 : ByteArray) (l0_1 : List S84) (l0_2 : List S79) (l1_0 : ByteArray) (l1_1 : List S84) (l1_2 : List S79) : Le (gm_sameAuto.g l0_0 l0_1 l0_2 l1_0 l1_1 l1_2) (fun k => gm_sameAuto.f k l0_0 l0_1 l0_2 l1_0 l1_1 l1_2) := (le_ite (le_ite (le_ite (le_step (by simp only [gm_sameAuto.j0]; exact (le_len fun hlen_ => gm_sameAuto.L1_le l0_1 l0_0 l0_2 l1_0 l1_1 l1_2 hlen_ _ 0 rfl))) le_rfl) le_rfl) le_rfl)
def gm_SameNet.L2 (x3_3 : List S76) : List S76 → Nat → Option Bool
 | [], i => some true
 | y6 :: u6, i => if (i : Int) < (x3_3.length : Int) then ((gm_sameAuto.g (y6.f0) (y6.f1) (y6.f2) ((rd_T76 x3_3 (i : Int)).f0) ((rd_T76 x3_3 (i : Int)).f1) ((rd_T76 x3_3 (i : Int)).f2)).bind fun t3 => (if (!t3) = true then (some false) else (gm_SameNet.L2 x3_3 u6 (i + 1)))) else (none)
theorem gm_SameNet.L2_le (x2_3 : List S76) (x2_0 : List ByteArray) (x2_1 : List S86) (x2_2 : List ByteArray) (x3_0 : List ByteArray) (x3_1 : List S86) (x3_2 : List ByteArray) (x3_3 : List S76) (hlen : x2_3.length ≤ 9223372036854775807) : ∀ (l : List S76) (i : Nat), List.drop i (x2_3) = l → Le (gm_SameNet.L2 x3_3 l i) (fun k => gm_SameNet.l2 k (i : Int) x2_0 x2_1 x2_2 x2_3 x3_0 x3_1 x3_2 x3_3)
  | [], i, hd => by
    have hn := drop_nil hd
    refine le_step ?_
    simp only [gm_SameNet.l2, gm_SameNet.L2]
    exact le_neg (by omega) le_rfl
  | y6 :: u6, i, hd => by
    have hw := w_next hd hlen
    have hx := drop_cons hd
    have ht := hx.2.2
    have h0 : (0 : Int) ≤ (i : Int) := by omega
    have h1 : (i : Int) < (x2_3.length : Int) := by have := hx.1; omega
    have hy : (rd_T76 x2_3 (i : Int)) = y6 := rdT_head (t := T76) hd
    refine le_step ?_
    simp only [gm_SameNet.l2, gm_SameNet.L2]
    refine le_pos h1 ?_
    subst hy
    exact (le_pos h0 (le_pos h1 (le_pos h0 (le_ite (le_bind (gm_sameAuto.le ((rd_T76 x2_3 (i : Int)).f0) ((rd_T76 x2_3 (i : Int)).f1) ((rd_T76 x2_3 (i : Int)).f2) ((rd_T76 x3_3 (i : Int)).f0) ((rd_T76 x3_3 (i : Int)).f1) ((rd_T76 x3_3 (i : Int)).f2)) fun t3 => (le_ite le_rfl (by rw [hw]; exact gm_SameNet.L2_le x2_3 x2_0 x2_1 x2_2 x3_0 x3_1 x3_2 x3_3 hlen u6 (i + 1) ht))) le_none))))
def gm_SameNet.L1 (x2_3 : List S76) (x3_1 : List S86) (x3_3 : List S76) : List S86 → Nat → Option Bool
 | [], i => if x2_3.length ≤ 9223372036854775807 then (gm_SameNet.L2 x3_3 x2_3 0) else (none)
 | y5 :: u5, i => if (i : Int) < (x3_1.length : Int) then (if y5 = (rd_T86 x3_1 (i : Int)) then (gm_SameNet.L1 x2_3 x3_1 x3_3 u5 (i + 1)) else (some false)) else (none)
theorem gm_SameNet.L1_le (x2_1 : List S86) (x2_0 : List ByteArray) (x2_2 : List ByteArray) (x2_3 : List S76) (x3_0 : List ByteArray) (x3_1 : List S86) (x3_2 : List ByteArray) (x3_3 : List S76) (hlen : x2_1.length ≤ 9223372036854775807) : ∀ (l : List S86) (i : Nat), List.drop i (x2_1) = l → Le (gm_SameNet.L1 x2_3 x3_1 x3_3 l i) (fun k => gm_SameNet.l1 k (i : Int) x2_0 x2_1 x2_2 x2_3 x3_0 x3_1 x3_2 x3_3)
  | [], i, hd => by
    have hn := drop_nil hd
    refine le_step ?_
    simp only [gm_SameNet.l1, gm_SameNet.L1]
    exact le_neg (by omega) (le_len fun hlen_ => gm_SameNet.L2_le x2_3 x2_0 x2_1 x2_2 x3_0 x3_1 x3_2 x3_3 hlen_ _ 0 rfl)
  | y5 :: u5, i, hd => by
    have hw := w_next hd hlen
    have hx := drop_cons hd
    have ht := hx.2.2
    have h0 : (0 : Int) ≤ (i : Int) := by omega
    have h1 : (i : Int) < (x2_1.length : Int) := by have := hx.1; omega
    have hy : (rd_T86 x2_1 (i : Int)) = y5 := rdT_head (t := T86) hd
    refine le_step ?_
    simp only [gm_SameNet.l1, gm_SameNet.L1]
    refine le_pos h1 ?_
    subst hy
    exact (le_pos h0 (le_pos h1 (le_pos h0 (le_ite (le_ite (by rw [hw]; exact gm_SameNet.L1_le x2_1 x2_0 x2_2 x2_3 x3_0 x3_1 x3_2 x3_3 hlen u5 (i + 1) ht) le_rfl) le_none))))
def gm_SameNet.g (l0_0 : List ByteArray) (l0_1 : List S86) (l0_2 : List ByteArray) (l0_3 : List S76) (l1_0 : List ByteArray) (l1_1 : List S86) (l1_2 : List ByteArray) (l1_3 : List S76) : Option Bool := (gm_SameTexts.g l0_0 l1_0).bind fun t1 => (if (!t1) = true then (some false) else ((gm_SameTexts.g l0_2 l1_2).bind fun t2 => (if (!t2) = true then (some false) else (if (l0_1.length : Int) = (l1_1.length : Int) then (if (l0_3.length : Int) = (l1_3.length : Int) then (if l0_1.length ≤ 9223372036854775807 then (gm_SameNet.L1 l0_3 l1_1 l1_3 l0_1 0) else (none)) else (some false)) else (some false)))))
theorem gm_SameNet.le (l0_0 : List ByteArray) (l0_1 : List S86) (l0_2 : List ByteArray) (l0_3 : List S76) (l1_0 : List ByteArray) (l1_1 : List S86) (l1_2 : List ByteArray) (l1_3 : List S76) : Le (gm_SameNet.g l0_0 l0_1 l0_2 l0_3 l1_0 l1_1 l1_2 l1_3) (fun k => gm_SameNet.f k l0_0 l0_1 l0_2 l0_3 l1_0 l1_1 l1_2 l1_3) := (le_bind (gm_SameTexts.le l0_0 l1_0) fun t1 => (le_ite le_rfl (le_bind (gm_SameTexts.le l0_2 l1_2) fun t2 => (le_ite le_rfl (le_ite (le_ite (le_step (by simp only [gm_SameNet.j0]; exact (le_len fun hlen_ => gm_SameNet.L1_le l0_1 l0_0 l0_2 l0_3 l1_0 l1_1 l1_2 l1_3 hlen_ _ 0 rfl))) le_rfl) le_rfl)))))
def net_WholeGoal_4.g (l0_0 : List S133) (l0_1 : List S43) (l0_2 : List S151) : Option Int := (net_cmps.g l0_1).bind fun t1 => (some t1)
theorem net_WholeGoal_4.le (l0_0 : List S133) (l0_1 : List S43) (l0_2 : List S151) : Le (net_WholeGoal_4.g l0_0 l0_1 l0_2) (fun k => net_WholeGoal_4.f k l0_0 l0_1 l0_2) := (le_bind (net_cmps.le l0_1) fun t1 => le_rfl)
def net_WholeGoal_2.L0 (x1 : S26) : List S133 → Option Int
 | [] => some 0
 | y9 :: u9 => if (y9.f0) < 0 then (some 122) else (if (y9.f0) ≥ (x1.f3.length : Int) then (some 122) else (if (y9.f1) < 0 then (some 122) else (if 0 ≤ y9.f0 then (if y9.f0 < (x1.f3.length : Int) then (if (y9.f1) ≥ (((rd_T76 x1.f3 (y9.f0)).f1).length : Int) then (some 122) else (net_WholeGoal_2.L0 x1 u9)) else (none)) else (none))))
theorem net_WholeGoal_2.L0_le (x7 : List S133) (x1 : S26) (hlen : x7.length ≤ 9223372036854775807) : ∀ (l : List S133) (i : Nat), List.drop i (x7) = l → Le (net_WholeGoal_2.L0 x1 l) (fun k => net_WholeGoal_2.l0 k x1 x7 (x7.length : Int) (i : Int))
  | [], i, hd => by
    have hn := drop_nil hd
    refine le_step ?_
    simp only [net_WholeGoal_2.l0, net_WholeGoal_2.L0]
    exact le_neg (by omega) le_rfl
  | y9 :: u9, i, hd => by
    have hw := w_next hd hlen
    have hx := drop_cons hd
    have ht := hx.2.2
    have h0 : (0 : Int) ≤ (i : Int) := by omega
    have h1 : (i : Int) < (x7.length : Int) := by have := hx.1; omega
    have h2 := h1
    have hy : (rd_T133 x7 (i : Int)) = y9 := rdT_head (t := T133) hd
    refine le_step ?_
    simp only [net_WholeGoal_2.l0, net_WholeGoal_2.L0]
    refine le_pos h1 ?_
    subst hy
    exact (le_pos h0 (le_pos h1 (le_ite le_rfl (le_ite le_rfl (le_ite le_rfl (le_ite (le_ite (le_ite le_rfl (by rw [hw]; exact net_WholeGoal_2.L0_le x7 x1 hlen u9 (i + 1) ht)) le_none) le_none))))))
def net_WholeGoal_2.g (l0_0 : List S133) (l0_1 : List S43) (l0_2 : List S151) (a1 : S26) : Option Int := if l0_0.length ≤ 9223372036854775807 then (net_WholeGoal_2.L0 a1 l0_0) else (none)
theorem net_WholeGoal_2.le (l0_0 : List S133) (l0_1 : List S43) (l0_2 : List S151) (a1 : S26) : Le (net_WholeGoal_2.g l0_0 l0_1 l0_2 a1) (fun k => net_WholeGoal_2.f k l0_0 l0_1 l0_2 a1) := (le_len fun hlen_ => net_WholeGoal_2.L0_le l0_0 a1 hlen_ _ 0 rfl)
def net_WholeGoal_3.g (l0_0 : List S133) (l0_1 : List S43) (l0_2 : List S151) (a1 : S26) : Option Int := (net_clocksOf.g a1.f0 a1.f1 a1.f2 a1.f3 l0_1).bind fun t1 => (some t1)
theorem net_WholeGoal_3.le (l0_0 : List S133) (l0_1 : List S43) (l0_2 : List S151) (a1 : S26) : Le (net_WholeGoal_3.g l0_0 l0_1 l0_2 a1) (fun k => net_WholeGoal_3.f k l0_0 l0_1 l0_2 a1) := (le_bind (net_clocksOf.le a1.f0 a1.f1 a1.f2 a1.f3 l0_1) fun t1 => le_rfl)
def net_WholeGoal_5.g (l0_0 : List S133) (l0_1 : List S43) (l0_2 : List S151) (a1 : S26) : Option Int := (net_truth.g a1.f0 a1.f1 a1.f2 a1.f3 l0_2).bind fun t1 => (some t1)
theorem net_WholeGoal_5.le (l0_0 : List S133) (l0_1 : List S43) (l0_2 : List S151) (a1 : S26) : Le (net_WholeGoal_5.g l0_0 l0_1 l0_2 a1) (fun k => net_WholeGoal_5.f k l0_0 l0_1 l0_2 a1) := (le_bind (net_truth.le a1.f0 a1.f1 a1.f2 a1.f3 l0_2) fun t1 => le_rfl)
def net_WholeGoal.L1 (x8 : DA1) (K0 : Option Int) : List S72 → Option Int
 | [] => K0
 | y32 :: u32 => (Sum.elim (fun (_ : Bool) => net_WholeGoal_1.f (y32.f0) (y32.f1) (y32.f2)) (Sum.elim (fun (c1 : S26) => net_WholeGoal_2.g (y32.f0) (y32.f1) (y32.f2) c1) (Sum.elim (fun (c2 : S26) => net_WholeGoal_3.g (y32.f0) (y32.f1) (y32.f2) c2) (Sum.elim (fun (_ : Bool) => net_WholeGoal_4.g (y32.f0) (y32.f1) (y32.f2)) (Sum.elim (fun (c4 : S26) => net_WholeGoal_5.g (y32.f0) (y32.f1) (y32.f2) c4) (fun _ => none))))) x8).bind fun t2 => (if t2 = 0 then (net_WholeGoal.L1 x8 K0 u32) else (some t2))
theorem net_WholeGoal.L1_le (x30 : List S72) (x1 : List S72) (x8 : DA1) (x24 : List DA1) (x25 : Int) (x26 : Int) (K0 : Option Int) (hK0 : Le (K0) (fun k => net_WholeGoal.l0 k x1 x24 x25 (w64 (x26 + 1)))) (hlen : x30.length ≤ 9223372036854775807) : ∀ (l : List S72) (i : Nat), List.drop i (x30) = l → Le (net_WholeGoal.L1 x8 K0 l) (fun k => net_WholeGoal.l1 k x1 x8 x24 x25 x26 x30 (x30.length : Int) (i : Int))
  | [], i, hd => by
    have hn := drop_nil hd
    refine le_step ?_
    simp only [net_WholeGoal.l1, net_WholeGoal.L1]
    exact le_neg (by omega) (hK0)
  | y32 :: u32, i, hd => by
    have hw := w_next hd hlen
    have hx := drop_cons hd
    have ht := hx.2.2
    have h0 : (0 : Int) ≤ (i : Int) := by omega
    have h1 : (i : Int) < (x30.length : Int) := by have := hx.1; omega
    have h2 := h1
    have hy : (rd_T72 x30 (i : Int)) = y32 := rdT_head (t := T72) hd
    refine le_step ?_
    simp only [net_WholeGoal.l1, net_WholeGoal.L1]
    refine le_pos h1 ?_
    subst hy
    exact (le_pos h0 (le_pos h1 (le_bind (le_elim (fun (_ : Bool) => le_rfl) (fun _ => le_elim (fun (c1 : S26) => (net_WholeGoal_2.le ((rd_T72 x30 (i : Int)).f0) ((rd_T72 x30 (i : Int)).f1) ((rd_T72 x30 (i : Int)).f2) c1)) (fun _ => le_elim (fun (c2 : S26) => (net_WholeGoal_3.le ((rd_T72 x30 (i : Int)).f0) ((rd_T72 x30 (i : Int)).f1) ((rd_T72 x30 (i : Int)).f2) c2)) (fun _ => le_elim (fun (_ : Bool) => (net_WholeGoal_4.le ((rd_T72 x30 (i : Int)).f0) ((rd_T72 x30 (i : Int)).f1) ((rd_T72 x30 (i : Int)).f2))) (fun _ => le_elim (fun (c4 : S26) => (net_WholeGoal_5.le ((rd_T72 x30 (i : Int)).f0) ((rd_T72 x30 (i : Int)).f1) ((rd_T72 x30 (i : Int)).f2) c4)) (fun _ => le_none)))))) fun t2 => (le_ite (by rw [hw]; exact net_WholeGoal.L1_le x30 x1 x8 x24 x25 x26 K0 hK0 hlen u32 (i + 1) ht) le_rfl))))
def net_WholeGoal.L0 (x1 : List S72) : List DA1 → Option Int
 | [] => some 0
 | y26 :: u26 => if x1.length ≤ 9223372036854775807 then (net_WholeGoal.L1 y26 (net_WholeGoal.L0 x1 u26) x1) else (none)
theorem net_WholeGoal.L0_le (x24 : List DA1) (x1 : List S72) (hlen : x24.length ≤ 9223372036854775807) : ∀ (l : List DA1) (i : Nat), List.drop i (x24) = l → Le (net_WholeGoal.L0 x1 l) (fun k => net_WholeGoal.l0 k x1 x24 (x24.length : Int) (i : Int))
  | [], i, hd => by
    have hn := drop_nil hd
    refine le_step ?_
    simp only [net_WholeGoal.l0, net_WholeGoal.L0]
    exact le_neg (by omega) le_rfl
  | y26 :: u26, i, hd => by
    have hw := w_next hd hlen
    have hx := drop_cons hd
    have ht := hx.2.2
    have h0 : (0 : Int) ≤ (i : Int) := by omega
    have h1 : (i : Int) < (x24.length : Int) := by have := hx.1; omega
    have h2 := h1
    have hy : (rdT A1 x24 (i : Int)) = y26 := rdT_head (t := A1) hd
    refine le_step ?_
    simp only [net_WholeGoal.l0, net_WholeGoal.L0]
    refine le_pos h1 ?_
    subst hy
    exact (le_pos h0 (le_pos h1 (le_len fun hlen_ => net_WholeGoal.L1_le x1 x1 (rdT A1 x24 (i : Int)) x24 (x24.length : Int) (i : Int) _ (by rw [hw]; exact net_WholeGoal.L0_le x24 x1 hlen u26 (i + 1) ht) hlen_ _ 0 rfl)))
def net_WholeGoal.g (l0_0 : List ByteArray) (l0_1 : List S86) (l0_2 : List ByteArray) (l0_3 : List S76) (a1 : List S72) : Option Int := (net_Whole.g l0_0 l0_1 l0_2 l0_3).bind fun t1 => (if t1 = 0 then (if (a1.length : Int) > 16 then (some 6) else (if ([(Sum.inl false), (Sum.inr (Sum.inl (⟨l0_0, l0_1, l0_2, l0_3⟩ : S26))), (Sum.inr (Sum.inr (Sum.inl (⟨l0_0, l0_1, l0_2, l0_3⟩ : S26)))), (Sum.inr (Sum.inr (Sum.inr (Sum.inl false)))), (Sum.inr (Sum.inr (Sum.inr (Sum.inr (Sum.inl (⟨l0_0, l0_1, l0_2, l0_3⟩ : S26))))))] : List DA1).length ≤ 9223372036854775807 then (net_WholeGoal.L0 a1 ([(Sum.inl false), (Sum.inr (Sum.inl (⟨l0_0, l0_1, l0_2, l0_3⟩ : S26))), (Sum.inr (Sum.inr (Sum.inl (⟨l0_0, l0_1, l0_2, l0_3⟩ : S26)))), (Sum.inr (Sum.inr (Sum.inr (Sum.inl false)))), (Sum.inr (Sum.inr (Sum.inr (Sum.inr (Sum.inl (⟨l0_0, l0_1, l0_2, l0_3⟩ : S26))))))] : List DA1)) else (none))) else (some t1))
theorem net_WholeGoal.le (l0_0 : List ByteArray) (l0_1 : List S86) (l0_2 : List ByteArray) (l0_3 : List S76) (a1 : List S72) : Le (net_WholeGoal.g l0_0 l0_1 l0_2 l0_3 a1) (fun k => net_WholeGoal.f k l0_0 l0_1 l0_2 l0_3 a1) := (le_bind (net_Whole.le l0_0 l0_1 l0_2 l0_3) fun t1 => (le_ite (le_ite le_rfl (le_len fun hlen_ => net_WholeGoal.L0_le ([(Sum.inl false), (Sum.inr (Sum.inl (⟨l0_0, l0_1, l0_2, l0_3⟩ : S26))), (Sum.inr (Sum.inr (Sum.inl (⟨l0_0, l0_1, l0_2, l0_3⟩ : S26)))), (Sum.inr (Sum.inr (Sum.inr (Sum.inl false)))), (Sum.inr (Sum.inr (Sum.inr (Sum.inr (Sum.inl (⟨l0_0, l0_1, l0_2, l0_3⟩ : S26))))))] : List DA1) a1 hlen_ _ 0 rfl)) le_rfl))
def gm_SameAts.L0 (x1 : List S133) : List S133 → Nat → Option Bool
 | [], i => some true
 | y5 :: u5, i => if (i : Int) < (x1.length : Int) then (if y5 = (rd_T133 x1 (i : Int)) then (gm_SameAts.L0 x1 u5 (i + 1)) else (some false)) else (none)
theorem gm_SameAts.L0_le (x0 : List S133) (x1 : List S133) (hlen : x0.length ≤ 9223372036854775807) : ∀ (l : List S133) (i : Nat), List.drop i (x0) = l → Le (gm_SameAts.L0 x1 l i) (fun k => gm_SameAts.l0 k x0 x1 (i : Int))
  | [], i, hd => by
    have hn := drop_nil hd
    refine le_step ?_
    simp only [gm_SameAts.l0, gm_SameAts.L0]
    exact le_neg (by omega) le_rfl
  | y5 :: u5, i, hd => by
    have hw := w_next hd hlen
    have hx := drop_cons hd
    have ht := hx.2.2
    have h0 : (0 : Int) ≤ (i : Int) := by omega
    have h1 : (i : Int) < (x0.length : Int) := by have := hx.1; omega
    have hy : (rd_T133 x0 (i : Int)) = y5 := rdT_head (t := T133) hd
    refine le_step ?_
    simp only [gm_SameAts.l0, gm_SameAts.L0]
    refine le_pos h1 ?_
    subst hy
    exact (le_pos h0 (le_pos h1 (le_pos h0 (le_ite (le_ite (by rw [hw]; exact gm_SameAts.L0_le x0 x1 hlen u5 (i + 1) ht) le_rfl) le_none))))
def gm_SameAts.g (a0 : List S133) (a1 : List S133) : Option Bool := if (a0.length : Int) = (a1.length : Int) then (if a0.length ≤ 9223372036854775807 then (gm_SameAts.L0 a1 a0 0) else (none)) else (some false)
theorem gm_SameAts.le (a0 : List S133) (a1 : List S133) : Le (gm_SameAts.g a0 a1) (fun k => gm_SameAts.f k a0 a1) := (le_ite (le_len fun hlen_ => gm_SameAts.L0_le a0 a1 hlen_ _ 0 rfl) le_rfl)
end
end Go.Proofs.YtbjkfkifkglplaaGreatDoor.Q
