/- Part of the proof: T4. -/
import Derived.Test.YtfajafegkechhaaDoorH2
set_option linter.unusedVariables false
set_option linter.unusedSimpArgs false
set_option maxRecDepth 100000
namespace Go.Proofs.YtfajafegkechhaaDoor.Q
open Go Go.Den Go.Proofs
noncomputable section
def slices_IndexFunc_api_Auto_api_Auto_at50.L0 : List S49 → Nat → Option Int
 | [], i => some (-1)
 | y8 :: u8, i => (net_some_1.f (y8.f0) (y8.f1) (y8.f2)).bind fun t1 => (if t1 = true then (some (i : Int)) else (slices_IndexFunc_api_Auto_api_Auto_at50.L0 u8 (i + 1)))
theorem slices_IndexFunc_api_Auto_api_Auto_at50.L0_le (x0 : List S49) (x1 : Bool) (hlen : x0.length ≤ 9223372036854775807) : ∀ (l : List S49) (i : Nat), List.drop i (x0) = l → Le (slices_IndexFunc_api_Auto_api_Auto_at50.L0 l i) (fun k => slices_IndexFunc_api_Auto_api_Auto_at50.l0 k x0 x1 (x0.length : Int) (i : Int))
  | [], i, hd => by
    have hn := drop_nil hd
    refine le_step ?_
    simp only [slices_IndexFunc_api_Auto_api_Auto_at50.l0, slices_IndexFunc_api_Auto_api_Auto_at50.L0]
    exact le_neg (by omega) le_rfl
  | y8 :: u8, i, hd => by
    have hw := w_next hd hlen
    have hx := drop_cons hd
    have ht := hx.2.2
    have h0 : (0 : Int) ≤ (i : Int) := by omega
    have h1 : (i : Int) < (x0.length : Int) := by have := hx.1; omega
    have h2 := h1
    have hy : (rd_T49 x0 (i : Int)) = y8 := rdT_head (t := T49) hd
    refine le_step ?_
    simp only [slices_IndexFunc_api_Auto_api_Auto_at50.l0, slices_IndexFunc_api_Auto_api_Auto_at50.L0]
    refine le_pos h1 ?_
    subst hy
    exact (le_pos h0 (le_pos h1 (le_bind le_rfl fun t1 => (le_ite le_rfl (by rw [hw]; exact slices_IndexFunc_api_Auto_api_Auto_at50.L0_le x0 x1 hlen u8 (i + 1) ht)))))
def slices_IndexFunc_api_Auto_api_Auto_at50.g (a0 : List S49) (a1 : Bool) : Option Int := if a0.length ≤ 9223372036854775807 then (slices_IndexFunc_api_Auto_api_Auto_at50.L0 a0 0) else (none)
theorem slices_IndexFunc_api_Auto_api_Auto_at50.le (a0 : List S49) (a1 : Bool) : Le (slices_IndexFunc_api_Auto_api_Auto_at50.g a0 a1) (fun k => slices_IndexFunc_api_Auto_api_Auto_at50.f k a0 a1) := (le_len fun hlen_ => slices_IndexFunc_api_Auto_api_Auto_at50.L0_le a0 a1 hlen_ _ 0 rfl)
def slices_ContainsFunc_api_Auto_api_Auto_at50.g (a0 : List S49) (a1 : Bool) : Option Bool := (slices_IndexFunc_api_Auto_api_Auto_at50.g a0 a1).bind fun t1 => (some (decide (t1 ≥ 0)))
theorem slices_ContainsFunc_api_Auto_api_Auto_at50.le (a0 : List S49) (a1 : Bool) : Le (slices_ContainsFunc_api_Auto_api_Auto_at50.g a0 a1) (fun k => slices_ContainsFunc_api_Auto_api_Auto_at50.f k a0 a1) := (le_bind (slices_IndexFunc_api_Auto_api_Auto_at50.le a0 a1) fun t1 => le_rfl)
def net_some.g (l0_0 : List ByteArray) (l0_1 : List S78) (l0_2 : List ByteArray) (l0_3 : List S49) : Option Int := if (l0_3.length : Int) = 0 then (some 2) else ((slices_ContainsFunc_api_Auto_api_Auto_at50.g l0_3 false).bind fun t1 => (if t1 = true then (some 2) else (some 0)))
theorem net_some.le (l0_0 : List ByteArray) (l0_1 : List S78) (l0_2 : List ByteArray) (l0_3 : List S49) : Le (net_some.g l0_0 l0_1 l0_2 l0_3) (fun k => net_some.f k l0_0 l0_1 l0_2 l0_3) := (le_ite le_rfl (le_bind (slices_ContainsFunc_api_Auto_api_Auto_at50.le l0_3 false) fun t1 => (le_ite le_rfl le_rfl)))
def net_sizes.L6 (K4 : Option Int) : List S74 → Option Int
 | [] => K4
 | y88 :: u88 => if ((y88.f3).length : Int) > 64 then (some 6) else (net_sizes.L6 K4 u88)
theorem net_sizes.L6_le (x86 : List S74) (x34 : List S49) (x35 : Int) (x36 : Int) (x63 : List S53) (x64 : Int) (x65 : Int) (K4 : Option Int) (hK4 : Le (K4) (fun k => net_sizes.l4 k x34 x35 x36 x63 x64 (w64 (x65 + 1)))) (hlen : x86.length ≤ 9223372036854775807) : ∀ (l : List S74) (i : Nat), List.drop i (x86) = l → Le (net_sizes.L6 K4 l) (fun k => net_sizes.l6 k x34 x35 x36 x63 x64 x65 x86 (x86.length : Int) (i : Int))
  | [], i, hd => by
    have hn := drop_nil hd
    refine le_step ?_
    simp only [net_sizes.l6, net_sizes.L6]
    exact le_neg (by omega) (hK4)
  | y88 :: u88, i, hd => by
    have hw := w_next hd hlen
    have hx := drop_cons hd
    have ht := hx.2.2
    have h0 : (0 : Int) ≤ (i : Int) := by omega
    have h1 : (i : Int) < (x86.length : Int) := by have := hx.1; omega
    have h2 := h1
    have hy : (rd_T74 x86 (i : Int)) = y88 := rdT_head (t := T74) hd
    refine le_step ?_
    simp only [net_sizes.l6, net_sizes.L6]
    refine le_pos h1 ?_
    subst hy
    exact (le_pos h0 (le_pos h1 (le_ite le_rfl (by rw [hw]; exact net_sizes.L6_le x86 x34 x35 x36 x63 x64 x65 K4 hK4 hlen u88 (i + 1) ht))))
def net_sizes.L4 (K1 : Option Int) : List S53 → Option Int
 | [] => K1
 | y65 :: u65 => if ((y65.f2).length : Int) > 16 then (some 6) else (if ((y65.f6).length : Int) > 16 then (some 6) else (if ((y65.f3).length : Int) > 64 then (some 6) else (if (y65.f6).length ≤ 9223372036854775807 then (net_sizes.L6 (net_sizes.L4 K1 u65) (y65.f6)) else (none))))
theorem net_sizes.L4_le (x63 : List S53) (x34 : List S49) (x35 : Int) (x36 : Int) (K1 : Option Int) (hK1 : Le (K1) (fun k => net_sizes.l1 k x34 x35 (w64 (x36 + 1)))) (hlen : x63.length ≤ 9223372036854775807) : ∀ (l : List S53) (i : Nat), List.drop i (x63) = l → Le (net_sizes.L4 K1 l) (fun k => net_sizes.l4 k x34 x35 x36 x63 (x63.length : Int) (i : Int))
  | [], i, hd => by
    have hn := drop_nil hd
    refine le_step ?_
    simp only [net_sizes.l4, net_sizes.L4]
    exact le_neg (by omega) (hK1)
  | y65 :: u65, i, hd => by
    have hw := w_next hd hlen
    have hx := drop_cons hd
    have ht := hx.2.2
    have h0 : (0 : Int) ≤ (i : Int) := by omega
    have h1 : (i : Int) < (x63.length : Int) := by have := hx.1; omega
    have h2 := h1
    have hy : (rd_T53 x63 (i : Int)) = y65 := rdT_head (t := T53) hd
    refine le_step ?_
    simp only [net_sizes.l4, net_sizes.L4]
    refine le_pos h1 ?_
    subst hy
    exact (le_pos h0 (le_pos h1 (le_ite le_rfl (le_ite le_rfl (le_ite le_rfl (le_step (by simp only [net_sizes.j5]; exact (le_len fun hlen_ => net_sizes.L6_le ((rd_T53 x63 (i : Int)).f6) x34 x35 x36 x63 (x63.length : Int) (i : Int) _ (by rw [hw]; exact net_sizes.L4_le x63 x34 x35 x36 K1 hK1 hlen u65 (i + 1) ht) hlen_ _ 0 rfl))))))))
def net_sizes.L3 (x4_2 : List S53) (K1 : Option Int) : List S45 → Option Int
 | [] => if x4_2.length ≤ 9223372036854775807 then (net_sizes.L4 K1 x4_2) else (none)
 | y53 :: u53 => if ((y53.f2).length : Int) > 16 then (some 6) else (net_sizes.L3 x4_2 K1 u53)
theorem net_sizes.L3_le (x51 : List S45) (x34 : List S49) (x35 : Int) (x36 : Int) (x4_0 : ByteArray) (x4_1 : List S45) (x4_2 : List S53) (K1 : Option Int) (hK1 : Le (K1) (fun k => net_sizes.l1 k x34 x35 (w64 (x36 + 1)))) (hlen : x51.length ≤ 9223372036854775807) : ∀ (l : List S45) (i : Nat), List.drop i (x51) = l → Le (net_sizes.L3 x4_2 K1 l) (fun k => net_sizes.l3 k x34 x35 x36 x51 (x51.length : Int) (i : Int) x4_0 x4_1 x4_2)
  | [], i, hd => by
    have hn := drop_nil hd
    refine le_step ?_
    simp only [net_sizes.l3, net_sizes.L3]
    exact le_neg (by omega) (le_len fun hlen_ => net_sizes.L4_le x4_2 x34 x35 x36 _ hK1 hlen_ _ 0 rfl)
  | y53 :: u53, i, hd => by
    have hw := w_next hd hlen
    have hx := drop_cons hd
    have ht := hx.2.2
    have h0 : (0 : Int) ≤ (i : Int) := by omega
    have h1 : (i : Int) < (x51.length : Int) := by have := hx.1; omega
    have h2 := h1
    have hy : (rd_T45 x51 (i : Int)) = y53 := rdT_head (t := T45) hd
    refine le_step ?_
    simp only [net_sizes.l3, net_sizes.L3]
    refine le_pos h1 ?_
    subst hy
    exact (le_pos h0 (le_pos h1 (le_ite le_rfl (by rw [hw]; exact net_sizes.L3_le x51 x34 x35 x36 x4_0 x4_1 x4_2 K1 hK1 hlen u53 (i + 1) ht))))
def net_sizes.L1 : List S49 → Option Int
 | [] => some 0
 | y36 :: u36 => if ((y36.f1).length : Int) > 64 then (some 6) else (if ((y36.f2).length : Int) > 256 then (some 6) else (if (y36.f1).length ≤ 9223372036854775807 then (net_sizes.L3 (y36.f2) (net_sizes.L1 u36) (y36.f1)) else (none)))
theorem net_sizes.L1_le (x34 : List S49) (hlen : x34.length ≤ 9223372036854775807) : ∀ (l : List S49) (i : Nat), List.drop i (x34) = l → Le (net_sizes.L1 l) (fun k => net_sizes.l1 k x34 (x34.length : Int) (i : Int))
  | [], i, hd => by
    have hn := drop_nil hd
    refine le_step ?_
    simp only [net_sizes.l1, net_sizes.L1]
    exact le_neg (by omega) le_rfl
  | y36 :: u36, i, hd => by
    have hw := w_next hd hlen
    have hx := drop_cons hd
    have ht := hx.2.2
    have h0 : (0 : Int) ≤ (i : Int) := by omega
    have h1 : (i : Int) < (x34.length : Int) := by have := hx.1; omega
    have h2 := h1
    have hy : (rd_T49 x34 (i : Int)) = y36 := rdT_head (t := T49) hd
    refine le_step ?_
    simp only [net_sizes.l1, net_sizes.L1]
    refine le_pos h1 ?_
    subst hy
    exact (le_pos h0 (le_pos h1 (le_ite le_rfl (le_ite le_rfl (le_step (by simp only [net_sizes.j2]; exact (le_len fun hlen_ => net_sizes.L3_le ((rd_T49 x34 (i : Int)).f1) x34 (x34.length : Int) (i : Int) ((rd_T49 x34 (i : Int)).f0) ((rd_T49 x34 (i : Int)).f1) ((rd_T49 x34 (i : Int)).f2) _ (by rw [hw]; exact net_sizes.L1_le x34 hlen u36 (i + 1) ht) hlen_ _ 0 rfl)))))))
def net_sizes.g (l0_0 : List ByteArray) (l0_1 : List S78) (l0_2 : List ByteArray) (l0_3 : List S49) : Option Int := if (l0_0.length : Int) > 8 then (some 6) else (if (l0_1.length : Int) > 16 then (some 6) else (if (l0_2.length : Int) > 16 then (some 6) else (if (l0_3.length : Int) > 8 then (some 6) else (if l0_3.length ≤ 9223372036854775807 then (net_sizes.L1 l0_3) else (none)))))
theorem net_sizes.le (l0_0 : List ByteArray) (l0_1 : List S78) (l0_2 : List ByteArray) (l0_3 : List S49) : Le (net_sizes.g l0_0 l0_1 l0_2 l0_3) (fun k => net_sizes.f k l0_0 l0_1 l0_2 l0_3) := (le_ite le_rfl (le_ite le_rfl (le_ite le_rfl (le_ite le_rfl (le_step (by simp only [net_sizes.j0]; exact (le_len fun hlen_ => net_sizes.L1_le l0_3 hlen_ _ 0 rfl)))))))
def lex_of.g (a0 : Int) : Option Int := if a0 = 32 then (if (decide (a0 = 32)) = true then (some 1) else (if a0 = 35 then (some 4) else (if a0 ≥ 97 then (if a0 ≤ 122 then (if a0 ≤ 122 then (some 2) else (if a0 ≥ 48 then (if a0 ≤ 57 then (some 3) else (some 0)) else (some 0))) else (if a0 ≥ 65 then (if a0 ≤ 90 then (some 2) else (if a0 ≥ 48 then (if a0 ≤ 57 then (some 3) else (some 0)) else (some 0))) else (if a0 ≥ 48 then (if a0 ≤ 57 then (some 3) else (some 0)) else (some 0)))) else (if a0 ≥ 65 then (if a0 ≤ 90 then (some 2) else (if a0 ≥ 48 then (if a0 ≤ 57 then (some 3) else (some 0)) else (some 0))) else (if a0 ≥ 48 then (if a0 ≤ 57 then (some 3) else (some 0)) else (some 0)))))) else (if a0 = 9 then (if (decide (a0 = 9)) = true then (some 1) else (if a0 = 35 then (some 4) else (if a0 ≥ 97 then (if a0 ≤ 122 then (if a0 ≤ 122 then (some 2) else (if a0 ≥ 48 then (if a0 ≤ 57 then (some 3) else (some 0)) else (some 0))) else (if a0 ≥ 65 then (if a0 ≤ 90 then (some 2) else (if a0 ≥ 48 then (if a0 ≤ 57 then (some 3) else (some 0)) else (some 0))) else (if a0 ≥ 48 then (if a0 ≤ 57 then (some 3) else (some 0)) else (some 0)))) else (if a0 ≥ 65 then (if a0 ≤ 90 then (some 2) else (if a0 ≥ 48 then (if a0 ≤ 57 then (some 3) else (some 0)) else (some 0))) else (if a0 ≥ 48 then (if a0 ≤ 57 then (some 3) else (some 0)) else (some 0)))))) else (if a0 = 13 then (if (decide (a0 = 13)) = true then (some 1) else (if a0 = 35 then (some 4) else (if a0 ≥ 97 then (if a0 ≤ 122 then (if a0 ≤ 122 then (some 2) else (if a0 ≥ 48 then (if a0 ≤ 57 then (some 3) else (some 0)) else (some 0))) else (if a0 ≥ 65 then (if a0 ≤ 90 then (some 2) else (if a0 ≥ 48 then (if a0 ≤ 57 then (some 3) else (some 0)) else (some 0))) else (if a0 ≥ 48 then (if a0 ≤ 57 then (some 3) else (some 0)) else (some 0)))) else (if a0 ≥ 65 then (if a0 ≤ 90 then (some 2) else (if a0 ≥ 48 then (if a0 ≤ 57 then (some 3) else (some 0)) else (some 0))) else (if a0 ≥ 48 then (if a0 ≤ 57 then (some 3) else (some 0)) else (some 0)))))) else (if (decide (a0 = 10)) = true then (some 1) else (if a0 = 35 then (some 4) else (if a0 ≥ 97 then (if a0 ≤ 122 then (if a0 ≤ 122 then (some 2) else (if a0 ≥ 48 then (if a0 ≤ 57 then (some 3) else (some 0)) else (some 0))) else (if a0 ≥ 65 then (if a0 ≤ 90 then (some 2) else (if a0 ≥ 48 then (if a0 ≤ 57 then (some 3) else (some 0)) else (some 0))) else (if a0 ≥ 48 then (if a0 ≤ 57 then (some 3) else (some 0)) else (some 0)))) else (if a0 ≥ 65 then (if a0 ≤ 90 then (some 2) else (if a0 ≥ 48 then (if a0 ≤ 57 then (some 3) else (some 0)) else (some 0))) else (if a0 ≥ 48 then (if a0 ≤ 57 then (some 3) else (some 0)) else (some 0))))))))
theorem lex_of.le (a0 : Int) : Le (lex_of.g a0) (fun k => lex_of.f k a0) := (le_ite (le_step (by simp only [lex_of.j0]; exact (le_ite le_rfl (le_ite le_rfl (le_ite (le_ite (le_ite le_rfl (le_ite (le_ite le_rfl le_rfl) le_rfl)) (le_ite (le_ite le_rfl (le_ite (le_ite le_rfl le_rfl) le_rfl)) (le_ite (le_ite le_rfl le_rfl) le_rfl))) (le_ite (le_ite le_rfl (le_ite (le_ite le_rfl le_rfl) le_rfl)) (le_ite (le_ite le_rfl le_rfl) le_rfl))))))) (le_ite (le_step (by simp only [lex_of.j0]; exact (le_ite le_rfl (le_ite le_rfl (le_ite (le_ite (le_ite le_rfl (le_ite (le_ite le_rfl le_rfl) le_rfl)) (le_ite (le_ite le_rfl (le_ite (le_ite le_rfl le_rfl) le_rfl)) (le_ite (le_ite le_rfl le_rfl) le_rfl))) (le_ite (le_ite le_rfl (le_ite (le_ite le_rfl le_rfl) le_rfl)) (le_ite (le_ite le_rfl le_rfl) le_rfl))))))) (le_ite (le_step (by simp only [lex_of.j0]; exact (le_ite le_rfl (le_ite le_rfl (le_ite (le_ite (le_ite le_rfl (le_ite (le_ite le_rfl le_rfl) le_rfl)) (le_ite (le_ite le_rfl (le_ite (le_ite le_rfl le_rfl) le_rfl)) (le_ite (le_ite le_rfl le_rfl) le_rfl))) (le_ite (le_ite le_rfl (le_ite (le_ite le_rfl le_rfl) le_rfl)) (le_ite (le_ite le_rfl le_rfl) le_rfl))))))) (le_step (by simp only [lex_of.j0]; exact (le_ite le_rfl (le_ite le_rfl (le_ite (le_ite (le_ite le_rfl (le_ite (le_ite le_rfl le_rfl) le_rfl)) (le_ite (le_ite le_rfl (le_ite (le_ite le_rfl le_rfl) le_rfl)) (le_ite (le_ite le_rfl le_rfl) le_rfl))) (le_ite (le_ite le_rfl (le_ite (le_ite le_rfl le_rfl) le_rfl)) (le_ite (le_ite le_rfl le_rfl) le_rfl))))))))))
def lex_word.L0 : List Int → Nat → Option Int
 | [], i => some (i : Int)
 | y3 :: u3, i => (lex_of.g y3).bind fun t1 => (if t1 = 2 then (lex_word.L0 u3 (i + 1)) else ((lex_of.g y3).bind fun t2 => (if t2 = 3 then (lex_word.L0 u3 (i + 1)) else (if y3 = 95 then (lex_word.L0 u3 (i + 1)) else (some (i : Int))))))
theorem lex_word.L0_le (x0 : ByteArray) (hlen : x0.size ≤ 9223372036854775807) : ∀ (l : List Int) (i : Nat), List.drop i (bytesOf x0) = l → Le (lex_word.L0 l i) (fun k => lex_word.l0 k x0 (i : Int))
  | [], i, hd => by
    have hn := drop_nil hd
    rw [bytesOf_len] at hn
    refine le_step ?_
    simp only [lex_word.l0, lex_word.L0]
    exact le_neg (by omega) le_rfl
  | y3 :: u3, i, hd => by
    have hw := w_next hd (by rw [bytesOf_len]; exact hlen)
    have hx := drop_cons hd
    have ht := hx.2.2
    have hl := bytesOf_len x0
    have h0 : (0 : Int) ≤ (i : Int) := by omega
    have h1 : (i : Int) < (x0.size : Int) := by have := hx.1; omega
    have hy : btI x0 (i : Int) = y3 := bt_head hd
    refine le_step ?_
    simp only [lex_word.l0, lex_word.L0]
    refine le_pos h1 ?_
    subst hy
    exact (le_pos h0 (le_pos h1 (le_bind (lex_of.le (btI x0 (i : Int))) fun t1 => (le_ite (by rw [hw]; exact lex_word.L0_le x0 hlen u3 (i + 1) ht) (le_pos h0 (le_pos h1 (le_bind (lex_of.le (btI x0 (i : Int))) fun t2 => (le_ite (by rw [hw]; exact lex_word.L0_le x0 hlen u3 (i + 1) ht) (le_pos h0 (le_pos h1 (le_ite (by rw [hw]; exact lex_word.L0_le x0 hlen u3 (i + 1) ht) le_rfl)))))))))))
def lex_word.g (a0 : ByteArray) : Option Int := if a0.size ≤ 9223372036854775807 then (lex_word.L0 (List.drop 1 (bytesOf a0)) 1) else (none)
theorem lex_word.le (a0 : ByteArray) : Le (lex_word.g a0) (fun k => lex_word.f k a0) := (le_len fun hlen_ => lex_word.L0_le a0 hlen_ _ 1 rfl)
def slices_Index_string_string.L0 (x1 : ByteArray) : List ByteArray → Nat → Option Int
 | [], i => some (-1)
 | y8 :: u8, i => if x1 = y8 then (some (i : Int)) else (slices_Index_string_string.L0 x1 u8 (i + 1))
theorem slices_Index_string_string.L0_le (x0 : List ByteArray) (x1 : ByteArray) (hlen : x0.length ≤ 9223372036854775807) : ∀ (l : List ByteArray) (i : Nat), List.drop i (x0) = l → Le (slices_Index_string_string.L0 x1 l i) (fun k => slices_Index_string_string.l0 k x0 x1 (x0.length : Int) (i : Int))
  | [], i, hd => by
    have hn := drop_nil hd
    refine le_step ?_
    simp only [slices_Index_string_string.l0, slices_Index_string_string.L0]
    exact le_neg (by omega) le_rfl
  | y8 :: u8, i, hd => by
    have hw := w_next hd hlen
    have hx := drop_cons hd
    have ht := hx.2.2
    have h0 : (0 : Int) ≤ (i : Int) := by omega
    have h1 : (i : Int) < (x0.length : Int) := by have := hx.1; omega
    have h2 := h1
    have hy : (rdT .str x0 (i : Int)) = y8 := rdT_head (t := .str) hd
    refine le_step ?_
    simp only [slices_Index_string_string.l0, slices_Index_string_string.L0]
    refine le_pos h1 ?_
    subst hy
    exact (le_pos h0 (le_pos h1 (le_ite le_rfl (by rw [hw]; exact slices_Index_string_string.L0_le x0 x1 hlen u8 (i + 1) ht))))
def slices_Index_string_string.g (a0 : List ByteArray) (a1 : ByteArray) : Option Int := if a0.length ≤ 9223372036854775807 then (slices_Index_string_string.L0 a1 a0 0) else (none)
theorem slices_Index_string_string.le (a0 : List ByteArray) (a1 : ByteArray) : Le (slices_Index_string_string.g a0 a1) (fun k => slices_Index_string_string.f k a0 a1) := (le_len fun hlen_ => slices_Index_string_string.L0_le a0 a1 hlen_ _ 0 rfl)
def slices_Contains_string_string.g (a0 : List ByteArray) (a1 : ByteArray) : Option Bool := (slices_Index_string_string.g a0 a1).bind fun t1 => (some (decide (t1 ≥ 0)))
theorem slices_Contains_string_string.le (a0 : List ByteArray) (a1 : ByteArray) : Le (slices_Contains_string_string.g a0 a1) (fun k => slices_Contains_string_string.f k a0 a1) := (le_bind (slices_Index_string_string.le a0 a1) fun t1 => le_rfl)
def lex_IsName.g (a0 : ByteArray) : Option Bool := if a0 = (⟨#[]⟩ : ByteArray) then (some false) else (if (a0.size : Int) ≤ 16 then (if 0 ≤ 0 then (if 0 < (a0.size : Int) then ((lex_of.g (btI a0 0)).bind fun t1 => (if t1 = 2 then ((lex_word.g a0).bind fun t2 => (if t2 = (a0.size : Int) then ((slices_Contains_string_string.g lex_kept a0).bind fun t3 => (some (!t3))) else (some false))) else (some false))) else (none)) else (none)) else (some false))
theorem lex_IsName.le (a0 : ByteArray) : Le (lex_IsName.g a0) (fun k => lex_IsName.f k a0) := (le_ite le_rfl (le_ite (le_ite (le_ite (le_bind (lex_of.le (btI a0 0)) fun t1 => (le_ite (le_bind (lex_word.le a0) fun t2 => (le_ite (le_bind (slices_Contains_string_string.le lex_kept a0) fun t3 => le_rfl) le_rfl)) le_rfl)) le_none) le_none) le_rfl))
def net_given.L0 : List ByteArray → (List ByteArray) → Option Bool
 | [], x3 => some true
 | y9 :: u9, x3 => (lex_IsName.g y9).bind fun t1 => (if (!t1) = true then (some false) else (if (y9.size : Int) > 16 then (some false) else (if y9.size ≤ 9223372036854775807 then (if (hasK y9 x3) = true then (some false) else (if y9.size ≤ 9223372036854775807 then (if x3.length < 9223372036854775807 then (net_given.L0 u9 (y9 :: x3)) else (none)) else (none))) else (none))))
theorem net_given.L0_le (x7 : List ByteArray) (hlen : x7.length ≤ 9223372036854775807) : ∀ (l : List ByteArray) (i : Nat) (x3 : List ByteArray), List.drop i (x7) = l → Le (net_given.L0 l x3) (fun k => net_given.l0 k x3 x7 (x7.length : Int) (i : Int))
  | [], i, x3, hd => by
    have hn := drop_nil hd
    refine le_step ?_
    simp only [net_given.l0, net_given.L0]
    exact le_neg (by omega) le_rfl
  | y9 :: u9, i, x3, hd => by
    have hw := w_next hd hlen
    have hx := drop_cons hd
    have ht := hx.2.2
    have h0 : (0 : Int) ≤ (i : Int) := by omega
    have h1 : (i : Int) < (x7.length : Int) := by have := hx.1; omega
    have h2 := h1
    have hy : (rdT .str x7 (i : Int)) = y9 := rdT_head (t := .str) hd
    refine le_step ?_
    simp only [net_given.l0, net_given.L0]
    refine le_pos h1 ?_
    subst hy
    exact (le_pos h0 (le_pos h1 (le_bind (lex_IsName.le (rdT .str x7 (i : Int))) fun t1 => (le_ite le_rfl (le_ite le_rfl (le_ite (le_ite le_rfl (le_ite (le_ite (by rw [hw]; exact net_given.L0_le x7 hlen u9 (i + 1) ((rdT .str x7 (i : Int)) :: x3) ht) le_none) le_none)) le_none))))))
def net_given.g (a0 : List ByteArray) : Option Bool := if a0.length ≤ 9223372036854775807 then (net_given.L0 a0 ([] : List ByteArray)) else (none)
theorem net_given.le (a0 : List ByteArray) : Le (net_given.g a0) (fun k => net_given.f k a0) := (le_len fun hlen_ => net_given.L0_le a0 hlen_ _ 0 ([] : List ByteArray) rfl)
def slices_Concat_string_string.L1 : List (List ByteArray) → (List ByteArray) → Option (List ByteArray)
 | [], x6 => some x6
 | y27 :: u27, x6 => if x6.length + y27.length ≤ 8796093022208 then (slices_Concat_string_string.L1 u27 (x6 ++ y27)) else (none)
theorem slices_Concat_string_string.L1_le (x25 : List (List ByteArray)) (hlen : x25.length ≤ 9223372036854775807) : ∀ (l : List (List ByteArray)) (i : Nat) (x6 : List ByteArray), List.drop i (x25) = l → Le (slices_Concat_string_string.L1 l x6) (fun k => slices_Concat_string_string.l1 k x6 x25 (x25.length : Int) (i : Int))
  | [], i, x6, hd => by
    have hn := drop_nil hd
    refine le_step ?_
    simp only [slices_Concat_string_string.l1, slices_Concat_string_string.L1]
    exact le_neg (by omega) le_rfl
  | y27 :: u27, i, x6, hd => by
    have hw := w_next hd hlen
    have hx := drop_cons hd
    have ht := hx.2.2
    have h0 : (0 : Int) ≤ (i : Int) := by omega
    have h1 : (i : Int) < (x25.length : Int) := by have := hx.1; omega
    have h2 := h1
    have hy : (rdT (.list .str) x25 (i : Int)) = y27 := rdT_head (t := (.list .str)) hd
    refine le_step ?_
    simp only [slices_Concat_string_string.l1, slices_Concat_string_string.L1]
    refine le_pos h1 ?_
    subst hy
    exact (le_pos h0 (le_pos h1 (le_ite (by rw [hw]; exact slices_Concat_string_string.L1_le x25 hlen u27 (i + 1) (x6 ++ (rdT (.list .str) x25 (i : Int))) ht) le_none)))
def slices_Concat_string_string.L0 (x0 : List (List ByteArray)) : List (List ByteArray) → Int → Option (List ByteArray)
 | [], x3 => (slices_Grow_string_string.f () x3).bind fun t1 => (if x0.length ≤ 9223372036854775807 then (slices_Concat_string_string.L1 x0 t1) else (none))
 | y11 :: u11, x3 => if (w64 (x3 + (y11.length : Int))) < 0 then (none) else (slices_Concat_string_string.L0 x0 u11 (w64 (x3 + (y11.length : Int))))
theorem slices_Concat_string_string.L0_le (x9 : List (List ByteArray)) (x0 : List (List ByteArray)) (hlen : x9.length ≤ 9223372036854775807) : ∀ (l : List (List ByteArray)) (i : Nat) (x3 : Int), List.drop i (x9) = l → Le (slices_Concat_string_string.L0 x0 l x3) (fun k => slices_Concat_string_string.l0 k x0 x3 x9 (x9.length : Int) (i : Int))
  | [], i, x3, hd => by
    have hn := drop_nil hd
    refine le_step ?_
    simp only [slices_Concat_string_string.l0, slices_Concat_string_string.L0]
    exact le_neg (by omega) (le_bind le_rfl fun t1 => (le_len fun hlen_ => slices_Concat_string_string.L1_le x0 hlen_ _ 0 t1 rfl))
  | y11 :: u11, i, x3, hd => by
    have hw := w_next hd hlen
    have hx := drop_cons hd
    have ht := hx.2.2
    have h0 : (0 : Int) ≤ (i : Int) := by omega
    have h1 : (i : Int) < (x9.length : Int) := by have := hx.1; omega
    have h2 := h1
    have hy : (rdT (.list .str) x9 (i : Int)) = y11 := rdT_head (t := (.list .str)) hd
    refine le_step ?_
    simp only [slices_Concat_string_string.l0, slices_Concat_string_string.L0]
    refine le_pos h1 ?_
    subst hy
    exact (le_pos h0 (le_pos h1 (le_ite le_none (by rw [hw]; exact slices_Concat_string_string.L0_le x9 x0 hlen u11 (i + 1) (w64 (x3 + ((rdT (.list .str) x9 (i : Int)).length : Int))) ht))))
def slices_Concat_string_string.g (a0 : List (List ByteArray)) : Option (List ByteArray) := if a0.length ≤ 9223372036854775807 then (slices_Concat_string_string.L0 a0 a0 0) else (none)
theorem slices_Concat_string_string.le (a0 : List (List ByteArray)) : Le (slices_Concat_string_string.g a0) (fun k => slices_Concat_string_string.f k a0) := (le_len fun hlen_ => slices_Concat_string_string.L0_le a0 a0 hlen_ _ 0 0 rfl)
def net_Names.L0 : List S78 → (List ByteArray) → Option (List ByteArray)
 | [], x3 => some x3
 | y9 :: u9, x3 => if x3.length < 8796093022208 then (net_Names.L0 u9 (x3 ++ [y9.f0])) else (none)
theorem net_Names.L0_le (x7 : List S78) (hlen : x7.length ≤ 9223372036854775807) : ∀ (l : List S78) (i : Nat) (x3 : List ByteArray), List.drop i (x7) = l → Le (net_Names.L0 l x3) (fun k => net_Names.l0 k x3 x7 (x7.length : Int) (i : Int))
  | [], i, x3, hd => by
    have hn := drop_nil hd
    refine le_step ?_
    simp only [net_Names.l0, net_Names.L0]
    exact le_neg (by omega) le_rfl
  | y9 :: u9, i, x3, hd => by
    have hw := w_next hd hlen
    have hx := drop_cons hd
    have ht := hx.2.2
    have h0 : (0 : Int) ≤ (i : Int) := by omega
    have h1 : (i : Int) < (x7.length : Int) := by have := hx.1; omega
    have h2 := h1
    have hy : (rd_T78 x7 (i : Int)) = y9 := rdT_head (t := T78) hd
    refine le_step ?_
    simp only [net_Names.l0, net_Names.L0]
    refine le_pos h1 ?_
    subst hy
    exact (le_pos h0 (le_pos h1 (le_ite (by rw [hw]; exact net_Names.L0_le x7 hlen u9 (i + 1) (x3 ++ [(rd_T78 x7 (i : Int)).f0]) ht) le_none)))
def net_Names.g (l0_0 : List ByteArray) (l0_1 : List S78) (l0_2 : List ByteArray) (l0_3 : List S49) : Option (List ByteArray) := if l0_1.length ≤ 9223372036854775807 then (net_Names.L0 l0_1 ([] : List ByteArray)) else (none)
theorem net_Names.le (l0_0 : List ByteArray) (l0_1 : List S78) (l0_2 : List ByteArray) (l0_3 : List S49) : Le (net_Names.g l0_0 l0_1 l0_2 l0_3) (fun k => net_Names.f k l0_0 l0_1 l0_2 l0_3) := (le_len fun hlen_ => net_Names.L0_le l0_1 hlen_ _ 0 ([] : List ByteArray) rfl)
def net_all.L0 : List S49 → (List ByteArray) → Option (List ByteArray)
 | [], x3 => some x3
 | y17 :: u17, x3 => if x3.length < 8796093022208 then (net_all.L0 u17 (x3 ++ [y17.f0])) else (none)
theorem net_all.L0_le (x15 : List S49) (hlen : x15.length ≤ 9223372036854775807) : ∀ (l : List S49) (i : Nat) (x3 : List ByteArray), List.drop i (x15) = l → Le (net_all.L0 l x3) (fun k => net_all.l0 k x3 x15 (x15.length : Int) (i : Int))
  | [], i, x3, hd => by
    have hn := drop_nil hd
    refine le_step ?_
    simp only [net_all.l0, net_all.L0]
    exact le_neg (by omega) le_rfl
  | y17 :: u17, i, x3, hd => by
    have hw := w_next hd hlen
    have hx := drop_cons hd
    have ht := hx.2.2
    have h0 : (0 : Int) ≤ (i : Int) := by omega
    have h1 : (i : Int) < (x15.length : Int) := by have := hx.1; omega
    have h2 := h1
    have hy : (rd_T49 x15 (i : Int)) = y17 := rdT_head (t := T49) hd
    refine le_step ?_
    simp only [net_all.l0, net_all.L0]
    refine le_pos h1 ?_
    subst hy
    exact (le_pos h0 (le_pos h1 (le_ite (by rw [hw]; exact net_all.L0_le x15 hlen u17 (i + 1) (x3 ++ [(rd_T49 x15 (i : Int)).f0]) ht) le_none)))
def net_all.g (l0_0 : List ByteArray) (l0_1 : List S78) (l0_2 : List ByteArray) (l0_3 : List S49) : Option (List ByteArray) := (net_Names.g l0_0 l0_1 l0_2 l0_3).bind fun t1 => ((slices_Concat_string_string.g ([l0_0, t1, l0_2] : List (List ByteArray))).bind fun t2 => (if l0_3.length ≤ 9223372036854775807 then (net_all.L0 l0_3 t2) else (none)))
theorem net_all.le (l0_0 : List ByteArray) (l0_1 : List S78) (l0_2 : List ByteArray) (l0_3 : List S49) : Le (net_all.g l0_0 l0_1 l0_2 l0_3) (fun k => net_all.f k l0_0 l0_1 l0_2 l0_3) := (le_bind (net_Names.le l0_0 l0_1 l0_2 l0_3) fun t1 => (le_bind (slices_Concat_string_string.le ([l0_0, t1, l0_2] : List (List ByteArray))) fun t2 => (le_len fun hlen_ => net_all.L0_le l0_3 hlen_ _ 0 t2 rfl)))
def net_locNames.L0 : List S45 → (List ByteArray) → Option (List ByteArray)
 | [], x3 => some x3
 | y9 :: u9, x3 => if x3.length < 8796093022208 then (net_locNames.L0 u9 (x3 ++ [y9.f0])) else (none)
theorem net_locNames.L0_le (x7 : List S45) (hlen : x7.length ≤ 9223372036854775807) : ∀ (l : List S45) (i : Nat) (x3 : List ByteArray), List.drop i (x7) = l → Le (net_locNames.L0 l x3) (fun k => net_locNames.l0 k x3 x7 (x7.length : Int) (i : Int))
  | [], i, x3, hd => by
    have hn := drop_nil hd
    refine le_step ?_
    simp only [net_locNames.l0, net_locNames.L0]
    exact le_neg (by omega) le_rfl
  | y9 :: u9, i, x3, hd => by
    have hw := w_next hd hlen
    have hx := drop_cons hd
    have ht := hx.2.2
    have h0 : (0 : Int) ≤ (i : Int) := by omega
    have h1 : (i : Int) < (x7.length : Int) := by have := hx.1; omega
    have h2 := h1
    have hy : (rd_T45 x7 (i : Int)) = y9 := rdT_head (t := T45) hd
    refine le_step ?_
    simp only [net_locNames.l0, net_locNames.L0]
    refine le_pos h1 ?_
    subst hy
    exact (le_pos h0 (le_pos h1 (le_ite (by rw [hw]; exact net_locNames.L0_le x7 hlen u9 (i + 1) (x3 ++ [(rd_T45 x7 (i : Int)).f0]) ht) le_none)))
def net_locNames.g (l0_0 : ByteArray) (l0_1 : List S45) (l0_2 : List S53) : Option (List ByteArray) := if l0_1.length ≤ 9223372036854775807 then (net_locNames.L0 l0_1 ([] : List ByteArray)) else (none)
theorem net_locNames.le (l0_0 : ByteArray) (l0_1 : List S45) (l0_2 : List S53) : Le (net_locNames.g l0_0 l0_1 l0_2) (fun k => net_locNames.f k l0_0 l0_1 l0_2) := (le_len fun hlen_ => net_locNames.L0_le l0_1 hlen_ _ 0 ([] : List ByteArray) rfl)
def net_names.L0 : List S49 → Option Int
 | [] => some 0
 | y12 :: u12 => (net_locNames.g (y12.f0) (y12.f1) (y12.f2)).bind fun t3 => ((net_given.g t3).bind fun t4 => (if (!t4) = true then (some 112) else (net_names.L0 u12)))
theorem net_names.L0_le (x10 : List S49) (hlen : x10.length ≤ 9223372036854775807) : ∀ (l : List S49) (i : Nat), List.drop i (x10) = l → Le (net_names.L0 l) (fun k => net_names.l0 k x10 (x10.length : Int) (i : Int))
  | [], i, hd => by
    have hn := drop_nil hd
    refine le_step ?_
    simp only [net_names.l0, net_names.L0]
    exact le_neg (by omega) le_rfl
  | y12 :: u12, i, hd => by
    have hw := w_next hd hlen
    have hx := drop_cons hd
    have ht := hx.2.2
    have h0 : (0 : Int) ≤ (i : Int) := by omega
    have h1 : (i : Int) < (x10.length : Int) := by have := hx.1; omega
    have h2 := h1
    have hy : (rd_T49 x10 (i : Int)) = y12 := rdT_head (t := T49) hd
    refine le_step ?_
    simp only [net_names.l0, net_names.L0]
    refine le_pos h1 ?_
    subst hy
    exact (le_pos h0 (le_pos h1 (le_bind (net_locNames.le ((rd_T49 x10 (i : Int)).f0) ((rd_T49 x10 (i : Int)).f1) ((rd_T49 x10 (i : Int)).f2)) fun t3 => (le_bind (net_given.le t3) fun t4 => (le_ite le_rfl (by rw [hw]; exact net_names.L0_le x10 hlen u12 (i + 1) ht))))))
def net_names.g (l0_0 : List ByteArray) (l0_1 : List S78) (l0_2 : List ByteArray) (l0_3 : List S49) : Option Int := (net_all.g l0_0 l0_1 l0_2 l0_3).bind fun t1 => ((net_given.g t1).bind fun t2 => (if (!t2) = true then (some 112) else (if l0_3.length ≤ 9223372036854775807 then (net_names.L0 l0_3) else (none))))
theorem net_names.le (l0_0 : List ByteArray) (l0_1 : List S78) (l0_2 : List ByteArray) (l0_3 : List S49) : Le (net_names.g l0_0 l0_1 l0_2 l0_3) (fun k => net_names.f k l0_0 l0_1 l0_2 l0_3) := (le_bind (net_all.le l0_0 l0_1 l0_2 l0_3) fun t1 => (le_bind (net_given.le t1) fun t2 => (le_ite le_rfl (le_len fun hlen_ => net_names.L0_le l0_3 hlen_ _ 0 rfl))))
def net_vars.L0 : List S78 → Option Int
 | [] => some 0
 | y8 :: u8 => if (y8.f1) > (y8.f3) then (some 124) else (if (y8.f3) > (y8.f2) then (some 124) else (if (y8.f1) < (-1048576) then (some 124) else (if (y8.f2) > 1048576 then (some 124) else (net_vars.L0 u8))))
theorem net_vars.L0_le (x6 : List S78) (hlen : x6.length ≤ 9223372036854775807) : ∀ (l : List S78) (i : Nat), List.drop i (x6) = l → Le (net_vars.L0 l) (fun k => net_vars.l0 k x6 (x6.length : Int) (i : Int))
  | [], i, hd => by
    have hn := drop_nil hd
    refine le_step ?_
    simp only [net_vars.l0, net_vars.L0]
    exact le_neg (by omega) le_rfl
  | y8 :: u8, i, hd => by
    have hw := w_next hd hlen
    have hx := drop_cons hd
    have ht := hx.2.2
    have h0 : (0 : Int) ≤ (i : Int) := by omega
    have h1 : (i : Int) < (x6.length : Int) := by have := hx.1; omega
    have h2 := h1
    have hy : (rd_T78 x6 (i : Int)) = y8 := rdT_head (t := T78) hd
    refine le_step ?_
    simp only [net_vars.l0, net_vars.L0]
    refine le_pos h1 ?_
    subst hy
    exact (le_pos h0 (le_pos h1 (le_ite le_rfl (le_ite le_rfl (le_ite le_rfl (le_ite le_rfl (by rw [hw]; exact net_vars.L0_le x6 hlen u8 (i + 1) ht)))))))
def net_vars.g (l0_0 : List ByteArray) (l0_1 : List S78) (l0_2 : List ByteArray) (l0_3 : List S49) : Option Int := if l0_1.length ≤ 9223372036854775807 then (net_vars.L0 l0_1) else (none)
theorem net_vars.le (l0_0 : List ByteArray) (l0_1 : List S78) (l0_2 : List ByteArray) (l0_3 : List S49) : Le (net_vars.g l0_0 l0_1 l0_2 l0_3) (fun k => net_vars.f k l0_0 l0_1 l0_2 l0_3) := (le_len fun hlen_ => net_vars.L0_le l0_1 hlen_ _ 0 rfl)
def net_locs.L1 (K0 : Option Int) : List S45 → Option Int
 | [] => K0
 | y17 :: u17 => if (y17.f1) > 2 then (some 122) else (net_locs.L1 K0 u17)
theorem net_locs.L1_le (x15 : List S45) (x8 : List S49) (x9 : Int) (x10 : Int) (K0 : Option Int) (hK0 : Le (K0) (fun k => net_locs.l0 k x8 x9 (w64 (x10 + 1)))) (hlen : x15.length ≤ 9223372036854775807) : ∀ (l : List S45) (i : Nat), List.drop i (x15) = l → Le (net_locs.L1 K0 l) (fun k => net_locs.l1 k x8 x9 x10 x15 (x15.length : Int) (i : Int))
  | [], i, hd => by
    have hn := drop_nil hd
    refine le_step ?_
    simp only [net_locs.l1, net_locs.L1]
    exact le_neg (by omega) (hK0)
  | y17 :: u17, i, hd => by
    have hw := w_next hd hlen
    have hx := drop_cons hd
    have ht := hx.2.2
    have h0 : (0 : Int) ≤ (i : Int) := by omega
    have h1 : (i : Int) < (x15.length : Int) := by have := hx.1; omega
    have h2 := h1
    have hy : (rd_T45 x15 (i : Int)) = y17 := rdT_head (t := T45) hd
    refine le_step ?_
    simp only [net_locs.l1, net_locs.L1]
    refine le_pos h1 ?_
    subst hy
    exact (le_pos h0 (le_pos h1 (le_ite le_rfl (by rw [hw]; exact net_locs.L1_le x15 x8 x9 x10 K0 hK0 hlen u17 (i + 1) ht))))
def net_locs.L0 : List S49 → Option Int
 | [] => some 0
 | y10 :: u10 => if (y10.f1).length ≤ 9223372036854775807 then (net_locs.L1 (net_locs.L0 u10) (y10.f1)) else (none)
theorem net_locs.L0_le (x8 : List S49) (hlen : x8.length ≤ 9223372036854775807) : ∀ (l : List S49) (i : Nat), List.drop i (x8) = l → Le (net_locs.L0 l) (fun k => net_locs.l0 k x8 (x8.length : Int) (i : Int))
  | [], i, hd => by
    have hn := drop_nil hd
    refine le_step ?_
    simp only [net_locs.l0, net_locs.L0]
    exact le_neg (by omega) le_rfl
  | y10 :: u10, i, hd => by
    have hw := w_next hd hlen
    have hx := drop_cons hd
    have ht := hx.2.2
    have h0 : (0 : Int) ≤ (i : Int) := by omega
    have h1 : (i : Int) < (x8.length : Int) := by have := hx.1; omega
    have h2 := h1
    have hy : (rd_T49 x8 (i : Int)) = y10 := rdT_head (t := T49) hd
    refine le_step ?_
    simp only [net_locs.l0, net_locs.L0]
    refine le_pos h1 ?_
    subst hy
    exact (le_pos h0 (le_pos h1 (le_len fun hlen_ => net_locs.L1_le ((rd_T49 x8 (i : Int)).f1) x8 (x8.length : Int) (i : Int) _ (by rw [hw]; exact net_locs.L0_le x8 hlen u10 (i + 1) ht) hlen_ _ 0 rfl)))
def net_locs.g (l0_0 : List ByteArray) (l0_1 : List S78) (l0_2 : List ByteArray) (l0_3 : List S49) : Option Int := if l0_3.length ≤ 9223372036854775807 then (net_locs.L0 l0_3) else (none)
theorem net_locs.le (l0_0 : List ByteArray) (l0_1 : List S78) (l0_2 : List ByteArray) (l0_3 : List S49) : Le (net_locs.g l0_0 l0_1 l0_2 l0_3) (fun k => net_locs.f k l0_0 l0_1 l0_2 l0_3) := (le_len fun hlen_ => net_locs.L0_le l0_3 hlen_ _ 0 rfl)
def net_edges.L1 (x5 : S49) (x1_2 : List ByteArray) (K0 : Option Int) : List S53 → Option Int
 | [] => K0
 | y19 :: u19 => (net_edges_1.f (y19.f0) x5).bind fun t1 => (if (!t1) = true then (some 123) else ((net_edges_1.f (y19.f1) x5).bind fun t2 => (if (!t2) = true then (some 123) else (if (y19.f4) < 0 then (some 123) else (if (y19.f4) > (x1_2.length : Int) then (some 123) else (if (y19.f5) = true then (if (y19.f4) = 0 then (some 123) else (net_edges.L1 x5 x1_2 K0 u19)) else (net_edges.L1 x5 x1_2 K0 u19)))))))
theorem net_edges.L1_le (x17 : List S53) (x5 : S49) (x9 : List S49) (x10 : Int) (x11 : Int) (x1_0 : List ByteArray) (x1_1 : List S78) (x1_2 : List ByteArray) (x1_3 : List S49) (K0 : Option Int) (hK0 : Le (K0) (fun k => net_edges.l0 k x9 x10 (w64 (x11 + 1)) x1_0 x1_1 x1_2 x1_3)) (hlen : x17.length ≤ 9223372036854775807) : ∀ (l : List S53) (i : Nat), List.drop i (x17) = l → Le (net_edges.L1 x5 x1_2 K0 l) (fun k => net_edges.l1 k x5 x9 x10 x11 x17 (x17.length : Int) (i : Int) x1_0 x1_1 x1_2 x1_3)
  | [], i, hd => by
    have hn := drop_nil hd
    refine le_step ?_
    simp only [net_edges.l1, net_edges.L1]
    exact le_neg (by omega) (hK0)
  | y19 :: u19, i, hd => by
    have hw := w_next hd hlen
    have hx := drop_cons hd
    have ht := hx.2.2
    have h0 : (0 : Int) ≤ (i : Int) := by omega
    have h1 : (i : Int) < (x17.length : Int) := by have := hx.1; omega
    have h2 := h1
    have hy : (rd_T53 x17 (i : Int)) = y19 := rdT_head (t := T53) hd
    refine le_step ?_
    simp only [net_edges.l1, net_edges.L1]
    refine le_pos h1 ?_
    subst hy
    exact (le_pos h0 (le_pos h1 (le_bind le_rfl fun t1 => (le_ite le_rfl (le_bind le_rfl fun t2 => (le_ite le_rfl (le_ite le_rfl (le_ite le_rfl (le_ite (le_ite le_rfl (by rw [hw]; exact net_edges.L1_le x17 x5 x9 x10 x11 x1_0 x1_1 x1_2 x1_3 K0 hK0 hlen u19 (i + 1) ht)) (by rw [hw]; exact net_edges.L1_le x17 x5 x9 x10 x11 x1_0 x1_1 x1_2 x1_3 K0 hK0 hlen u19 (i + 1) ht))))))))))
def net_edges.L0 (x1_2 : List ByteArray) : List S49 → Option Int
 | [] => some 0
 | y11 :: u11 => if (y11.f2).length ≤ 9223372036854775807 then (net_edges.L1 y11 x1_2 (net_edges.L0 x1_2 u11) (y11.f2)) else (none)
theorem net_edges.L0_le (x9 : List S49) (x1_0 : List ByteArray) (x1_1 : List S78) (x1_2 : List ByteArray) (x1_3 : List S49) (hlen : x9.length ≤ 9223372036854775807) : ∀ (l : List S49) (i : Nat), List.drop i (x9) = l → Le (net_edges.L0 x1_2 l) (fun k => net_edges.l0 k x9 (x9.length : Int) (i : Int) x1_0 x1_1 x1_2 x1_3)
  | [], i, hd => by
    have hn := drop_nil hd
    refine le_step ?_
    simp only [net_edges.l0, net_edges.L0]
    exact le_neg (by omega) le_rfl
  | y11 :: u11, i, hd => by
    have hw := w_next hd hlen
    have hx := drop_cons hd
    have ht := hx.2.2
    have h0 : (0 : Int) ≤ (i : Int) := by omega
    have h1 : (i : Int) < (x9.length : Int) := by have := hx.1; omega
    have h2 := h1
    have hy : (rd_T49 x9 (i : Int)) = y11 := rdT_head (t := T49) hd
    refine le_step ?_
    simp only [net_edges.l0, net_edges.L0]
    refine le_pos h1 ?_
    subst hy
    exact (le_pos h0 (le_pos h1 (le_len fun hlen_ => net_edges.L1_le ((rd_T49 x9 (i : Int)).f2) (rd_T49 x9 (i : Int)) x9 (x9.length : Int) (i : Int) x1_0 x1_1 x1_2 x1_3 _ (by rw [hw]; exact net_edges.L0_le x9 x1_0 x1_1 x1_2 x1_3 hlen u11 (i + 1) ht) hlen_ _ 0 rfl)))
def net_edges.g (l0_0 : List ByteArray) (l0_1 : List S78) (l0_2 : List ByteArray) (l0_3 : List S49) : Option Int := if l0_3.length ≤ 9223372036854775807 then (net_edges.L0 l0_2 l0_3) else (none)
theorem net_edges.le (l0_0 : List ByteArray) (l0_1 : List S78) (l0_2 : List ByteArray) (l0_3 : List S49) : Le (net_edges.g l0_0 l0_1 l0_2 l0_3) (fun k => net_edges.f k l0_0 l0_1 l0_2 l0_3) := (le_len fun hlen_ => net_edges.L0_le l0_3 l0_0 l0_1 l0_2 l0_3 hlen_ _ 0 rfl)
def net_clocksOf.L0 (x2_0 : List ByteArray) (x2_1 : List S78) (x2_2 : List ByteArray) (x2_3 : List S49) : List S138 → Option Int
 | [] => some 0
 | y9 :: u9 => (net_isClock.f x2_0 x2_1 x2_2 x2_3 (y9.f0)).bind fun t1 => (if (!t1) = true then (some 12) else (if (y9.f1) = 0 then (net_clocksOf.L0 x2_0 x2_1 x2_2 x2_3 u9) else ((net_isClock.f x2_0 x2_1 x2_2 x2_3 (y9.f1)).bind fun t2 => (if (!t2) = true then (some 12) else (net_clocksOf.L0 x2_0 x2_1 x2_2 x2_3 u9)))))
theorem net_clocksOf.L0_le (x7 : List S138) (x2_0 : List ByteArray) (x2_1 : List S78) (x2_2 : List ByteArray) (x2_3 : List S49) (hlen : x7.length ≤ 9223372036854775807) : ∀ (l : List S138) (i : Nat), List.drop i (x7) = l → Le (net_clocksOf.L0 x2_0 x2_1 x2_2 x2_3 l) (fun k => net_clocksOf.l0 k x7 (x7.length : Int) (i : Int) x2_0 x2_1 x2_2 x2_3)
  | [], i, hd => by
    have hn := drop_nil hd
    refine le_step ?_
    simp only [net_clocksOf.l0, net_clocksOf.L0]
    exact le_neg (by omega) le_rfl
  | y9 :: u9, i, hd => by
    have hw := w_next hd hlen
    have hx := drop_cons hd
    have ht := hx.2.2
    have h0 : (0 : Int) ≤ (i : Int) := by omega
    have h1 : (i : Int) < (x7.length : Int) := by have := hx.1; omega
    have h2 := h1
    have hy : (rd_T138 x7 (i : Int)) = y9 := rdT_head (t := T138) hd
    refine le_step ?_
    simp only [net_clocksOf.l0, net_clocksOf.L0]
    refine le_pos h1 ?_
    subst hy
    exact (le_pos h0 (le_pos h1 (le_bind le_rfl fun t1 => (le_ite le_rfl (le_ite (by rw [hw]; exact net_clocksOf.L0_le x7 x2_0 x2_1 x2_2 x2_3 hlen u9 (i + 1) ht) (le_bind le_rfl fun t2 => (le_ite le_rfl (by rw [hw]; exact net_clocksOf.L0_le x7 x2_0 x2_1 x2_2 x2_3 hlen u9 (i + 1) ht))))))))
def net_clocksOf.g (l0_0 : List ByteArray) (l0_1 : List S78) (l0_2 : List ByteArray) (l0_3 : List S49) (a1 : List S138) : Option Int := if a1.length ≤ 9223372036854775807 then (net_clocksOf.L0 l0_0 l0_1 l0_2 l0_3 a1) else (none)
theorem net_clocksOf.le (l0_0 : List ByteArray) (l0_1 : List S78) (l0_2 : List ByteArray) (l0_3 : List S49) (a1 : List S138) : Le (net_clocksOf.g l0_0 l0_1 l0_2 l0_3 a1) (fun k => net_clocksOf.f k l0_0 l0_1 l0_2 l0_3 a1) := (le_len fun hlen_ => net_clocksOf.L0_le a1 l0_0 l0_1 l0_2 l0_3 hlen_ _ 0 rfl)
def net_guards.L2 (K0 : (List S138) → Option (List S138)) : List S53 → (List S138) → Option (List S138)
 | [], x3 => K0 x3
 | y32 :: u32, x3 => if x3.length + (y32.f2).length ≤ 4398046511104 then (net_guards.L2 K0 u32 (x3 ++ y32.f2)) else (none)
theorem net_guards.L2_le (x30 : List S53) (x11 : List S49) (x12 : Int) (x13 : Int) (K0 : (List S138) → Option (List S138)) (hK0 : ∀ x3', Le (K0 x3') (fun k => net_guards.l0 k x3' x11 x12 (w64 (x13 + 1)))) (hlen : x30.length ≤ 9223372036854775807) : ∀ (l : List S53) (i : Nat) (x3 : List S138), List.drop i (x30) = l → Le (net_guards.L2 K0 l x3) (fun k => net_guards.l2 k x3 x11 x12 x13 x30 (x30.length : Int) (i : Int))
  | [], i, x3, hd => by
    have hn := drop_nil hd
    refine le_step ?_
    simp only [net_guards.l2, net_guards.L2]
    exact le_neg (by omega) (hK0 x3)
  | y32 :: u32, i, x3, hd => by
    have hw := w_next hd hlen
    have hx := drop_cons hd
    have ht := hx.2.2
    have h0 : (0 : Int) ≤ (i : Int) := by omega
    have h1 : (i : Int) < (x30.length : Int) := by have := hx.1; omega
    have h2 := h1
    have hy : (rd_T53 x30 (i : Int)) = y32 := rdT_head (t := T53) hd
    refine le_step ?_
    simp only [net_guards.l2, net_guards.L2]
    refine le_pos h1 ?_
    subst hy
    exact (le_pos h0 (le_pos h1 (le_ite (by rw [hw]; exact net_guards.L2_le x30 x11 x12 x13 K0 hK0 hlen u32 (i + 1) (x3 ++ (rd_T53 x30 (i : Int)).f2) ht) le_none)))
def net_guards.L1 (x5_2 : List S53) (K0 : (List S138) → Option (List S138)) : List S45 → (List S138) → Option (List S138)
 | [], x3 => if x5_2.length ≤ 9223372036854775807 then (net_guards.L2 K0 x5_2 x3) else (none)
 | y20 :: u20, x3 => if x3.length + (y20.f2).length ≤ 4398046511104 then (net_guards.L1 x5_2 K0 u20 (x3 ++ y20.f2)) else (none)
theorem net_guards.L1_le (x18 : List S45) (x11 : List S49) (x12 : Int) (x13 : Int) (x5_0 : ByteArray) (x5_1 : List S45) (x5_2 : List S53) (K0 : (List S138) → Option (List S138)) (hK0 : ∀ x3', Le (K0 x3') (fun k => net_guards.l0 k x3' x11 x12 (w64 (x13 + 1)))) (hlen : x18.length ≤ 9223372036854775807) : ∀ (l : List S45) (i : Nat) (x3 : List S138), List.drop i (x18) = l → Le (net_guards.L1 x5_2 K0 l x3) (fun k => net_guards.l1 k x3 x11 x12 x13 x18 (x18.length : Int) (i : Int) x5_0 x5_1 x5_2)
  | [], i, x3, hd => by
    have hn := drop_nil hd
    refine le_step ?_
    simp only [net_guards.l1, net_guards.L1]
    exact le_neg (by omega) (le_len fun hlen_ => net_guards.L2_le x5_2 x11 x12 x13 _ hK0 hlen_ _ 0 x3 rfl)
  | y20 :: u20, i, x3, hd => by
    have hw := w_next hd hlen
    have hx := drop_cons hd
    have ht := hx.2.2
    have h0 : (0 : Int) ≤ (i : Int) := by omega
    have h1 : (i : Int) < (x18.length : Int) := by have := hx.1; omega
    have h2 := h1
    have hy : (rd_T45 x18 (i : Int)) = y20 := rdT_head (t := T45) hd
    refine le_step ?_
    simp only [net_guards.l1, net_guards.L1]
    refine le_pos h1 ?_
    subst hy
    exact (le_pos h0 (le_pos h1 (le_ite (by rw [hw]; exact net_guards.L1_le x18 x11 x12 x13 x5_0 x5_1 x5_2 K0 hK0 hlen u20 (i + 1) (x3 ++ (rd_T45 x18 (i : Int)).f2) ht) le_none)))
def net_guards.L0 : List S49 → (List S138) → Option (List S138)
 | [], x3 => some x3
 | y13 :: u13, x3 => if (y13.f1).length ≤ 9223372036854775807 then (net_guards.L1 (y13.f2) (fun x3' => net_guards.L0 u13 x3') (y13.f1) x3) else (none)
theorem net_guards.L0_le (x11 : List S49) (hlen : x11.length ≤ 9223372036854775807) : ∀ (l : List S49) (i : Nat) (x3 : List S138), List.drop i (x11) = l → Le (net_guards.L0 l x3) (fun k => net_guards.l0 k x3 x11 (x11.length : Int) (i : Int))
  | [], i, x3, hd => by
    have hn := drop_nil hd
    refine le_step ?_
    simp only [net_guards.l0, net_guards.L0]
    exact le_neg (by omega) le_rfl
  | y13 :: u13, i, x3, hd => by
    have hw := w_next hd hlen
    have hx := drop_cons hd
    have ht := hx.2.2
    have h0 : (0 : Int) ≤ (i : Int) := by omega
    have h1 : (i : Int) < (x11.length : Int) := by have := hx.1; omega
    have h2 := h1
    have hy : (rd_T49 x11 (i : Int)) = y13 := rdT_head (t := T49) hd
    refine le_step ?_
    simp only [net_guards.l0, net_guards.L0]
    refine le_pos h1 ?_
    subst hy
    exact (le_pos h0 (le_pos h1 (le_len fun hlen_ => net_guards.L1_le ((rd_T49 x11 (i : Int)).f1) x11 (x11.length : Int) (i : Int) ((rd_T49 x11 (i : Int)).f0) ((rd_T49 x11 (i : Int)).f1) ((rd_T49 x11 (i : Int)).f2) _ (fun x3' => by rw [hw]; exact net_guards.L0_le x11 hlen u13 (i + 1) x3' ht) hlen_ _ 0 x3 rfl)))
def net_guards.g (l0_0 : List ByteArray) (l0_1 : List S78) (l0_2 : List ByteArray) (l0_3 : List S49) : Option (List S138) := if l0_3.length ≤ 9223372036854775807 then (net_guards.L0 l0_3 ([] : List S138)) else (none)
theorem net_guards.le (l0_0 : List ByteArray) (l0_1 : List S78) (l0_2 : List ByteArray) (l0_3 : List S49) : Le (net_guards.g l0_0 l0_1 l0_2 l0_3) (fun k => net_guards.f k l0_0 l0_1 l0_2 l0_3) := (le_len fun hlen_ => net_guards.L0_le l0_3 hlen_ _ 0 ([] : List S138) rfl)
def net_sets.L1 (K0 : (List S74) → Option (List S74)) : List S53 → (List S74) → Option (List S74)
 | [], x3 => K0 x3
 | y18 :: u18, x3 => if x3.length + (y18.f6).length ≤ 2932031007402 then (net_sets.L1 K0 u18 (x3 ++ y18.f6)) else (none)
theorem net_sets.L1_le (x16 : List S53) (x9 : List S49) (x10 : Int) (x11 : Int) (K0 : (List S74) → Option (List S74)) (hK0 : ∀ x3', Le (K0 x3') (fun k => net_sets.l0 k x3' x9 x10 (w64 (x11 + 1)))) (hlen : x16.length ≤ 9223372036854775807) : ∀ (l : List S53) (i : Nat) (x3 : List S74), List.drop i (x16) = l → Le (net_sets.L1 K0 l x3) (fun k => net_sets.l1 k x3 x9 x10 x11 x16 (x16.length : Int) (i : Int))
  | [], i, x3, hd => by
    have hn := drop_nil hd
    refine le_step ?_
    simp only [net_sets.l1, net_sets.L1]
    exact le_neg (by omega) (hK0 x3)
  | y18 :: u18, i, x3, hd => by
    have hw := w_next hd hlen
    have hx := drop_cons hd
    have ht := hx.2.2
    have h0 : (0 : Int) ≤ (i : Int) := by omega
    have h1 : (i : Int) < (x16.length : Int) := by have := hx.1; omega
    have h2 := h1
    have hy : (rd_T53 x16 (i : Int)) = y18 := rdT_head (t := T53) hd
    refine le_step ?_
    simp only [net_sets.l1, net_sets.L1]
    refine le_pos h1 ?_
    subst hy
    exact (le_pos h0 (le_pos h1 (le_ite (by rw [hw]; exact net_sets.L1_le x16 x9 x10 x11 K0 hK0 hlen u18 (i + 1) (x3 ++ (rd_T53 x16 (i : Int)).f6) ht) le_none)))
def net_sets.L0 : List S49 → (List S74) → Option (List S74)
 | [], x3 => some x3
 | y11 :: u11, x3 => if (y11.f2).length ≤ 9223372036854775807 then (net_sets.L1 (fun x3' => net_sets.L0 u11 x3') (y11.f2) x3) else (none)
theorem net_sets.L0_le (x9 : List S49) (hlen : x9.length ≤ 9223372036854775807) : ∀ (l : List S49) (i : Nat) (x3 : List S74), List.drop i (x9) = l → Le (net_sets.L0 l x3) (fun k => net_sets.l0 k x3 x9 (x9.length : Int) (i : Int))
  | [], i, x3, hd => by
    have hn := drop_nil hd
    refine le_step ?_
    simp only [net_sets.l0, net_sets.L0]
    exact le_neg (by omega) le_rfl
  | y11 :: u11, i, x3, hd => by
    have hw := w_next hd hlen
    have hx := drop_cons hd
    have ht := hx.2.2
    have h0 : (0 : Int) ≤ (i : Int) := by omega
    have h1 : (i : Int) < (x9.length : Int) := by have := hx.1; omega
    have h2 := h1
    have hy : (rd_T49 x9 (i : Int)) = y11 := rdT_head (t := T49) hd
    refine le_step ?_
    simp only [net_sets.l0, net_sets.L0]
    refine le_pos h1 ?_
    subst hy
    exact (le_pos h0 (le_pos h1 (le_len fun hlen_ => net_sets.L1_le ((rd_T49 x9 (i : Int)).f2) x9 (x9.length : Int) (i : Int) _ (fun x3' => by rw [hw]; exact net_sets.L0_le x9 hlen u11 (i + 1) x3' ht) hlen_ _ 0 x3 rfl)))
def net_sets.g (l0_0 : List ByteArray) (l0_1 : List S78) (l0_2 : List ByteArray) (l0_3 : List S49) : Option (List S74) := if l0_3.length ≤ 9223372036854775807 then (net_sets.L0 l0_3 ([] : List S74)) else (none)
theorem net_sets.le (l0_0 : List ByteArray) (l0_1 : List S78) (l0_2 : List ByteArray) (l0_3 : List S49) : Le (net_sets.g l0_0 l0_1 l0_2 l0_3) (fun k => net_sets.f k l0_0 l0_1 l0_2 l0_3) := (le_len fun hlen_ => net_sets.L0_le l0_3 hlen_ _ 0 ([] : List S74) rfl)
def net_clocks.L0 (x1_0 : List ByteArray) (x1_1 : List S78) (x1_2 : List ByteArray) (x1_3 : List S49) : List S74 → Option Int
 | [] => some 0
 | y16 :: u16 => if (y16.f0) = 0 then (net_clocks.L0 x1_0 x1_1 x1_2 x1_3 u16) else ((net_isClock.f x1_0 x1_1 x1_2 x1_3 (y16.f0)).bind fun t4 => (if (!t4) = true then (some 12) else (net_clocks.L0 x1_0 x1_1 x1_2 x1_3 u16)))
theorem net_clocks.L0_le (x14 : List S74) (x1_0 : List ByteArray) (x1_1 : List S78) (x1_2 : List ByteArray) (x1_3 : List S49) (hlen : x14.length ≤ 9223372036854775807) : ∀ (l : List S74) (i : Nat), List.drop i (x14) = l → Le (net_clocks.L0 x1_0 x1_1 x1_2 x1_3 l) (fun k => net_clocks.l0 k x14 (x14.length : Int) (i : Int) x1_0 x1_1 x1_2 x1_3)
  | [], i, hd => by
    have hn := drop_nil hd
    refine le_step ?_
    simp only [net_clocks.l0, net_clocks.L0]
    exact le_neg (by omega) le_rfl
  | y16 :: u16, i, hd => by
    have hw := w_next hd hlen
    have hx := drop_cons hd
    have ht := hx.2.2
    have h0 : (0 : Int) ≤ (i : Int) := by omega
    have h1 : (i : Int) < (x14.length : Int) := by have := hx.1; omega
    have h2 := h1
    have hy : (rd_T74 x14 (i : Int)) = y16 := rdT_head (t := T74) hd
    refine le_step ?_
    simp only [net_clocks.l0, net_clocks.L0]
    refine le_pos h1 ?_
    subst hy
    exact (le_pos h0 (le_pos h1 (le_ite (by rw [hw]; exact net_clocks.L0_le x14 x1_0 x1_1 x1_2 x1_3 hlen u16 (i + 1) ht) (le_bind le_rfl fun t4 => (le_ite le_rfl (by rw [hw]; exact net_clocks.L0_le x14 x1_0 x1_1 x1_2 x1_3 hlen u16 (i + 1) ht))))))
def net_clocks.g (l0_0 : List ByteArray) (l0_1 : List S78) (l0_2 : List ByteArray) (l0_3 : List S49) : Option Int := (net_guards.g l0_0 l0_1 l0_2 l0_3).bind fun t1 => ((net_clocksOf.g l0_0 l0_1 l0_2 l0_3 t1).bind fun t2 => (if t2 = 0 then ((net_sets.g l0_0 l0_1 l0_2 l0_3).bind fun t3 => (if t3.length ≤ 9223372036854775807 then (net_clocks.L0 l0_0 l0_1 l0_2 l0_3 t3) else (none))) else (some t2)))
theorem net_clocks.le (l0_0 : List ByteArray) (l0_1 : List S78) (l0_2 : List ByteArray) (l0_3 : List S49) : Le (net_clocks.g l0_0 l0_1 l0_2 l0_3) (fun k => net_clocks.f k l0_0 l0_1 l0_2 l0_3) := (le_bind (net_guards.le l0_0 l0_1 l0_2 l0_3) fun t1 => (le_bind (net_clocksOf.le l0_0 l0_1 l0_2 l0_3 t1) fun t2 => (le_ite (le_bind (net_sets.le l0_0 l0_1 l0_2 l0_3) fun t3 => (le_len fun hlen_ => net_clocks.L0_le t3 l0_0 l0_1 l0_2 l0_3 hlen_ _ 0 rfl)) le_rfl)))
def net_cmps.L0 : List S138 → Option Int
 | [] => some 0
 | y7 :: u7 => if (y7.f2) < 1 then (some 7) else (if (y7.f2) > 5 then (some 7) else (net_cmps.L0 u7))
theorem net_cmps.L0_le (x5 : List S138) (hlen : x5.length ≤ 9223372036854775807) : ∀ (l : List S138) (i : Nat), List.drop i (x5) = l → Le (net_cmps.L0 l) (fun k => net_cmps.l0 k x5 (x5.length : Int) (i : Int))
  | [], i, hd => by
    have hn := drop_nil hd
    refine le_step ?_
    simp only [net_cmps.l0, net_cmps.L0]
    exact le_neg (by omega) le_rfl
  | y7 :: u7, i, hd => by
    have hw := w_next hd hlen
    have hx := drop_cons hd
    have ht := hx.2.2
    have h0 : (0 : Int) ≤ (i : Int) := by omega
    have h1 : (i : Int) < (x5.length : Int) := by have := hx.1; omega
    have h2 := h1
    have hy : (rd_T138 x5 (i : Int)) = y7 := rdT_head (t := T138) hd
    refine le_step ?_
    simp only [net_cmps.l0, net_cmps.L0]
    refine le_pos h1 ?_
    subst hy
    exact (le_pos h0 (le_pos h1 (le_ite le_rfl (le_ite le_rfl (by rw [hw]; exact net_cmps.L0_le x5 hlen u7 (i + 1) ht)))))
def net_cmps.g (a0 : List S138) : Option Int := if a0.length ≤ 9223372036854775807 then (net_cmps.L0 a0) else (none)
theorem net_cmps.le (a0 : List S138) : Le (net_cmps.g a0) (fun k => net_cmps.f k a0) := (le_len fun hlen_ => net_cmps.L0_le a0 hlen_ _ 0 rfl)
def net_forms.L0 : List S74 → Option Int
 | [] => some 0
 | y15 :: u15 => if (y15.f0) = 0 then (if (y15.f1) = 0 then (if (y15.f0) = 0 then (net_forms.L0 u15) else (if (y15.f2) = 0 then (if ((y15.f3).length : Int) > 0 then (some 7) else (net_forms.L0 u15)) else (some 7))) else (some 7)) else (if (y15.f0) = 0 then (net_forms.L0 u15) else (if (y15.f2) = 0 then (if ((y15.f3).length : Int) > 0 then (some 7) else (net_forms.L0 u15)) else (some 7)))
theorem net_forms.L0_le (x13 : List S74) (hlen : x13.length ≤ 9223372036854775807) : ∀ (l : List S74) (i : Nat), List.drop i (x13) = l → Le (net_forms.L0 l) (fun k => net_forms.l0 k x13 (x13.length : Int) (i : Int))
  | [], i, hd => by
    have hn := drop_nil hd
    refine le_step ?_
    simp only [net_forms.l0, net_forms.L0]
    exact le_neg (by omega) le_rfl
  | y15 :: u15, i, hd => by
    have hw := w_next hd hlen
    have hx := drop_cons hd
    have ht := hx.2.2
    have h0 : (0 : Int) ≤ (i : Int) := by omega
    have h1 : (i : Int) < (x13.length : Int) := by have := hx.1; omega
    have h2 := h1
    have hy : (rd_T74 x13 (i : Int)) = y15 := rdT_head (t := T74) hd
    refine le_step ?_
    simp only [net_forms.l0, net_forms.L0]
    refine le_pos h1 ?_
    subst hy
    exact (le_pos h0 (le_pos h1 (le_ite (le_ite (le_ite (by rw [hw]; exact net_forms.L0_le x13 hlen u15 (i + 1) ht) (le_ite (le_ite le_rfl (by rw [hw]; exact net_forms.L0_le x13 hlen u15 (i + 1) ht)) le_rfl)) le_rfl) (le_ite (by rw [hw]; exact net_forms.L0_le x13 hlen u15 (i + 1) ht) (le_ite (le_ite le_rfl (by rw [hw]; exact net_forms.L0_le x13 hlen u15 (i + 1) ht)) le_rfl)))))
def net_forms.g (l0_0 : List ByteArray) (l0_1 : List S78) (l0_2 : List ByteArray) (l0_3 : List S49) : Option Int := (net_guards.g l0_0 l0_1 l0_2 l0_3).bind fun t1 => ((net_cmps.g t1).bind fun t2 => (if t2 = 0 then ((net_sets.g l0_0 l0_1 l0_2 l0_3).bind fun t3 => (if t3.length ≤ 9223372036854775807 then (net_forms.L0 t3) else (none))) else (some t2)))
theorem net_forms.le (l0_0 : List ByteArray) (l0_1 : List S78) (l0_2 : List ByteArray) (l0_3 : List S49) : Le (net_forms.g l0_0 l0_1 l0_2 l0_3) (fun k => net_forms.f k l0_0 l0_1 l0_2 l0_3) := (le_bind (net_guards.le l0_0 l0_1 l0_2 l0_3) fun t1 => (le_bind (net_cmps.le t1) fun t2 => (le_ite (le_bind (net_sets.le l0_0 l0_1 l0_2 l0_3) fun t3 => (le_len fun hlen_ => net_forms.L0_le t3 hlen_ _ 0 rfl)) le_rfl)))
open Classical in
def expr_Right.g (l : List S116) (n : Int) : Option Int := if opsOk l ∧ 0 ≤ n ∧ n ≤ 140737488355328 then some (sRight l n) else none
theorem expr_Right.le (l : List S116) (n : Int) : Le (expr_Right.g l n) (fun k => expr_Right.f k l n) := fun r h => by
  unfold expr_Right.g at h
  split at h
  · next hc => cases h; exact (right_evs hc.1 hc.2).1
  · cases h
def net_truth.g (l0_0 : List ByteArray) (l0_1 : List S78) (l0_2 : List ByteArray) (l0_3 : List S49) (a1 : List S116) : Option Int := if (a1.length : Int) > 0 then ((expr_Right.g a1 (l0_1.length : Int)).bind fun t1 => (if t1 = 0 then ((expr_IsTruth.f a1).bind fun t2 => (if (!t2) = true then (some 121) else (some 0))) else (some 121))) else (some 0)
theorem net_truth.le (l0_0 : List ByteArray) (l0_1 : List S78) (l0_2 : List ByteArray) (l0_3 : List S49) (a1 : List S116) : Le (net_truth.g l0_0 l0_1 l0_2 l0_3 a1) (fun k => net_truth.f k l0_0 l0_1 l0_2 l0_3 a1) := (le_ite (le_bind (expr_Right.le a1 (l0_1.length : Int)) fun t1 => (le_ite (le_bind le_rfl fun t2 => (le_ite le_rfl le_rfl)) le_rfl)) le_rfl)
def net_tests.L1 (x1_0 : List ByteArray) (x1_1 : List S78) (x1_2 : List ByteArray) (x1_3 : List S49) (K0 : Option Int) : List S53 → Option Int
 | [] => K0
 | y20 :: u20 => (net_truth.g x1_0 x1_1 x1_2 x1_3 (y20.f3)).bind fun t1 => (if t1 = 0 then (net_tests.L1 x1_0 x1_1 x1_2 x1_3 K0 u20) else (some t1))
theorem net_tests.L1_le (x18 : List S53) (x11 : List S49) (x12 : Int) (x13 : Int) (x1_0 : List ByteArray) (x1_1 : List S78) (x1_2 : List ByteArray) (x1_3 : List S49) (K0 : Option Int) (hK0 : Le (K0) (fun k => net_tests.l0 k x11 x12 (w64 (x13 + 1)) x1_0 x1_1 x1_2 x1_3)) (hlen : x18.length ≤ 9223372036854775807) : ∀ (l : List S53) (i : Nat), List.drop i (x18) = l → Le (net_tests.L1 x1_0 x1_1 x1_2 x1_3 K0 l) (fun k => net_tests.l1 k x11 x12 x13 x18 (x18.length : Int) (i : Int) x1_0 x1_1 x1_2 x1_3)
  | [], i, hd => by
    have hn := drop_nil hd
    refine le_step ?_
    simp only [net_tests.l1, net_tests.L1]
    exact le_neg (by omega) (hK0)
  | y20 :: u20, i, hd => by
    have hw := w_next hd hlen
    have hx := drop_cons hd
    have ht := hx.2.2
    have h0 : (0 : Int) ≤ (i : Int) := by omega
    have h1 : (i : Int) < (x18.length : Int) := by have := hx.1; omega
    have h2 := h1
    have hy : (rd_T53 x18 (i : Int)) = y20 := rdT_head (t := T53) hd
    refine le_step ?_
    simp only [net_tests.l1, net_tests.L1]
    refine le_pos h1 ?_
    subst hy
    exact (le_pos h0 (le_pos h1 (le_bind (net_truth.le x1_0 x1_1 x1_2 x1_3 ((rd_T53 x18 (i : Int)).f3)) fun t1 => (le_ite (by rw [hw]; exact net_tests.L1_le x18 x11 x12 x13 x1_0 x1_1 x1_2 x1_3 K0 hK0 hlen u20 (i + 1) ht) le_rfl))))
def net_tests.L2 (x1_1 : List S78) : List S74 → Option Int
 | [] => some 0
 | y36 :: u36 => if (y36.f0) = 0 then (if (y36.f2) < 0 then (some 121) else (if (y36.f2) ≥ (x1_1.length : Int) then (some 121) else ((expr_Right.g (y36.f3) (x1_1.length : Int)).bind fun t3 => (if t3 = 0 then ((expr_IsTruth.f (y36.f3)).bind fun t4 => (if t4 = true then (some 121) else (net_tests.L2 x1_1 u36))) else (some 121))))) else (net_tests.L2 x1_1 u36)
theorem net_tests.L2_le (x34 : List S74) (x1_0 : List ByteArray) (x1_1 : List S78) (x1_2 : List ByteArray) (x1_3 : List S49) (hlen : x34.length ≤ 9223372036854775807) : ∀ (l : List S74) (i : Nat), List.drop i (x34) = l → Le (net_tests.L2 x1_1 l) (fun k => net_tests.l2 k x34 (x34.length : Int) (i : Int) x1_0 x1_1 x1_2 x1_3)
  | [], i, hd => by
    have hn := drop_nil hd
    refine le_step ?_
    simp only [net_tests.l2, net_tests.L2]
    exact le_neg (by omega) le_rfl
  | y36 :: u36, i, hd => by
    have hw := w_next hd hlen
    have hx := drop_cons hd
    have ht := hx.2.2
    have h0 : (0 : Int) ≤ (i : Int) := by omega
    have h1 : (i : Int) < (x34.length : Int) := by have := hx.1; omega
    have h2 := h1
    have hy : (rd_T74 x34 (i : Int)) = y36 := rdT_head (t := T74) hd
    refine le_step ?_
    simp only [net_tests.l2, net_tests.L2]
    refine le_pos h1 ?_
    subst hy
    exact (le_pos h0 (le_pos h1 (le_ite (le_ite le_rfl (le_ite le_rfl (le_bind (expr_Right.le ((rd_T74 x34 (i : Int)).f3) (x1_1.length : Int)) fun t3 => (le_ite (le_bind le_rfl fun t4 => (le_ite le_rfl (by rw [hw]; exact net_tests.L2_le x34 x1_0 x1_1 x1_2 x1_3 hlen u36 (i + 1) ht))) le_rfl)))) (by rw [hw]; exact net_tests.L2_le x34 x1_0 x1_1 x1_2 x1_3 hlen u36 (i + 1) ht))))
def net_tests.L0 (x1_0 : List ByteArray) (x1_1 : List S78) (x1_2 : List ByteArray) (x1_3 : List S49) : List S49 → Option Int
 | [] => (net_sets.g x1_0 x1_1 x1_2 x1_3).bind fun t2 => (if t2.length ≤ 9223372036854775807 then (net_tests.L2 x1_1 t2) else (none))
 | y13 :: u13 => if (y13.f2).length ≤ 9223372036854775807 then (net_tests.L1 x1_0 x1_1 x1_2 x1_3 (net_tests.L0 x1_0 x1_1 x1_2 x1_3 u13) (y13.f2)) else (none)
theorem net_tests.L0_le (x11 : List S49) (x1_0 : List ByteArray) (x1_1 : List S78) (x1_2 : List ByteArray) (x1_3 : List S49) (hlen : x11.length ≤ 9223372036854775807) : ∀ (l : List S49) (i : Nat), List.drop i (x11) = l → Le (net_tests.L0 x1_0 x1_1 x1_2 x1_3 l) (fun k => net_tests.l0 k x11 (x11.length : Int) (i : Int) x1_0 x1_1 x1_2 x1_3)
  | [], i, hd => by
    have hn := drop_nil hd
    refine le_step ?_
    simp only [net_tests.l0, net_tests.L0]
    exact le_neg (by omega) (le_bind (net_sets.le x1_0 x1_1 x1_2 x1_3) fun t2 => (le_len fun hlen_ => net_tests.L2_le t2 x1_0 x1_1 x1_2 x1_3 hlen_ _ 0 rfl))
  | y13 :: u13, i, hd => by
    have hw := w_next hd hlen
    have hx := drop_cons hd
    have ht := hx.2.2
    have h0 : (0 : Int) ≤ (i : Int) := by omega
    have h1 : (i : Int) < (x11.length : Int) := by have := hx.1; omega
    have h2 := h1
    have hy : (rd_T49 x11 (i : Int)) = y13 := rdT_head (t := T49) hd
    refine le_step ?_
    simp only [net_tests.l0, net_tests.L0]
    refine le_pos h1 ?_
    subst hy
    exact (le_pos h0 (le_pos h1 (le_len fun hlen_ => net_tests.L1_le ((rd_T49 x11 (i : Int)).f2) x11 (x11.length : Int) (i : Int) x1_0 x1_1 x1_2 x1_3 _ (by rw [hw]; exact net_tests.L0_le x11 x1_0 x1_1 x1_2 x1_3 hlen u13 (i + 1) ht) hlen_ _ 0 rfl)))
def net_tests.g (l0_0 : List ByteArray) (l0_1 : List S78) (l0_2 : List ByteArray) (l0_3 : List S49) : Option Int := if l0_3.length ≤ 9223372036854775807 then (net_tests.L0 l0_0 l0_1 l0_2 l0_3 l0_3) else (none)
theorem net_tests.le (l0_0 : List ByteArray) (l0_1 : List S78) (l0_2 : List ByteArray) (l0_3 : List S49) : Le (net_tests.g l0_0 l0_1 l0_2 l0_3) (fun k => net_tests.f k l0_0 l0_1 l0_2 l0_3) := (le_len fun hlen_ => net_tests.L0_le l0_3 l0_0 l0_1 l0_2 l0_3 hlen_ _ 0 rfl)
def net_Whole.L0 (x1_0 : List ByteArray) (x1_1 : List S78) (x1_2 : List ByteArray) (x1_3 : List S49) : List DA0 → Option Int
 | [] => some 0
 | y10 :: u10 => (Sum.elim (fun (_ : Bool) => net_some.g x1_0 x1_1 x1_2 x1_3) (Sum.elim (fun (_ : Bool) => net_sizes.g x1_0 x1_1 x1_2 x1_3) (Sum.elim (fun (_ : Bool) => net_names.g x1_0 x1_1 x1_2 x1_3) (Sum.elim (fun (_ : Bool) => net_vars.g x1_0 x1_1 x1_2 x1_3) (Sum.elim (fun (_ : Bool) => net_locs.g x1_0 x1_1 x1_2 x1_3) (Sum.elim (fun (_ : Bool) => net_edges.g x1_0 x1_1 x1_2 x1_3) (Sum.elim (fun (_ : Bool) => net_clocks.g x1_0 x1_1 x1_2 x1_3) (Sum.elim (fun (_ : Bool) => net_forms.g x1_0 x1_1 x1_2 x1_3) (Sum.elim (fun (_ : Bool) => net_tests.g x1_0 x1_1 x1_2 x1_3) (fun _ => none))))))))) y10).bind fun t1 => (if t1 = 0 then (net_Whole.L0 x1_0 x1_1 x1_2 x1_3 u10) else (some t1))
theorem net_Whole.L0_le (x8 : List DA0) (x1_0 : List ByteArray) (x1_1 : List S78) (x1_2 : List ByteArray) (x1_3 : List S49) (hlen : x8.length ≤ 9223372036854775807) : ∀ (l : List DA0) (i : Nat), List.drop i (x8) = l → Le (net_Whole.L0 x1_0 x1_1 x1_2 x1_3 l) (fun k => net_Whole.l0 k x8 (x8.length : Int) (i : Int) x1_0 x1_1 x1_2 x1_3)
  | [], i, hd => by
    have hn := drop_nil hd
    refine le_step ?_
    simp only [net_Whole.l0, net_Whole.L0]
    exact le_neg (by omega) le_rfl
  | y10 :: u10, i, hd => by
    have hw := w_next hd hlen
    have hx := drop_cons hd
    have ht := hx.2.2
    have h0 : (0 : Int) ≤ (i : Int) := by omega
    have h1 : (i : Int) < (x8.length : Int) := by have := hx.1; omega
    have h2 := h1
    have hy : (rdT A0 x8 (i : Int)) = y10 := rdT_head (t := A0) hd
    refine le_step ?_
    simp only [net_Whole.l0, net_Whole.L0]
    refine le_pos h1 ?_
    subst hy
    exact (le_pos h0 (le_pos h1 (le_bind (le_elim (fun (_ : Bool) => (net_some.le x1_0 x1_1 x1_2 x1_3)) (fun _ => le_elim (fun (_ : Bool) => (net_sizes.le x1_0 x1_1 x1_2 x1_3)) (fun _ => le_elim (fun (_ : Bool) => (net_names.le x1_0 x1_1 x1_2 x1_3)) (fun _ => le_elim (fun (_ : Bool) => (net_vars.le x1_0 x1_1 x1_2 x1_3)) (fun _ => le_elim (fun (_ : Bool) => (net_locs.le x1_0 x1_1 x1_2 x1_3)) (fun _ => le_elim (fun (_ : Bool) => (net_edges.le x1_0 x1_1 x1_2 x1_3)) (fun _ => le_elim (fun (_ : Bool) => (net_clocks.le x1_0 x1_1 x1_2 x1_3)) (fun _ => le_elim (fun (_ : Bool) => (net_forms.le x1_0 x1_1 x1_2 x1_3)) (fun _ => le_elim (fun (_ : Bool) => (net_tests.le x1_0 x1_1 x1_2 x1_3)) (fun _ => le_none)))))))))) fun t1 => (le_ite (by rw [hw]; exact net_Whole.L0_le x8 x1_0 x1_1 x1_2 x1_3 hlen u10 (i + 1) ht) le_rfl))))
def net_Whole.g (l0_0 : List ByteArray) (l0_1 : List S78) (l0_2 : List ByteArray) (l0_3 : List S49) : Option Int := if ([(Sum.inl false), (Sum.inr (Sum.inl false)), (Sum.inr (Sum.inr (Sum.inl false))), (Sum.inr (Sum.inr (Sum.inr (Sum.inl false)))), (Sum.inr (Sum.inr (Sum.inr (Sum.inr (Sum.inl false))))), (Sum.inr (Sum.inr (Sum.inr (Sum.inr (Sum.inr (Sum.inl false)))))), (Sum.inr (Sum.inr (Sum.inr (Sum.inr (Sum.inr (Sum.inr (Sum.inl false))))))), (Sum.inr (Sum.inr (Sum.inr (Sum.inr (Sum.inr (Sum.inr (Sum.inr (Sum.inl false)))))))), (Sum.inr (Sum.inr (Sum.inr (Sum.inr (Sum.inr (Sum.inr (Sum.inr (Sum.inr (Sum.inl false)))))))))] : List DA0).length ≤ 9223372036854775807 then (net_Whole.L0 l0_0 l0_1 l0_2 l0_3 ([(Sum.inl false), (Sum.inr (Sum.inl false)), (Sum.inr (Sum.inr (Sum.inl false))), (Sum.inr (Sum.inr (Sum.inr (Sum.inl false)))), (Sum.inr (Sum.inr (Sum.inr (Sum.inr (Sum.inl false))))), (Sum.inr (Sum.inr (Sum.inr (Sum.inr (Sum.inr (Sum.inl false)))))), (Sum.inr (Sum.inr (Sum.inr (Sum.inr (Sum.inr (Sum.inr (Sum.inl false))))))), (Sum.inr (Sum.inr (Sum.inr (Sum.inr (Sum.inr (Sum.inr (Sum.inr (Sum.inl false)))))))), (Sum.inr (Sum.inr (Sum.inr (Sum.inr (Sum.inr (Sum.inr (Sum.inr (Sum.inr (Sum.inl false)))))))))] : List DA0)) else (none)
theorem net_Whole.le (l0_0 : List ByteArray) (l0_1 : List S78) (l0_2 : List ByteArray) (l0_3 : List S49) : Le (net_Whole.g l0_0 l0_1 l0_2 l0_3) (fun k => net_Whole.f k l0_0 l0_1 l0_2 l0_3) := (le_len fun hlen_ => net_Whole.L0_le ([(Sum.inl false), (Sum.inr (Sum.inl false)), (Sum.inr (Sum.inr (Sum.inl false))), (Sum.inr (Sum.inr (Sum.inr (Sum.inl false)))), (Sum.inr (Sum.inr (Sum.inr (Sum.inr (Sum.inl false))))), (Sum.inr (Sum.inr (Sum.inr (Sum.inr (Sum.inr (Sum.inl false)))))), (Sum.inr (Sum.inr (Sum.inr (Sum.inr (Sum.inr (Sum.inr (Sum.inl false))))))), (Sum.inr (Sum.inr (Sum.inr (Sum.inr (Sum.inr (Sum.inr (Sum.inr (Sum.inl false)))))))), (Sum.inr (Sum.inr (Sum.inr (Sum.inr (Sum.inr (Sum.inr (Sum.inr (Sum.inr (Sum.inl false)))))))))] : List DA0) l0_0 l0_1 l0_2 l0_3 hlen_ _ 0 rfl)
def net_Right.g (l0_0 : List ByteArray) (l0_1 : List S78) (l0_2 : List ByteArray) (l0_3 : List S49) : Option Bool := (net_Whole.g l0_0 l0_1 l0_2 l0_3).bind fun t1 => (some (decide (t1 = 0)))
theorem net_Right.le (l0_0 : List ByteArray) (l0_1 : List S78) (l0_2 : List ByteArray) (l0_3 : List S49) : Le (net_Right.g l0_0 l0_1 l0_2 l0_3) (fun k => net_Right.f k l0_0 l0_1 l0_2 l0_3) := (le_bind (net_Whole.le l0_0 l0_1 l0_2 l0_3) fun t1 => le_rfl)
def moves_sides.g (l0_0 : List ByteArray) (l0_1 : List S78) (l0_2 : List ByteArray) (l0_3 : List S49) (l1_0 : Int) (l1_1 : Int) (l1_2 : Int) (l1_3 : Int) : Option ((List S70) × Bool) := (moves_edge.f l0_0 l0_1 l0_2 l0_3 l1_0 l1_1).bind fun t1 => (if (!t1.2.2.2.2.2.2.2) = true then (some (([] : List S70), false)) else (if l1_2 = 0 then (if t1.2.2.2.2.1 = 0 then (some (([(⟨l1_0, (⟨t1.1, t1.2.1, t1.2.2.1, t1.2.2.2.1, t1.2.2.2.2.1, t1.2.2.2.2.2.1, t1.2.2.2.2.2.2.1⟩ : S53)⟩ : S70)] : List S70), decide (l1_3 = 0))) else (some (([(⟨l1_0, (⟨t1.1, t1.2.1, t1.2.2.1, t1.2.2.2.1, t1.2.2.2.2.1, t1.2.2.2.2.2.1, t1.2.2.2.2.2.2.1⟩ : S53)⟩ : S70)] : List S70), false))) else ((moves_edge.f l0_0 l0_1 l0_2 l0_3 (w64 (l1_2 - 1)) l1_3).bind fun t2 => (if (!t2.2.2.2.2.2.2.2) = true then (some (([] : List S70), false)) else (if (w64 (l1_2 - 1)) = l1_0 then (some (([] : List S70), false)) else (if t1.2.2.2.2.1 = 0 then (some (([] : List S70), false)) else (if t1.2.2.2.2.1 = t2.2.2.2.2.1 then (if (!t1.2.2.2.2.2.1) = true then (some (([] : List S70), false)) else (if t2.2.2.2.2.2.1 = true then (some (([] : List S70), false)) else (some (([(⟨l1_0, (⟨t1.1, t1.2.1, t1.2.2.1, t1.2.2.2.1, t1.2.2.2.2.1, t1.2.2.2.2.2.1, t1.2.2.2.2.2.2.1⟩ : S53)⟩ : S70), (⟨w64 (l1_2 - 1), (⟨t2.1, t2.2.1, t2.2.2.1, t2.2.2.2.1, t2.2.2.2.2.1, t2.2.2.2.2.2.1, t2.2.2.2.2.2.2.1⟩ : S53)⟩ : S70)] : List S70), true)))) else (some (([] : List S70), false)))))))))
theorem moves_sides.le (l0_0 : List ByteArray) (l0_1 : List S78) (l0_2 : List ByteArray) (l0_3 : List S49) (l1_0 : Int) (l1_1 : Int) (l1_2 : Int) (l1_3 : Int) : Le (moves_sides.g l0_0 l0_1 l0_2 l0_3 l1_0 l1_1 l1_2 l1_3) (fun k => moves_sides.f k l0_0 l0_1 l0_2 l0_3 l1_0 l1_1 l1_2 l1_3) := (le_bind le_rfl fun t1 => (le_ite le_rfl (le_ite (le_ite le_rfl le_rfl) (le_bind le_rfl fun t2 => (le_ite le_rfl (le_ite le_rfl (le_ite le_rfl (le_ite (le_ite le_rfl (le_ite le_rfl (le_step (by simp only [moves_sides.j0]; exact le_rfl)))) le_rfl))))))))
def moves_All.L3 (x4 : Int) (x6 : Int) (x8 : Int) (x1_0 : List ByteArray) (x1_1 : List S78) (x1_2 : List ByteArray) (x1_3 : List S49) (K2 : (List S31) → Option (List S31)) : Nat → Nat → (List S31) → Option (List S31)
 | 0, i, x3 => K2 x3
 | u57 + 1, i, x3 => (moves_sides.g x1_0 x1_1 x1_2 x1_3 x4 x6 (w64 (x8 + 1)) (i : Int)).bind fun t2 => (if t2.2 = true then (if x3.length < 4398046511104 then (moves_All.L3 x4 x6 x8 x1_0 x1_1 x1_2 x1_3 K2 u57 (i + 1) (x3 ++ [(⟨x4, x6, w64 (x8 + 1), (i : Int)⟩ : S31)])) else (none)) else (moves_All.L3 x4 x6 x8 x1_0 x1_1 x1_2 x1_3 K2 u57 (i + 1) x3))
theorem moves_All.L3_le (x4 : Int) (x6 : Int) (x8 : Int) (x18 : List S49) (x19 : Int) (x20 : Int) (x26 : List S53) (x27 : Int) (x28 : Int) (x47 : List S49) (x48 : Int) (x49 : Int) (x56 : Int) (x1_0 : List ByteArray) (x1_1 : List S78) (x1_2 : List ByteArray) (x1_3 : List S49) (K2 : (List S31) → Option (List S31)) (hK2 : ∀ x3', Le (K2 x3') (fun k => moves_All.l2 k x3' x4 x6 x18 x19 x20 x26 x27 x28 x47 x48 (w64 (x49 + 1)) x1_0 x1_1 x1_2 x1_3)) : ∀ (m i : Nat) (x3 : List S31), m + i ≤ 9223372036854775807 → x56 = ((m + i : Nat) : Int) → Le (moves_All.L3 x4 x6 x8 x1_0 x1_1 x1_2 x1_3 K2 m i x3) (fun k => moves_All.l3 k x3 x4 x6 x8 x18 x19 x20 x26 x27 x28 x47 x48 x49 x56 (i : Int) x1_0 x1_1 x1_2 x1_3)
  | 0, i, x3, hlen, hn => by
    refine le_step ?_
    simp only [moves_All.l3, moves_All.L3]
    exact le_neg (by omega) (hK2 x3)
  | u57 + 1, i, x3, hlen, hn => by
    have hw : w64 ((i : Int) + 1) = ((i + 1 : Nat) : Int) := by show RowKit.wrap64 _ = _; unfold RowKit.wrap64; omega
    have hlen' : u57 + (i + 1) ≤ 9223372036854775807 := by omega
    have ht : x56 = ((u57 + (i + 1) : Nat) : Int) := by omega
    have h0 : (0 : Int) ≤ (i : Int) := by omega
    have h1 : (i : Int) < x56 := by omega
    refine le_step ?_
    simp only [moves_All.l3, moves_All.L3]
    refine le_pos h1 ?_
    exact (le_bind (moves_sides.le x1_0 x1_1 x1_2 x1_3 x4 x6 (w64 (x8 + 1)) (i : Int)) fun t2 => (le_ite (le_ite (by rw [hw]; exact moves_All.L3_le x4 x6 x8 x18 x19 x20 x26 x27 x28 x47 x48 x49 x56 x1_0 x1_1 x1_2 x1_3 K2 hK2 u57 (i + 1) (x3 ++ [(⟨x4, x6, w64 (x8 + 1), (i : Int)⟩ : S31)]) hlen' ht) le_none) (by rw [hw]; exact moves_All.L3_le x4 x6 x8 x18 x19 x20 x26 x27 x28 x47 x48 x49 x56 x1_0 x1_1 x1_2 x1_3 K2 hK2 u57 (i + 1) x3 hlen' ht)))
def moves_All.L2 (x4 : Int) (x6 : Int) (x1_0 : List ByteArray) (x1_1 : List S78) (x1_2 : List ByteArray) (x1_3 : List S49) (K1 : (List S31) → Option (List S31)) : List S49 → Nat → (List S31) → Option (List S31)
 | [], i, x3 => K1 x3
 | y49 :: u49, i, x3 => if (y49.f2).length ≤ 9223372036854775807 then (moves_All.L3 x4 x6 (i : Int) x1_0 x1_1 x1_2 x1_3 (fun x3' => moves_All.L2 x4 x6 x1_0 x1_1 x1_2 x1_3 K1 u49 (i + 1) x3') ((y49.f2).length) 0 x3) else (none)
theorem moves_All.L2_le (x47 : List S49) (x4 : Int) (x6 : Int) (x18 : List S49) (x19 : Int) (x20 : Int) (x26 : List S53) (x27 : Int) (x28 : Int) (x1_0 : List ByteArray) (x1_1 : List S78) (x1_2 : List ByteArray) (x1_3 : List S49) (K1 : (List S31) → Option (List S31)) (hK1 : ∀ x3', Le (K1 x3') (fun k => moves_All.l1 k x3' x4 x18 x19 x20 x26 x27 (w64 (x28 + 1)) x1_0 x1_1 x1_2 x1_3)) (hlen : x47.length ≤ 9223372036854775807) : ∀ (l : List S49) (i : Nat) (x3 : List S31), List.drop i (x47) = l → Le (moves_All.L2 x4 x6 x1_0 x1_1 x1_2 x1_3 K1 l i x3) (fun k => moves_All.l2 k x3 x4 x6 x18 x19 x20 x26 x27 x28 x47 (x47.length : Int) (i : Int) x1_0 x1_1 x1_2 x1_3)
  | [], i, x3, hd => by
    have hn := drop_nil hd
    refine le_step ?_
    simp only [moves_All.l2, moves_All.L2]
    exact le_neg (by omega) (hK1 x3)
  | y49 :: u49, i, x3, hd => by
    have hw := w_next hd hlen
    have hx := drop_cons hd
    have ht := hx.2.2
    have h0 : (0 : Int) ≤ (i : Int) := by omega
    have h1 : (i : Int) < (x47.length : Int) := by have := hx.1; omega
    have h2 := h1
    have hy : (rd_T49 x47 (i : Int)) = y49 := rdT_head (t := T49) hd
    refine le_step ?_
    simp only [moves_All.l2, moves_All.L2]
    refine le_pos h1 ?_
    subst hy
    exact (le_pos h0 (le_pos h1 (le_len fun hlen_ => moves_All.L3_le x4 x6 (i : Int) x18 x19 x20 x26 x27 x28 x47 (x47.length : Int) (i : Int) (((rd_T49 x47 (i : Int)).f2).length : Int) x1_0 x1_1 x1_2 x1_3 _ (fun x3' => by rw [hw]; exact moves_All.L2_le x47 x4 x6 x18 x19 x20 x26 x27 x28 x1_0 x1_1 x1_2 x1_3 K1 hK1 hlen u49 (i + 1) x3' ht) (((rd_T49 x47 (i : Int)).f2).length) 0 x3 hlen_ (by simp))))
def moves_All.L1 (x4 : Int) (x1_0 : List ByteArray) (x1_1 : List S78) (x1_2 : List ByteArray) (x1_3 : List S49) (K0 : (List S31) → Option (List S31)) : List S53 → Nat → (List S31) → Option (List S31)
 | [], i, x3 => K0 x3
 | y28 :: u28, i, x3 => if (y28.f4) = 0 then (if x3.length < 4398046511104 then (moves_All.L1 x4 x1_0 x1_1 x1_2 x1_3 K0 u28 (i + 1) (x3 ++ [(⟨x4, (i : Int), 0, 0⟩ : S31)])) else (none)) else (if (y28.f5) = true then (if x1_3.length ≤ 9223372036854775807 then (moves_All.L2 x4 (i : Int) x1_0 x1_1 x1_2 x1_3 (fun x3' => moves_All.L1 x4 x1_0 x1_1 x1_2 x1_3 K0 u28 (i + 1) x3') x1_3 0 x3) else (none)) else (moves_All.L1 x4 x1_0 x1_1 x1_2 x1_3 K0 u28 (i + 1) x3))
theorem moves_All.L1_le (x26 : List S53) (x4 : Int) (x18 : List S49) (x19 : Int) (x20 : Int) (x1_0 : List ByteArray) (x1_1 : List S78) (x1_2 : List ByteArray) (x1_3 : List S49) (K0 : (List S31) → Option (List S31)) (hK0 : ∀ x3', Le (K0 x3') (fun k => moves_All.l0 k x3' x18 x19 (w64 (x20 + 1)) x1_0 x1_1 x1_2 x1_3)) (hlen : x26.length ≤ 9223372036854775807) : ∀ (l : List S53) (i : Nat) (x3 : List S31), List.drop i (x26) = l → Le (moves_All.L1 x4 x1_0 x1_1 x1_2 x1_3 K0 l i x3) (fun k => moves_All.l1 k x3 x4 x18 x19 x20 x26 (x26.length : Int) (i : Int) x1_0 x1_1 x1_2 x1_3)
  | [], i, x3, hd => by
    have hn := drop_nil hd
    refine le_step ?_
    simp only [moves_All.l1, moves_All.L1]
    exact le_neg (by omega) (hK0 x3)
  | y28 :: u28, i, x3, hd => by
    have hw := w_next hd hlen
    have hx := drop_cons hd
    have ht := hx.2.2
    have h0 : (0 : Int) ≤ (i : Int) := by omega
    have h1 : (i : Int) < (x26.length : Int) := by have := hx.1; omega
    have h2 := h1
    have hy : (rd_T53 x26 (i : Int)) = y28 := rdT_head (t := T53) hd
    refine le_step ?_
    simp only [moves_All.l1, moves_All.L1]
    refine le_pos h1 ?_
    subst hy
    exact (le_pos h0 (le_pos h1 (le_ite (le_ite (by rw [hw]; exact moves_All.L1_le x26 x4 x18 x19 x20 x1_0 x1_1 x1_2 x1_3 K0 hK0 hlen u28 (i + 1) (x3 ++ [(⟨x4, (i : Int), 0, 0⟩ : S31)]) ht) le_none) (le_ite (le_len fun hlen_ => moves_All.L2_le x1_3 x4 (i : Int) x18 x19 x20 x26 (x26.length : Int) (i : Int) x1_0 x1_1 x1_2 x1_3 _ (fun x3' => by rw [hw]; exact moves_All.L1_le x26 x4 x18 x19 x20 x1_0 x1_1 x1_2 x1_3 K0 hK0 hlen u28 (i + 1) x3' ht) hlen_ _ 0 x3 rfl) (by rw [hw]; exact moves_All.L1_le x26 x4 x18 x19 x20 x1_0 x1_1 x1_2 x1_3 K0 hK0 hlen u28 (i + 1) x3 ht)))))
def moves_All.L0 (x1_0 : List ByteArray) (x1_1 : List S78) (x1_2 : List ByteArray) (x1_3 : List S49) : List S49 → Nat → (List S31) → Option (List S31)
 | [], i, x3 => some x3
 | y20 :: u20, i, x3 => if (y20.f2).length ≤ 9223372036854775807 then (moves_All.L1 (i : Int) x1_0 x1_1 x1_2 x1_3 (fun x3' => moves_All.L0 x1_0 x1_1 x1_2 x1_3 u20 (i + 1) x3') (y20.f2) 0 x3) else (none)
theorem moves_All.L0_le (x18 : List S49) (x1_0 : List ByteArray) (x1_1 : List S78) (x1_2 : List ByteArray) (x1_3 : List S49) (hlen : x18.length ≤ 9223372036854775807) : ∀ (l : List S49) (i : Nat) (x3 : List S31), List.drop i (x18) = l → Le (moves_All.L0 x1_0 x1_1 x1_2 x1_3 l i x3) (fun k => moves_All.l0 k x3 x18 (x18.length : Int) (i : Int) x1_0 x1_1 x1_2 x1_3)
  | [], i, x3, hd => by
    have hn := drop_nil hd
    refine le_step ?_
    simp only [moves_All.l0, moves_All.L0]
    exact le_neg (by omega) le_rfl
  | y20 :: u20, i, x3, hd => by
    have hw := w_next hd hlen
    have hx := drop_cons hd
    have ht := hx.2.2
    have h0 : (0 : Int) ≤ (i : Int) := by omega
    have h1 : (i : Int) < (x18.length : Int) := by have := hx.1; omega
    have h2 := h1
    have hy : (rd_T49 x18 (i : Int)) = y20 := rdT_head (t := T49) hd
    refine le_step ?_
    simp only [moves_All.l0, moves_All.L0]
    refine le_pos h1 ?_
    subst hy
    exact (le_pos h0 (le_pos h1 (le_len fun hlen_ => moves_All.L1_le ((rd_T49 x18 (i : Int)).f2) (i : Int) x18 (x18.length : Int) (i : Int) x1_0 x1_1 x1_2 x1_3 _ (fun x3' => by rw [hw]; exact moves_All.L0_le x18 x1_0 x1_1 x1_2 x1_3 hlen u20 (i + 1) x3' ht) hlen_ _ 0 x3 rfl)))
def moves_All.g (l0_0 : List ByteArray) (l0_1 : List S78) (l0_2 : List ByteArray) (l0_3 : List S49) : Option (List S31) := (net_Right.g l0_0 l0_1 l0_2 l0_3).bind fun t1 => (if (!t1) = true then (some ([] : List S31)) else (if l0_3.length ≤ 9223372036854775807 then (moves_All.L0 l0_0 l0_1 l0_2 l0_3 l0_3 0 ([] : List S31)) else (none)))
theorem moves_All.le (l0_0 : List ByteArray) (l0_1 : List S78) (l0_2 : List ByteArray) (l0_3 : List S49) : Le (moves_All.g l0_0 l0_1 l0_2 l0_3) (fun k => moves_All.f k l0_0 l0_1 l0_2 l0_3) := (le_bind (net_Right.le l0_0 l0_1 l0_2 l0_3) fun t1 => (le_ite le_rfl (le_len fun hlen_ => moves_All.L0_le l0_3 l0_0 l0_1 l0_2 l0_3 hlen_ _ 0 ([] : List S31) rfl)))
def state_beside_api_Auto_int_at26.L0 (x1 : List Int) : List S49 → Nat → Option Bool
 | [], i => some true
 | y16 :: u16, i => if (i : Int) < (x1.length : Int) then ((state_is_1.f (y16.f0) (y16.f1) (y16.f2) (rd x1 (i : Int))).bind fun t1 => (if (!t1) = true then (some false) else (state_beside_api_Auto_int_at26.L0 x1 u16 (i + 1)))) else (none)
theorem state_beside_api_Auto_int_at26.L0_le (x14 : List S49) (x1 : List Int) (x2 : Bool) (hlen : x14.length ≤ 9223372036854775807) : ∀ (l : List S49) (i : Nat), List.drop i (x14) = l → Le (state_beside_api_Auto_int_at26.L0 x1 l i) (fun k => state_beside_api_Auto_int_at26.l0 k x1 x2 x14 (x14.length : Int) (i : Int))
  | [], i, hd => by
    have hn := drop_nil hd
    refine le_step ?_
    simp only [state_beside_api_Auto_int_at26.l0, state_beside_api_Auto_int_at26.L0]
    exact le_neg (by omega) le_rfl
  | y16 :: u16, i, hd => by
    have hw := w_next hd hlen
    have hx := drop_cons hd
    have ht := hx.2.2
    have h0 : (0 : Int) ≤ (i : Int) := by omega
    have h1 : (i : Int) < (x14.length : Int) := by have := hx.1; omega
    have h2 := h1
    have hy : (rd_T49 x14 (i : Int)) = y16 := rdT_head (t := T49) hd
    refine le_step ?_
    simp only [state_beside_api_Auto_int_at26.l0, state_beside_api_Auto_int_at26.L0]
    refine le_pos h1 ?_
    subst hy
    exact (le_pos h0 (le_pos h1 (le_pos h0 (le_ite (le_bind le_rfl fun t1 => (le_ite le_rfl (by rw [hw]; exact state_beside_api_Auto_int_at26.L0_le x14 x1 x2 hlen u16 (i + 1) ht))) le_none))))
def state_beside_api_Auto_int_at26.g (a0 : List S49) (a1 : List Int) (a2 : Bool) : Option Bool := if (a0.length : Int) = (a1.length : Int) then (if a0.length ≤ 9223372036854775807 then (state_beside_api_Auto_int_at26.L0 a1 a0 0) else (none)) else (some false)
theorem state_beside_api_Auto_int_at26.le (a0 : List S49) (a1 : List Int) (a2 : Bool) : Le (state_beside_api_Auto_int_at26.g a0 a1 a2) (fun k => state_beside_api_Auto_int_at26.f k a0 a1 a2) := (le_ite (le_len fun hlen_ => state_beside_api_Auto_int_at26.L0_le a0 a1 a2 hlen_ _ 0 rfl) le_rfl)
def state_beside_api_Variable_int_at27.L0 (x1 : List Int) : List S78 → Nat → Option Bool
 | [], i => some true
 | y16 :: u16, i => if (i : Int) < (x1.length : Int) then ((state_is_2.f (y16.f0) (y16.f1) (y16.f2) (y16.f3) (rd x1 (i : Int))).bind fun t1 => (if (!t1) = true then (some false) else (state_beside_api_Variable_int_at27.L0 x1 u16 (i + 1)))) else (none)
theorem state_beside_api_Variable_int_at27.L0_le (x14 : List S78) (x1 : List Int) (x2 : Bool) (hlen : x14.length ≤ 9223372036854775807) : ∀ (l : List S78) (i : Nat), List.drop i (x14) = l → Le (state_beside_api_Variable_int_at27.L0 x1 l i) (fun k => state_beside_api_Variable_int_at27.l0 k x1 x2 x14 (x14.length : Int) (i : Int))
  | [], i, hd => by
    have hn := drop_nil hd
    refine le_step ?_
    simp only [state_beside_api_Variable_int_at27.l0, state_beside_api_Variable_int_at27.L0]
    exact le_neg (by omega) le_rfl
  | y16 :: u16, i, hd => by
    have hw := w_next hd hlen
    have hx := drop_cons hd
    have ht := hx.2.2
    have h0 : (0 : Int) ≤ (i : Int) := by omega
    have h1 : (i : Int) < (x14.length : Int) := by have := hx.1; omega
    have h2 := h1
    have hy : (rd_T78 x14 (i : Int)) = y16 := rdT_head (t := T78) hd
    refine le_step ?_
    simp only [state_beside_api_Variable_int_at27.l0, state_beside_api_Variable_int_at27.L0]
    refine le_pos h1 ?_
    subst hy
    exact (le_pos h0 (le_pos h1 (le_pos h0 (le_ite (le_bind le_rfl fun t1 => (le_ite le_rfl (by rw [hw]; exact state_beside_api_Variable_int_at27.L0_le x14 x1 x2 hlen u16 (i + 1) ht))) le_none))))
def state_beside_api_Variable_int_at27.g (a0 : List S78) (a1 : List Int) (a2 : Bool) : Option Bool := if (a0.length : Int) = (a1.length : Int) then (if a0.length ≤ 9223372036854775807 then (state_beside_api_Variable_int_at27.L0 a1 a0 0) else (none)) else (some false)
theorem state_beside_api_Variable_int_at27.le (a0 : List S78) (a1 : List Int) (a2 : Bool) : Le (state_beside_api_Variable_int_at27.g a0 a1 a2) (fun k => state_beside_api_Variable_int_at27.f k a0 a1 a2) := (le_ite (le_len fun hlen_ => state_beside_api_Variable_int_at27.L0_le a0 a1 a2 hlen_ _ 0 rfl) le_rfl)
def state_is.g (l0_0 : List ByteArray) (l0_1 : List S78) (l0_2 : List ByteArray) (l0_3 : List S49) (l1_0 : List Int) (l1_1 : List Int) : Option Bool := (state_beside_api_Auto_int_at26.g l0_3 l1_0 false).bind fun t1 => (if t1 = true then ((state_beside_api_Variable_int_at27.g l0_1 l1_1 false).bind fun t2 => (some t2)) else (some false))
theorem state_is.le (l0_0 : List ByteArray) (l0_1 : List S78) (l0_2 : List ByteArray) (l0_3 : List S49) (l1_0 : List Int) (l1_1 : List Int) : Le (state_is.g l0_0 l0_1 l0_2 l0_3 l1_0 l1_1) (fun k => state_is.f k l0_0 l0_1 l0_2 l0_3 l1_0 l1_1) := (le_bind (state_beside_api_Auto_int_at26.le l0_3 l1_0 false) fun t1 => (le_ite (le_bind (state_beside_api_Variable_int_at27.le l0_1 l1_1 false) fun t2 => le_rfl) le_rfl))
def state_Right.g (l0_0 : List ByteArray) (l0_1 : List S78) (l0_2 : List ByteArray) (l0_3 : List S49) (l1_0 : List Int) (l1_1 : List Int) : Option Bool := (net_Right.g l0_0 l0_1 l0_2 l0_3).bind fun t1 => (if t1 = true then ((state_is.g l0_0 l0_1 l0_2 l0_3 l1_0 l1_1).bind fun t2 => (some t2)) else (some false))
theorem state_Right.le (l0_0 : List ByteArray) (l0_1 : List S78) (l0_2 : List ByteArray) (l0_3 : List S49) (l1_0 : List Int) (l1_1 : List Int) : Le (state_Right.g l0_0 l0_1 l0_2 l0_3 l1_0 l1_1) (fun k => state_Right.f k l0_0 l0_1 l0_2 l0_3 l1_0 l1_1) := (le_bind (net_Right.le l0_0 l0_1 l0_2 l0_3) fun t1 => (le_ite (le_bind (state_is.le l0_0 l0_1 l0_2 l0_3 l1_0 l1_1) fun t2 => le_rfl) le_rfl))
def moves_Committed.L0 (x2_0 : List ByteArray) (x2_1 : List S78) (x2_2 : List ByteArray) (x2_3 : List S49) (x3_0 : List Int) (x3_1 : List Int) : Nat → Nat → Option Bool
 | 0, i => some false
 | u13 + 1, i => (moves_isCommitted.f x2_0 x2_1 x2_2 x2_3 x3_0 x3_1 (i : Int)).bind fun t2 => (if t2 = true then (some true) else (moves_Committed.L0 x2_0 x2_1 x2_2 x2_3 x3_0 x3_1 u13 (i + 1)))
theorem moves_Committed.L0_le (x12 : Int) (x2_0 : List ByteArray) (x2_1 : List S78) (x2_2 : List ByteArray) (x2_3 : List S49) (x3_0 : List Int) (x3_1 : List Int) : ∀ (m i : Nat), m + i ≤ 9223372036854775807 → x12 = ((m + i : Nat) : Int) → Le (moves_Committed.L0 x2_0 x2_1 x2_2 x2_3 x3_0 x3_1 m i) (fun k => moves_Committed.l0 k x12 (i : Int) x2_0 x2_1 x2_2 x2_3 x3_0 x3_1)
  | 0, i, hlen, hn => by
    refine le_step ?_
    simp only [moves_Committed.l0, moves_Committed.L0]
    exact le_neg (by omega) le_rfl
  | u13 + 1, i, hlen, hn => by
    have hw : w64 ((i : Int) + 1) = ((i + 1 : Nat) : Int) := by show RowKit.wrap64 _ = _; unfold RowKit.wrap64; omega
    have hlen' : u13 + (i + 1) ≤ 9223372036854775807 := by omega
    have ht : x12 = ((u13 + (i + 1) : Nat) : Int) := by omega
    have h0 : (0 : Int) ≤ (i : Int) := by omega
    have h1 : (i : Int) < x12 := by omega
    refine le_step ?_
    simp only [moves_Committed.l0, moves_Committed.L0]
    refine le_pos h1 ?_
    exact (le_bind le_rfl fun t2 => (le_ite le_rfl (by rw [hw]; exact moves_Committed.L0_le x12 x2_0 x2_1 x2_2 x2_3 x3_0 x3_1 u13 (i + 1) hlen' ht)))
def moves_Committed.g (l0_0 : List ByteArray) (l0_1 : List S78) (l0_2 : List ByteArray) (l0_3 : List S49) (l1_0 : List Int) (l1_1 : List Int) : Option Bool := (state_Right.g l0_0 l0_1 l0_2 l0_3 l1_0 l1_1).bind fun t1 => (if (!t1) = true then (some false) else (if l1_0.length ≤ 9223372036854775807 then (moves_Committed.L0 l0_0 l0_1 l0_2 l0_3 l1_0 l1_1 (l1_0.length) 0) else (none)))
theorem moves_Committed.le (l0_0 : List ByteArray) (l0_1 : List S78) (l0_2 : List ByteArray) (l0_3 : List S49) (l1_0 : List Int) (l1_1 : List Int) : Le (moves_Committed.g l0_0 l0_1 l0_2 l0_3 l1_0 l1_1) (fun k => moves_Committed.f k l0_0 l0_1 l0_2 l0_3 l1_0 l1_1) := (le_bind (state_Right.le l0_0 l0_1 l0_2 l0_3 l1_0 l1_1) fun t1 => (le_ite le_rfl (le_len fun hlen_ => moves_Committed.L0_le (l1_0.length : Int) l0_0 l0_1 l0_2 l0_3 l1_0 l1_1 (l1_0.length) 0 hlen_ (by simp))))
def expr_times.g (a0 : Int) (a1 : Int) : Option (Int × Bool × Bool) := (expr_size.f a0).bind fun t1 => ((expr_size.f a1).bind fun t2 => ((math_bits_Mul64.f t1 t2).bind fun t3 => (if (decide (a0 < 0)) = (decide (a1 < 0)) then (if t3.1 > 0 then (some (0, false, true)) else (if t3.2 > 9223372036854775808 then (some (0, false, true)) else (if t3.2 = 9223372036854775808 then (if (!false) = true then (some (0, false, true)) else (if false = true then (some (w64 (wk .u64 (0 - t3.2)), false, false)) else (some (w64 (t3.2), false, false)))) else (if false = true then (some (w64 (wk .u64 (0 - t3.2)), false, false)) else (some (w64 (t3.2), false, false)))))) else (if t3.1 > 0 then (some (0, false, true)) else (if t3.2 > 9223372036854775808 then (some (0, false, true)) else (if t3.2 = 9223372036854775808 then (if (!(!decide (t3.2 = 0))) = true then (some (0, false, true)) else (if (!decide (t3.2 = 0)) = true then (some (w64 (wk .u64 (0 - t3.2)), false, false)) else (some (w64 (t3.2), false, false)))) else (if (!decide (t3.2 = 0)) = true then (some (w64 (wk .u64 (0 - t3.2)), false, false)) else (some (w64 (t3.2), false, false)))))))))
theorem expr_times.le (a0 : Int) (a1 : Int) : Le (expr_times.g a0 a1) (fun k => expr_times.f k a0 a1) := (le_bind le_rfl fun t1 => (le_bind le_rfl fun t2 => (le_bind le_rfl fun t3 => (le_ite (le_step (by simp only [expr_times.j0]; exact (le_ite le_rfl (le_ite le_rfl (le_ite (le_ite le_rfl (le_ite le_rfl le_rfl)) (le_ite le_rfl le_rfl)))))) (le_step (by simp only [expr_times.j0]; exact (le_ite le_rfl (le_ite le_rfl (le_ite (le_ite le_rfl (le_ite le_rfl le_rfl)) (le_ite le_rfl le_rfl))))))))))
open Classical in
def expr_reckon.g (l : List S116) (at_ : Int) (vars : List Int) : Option (Int × Bool × Bool) := if h : ∃ v, Ev (fun k => expr_reckon.f k l at_ vars) v then some (Classical.choose h) else none
theorem expr_reckon.le (l : List S116) (at_ : Int) (vars : List Int) : Le (expr_reckon.g l at_ vars) (fun k => expr_reckon.f k l at_ vars) := fun r h => by
  unfold expr_reckon.g at h
  split at h
  · next hc => cases h; exact Classical.choose_spec hc
  · cases h
def expr_Holds.g (a0 : List S116) (a1 : List Int) : Option (Bool × Int) := if (a0.length : Int) = 0 then (some (true, 0)) else ((expr_Right.g a0 (a1.length : Int)).bind fun t1 => (if t1 = 0 then ((expr_IsTruth.f a0).bind fun t2 => (if (!t2) = true then (some (false, 121)) else ((expr_reckon.g a0 0 a1).bind fun t3 => (if (!t3.2.2) = true then (some (t3.2.1, 0)) else (some (false, 20)))))) else (some (false, 121))))
theorem expr_Holds.le (a0 : List S116) (a1 : List Int) : Le (expr_Holds.g a0 a1) (fun k => expr_Holds.f k a0 a1) := (le_ite le_rfl (le_bind (expr_Right.le a0 (a1.length : Int)) fun t1 => (le_ite (le_bind le_rfl fun t2 => (le_ite le_rfl (le_step (by simp only [expr_Holds.j0]; exact (le_bind (expr_reckon.le a0 0 a1) fun t3 => (le_ite le_rfl le_rfl)))))) le_rfl)))
def expr_Value.g (a0 : List S116) (a1 : List Int) : Option (Int × Int) := (expr_Right.g a0 (a1.length : Int)).bind fun t1 => (if t1 = 0 then ((expr_IsTruth.f a0).bind fun t2 => (if t2 = true then (some (0, 121)) else ((expr_reckon.g a0 0 a1).bind fun t3 => (if (!t3.2.2) = true then (some (t3.1, 0)) else (some (0, 20)))))) else (some (0, 121)))
theorem expr_Value.le (a0 : List S116) (a1 : List Int) : Le (expr_Value.g a0 a1) (fun k => expr_Value.f k a0 a1) := (le_bind (expr_Right.le a0 (a1.length : Int)) fun t1 => (le_ite (le_bind le_rfl fun t2 => (le_ite le_rfl (le_step (by simp only [expr_Value.j0]; exact (le_bind (expr_reckon.le a0 0 a1) fun t3 => (le_ite le_rfl le_rfl)))))) le_rfl))
def moves_pass.L4 (x3_1 : List S78) (K3 : (List Int) → Option ((List Int) × (List Int) × Int)) : List S74 → (List Int) → Option ((List Int) × (List Int) × Int)
 | [], x13_1 => K3 x13_1
 | y115 :: u115, x13_1 => if (y115.f0) = 0 then ((expr_Value.g (y115.f3) x13_1).bind fun t5 => (if t5.2 = 0 then (if 0 ≤ y115.f2 then (if y115.f2 < (x3_1.length : Int) then (if t5.1 < ((rd_T78 x3_1 (y115.f2)).f1) then (some (([] : List Int), ([] : List Int), 211)) else (if 0 ≤ y115.f2 then (if y115.f2 < (x3_1.length : Int) then (if t5.1 > ((rd_T78 x3_1 (y115.f2)).f2) then (some (([] : List Int), ([] : List Int), 211)) else (if 0 ≤ y115.f2 then (if y115.f2 < (x13_1.length : Int) then (moves_pass.L4 x3_1 K3 u115 (x13_1.set (Int.toNat (y115.f2)) t5.1)) else (none)) else (none))) else (none)) else (none))) else (none)) else (none)) else (some (([] : List Int), ([] : List Int), 211)))) else (moves_pass.L4 x3_1 K3 u115 x13_1)
theorem moves_pass.L4_le (x113 : List S74) (x105 : List S70) (x106 : Int) (x107 : Int) (x3_0 : List ByteArray) (x3_1 : List S78) (x3_2 : List ByteArray) (x3_3 : List S49) (x6_0 : List Int) (x6_1 : List Int) (x13_0 : List Int) (K3 : (List Int) → Option ((List Int) × (List Int) × Int)) (hK3 : ∀ x13_1', Le (K3 x13_1') (fun k => moves_pass.l3 k x105 x106 (w64 (x107 + 1)) x3_0 x3_1 x3_2 x3_3 x6_0 x6_1 x13_0 x13_1')) (hlen : x113.length ≤ 9223372036854775807) : ∀ (l : List S74) (i : Nat) (x13_1 : List Int), List.drop i (x113) = l → Le (moves_pass.L4 x3_1 K3 l x13_1) (fun k => moves_pass.l4 k x105 x106 x107 x113 (x113.length : Int) (i : Int) x3_0 x3_1 x3_2 x3_3 x6_0 x6_1 x13_0 x13_1)
  | [], i, x13_1, hd => by
    have hn := drop_nil hd
    refine le_step ?_
    simp only [moves_pass.l4, moves_pass.L4]
    exact le_neg (by omega) (hK3 x13_1)
  | y115 :: u115, i, x13_1, hd => by
    have hw := w_next hd hlen
    have hx := drop_cons hd
    have ht := hx.2.2
    have h0 : (0 : Int) ≤ (i : Int) := by omega
    have h1 : (i : Int) < (x113.length : Int) := by have := hx.1; omega
    have h2 := h1
    have hy : (rd_T74 x113 (i : Int)) = y115 := rdT_head (t := T74) hd
    refine le_step ?_
    simp only [moves_pass.l4, moves_pass.L4]
    refine le_pos h1 ?_
    subst hy
    exact (le_pos h0 (le_pos h1 (le_ite (le_bind (expr_Value.le ((rd_T74 x113 (i : Int)).f3) x13_1) fun t5 => (le_ite (le_ite (le_ite (le_ite le_rfl (le_ite (le_ite (le_ite le_rfl (le_ite (le_ite (by rw [hw]; exact moves_pass.L4_le x113 x105 x106 x107 x3_0 x3_1 x3_2 x3_3 x6_0 x6_1 x13_0 K3 hK3 hlen u115 (i + 1) (x13_1.set (Int.toNat ((rd_T74 x113 (i : Int)).f2)) t5.1) ht) le_none) le_none)) le_none) le_none)) le_none) le_none) le_rfl)) (by rw [hw]; exact moves_pass.L4_le x113 x105 x106 x107 x3_0 x3_1 x3_2 x3_3 x6_0 x6_1 x13_0 K3 hK3 hlen u115 (i + 1) x13_1 ht))))
def moves_pass.L3 (x3_1 : List S78) (x13_0 : List Int) : List S70 → (List Int) → Option ((List Int) × (List Int) × Int)
 | [], x13_1 => some (x13_0, x13_1, 0)
 | y107 :: u107, x13_1 => if ((y107.f1).f6).length ≤ 9223372036854775807 then (moves_pass.L4 x3_1 (fun x13_1' => moves_pass.L3 x3_1 x13_0 u107 x13_1') ((y107.f1).f6) x13_1) else (none)
theorem moves_pass.L3_le (x105 : List S70) (x3_0 : List ByteArray) (x3_1 : List S78) (x3_2 : List ByteArray) (x3_3 : List S49) (x6_0 : List Int) (x6_1 : List Int) (x13_0 : List Int) (hlen : x105.length ≤ 9223372036854775807) : ∀ (l : List S70) (i : Nat) (x13_1 : List Int), List.drop i (x105) = l → Le (moves_pass.L3 x3_1 x13_0 l x13_1) (fun k => moves_pass.l3 k x105 (x105.length : Int) (i : Int) x3_0 x3_1 x3_2 x3_3 x6_0 x6_1 x13_0 x13_1)
  | [], i, x13_1, hd => by
    have hn := drop_nil hd
    refine le_step ?_
    simp only [moves_pass.l3, moves_pass.L3]
    exact le_neg (by omega) le_rfl
  | y107 :: u107, i, x13_1, hd => by
    have hw := w_next hd hlen
    have hx := drop_cons hd
    have ht := hx.2.2
    have h0 : (0 : Int) ≤ (i : Int) := by omega
    have h1 : (i : Int) < (x105.length : Int) := by have := hx.1; omega
    have h2 := h1
    have hy : (rd_T70 x105 (i : Int)) = y107 := rdT_head (t := T70) hd
    refine le_step ?_
    simp only [moves_pass.l3, moves_pass.L3]
    refine le_pos h1 ?_
    subst hy
    exact (le_pos h0 (le_pos h1 (le_len fun hlen_ => moves_pass.L4_le (((rd_T70 x105 (i : Int)).f1).f6) x105 (x105.length : Int) (i : Int) x3_0 x3_1 x3_2 x3_3 x6_0 x6_1 x13_0 _ (fun x13_1' => by rw [hw]; exact moves_pass.L3_le x105 x3_0 x3_1 x3_2 x3_3 x6_0 x6_1 x13_0 hlen u107 (i + 1) x13_1' ht) hlen_ _ 0 x13_1 rfl)))
def moves_pass.L2 (x8 : List S70) (x3_1 : List S78) (x4_1 : List Int) (x13_1 : List Int) : List S70 → (List Int) → Option ((List Int) × (List Int) × Int)
 | [], x13_0 => if x8.length ≤ 9223372036854775807 then (moves_pass.L3 x3_1 x13_0 x8 x13_1) else (none)
 | y76 :: u76, x13_0 => (expr_Holds.g ((y76.f1).f3) x4_1).bind fun t4 => (if t4.2 = 0 then (if (!t4.1) = true then (some (([] : List Int), ([] : List Int), 211)) else (if 0 ≤ y76.f0 then (if y76.f0 < (x13_0.length : Int) then (moves_pass.L2 x8 x3_1 x4_1 x13_1 u76 (x13_0.set (Int.toNat (y76.f0)) ((y76.f1).f1))) else (none)) else (none))) else (some (([] : List Int), ([] : List Int), 211)))
theorem moves_pass.L2_le (x74 : List S70) (x8 : List S70) (x3_0 : List ByteArray) (x3_1 : List S78) (x3_2 : List ByteArray) (x3_3 : List S49) (x4_0 : List Int) (x4_1 : List Int) (x6_0 : List Int) (x6_1 : List Int) (x13_1 : List Int) (hlen : x74.length ≤ 9223372036854775807) : ∀ (l : List S70) (i : Nat) (x13_0 : List Int), List.drop i (x74) = l → Le (moves_pass.L2 x8 x3_1 x4_1 x13_1 l x13_0) (fun k => moves_pass.l2 k x8 x74 (x74.length : Int) (i : Int) x3_0 x3_1 x3_2 x3_3 x4_0 x4_1 x6_0 x6_1 x13_0 x13_1)
  | [], i, x13_0, hd => by
    have hn := drop_nil hd
    refine le_step ?_
    simp only [moves_pass.l2, moves_pass.L2]
    exact le_neg (by omega) (le_len fun hlen_ => moves_pass.L3_le x8 x3_0 x3_1 x3_2 x3_3 x6_0 x6_1 x13_0 hlen_ _ 0 x13_1 rfl)
  | y76 :: u76, i, x13_0, hd => by
    have hw := w_next hd hlen
    have hx := drop_cons hd
    have ht := hx.2.2
    have h0 : (0 : Int) ≤ (i : Int) := by omega
    have h1 : (i : Int) < (x74.length : Int) := by have := hx.1; omega
    have h2 := h1
    have hy : (rd_T70 x74 (i : Int)) = y76 := rdT_head (t := T70) hd
    refine le_step ?_
    simp only [moves_pass.l2, moves_pass.L2]
    refine le_pos h1 ?_
    subst hy
    exact (le_pos h0 (le_pos h1 (le_bind (expr_Holds.le (((rd_T70 x74 (i : Int)).f1).f3) x4_1) fun t4 => (le_ite (le_ite le_rfl (le_ite (le_ite (by rw [hw]; exact moves_pass.L2_le x74 x8 x3_0 x3_1 x3_2 x3_3 x4_0 x4_1 x6_0 x6_1 x13_1 hlen u76 (i + 1) (x13_0.set (Int.toNat ((rd_T70 x74 (i : Int)).f0)) (((rd_T70 x74 (i : Int)).f1).f1)) ht) le_none) le_none)) le_rfl))))
def moves_pass.L0 (x8 : List S70) (x3_0 : List ByteArray) (x3_1 : List S78) (x3_2 : List ByteArray) (x3_3 : List S49) (x4_0 : List Int) (x4_1 : List Int) : List S70 → Bool → Option ((List Int) × (List Int) × Int)
 | [], x10 => if (!x10) = true then ((moves_Committed.g x3_0 x3_1 x3_2 x3_3 x4_0 x4_1).bind fun t3 => (if t3 = true then (some (([] : List Int), ([] : List Int), 213)) else (if x4_0.length ≤ 17592186044416 then (if x4_1.length ≤ 17592186044416 then (if x8.length ≤ 9223372036854775807 then (moves_pass.L2 x8 x3_1 x4_1 x4_1 x8 x4_0) else (none)) else (none)) else (none)))) else (if x4_0.length ≤ 17592186044416 then (if x4_1.length ≤ 17592186044416 then (if x8.length ≤ 9223372036854775807 then (moves_pass.L2 x8 x3_1 x4_1 x4_1 x8 x4_0) else (none)) else (none)) else (none))
 | y35 :: u35, x10 => if 0 ≤ y35.f0 then (if y35.f0 < (x4_0.length : Int) then (if (rd x4_0 (y35.f0)) = ((y35.f1).f0) then (if x10 = true then (moves_pass.L0 x8 x3_0 x3_1 x3_2 x3_3 x4_0 x4_1 u35 true) else ((moves_isCommitted.f x3_0 x3_1 x3_2 x3_3 x4_0 x4_1 (y35.f0)).bind fun t2 => (moves_pass.L0 x8 x3_0 x3_1 x3_2 x3_3 x4_0 x4_1 u35 t2))) else (some (([] : List Int), ([] : List Int), 213))) else (none)) else (none)
theorem moves_pass.L0_le (x33 : List S70) (x8 : List S70) (x3_0 : List ByteArray) (x3_1 : List S78) (x3_2 : List ByteArray) (x3_3 : List S49) (x4_0 : List Int) (x4_1 : List Int) (x6_0 : List Int) (x6_1 : List Int) (hlen : x33.length ≤ 9223372036854775807) : ∀ (l : List S70) (i : Nat) (x10 : Bool), List.drop i (x33) = l → Le (moves_pass.L0 x8 x3_0 x3_1 x3_2 x3_3 x4_0 x4_1 l x10) (fun k => moves_pass.l0 k x8 x10 x33 (x33.length : Int) (i : Int) x3_0 x3_1 x3_2 x3_3 x4_0 x4_1 x6_0 x6_1)
  | [], i, x10, hd => by
    have hn := drop_nil hd
    refine le_step ?_
    simp only [moves_pass.l0, moves_pass.L0]
    exact le_neg (by omega) (le_ite (le_bind (moves_Committed.le x3_0 x3_1 x3_2 x3_3 x4_0 x4_1) fun t3 => (le_ite le_rfl (le_step (by simp only [moves_pass.j1]; exact (le_ite (le_ite (le_len fun hlen_ => moves_pass.L2_le x8 x8 x3_0 x3_1 x3_2 x3_3 x4_0 x4_1 x6_0 x6_1 x4_1 hlen_ _ 0 x4_0 rfl) le_none) le_none))))) (le_step (by simp only [moves_pass.j1]; exact (le_ite (le_ite (le_len fun hlen_ => moves_pass.L2_le x8 x8 x3_0 x3_1 x3_2 x3_3 x4_0 x4_1 x6_0 x6_1 x4_1 hlen_ _ 0 x4_0 rfl) le_none) le_none))))
  | y35 :: u35, i, x10, hd => by
    have hw := w_next hd hlen
    have hx := drop_cons hd
    have ht := hx.2.2
    have h0 : (0 : Int) ≤ (i : Int) := by omega
    have h1 : (i : Int) < (x33.length : Int) := by have := hx.1; omega
    have h2 := h1
    have hy : (rd_T70 x33 (i : Int)) = y35 := rdT_head (t := T70) hd
    refine le_step ?_
    simp only [moves_pass.l0, moves_pass.L0]
    refine le_pos h1 ?_
    subst hy
    exact (le_pos h0 (le_pos h1 (le_ite (le_ite (le_ite (le_ite (by rw [hw]; exact moves_pass.L0_le x33 x8 x3_0 x3_1 x3_2 x3_3 x4_0 x4_1 x6_0 x6_1 hlen u35 (i + 1) true ht) (le_bind le_rfl fun t2 => (by rw [hw]; exact moves_pass.L0_le x33 x8 x3_0 x3_1 x3_2 x3_3 x4_0 x4_1 x6_0 x6_1 hlen u35 (i + 1) t2 ht))) le_rfl) le_none) le_none)))
def moves_pass.g (l0_0 : List ByteArray) (l0_1 : List S78) (l0_2 : List ByteArray) (l0_3 : List S49) (l1_0 : List Int) (l1_1 : List Int) (l2_0 : Int) (l2_1 : Int) (l2_2 : Int) (l2_3 : Int) : Option ((List Int) × (List Int) × Int) := (moves_sides.g l0_0 l0_1 l0_2 l0_3 l2_0 l2_1 l2_2 l2_3).bind fun t1 => (if (!t1.2) = true then (some (([] : List Int), ([] : List Int), 213)) else (if t1.1.length ≤ 9223372036854775807 then (moves_pass.L0 t1.1 l0_0 l0_1 l0_2 l0_3 l1_0 l1_1 t1.1 false) else (none)))
theorem moves_pass.le (l0_0 : List ByteArray) (l0_1 : List S78) (l0_2 : List ByteArray) (l0_3 : List S49) (l1_0 : List Int) (l1_1 : List Int) (l2_0 : Int) (l2_1 : Int) (l2_2 : Int) (l2_3 : Int) : Le (moves_pass.g l0_0 l0_1 l0_2 l0_3 l1_0 l1_1 l2_0 l2_1 l2_2 l2_3) (fun k => moves_pass.f k l0_0 l0_1 l0_2 l0_3 l1_0 l1_1 l2_0 l2_1 l2_2 l2_3) := (le_bind (moves_sides.le l0_0 l0_1 l0_2 l0_3 l2_0 l2_1 l2_2 l2_3) fun t1 => (le_ite le_rfl (le_len fun hlen_ => moves_pass.L0_le t1.1 t1.1 l0_0 l0_1 l0_2 l0_3 l1_0 l1_1 ([] : List Int) ([] : List Int) hlen_ _ 0 false rfl)))
def moves_Enabled.L0 (x2_0 : List ByteArray) (x2_1 : List S78) (x2_2 : List ByteArray) (x2_3 : List S49) (x3_0 : List Int) (x3_1 : List Int) : List S31 → (List S31) → Option (List S31)
 | [], x5 => some x5
 | y17 :: u17, x5 => (moves_pass.g x2_0 x2_1 x2_2 x2_3 x3_0 x3_1 (y17.f0) (y17.f1) (y17.f2) (y17.f3)).bind fun t3 => (if t3.2.2 = 0 then (if x5.length < 4398046511104 then (moves_Enabled.L0 x2_0 x2_1 x2_2 x2_3 x3_0 x3_1 u17 (x5 ++ [y17])) else (none)) else (moves_Enabled.L0 x2_0 x2_1 x2_2 x2_3 x3_0 x3_1 u17 x5))
theorem moves_Enabled.L0_le (x15 : List S31) (x2_0 : List ByteArray) (x2_1 : List S78) (x2_2 : List ByteArray) (x2_3 : List S49) (x3_0 : List Int) (x3_1 : List Int) (hlen : x15.length ≤ 9223372036854775807) : ∀ (l : List S31) (i : Nat) (x5 : List S31), List.drop i (x15) = l → Le (moves_Enabled.L0 x2_0 x2_1 x2_2 x2_3 x3_0 x3_1 l x5) (fun k => moves_Enabled.l0 k x5 x15 (x15.length : Int) (i : Int) x2_0 x2_1 x2_2 x2_3 x3_0 x3_1)
  | [], i, x5, hd => by
    have hn := drop_nil hd
    refine le_step ?_
    simp only [moves_Enabled.l0, moves_Enabled.L0]
    exact le_neg (by omega) le_rfl
  | y17 :: u17, i, x5, hd => by
    have hw := w_next hd hlen
    have hx := drop_cons hd
    have ht := hx.2.2
    have h0 : (0 : Int) ≤ (i : Int) := by omega
    have h1 : (i : Int) < (x15.length : Int) := by have := hx.1; omega
    have h2 := h1
    have hy : (rd_T31 x15 (i : Int)) = y17 := rdT_head (t := T31) hd
    refine le_step ?_
    simp only [moves_Enabled.l0, moves_Enabled.L0]
    refine le_pos h1 ?_
    subst hy
    exact (le_pos h0 (le_pos h1 (le_bind (moves_pass.le x2_0 x2_1 x2_2 x2_3 x3_0 x3_1 ((rd_T31 x15 (i : Int)).f0) ((rd_T31 x15 (i : Int)).f1) ((rd_T31 x15 (i : Int)).f2) ((rd_T31 x15 (i : Int)).f3)) fun t3 => (le_ite (le_ite (by rw [hw]; exact moves_Enabled.L0_le x15 x2_0 x2_1 x2_2 x2_3 x3_0 x3_1 hlen u17 (i + 1) (x5 ++ [(rd_T31 x15 (i : Int))]) ht) le_none) (by rw [hw]; exact moves_Enabled.L0_le x15 x2_0 x2_1 x2_2 x2_3 x3_0 x3_1 hlen u17 (i + 1) x5 ht)))))
def moves_Enabled.g (l0_0 : List ByteArray) (l0_1 : List S78) (l0_2 : List ByteArray) (l0_3 : List S49) (l1_0 : List Int) (l1_1 : List Int) : Option (List S31) := (state_Right.g l0_0 l0_1 l0_2 l0_3 l1_0 l1_1).bind fun t1 => (if (!t1) = true then (some ([] : List S31)) else ((moves_All.g l0_0 l0_1 l0_2 l0_3).bind fun t2 => (if t2.length ≤ 9223372036854775807 then (moves_Enabled.L0 l0_0 l0_1 l0_2 l0_3 l1_0 l1_1 t2 ([] : List S31)) else (none))))
theorem moves_Enabled.le (l0_0 : List ByteArray) (l0_1 : List S78) (l0_2 : List ByteArray) (l0_3 : List S49) (l1_0 : List Int) (l1_1 : List Int) : Le (moves_Enabled.g l0_0 l0_1 l0_2 l0_3 l1_0 l1_1) (fun k => moves_Enabled.f k l0_0 l0_1 l0_2 l0_3 l1_0 l1_1) := (le_bind (state_Right.le l0_0 l0_1 l0_2 l0_3 l1_0 l1_1) fun t1 => (le_ite le_rfl (le_bind (moves_All.le l0_0 l0_1 l0_2 l0_3) fun t2 => (le_len fun hlen_ => moves_Enabled.L0_le t2 l0_0 l0_1 l0_2 l0_3 l1_0 l1_1 hlen_ _ 0 ([] : List S31) rfl))))
def moves_After.g (l0_0 : List ByteArray) (l0_1 : List S78) (l0_2 : List ByteArray) (l0_3 : List S49) (l1_0 : List Int) (l1_1 : List Int) (l2_0 : Int) (l2_1 : Int) (l2_2 : Int) (l2_3 : Int) : Option ((List Int) × (List Int) × Int) := (net_Right.g l0_0 l0_1 l0_2 l0_3).bind fun t1 => (if (!t1) = true then (some (([] : List Int), ([] : List Int), 7)) else ((state_Right.g l0_0 l0_1 l0_2 l0_3 l1_0 l1_1).bind fun t2 => (if (!t2) = true then (some (([] : List Int), ([] : List Int), 130)) else ((moves_pass.g l0_0 l0_1 l0_2 l0_3 l1_0 l1_1 l2_0 l2_1 l2_2 l2_3).bind fun t3 => (some (t3.1, t3.2.1, t3.2.2))))))
theorem moves_After.le (l0_0 : List ByteArray) (l0_1 : List S78) (l0_2 : List ByteArray) (l0_3 : List S49) (l1_0 : List Int) (l1_1 : List Int) (l2_0 : Int) (l2_1 : Int) (l2_2 : Int) (l2_3 : Int) : Le (moves_After.g l0_0 l0_1 l0_2 l0_3 l1_0 l1_1 l2_0 l2_1 l2_2 l2_3) (fun k => moves_After.f k l0_0 l0_1 l0_2 l0_3 l1_0 l1_1 l2_0 l2_1 l2_2 l2_3) := (le_bind (net_Right.le l0_0 l0_1 l0_2 l0_3) fun t1 => (le_ite le_rfl (le_bind (state_Right.le l0_0 l0_1 l0_2 l0_3 l1_0 l1_1) fun t2 => (le_ite le_rfl (le_bind (moves_pass.le l0_0 l0_1 l0_2 l0_3 l1_0 l1_1 l2_0 l2_1 l2_2 l2_3) fun t3 => le_rfl)))))
def moves_Open.g (l0_0 : List ByteArray) (l0_1 : List S78) (l0_2 : List ByteArray) (l0_3 : List S49) (l1_0 : List Int) (l1_1 : List Int) (l2_0 : Int) (l2_1 : Int) (l2_2 : Int) (l2_3 : Int) : Option Int := (moves_After.g l0_0 l0_1 l0_2 l0_3 l1_0 l1_1 l2_0 l2_1 l2_2 l2_3).bind fun t1 => (some t1.2.2)
theorem moves_Open.le (l0_0 : List ByteArray) (l0_1 : List S78) (l0_2 : List ByteArray) (l0_3 : List S49) (l1_0 : List Int) (l1_1 : List Int) (l2_0 : Int) (l2_1 : Int) (l2_2 : Int) (l2_3 : Int) : Le (moves_Open.g l0_0 l0_1 l0_2 l0_3 l1_0 l1_1 l2_0 l2_1 l2_2 l2_3) (fun k => moves_Open.f k l0_0 l0_1 l0_2 l0_3 l1_0 l1_1 l2_0 l2_1 l2_2 l2_3) := (le_bind (moves_After.le l0_0 l0_1 l0_2 l0_3 l1_0 l1_1 l2_0 l2_1 l2_2 l2_3) fun t1 => le_rfl)
def moves_Print.L0 (x2_0 : List ByteArray) (x2_1 : List S78) (x2_2 : List ByteArray) (x2_3 : List S49) : List S31 → (List ByteArray) → Option (ByteArray × Int)
 | [], x6 => (strings_Join.f x6 (⟨#[44, 32]⟩ : ByteArray)).bind fun t5 => (some (t5, 0))
 | y17 :: u17, x6 => (moves_sides.g x2_0 x2_1 x2_2 x2_3 (y17.f0) (y17.f1) (y17.f2) (y17.f3)).bind fun t2 => (if (!t2.2) = true then (some ((⟨#[]⟩ : ByteArray), 213)) else (if 0 ≤ y17.f0 then (if y17.f0 < (x2_3.length : Int) then (if ((rd_T49 x2_3 (y17.f0)).f0).size + (⟨#[46]⟩ : ByteArray).size ≤ 9223372036854775807 then ((strconv_Itoa.f (y17.f1)).bind fun t3 => (if (((rd_T49 x2_3 (y17.f0)).f0) ++ (⟨#[46]⟩ : ByteArray)).size + t3.size ≤ 9223372036854775807 then (if (y17.f2) > 0 then (if 0 ≤ w64 ((y17.f2) - 1) then (if w64 ((y17.f2) - 1) < (x2_3.length : Int) then (if (⟨#[32]⟩ : ByteArray).size + ((rd_T49 x2_3 (w64 ((y17.f2) - 1))).f0).size ≤ 9223372036854775807 then (if ((⟨#[32]⟩ : ByteArray) ++ ((rd_T49 x2_3 (w64 ((y17.f2) - 1))).f0)).size + (⟨#[46]⟩ : ByteArray).size ≤ 9223372036854775807 then ((strconv_Itoa.f (y17.f3)).bind fun t4 => (if (((⟨#[32]⟩ : ByteArray) ++ ((rd_T49 x2_3 (w64 ((y17.f2) - 1))).f0)) ++ (⟨#[46]⟩ : ByteArray)).size + t4.size ≤ 9223372036854775807 then (if ((((rd_T49 x2_3 (y17.f0)).f0) ++ (⟨#[46]⟩ : ByteArray)) ++ t3).size + ((((⟨#[32]⟩ : ByteArray) ++ ((rd_T49 x2_3 (w64 ((y17.f2) - 1))).f0)) ++ (⟨#[46]⟩ : ByteArray)) ++ t4).size ≤ 9223372036854775807 then (if x6.length < 8796093022208 then (moves_Print.L0 x2_0 x2_1 x2_2 x2_3 u17 (x6 ++ [(((((rd_T49 x2_3 (y17.f0)).f0) ++ (⟨#[46]⟩ : ByteArray)) ++ t3) ++ ((((⟨#[32]⟩ : ByteArray) ++ ((rd_T49 x2_3 (w64 ((y17.f2) - 1))).f0)) ++ (⟨#[46]⟩ : ByteArray)) ++ t4))])) else (none)) else (none)) else (none))) else (none)) else (none)) else (none)) else (none)) else (if x6.length < 8796093022208 then (moves_Print.L0 x2_0 x2_1 x2_2 x2_3 u17 (x6 ++ [((((rd_T49 x2_3 (y17.f0)).f0) ++ (⟨#[46]⟩ : ByteArray)) ++ t3)])) else (none))) else (none))) else (none)) else (none)) else (none)))
theorem moves_Print.L0_le (x15 : List S31) (x2_0 : List ByteArray) (x2_1 : List S78) (x2_2 : List ByteArray) (x2_3 : List S49) (hlen : x15.length ≤ 9223372036854775807) : ∀ (l : List S31) (i : Nat) (x6 : List ByteArray), List.drop i (x15) = l → Le (moves_Print.L0 x2_0 x2_1 x2_2 x2_3 l x6) (fun k => moves_Print.l0 k x6 x15 (x15.length : Int) (i : Int) x2_0 x2_1 x2_2 x2_3)
  | [], i, x6, hd => by
    have hn := drop_nil hd
    refine le_step ?_
    simp only [moves_Print.l0, moves_Print.L0]
    exact le_neg (by omega) (le_bind le_rfl fun t5 => le_rfl)
  | y17 :: u17, i, x6, hd => by
    have hw := w_next hd hlen
    have hx := drop_cons hd
    have ht := hx.2.2
    have h0 : (0 : Int) ≤ (i : Int) := by omega
    have h1 : (i : Int) < (x15.length : Int) := by have := hx.1; omega
    have h2 := h1
    have hy : (rd_T31 x15 (i : Int)) = y17 := rdT_head (t := T31) hd
    refine le_step ?_
    simp only [moves_Print.l0, moves_Print.L0]
    refine le_pos h1 ?_
    subst hy
    exact (le_pos h0 (le_pos h1 (le_bind (moves_sides.le x2_0 x2_1 x2_2 x2_3 ((rd_T31 x15 (i : Int)).f0) ((rd_T31 x15 (i : Int)).f1) ((rd_T31 x15 (i : Int)).f2) ((rd_T31 x15 (i : Int)).f3)) fun t2 => (le_ite le_rfl (le_ite (le_ite (le_ite (le_bind le_rfl fun t3 => (le_ite (le_ite (le_ite (le_ite (le_ite (le_ite (le_bind le_rfl fun t4 => (le_ite (le_ite (le_ite (by rw [hw]; exact moves_Print.L0_le x15 x2_0 x2_1 x2_2 x2_3 hlen u17 (i + 1) (x6 ++ [(((((rd_T49 x2_3 ((rd_T31 x15 (i : Int)).f0)).f0) ++ (⟨#[46]⟩ : ByteArray)) ++ t3) ++ ((((⟨#[32]⟩ : ByteArray) ++ ((rd_T49 x2_3 (w64 (((rd_T31 x15 (i : Int)).f2) - 1))).f0)) ++ (⟨#[46]⟩ : ByteArray)) ++ t4))]) ht) le_none) le_none) le_none)) le_none) le_none) le_none) le_none) (le_ite (by rw [hw]; exact moves_Print.L0_le x15 x2_0 x2_1 x2_2 x2_3 hlen u17 (i + 1) (x6 ++ [((((rd_T49 x2_3 ((rd_T31 x15 (i : Int)).f0)).f0) ++ (⟨#[46]⟩ : ByteArray)) ++ t3)]) ht) le_none)) le_none)) le_none) le_none) le_none)))))
def moves_Print.g (l0_0 : List ByteArray) (l0_1 : List S78) (l0_2 : List ByteArray) (l0_3 : List S49) (a1 : List S31) : Option (ByteArray × Int) := (net_Right.g l0_0 l0_1 l0_2 l0_3).bind fun t1 => (if (!t1) = true then (some ((⟨#[]⟩ : ByteArray), 7)) else (if a1.length ≤ 9223372036854775807 then (moves_Print.L0 l0_0 l0_1 l0_2 l0_3 a1 ([] : List ByteArray)) else (none)))
theorem moves_Print.le (l0_0 : List ByteArray) (l0_1 : List S78) (l0_2 : List ByteArray) (l0_3 : List S49) (a1 : List S31) : Le (moves_Print.g l0_0 l0_1 l0_2 l0_3 a1) (fun k => moves_Print.f k l0_0 l0_1 l0_2 l0_3 a1) := (le_bind (net_Right.le l0_0 l0_1 l0_2 l0_3) fun t1 => (le_ite le_rfl (le_len fun hlen_ => moves_Print.L0_le a1 l0_0 l0_1 l0_2 l0_3 hlen_ _ 0 ([] : List ByteArray) rfl)))
def gnomonmem_SameInts.L0 (x1 : List Int) : List Int → Nat → Option Bool
 | [], i => some true
 | y5 :: u5, i => if (i : Int) < (x1.length : Int) then (if y5 = (rd x1 (i : Int)) then (gnomonmem_SameInts.L0 x1 u5 (i + 1)) else (some false)) else (none)
theorem gnomonmem_SameInts.L0_le (x0 : List Int) (x1 : List Int) (hlen : x0.length ≤ 9223372036854775807) : ∀ (l : List Int) (i : Nat), List.drop i (x0) = l → Le (gnomonmem_SameInts.L0 x1 l i) (fun k => gnomonmem_SameInts.l0 k x0 x1 (i : Int))
  | [], i, hd => by
    have hn := drop_nil hd
    refine le_step ?_
    simp only [gnomonmem_SameInts.l0, gnomonmem_SameInts.L0]
    exact le_neg (by omega) le_rfl
  | y5 :: u5, i, hd => by
    have hw := w_next hd hlen
    have hx := drop_cons hd
    have ht := hx.2.2
    have h0 : (0 : Int) ≤ (i : Int) := by omega
    have h1 : (i : Int) < (x0.length : Int) := by have := hx.1; omega
    have hy : (rd x0 (i : Int)) = y5 := rdT_head (t := (.int .i64)) hd
    refine le_step ?_
    simp only [gnomonmem_SameInts.l0, gnomonmem_SameInts.L0]
    refine le_pos h1 ?_
    subst hy
    exact (le_pos h0 (le_pos h1 (le_pos h0 (le_ite (le_ite (by rw [hw]; exact gnomonmem_SameInts.L0_le x0 x1 hlen u5 (i + 1) ht) le_rfl) le_none))))
def gnomonmem_SameInts.g (a0 : List Int) (a1 : List Int) : Option Bool := if (a0.length : Int) = (a1.length : Int) then (if a0.length ≤ 9223372036854775807 then (gnomonmem_SameInts.L0 a1 a0 0) else (none)) else (some false)
theorem gnomonmem_SameInts.le (a0 : List Int) (a1 : List Int) : Le (gnomonmem_SameInts.g a0 a1) (fun k => gnomonmem_SameInts.f k a0 a1) := (le_ite (le_len fun hlen_ => gnomonmem_SameInts.L0_le a0 a1 hlen_ _ 0 rfl) le_rfl)
def gnomonlaw14_live.g : Option Bool := (gnomonlaw14_small.f).bind fun t1 => ((moves_Enabled.g t1.1 t1.2.1 t1.2.2.1 t1.2.2.2 ([0, 0] : List Int) ([] : List Int)).bind fun t2 => (if (t2.length : Int) = 1 then (if 0 ≤ 0 then (if 0 < (t2.length : Int) then (if (rd_T31 t2 0) = (⟨0, 0, 2, 0⟩ : S31) then (if 0 ≤ 0 then (if 0 < (t2.length : Int) then ((moves_After.g t1.1 t1.2.1 t1.2.2.1 t1.2.2.2 ([0, 0] : List Int) ([] : List Int) ((rd_T31 t2 0).f0) ((rd_T31 t2 0).f1) ((rd_T31 t2 0).f2) ((rd_T31 t2 0).f3)).bind fun t3 => ((moves_Print.g t1.1 t1.2.1 t1.2.2.1 t1.2.2.2 t2).bind fun t4 => (if t3.2.2 = 0 then ((gnomonmem_SameInts.g t3.1 ([1, 1] : List Int)).bind fun t5 => (if t5 = true then (if t4.2 = 0 then (if t4.1 = (⟨#[65, 46, 48, 32, 66, 46, 48]⟩ : ByteArray) then (if 0 ≤ 0 then (if 0 < (t2.length : Int) then ((moves_Open.g t1.1 t1.2.1 t1.2.2.1 t1.2.2.2 t3.1 t3.2.1 ((rd_T31 t2 0).f0) ((rd_T31 t2 0).f1) ((rd_T31 t2 0).f2) ((rd_T31 t2 0).f3)).bind fun t6 => (some (decide (t6 = 213)))) else (none)) else (none)) else (some false)) else (some false)) else (some false))) else (some false)))) else (none)) else (none)) else (some false)) else (none)) else (none)) else (some false)))
theorem gnomonlaw14_live.le : Le (gnomonlaw14_live.g) (fun k => gnomonlaw14_live.f k) := (le_bind le_rfl fun t1 => (le_bind (moves_Enabled.le t1.1 t1.2.1 t1.2.2.1 t1.2.2.2 ([0, 0] : List Int) ([] : List Int)) fun t2 => (le_ite (le_ite (le_ite (le_ite (le_step (by simp only [gnomonlaw14_live.j0]; exact (le_ite (le_ite (le_bind (moves_After.le t1.1 t1.2.1 t1.2.2.1 t1.2.2.2 ([0, 0] : List Int) ([] : List Int) ((rd_T31 t2 0).f0) ((rd_T31 t2 0).f1) ((rd_T31 t2 0).f2) ((rd_T31 t2 0).f3)) fun t3 => (le_bind (moves_Print.le t1.1 t1.2.1 t1.2.2.1 t1.2.2.2 t2) fun t4 => (le_ite (le_bind (gnomonmem_SameInts.le t3.1 ([1, 1] : List Int)) fun t5 => (le_ite (le_ite (le_ite (le_ite (le_ite (le_bind (moves_Open.le t1.1 t1.2.1 t1.2.2.1 t1.2.2.2 t3.1 t3.2.1 ((rd_T31 t2 0).f0) ((rd_T31 t2 0).f1) ((rd_T31 t2 0).f2) ((rd_T31 t2 0).f3)) fun t6 => le_rfl) le_none) le_none) le_rfl) le_rfl) le_rfl)) le_rfl))) le_none) le_none))) le_rfl) le_none) le_none) le_rfl)))
def gnomonlaw14_has.L0 (x3_0 : Int) (x3_1 : Int) (x3_2 : Int) (x3_3 : Int) : List S31 → Int → Option Int
 | [], x5 => some x5
 | y6 :: u6, x5 => if y6 = (⟨x3_0, x3_1, x3_2, x3_3⟩ : S31) then (gnomonlaw14_has.L0 x3_0 x3_1 x3_2 x3_3 u6 (w64 (x5 + 1))) else (gnomonlaw14_has.L0 x3_0 x3_1 x3_2 x3_3 u6 x5)
theorem gnomonlaw14_has.L0_le (x0 : List S31) (x3_0 : Int) (x3_1 : Int) (x3_2 : Int) (x3_3 : Int) (hlen : x0.length ≤ 9223372036854775807) : ∀ (l : List S31) (i : Nat) (x5 : Int), List.drop i (x0) = l → Le (gnomonlaw14_has.L0 x3_0 x3_1 x3_2 x3_3 l x5) (fun k => gnomonlaw14_has.l0 k x0 x5 (i : Int) x3_0 x3_1 x3_2 x3_3)
  | [], i, x5, hd => by
    have hn := drop_nil hd
    refine le_step ?_
    simp only [gnomonlaw14_has.l0, gnomonlaw14_has.L0]
    exact le_neg (by omega) le_rfl
  | y6 :: u6, i, x5, hd => by
    have hw := w_next hd hlen
    have hx := drop_cons hd
    have ht := hx.2.2
    have h0 : (0 : Int) ≤ (i : Int) := by omega
    have h1 : (i : Int) < (x0.length : Int) := by have := hx.1; omega
    have hy : (rd_T31 x0 (i : Int)) = y6 := rdT_head (t := T31) hd
    refine le_step ?_
    simp only [gnomonlaw14_has.l0, gnomonlaw14_has.L0]
    refine le_pos h1 ?_
    subst hy
    exact (le_pos h0 (le_pos h1 (le_ite (by rw [hw]; exact gnomonlaw14_has.L0_le x0 x3_0 x3_1 x3_2 x3_3 hlen u6 (i + 1) (w64 (x5 + 1)) ht) (by rw [hw]; exact gnomonlaw14_has.L0_le x0 x3_0 x3_1 x3_2 x3_3 hlen u6 (i + 1) x5 ht))))
def gnomonlaw14_has.g (a0 : List S31) (l1_0 : Int) (l1_1 : Int) (l1_2 : Int) (l1_3 : Int) : Option Int := if a0.length ≤ 9223372036854775807 then (gnomonlaw14_has.L0 l1_0 l1_1 l1_2 l1_3 a0 0) else (none)
theorem gnomonlaw14_has.le (a0 : List S31) (l1_0 : Int) (l1_1 : Int) (l1_2 : Int) (l1_3 : Int) : Le (gnomonlaw14_has.g a0 l1_0 l1_1 l1_2 l1_3) (fun k => gnomonlaw14_has.f k a0 l1_0 l1_1 l1_2 l1_3) := (le_len fun hlen_ => gnomonlaw14_has.L0_le a0 l1_0 l1_1 l1_2 l1_3 hlen_ _ 0 0 rfl)
def gnomonlaw14_MovesStay.L3 (x8 : List S31) (x9 : Int) (x3_3 : List S49) (x10_0 : List Int) (K1 : Option Bool) : List Int → Nat → Bool → Option Bool
 | [], i, x12 => if (!x12) = true then (some false) else (K1)
 | y13 :: u13, i, x12 => if 0 ≤ x9 then (if x9 < (x8.length : Int) then (if (i : Int) = ((rd_T31 x8 x9).f0) then (if (!true) = true then (if (i : Int) < (x10_0.length : Int) then (if (rd x10_0 (i : Int)) = y13 then (if x12 = true then (gnomonlaw14_MovesStay.L3 x8 x9 x3_3 x10_0 K1 u13 (i + 1) true) else (if true = true then (if (i : Int) < (x3_3.length : Int) then (if 0 ≤ y13 then (if y13 < (((rd_T49 x3_3 (i : Int)).f1).length : Int) then (gnomonlaw14_MovesStay.L3 x8 x9 x3_3 x10_0 K1 u13 (i + 1) (decide (((rd_T45 ((rd_T49 x3_3 (i : Int)).f1) y13).f1) = 2))) else (none)) else (none)) else (none)) else (gnomonlaw14_MovesStay.L3 x8 x9 x3_3 x10_0 K1 u13 (i + 1) false))) else (some false)) else (none)) else (if x12 = true then (gnomonlaw14_MovesStay.L3 x8 x9 x3_3 x10_0 K1 u13 (i + 1) true) else (if true = true then (if (i : Int) < (x3_3.length : Int) then (if 0 ≤ y13 then (if y13 < (((rd_T49 x3_3 (i : Int)).f1).length : Int) then (gnomonlaw14_MovesStay.L3 x8 x9 x3_3 x10_0 K1 u13 (i + 1) (decide (((rd_T45 ((rd_T49 x3_3 (i : Int)).f1) y13).f1) = 2))) else (none)) else (none)) else (none)) else (gnomonlaw14_MovesStay.L3 x8 x9 x3_3 x10_0 K1 u13 (i + 1) false)))) else (if 0 ≤ x9 then (if x9 < (x8.length : Int) then (if (!(decide ((i : Int) = (w64 (((rd_T31 x8 x9).f2) - 1))))) = true then (if (i : Int) < (x10_0.length : Int) then (if (rd x10_0 (i : Int)) = y13 then (if x12 = true then (gnomonlaw14_MovesStay.L3 x8 x9 x3_3 x10_0 K1 u13 (i + 1) true) else (if (decide ((i : Int) = (w64 (((rd_T31 x8 x9).f2) - 1)))) = true then (if (i : Int) < (x3_3.length : Int) then (if 0 ≤ y13 then (if y13 < (((rd_T49 x3_3 (i : Int)).f1).length : Int) then (gnomonlaw14_MovesStay.L3 x8 x9 x3_3 x10_0 K1 u13 (i + 1) (decide (((rd_T45 ((rd_T49 x3_3 (i : Int)).f1) y13).f1) = 2))) else (none)) else (none)) else (none)) else (gnomonlaw14_MovesStay.L3 x8 x9 x3_3 x10_0 K1 u13 (i + 1) false))) else (some false)) else (none)) else (if x12 = true then (gnomonlaw14_MovesStay.L3 x8 x9 x3_3 x10_0 K1 u13 (i + 1) true) else (if (decide ((i : Int) = (w64 (((rd_T31 x8 x9).f2) - 1)))) = true then (if (i : Int) < (x3_3.length : Int) then (if 0 ≤ y13 then (if y13 < (((rd_T49 x3_3 (i : Int)).f1).length : Int) then (gnomonlaw14_MovesStay.L3 x8 x9 x3_3 x10_0 K1 u13 (i + 1) (decide (((rd_T45 ((rd_T49 x3_3 (i : Int)).f1) y13).f1) = 2))) else (none)) else (none)) else (none)) else (gnomonlaw14_MovesStay.L3 x8 x9 x3_3 x10_0 K1 u13 (i + 1) false)))) else (none)) else (none))) else (none)) else (none)
theorem gnomonlaw14_MovesStay.L3_le (x4_0 : List Int) (x7 : List S31) (x8 : List S31) (x9 : Int) (x3_0 : List ByteArray) (x3_1 : List S78) (x3_2 : List ByteArray) (x3_3 : List S49) (x4_1 : List Int) (x10_0 : List Int) (x10_1 : List Int) (K1 : Option Bool) (hK1 : Le (K1) (fun k => gnomonlaw14_MovesStay.l1 k x7 x8 (w64 (x9 + 1)) x3_0 x3_1 x3_2 x3_3 x4_0 x4_1)) (hlen : x4_0.length ≤ 9223372036854775807) : ∀ (l : List Int) (i : Nat) (x12 : Bool), List.drop i (x4_0) = l → Le (gnomonlaw14_MovesStay.L3 x8 x9 x3_3 x10_0 K1 l i x12) (fun k => gnomonlaw14_MovesStay.l3 k x7 x8 x9 x12 (i : Int) x3_0 x3_1 x3_2 x3_3 x4_0 x4_1 x10_0 x10_1)
  | [], i, x12, hd => by
    have hn := drop_nil hd
    refine le_step ?_
    simp only [gnomonlaw14_MovesStay.l3, gnomonlaw14_MovesStay.L3]
    exact le_neg (by omega) (le_ite le_rfl (hK1))
  | y13 :: u13, i, x12, hd => by
    have hw := w_next hd hlen
    have hx := drop_cons hd
    have ht := hx.2.2
    have h0 : (0 : Int) ≤ (i : Int) := by omega
    have h1 : (i : Int) < (x4_0.length : Int) := by have := hx.1; omega
    have hy : (rd x4_0 (i : Int)) = y13 := rdT_head (t := (.int .i64)) hd
    refine le_step ?_
    simp only [gnomonlaw14_MovesStay.l3, gnomonlaw14_MovesStay.L3]
    refine le_pos h1 ?_
    subst hy
    exact (le_ite (le_ite (le_ite (le_step (by simp only [gnomonlaw14_MovesStay.j4]; exact (le_ite (le_pos h0 (le_ite (le_pos h0 (le_pos h1 (le_ite (le_step (by simp only [gnomonlaw14_MovesStay.j5]; exact (le_ite (by rw [hw]; exact gnomonlaw14_MovesStay.L3_le x4_0 x7 x8 x9 x3_0 x3_1 x3_2 x3_3 x4_1 x10_0 x10_1 K1 hK1 hlen u13 (i + 1) true ht) (le_ite (le_pos h0 (le_ite (le_pos h0 (le_pos h1 (le_ite (le_ite (by rw [hw]; exact gnomonlaw14_MovesStay.L3_le x4_0 x7 x8 x9 x3_0 x3_1 x3_2 x3_3 x4_1 x10_0 x10_1 K1 hK1 hlen u13 (i + 1) (decide (((rd_T45 ((rd_T49 x3_3 (i : Int)).f1) (rd x4_0 (i : Int))).f1) = 2)) ht) le_none) le_none))) le_none)) (by rw [hw]; exact gnomonlaw14_MovesStay.L3_le x4_0 x7 x8 x9 x3_0 x3_1 x3_2 x3_3 x4_1 x10_0 x10_1 K1 hK1 hlen u13 (i + 1) false ht))))) le_rfl))) le_none)) (le_step (by simp only [gnomonlaw14_MovesStay.j5]; exact (le_ite (by rw [hw]; exact gnomonlaw14_MovesStay.L3_le x4_0 x7 x8 x9 x3_0 x3_1 x3_2 x3_3 x4_1 x10_0 x10_1 K1 hK1 hlen u13 (i + 1) true ht) (le_ite (le_pos h0 (le_ite (le_pos h0 (le_pos h1 (le_ite (le_ite (by rw [hw]; exact gnomonlaw14_MovesStay.L3_le x4_0 x7 x8 x9 x3_0 x3_1 x3_2 x3_3 x4_1 x10_0 x10_1 K1 hK1 hlen u13 (i + 1) (decide (((rd_T45 ((rd_T49 x3_3 (i : Int)).f1) (rd x4_0 (i : Int))).f1) = 2)) ht) le_none) le_none))) le_none)) (by rw [hw]; exact gnomonlaw14_MovesStay.L3_le x4_0 x7 x8 x9 x3_0 x3_1 x3_2 x3_3 x4_1 x10_0 x10_1 K1 hK1 hlen u13 (i + 1) false ht)))))))) (le_ite (le_ite (le_step (by simp only [gnomonlaw14_MovesStay.j4]; exact (le_ite (le_pos h0 (le_ite (le_pos h0 (le_pos h1 (le_ite (le_step (by simp only [gnomonlaw14_MovesStay.j5]; exact (le_ite (by rw [hw]; exact gnomonlaw14_MovesStay.L3_le x4_0 x7 x8 x9 x3_0 x3_1 x3_2 x3_3 x4_1 x10_0 x10_1 K1 hK1 hlen u13 (i + 1) true ht) (le_ite (le_pos h0 (le_ite (le_pos h0 (le_pos h1 (le_ite (le_ite (by rw [hw]; exact gnomonlaw14_MovesStay.L3_le x4_0 x7 x8 x9 x3_0 x3_1 x3_2 x3_3 x4_1 x10_0 x10_1 K1 hK1 hlen u13 (i + 1) (decide (((rd_T45 ((rd_T49 x3_3 (i : Int)).f1) (rd x4_0 (i : Int))).f1) = 2)) ht) le_none) le_none))) le_none)) (by rw [hw]; exact gnomonlaw14_MovesStay.L3_le x4_0 x7 x8 x9 x3_0 x3_1 x3_2 x3_3 x4_1 x10_0 x10_1 K1 hK1 hlen u13 (i + 1) false ht))))) le_rfl))) le_none)) (le_step (by simp only [gnomonlaw14_MovesStay.j5]; exact (le_ite (by rw [hw]; exact gnomonlaw14_MovesStay.L3_le x4_0 x7 x8 x9 x3_0 x3_1 x3_2 x3_3 x4_1 x10_0 x10_1 K1 hK1 hlen u13 (i + 1) true ht) (le_ite (le_pos h0 (le_ite (le_pos h0 (le_pos h1 (le_ite (le_ite (by rw [hw]; exact gnomonlaw14_MovesStay.L3_le x4_0 x7 x8 x9 x3_0 x3_1 x3_2 x3_3 x4_1 x10_0 x10_1 K1 hK1 hlen u13 (i + 1) (decide (((rd_T45 ((rd_T49 x3_3 (i : Int)).f1) (rd x4_0 (i : Int))).f1) = 2)) ht) le_none) le_none))) le_none)) (by rw [hw]; exact gnomonlaw14_MovesStay.L3_le x4_0 x7 x8 x9 x3_0 x3_1 x3_2 x3_3 x4_1 x10_0 x10_1 K1 hK1 hlen u13 (i + 1) false ht)))))))) le_none) le_none)) le_none) le_none)
def gnomonlaw14_MovesStay.L6 (x3_3 : List S49) : List S31 → Option Bool
 | [] => some true
 | y15 :: u15 => if (y15.f0) < 0 then (some false) else (if (y15.f0) ≥ (x3_3.length : Int) then (some false) else (if (y15.f1) < 0 then (some false) else (if 0 ≤ y15.f0 then (if y15.f0 < (x3_3.length : Int) then (if (y15.f1) ≥ (((rd_T49 x3_3 (y15.f0)).f2).length : Int) then (some false) else (if 0 ≤ y15.f0 then (if y15.f0 < (x3_3.length : Int) then (if 0 ≤ y15.f1 then (if y15.f1 < (((rd_T49 x3_3 (y15.f0)).f2).length : Int) then (if (!decide ((y15.f2) = 0)) = (!decide (((rd_T53 ((rd_T49 x3_3 (y15.f0)).f2) (y15.f1)).f4) = 0)) then (if ((rd_T53 ((rd_T49 x3_3 (y15.f0)).f2) (y15.f1)).f4) = 0 then (gnomonlaw14_MovesStay.L6 x3_3 u15) else (if (!((rd_T53 ((rd_T49 x3_3 (y15.f0)).f2) (y15.f1)).f5)) = true then (some false) else (gnomonlaw14_MovesStay.L6 x3_3 u15))) else (some false)) else (none)) else (none)) else (none)) else (none))) else (none)) else (none))))
theorem gnomonlaw14_MovesStay.L6_le (x7 : List S31) (x3_0 : List ByteArray) (x3_1 : List S78) (x3_2 : List ByteArray) (x3_3 : List S49) (hlen : x7.length ≤ 9223372036854775807) : ∀ (l : List S31) (i : Nat), List.drop i (x7) = l → Le (gnomonlaw14_MovesStay.L6 x3_3 l) (fun k => gnomonlaw14_MovesStay.l6 k x7 (i : Int) x3_0 x3_1 x3_2 x3_3)
  | [], i, hd => by
    have hn := drop_nil hd
    refine le_step ?_
    simp only [gnomonlaw14_MovesStay.l6, gnomonlaw14_MovesStay.L6]
    exact le_neg (by omega) le_rfl
  | y15 :: u15, i, hd => by
    have hw := w_next hd hlen
    have hx := drop_cons hd
    have ht := hx.2.2
    have h0 : (0 : Int) ≤ (i : Int) := by omega
    have h1 : (i : Int) < (x7.length : Int) := by have := hx.1; omega
    have hy : (rd_T31 x7 (i : Int)) = y15 := rdT_head (t := T31) hd
    refine le_step ?_
    simp only [gnomonlaw14_MovesStay.l6, gnomonlaw14_MovesStay.L6]
    refine le_pos h1 ?_
    subst hy
    exact (le_pos h0 (le_pos h1 (le_ite le_rfl (le_pos h0 (le_pos h1 (le_ite le_rfl (le_pos h0 (le_pos h1 (le_ite le_rfl (le_pos h0 (le_pos h1 (le_pos h0 (le_pos h1 (le_ite (le_ite (le_ite le_rfl (le_step (by simp only [gnomonlaw14_MovesStay.j7]; exact (le_pos h0 (le_pos h1 (le_ite (le_ite (le_pos h0 (le_pos h1 (le_ite (le_ite (le_pos h0 (le_pos h1 (le_ite (le_ite (by rw [hw]; exact gnomonlaw14_MovesStay.L6_le x7 x3_0 x3_1 x3_2 x3_3 hlen u15 (i + 1) ht) (le_ite le_rfl (by rw [hw]; exact gnomonlaw14_MovesStay.L6_le x7 x3_0 x3_1 x3_2 x3_3 hlen u15 (i + 1) ht))) le_rfl))) le_none) le_none))) le_none) le_none)))))) le_none) le_none))))))))))))))
def gnomonlaw14_MovesStay.L1 (x7 : List S31) (x8 : List S31) (x3_0 : List ByteArray) (x3_1 : List S78) (x3_2 : List ByteArray) (x3_3 : List S49) (x4_0 : List Int) (x4_1 : List Int) : List S31 → Nat → Option Bool
 | [], i => if x7.length ≤ 9223372036854775807 then (gnomonlaw14_MovesStay.L6 x3_3 x7) else (none)
 | y9 :: u9, i => (gnomonlaw14_has.g x7 (y9.f0) (y9.f1) (y9.f2) (y9.f3)).bind fun t7 => (if t7 = 1 then ((moves_After.g x3_0 x3_1 x3_2 x3_3 x4_0 x4_1 (y9.f0) (y9.f1) (y9.f2) (y9.f3)).bind fun t8 => (if t8.2.2 = 0 then ((state_Right.g x3_0 x3_1 x3_2 x3_3 t8.1 t8.2.1).bind fun t9 => (if (!t9) = true then (some false) else (if (t8.1.length : Int) = (x3_3.length : Int) then (if (x4_0.length : Int) = (x3_3.length : Int) then ((moves_Committed.g x3_0 x3_1 x3_2 x3_3 x4_0 x4_1).bind fun t10 => (if x4_0.length ≤ 9223372036854775807 then (gnomonlaw14_MovesStay.L3 x8 (i : Int) x3_3 t8.1 (gnomonlaw14_MovesStay.L1 x7 x8 x3_0 x3_1 x3_2 x3_3 x4_0 x4_1 u9 (i + 1)) x4_0 0 (!t10)) else (none))) else (some false)) else (some false)))) else (some false))) else (some false))
theorem gnomonlaw14_MovesStay.L1_le (x8 : List S31) (x7 : List S31) (x3_0 : List ByteArray) (x3_1 : List S78) (x3_2 : List ByteArray) (x3_3 : List S49) (x4_0 : List Int) (x4_1 : List Int) (hlen : x8.length ≤ 9223372036854775807) : ∀ (l : List S31) (i : Nat), List.drop i (x8) = l → Le (gnomonlaw14_MovesStay.L1 x7 x8 x3_0 x3_1 x3_2 x3_3 x4_0 x4_1 l i) (fun k => gnomonlaw14_MovesStay.l1 k x7 x8 (i : Int) x3_0 x3_1 x3_2 x3_3 x4_0 x4_1)
  | [], i, hd => by
    have hn := drop_nil hd
    refine le_step ?_
    simp only [gnomonlaw14_MovesStay.l1, gnomonlaw14_MovesStay.L1]
    exact le_neg (by omega) (le_len fun hlen_ => gnomonlaw14_MovesStay.L6_le x7 x3_0 x3_1 x3_2 x3_3 hlen_ _ 0 rfl)
  | y9 :: u9, i, hd => by
    have hw := w_next hd hlen
    have hx := drop_cons hd
    have ht := hx.2.2
    have h0 : (0 : Int) ≤ (i : Int) := by omega
    have h1 : (i : Int) < (x8.length : Int) := by have := hx.1; omega
    have hy : (rd_T31 x8 (i : Int)) = y9 := rdT_head (t := T31) hd
    refine le_step ?_
    simp only [gnomonlaw14_MovesStay.l1, gnomonlaw14_MovesStay.L1]
    refine le_pos h1 ?_
    subst hy
    exact (le_pos h0 (le_pos h1 (le_bind (gnomonlaw14_has.le x7 ((rd_T31 x8 (i : Int)).f0) ((rd_T31 x8 (i : Int)).f1) ((rd_T31 x8 (i : Int)).f2) ((rd_T31 x8 (i : Int)).f3)) fun t7 => (le_ite (le_pos h0 (le_pos h1 (le_bind (moves_After.le x3_0 x3_1 x3_2 x3_3 x4_0 x4_1 ((rd_T31 x8 (i : Int)).f0) ((rd_T31 x8 (i : Int)).f1) ((rd_T31 x8 (i : Int)).f2) ((rd_T31 x8 (i : Int)).f3)) fun t8 => (le_ite (le_bind (state_Right.le x3_0 x3_1 x3_2 x3_3 t8.1 t8.2.1) fun t9 => (le_ite le_rfl (le_ite (le_ite (le_step (by simp only [gnomonlaw14_MovesStay.j2]; exact (le_bind (moves_Committed.le x3_0 x3_1 x3_2 x3_3 x4_0 x4_1) fun t10 => (le_len fun hlen_ => gnomonlaw14_MovesStay.L3_le x4_0 x7 x8 (i : Int) x3_0 x3_1 x3_2 x3_3 x4_1 t8.1 t8.2.1 _ (by rw [hw]; exact gnomonlaw14_MovesStay.L1_le x8 x7 x3_0 x3_1 x3_2 x3_3 x4_0 x4_1 hlen u9 (i + 1) ht) hlen_ _ 0 (!t10) rfl)))) le_rfl) le_rfl))) le_rfl)))) le_rfl))))
def gnomonlaw14_MovesStay.g (l0_0 : List ByteArray) (l0_1 : List S78) (l0_2 : List ByteArray) (l0_3 : List S49) (l1_0 : List Int) (l1_1 : List Int) (l2_0 : Int) (l2_1 : Int) (l2_2 : Int) (l2_3 : Int) : Option Bool := (gnomonlaw14_live.g).bind fun t1 => (if (!t1) = true then (some false) else ((moves_All.g l0_0 l0_1 l0_2 l0_3).bind fun t2 => ((moves_Enabled.g l0_0 l0_1 l0_2 l0_3 l1_0 l1_1).bind fun t3 => ((gnomonlaw14_has.g t3 l2_0 l2_1 l2_2 l2_3).bind fun t4 => ((moves_Open.g l0_0 l0_1 l0_2 l0_3 l1_0 l1_1 l2_0 l2_1 l2_2 l2_3).bind fun t5 => (if (decide (t4 = 1)) = (decide (t5 = 0)) then ((gnomonlaw14_has.g t2 l2_0 l2_1 l2_2 l2_3).bind fun t6 => (if t6 > 1 then (some false) else (if t3.length ≤ 9223372036854775807 then (gnomonlaw14_MovesStay.L1 t2 t3 l0_0 l0_1 l0_2 l0_3 l1_0 l1_1 t3 0) else (none)))) else (some false)))))))
theorem gnomonlaw14_MovesStay.le (l0_0 : List ByteArray) (l0_1 : List S78) (l0_2 : List ByteArray) (l0_3 : List S49) (l1_0 : List Int) (l1_1 : List Int) (l2_0 : Int) (l2_1 : Int) (l2_2 : Int) (l2_3 : Int) : Le (gnomonlaw14_MovesStay.g l0_0 l0_1 l0_2 l0_3 l1_0 l1_1 l2_0 l2_1 l2_2 l2_3) (fun k => gnomonlaw14_MovesStay.f k l0_0 l0_1 l0_2 l0_3 l1_0 l1_1 l2_0 l2_1 l2_2 l2_3) := (le_bind (gnomonlaw14_live.le) fun t1 => (le_ite le_rfl (le_bind (moves_All.le l0_0 l0_1 l0_2 l0_3) fun t2 => (le_bind (moves_Enabled.le l0_0 l0_1 l0_2 l0_3 l1_0 l1_1) fun t3 => (le_bind (gnomonlaw14_has.le t3 l2_0 l2_1 l2_2 l2_3) fun t4 => (le_bind (moves_Open.le l0_0 l0_1 l0_2 l0_3 l1_0 l1_1 l2_0 l2_1 l2_2 l2_3) fun t5 => (le_ite (le_bind (gnomonlaw14_has.le t2 l2_0 l2_1 l2_2 l2_3) fun t6 => (le_ite le_rfl (le_step (by simp only [gnomonlaw14_MovesStay.j0]; exact (le_len fun hlen_ => gnomonlaw14_MovesStay.L1_le t3 t2 l0_0 l0_1 l0_2 l0_3 l1_0 l1_1 hlen_ _ 0 rfl))))) le_rfl)))))))
end
end Go.Proofs.YtfajafegkechhaaDoor.Q
