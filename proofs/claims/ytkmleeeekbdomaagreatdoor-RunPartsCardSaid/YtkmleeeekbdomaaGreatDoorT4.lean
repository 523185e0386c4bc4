/- Part of the proof: T4. -/
import Derived.Test.YtkmleeeekbdomaaGreatDoorLM
set_option linter.unusedSectionVars false
set_option linter.unusedVariables false
set_option linter.unusedSimpArgs false
set_option maxRecDepth 100000
namespace Go.Proofs.YtkmleeeekbdomaaGreatDoor.Q
open Go Go.Den Go.Proofs
noncomputable section
def run_delays.L0 (x1_1 : Int) (x1_2 : Int) : List S41 → (List S24) → Option (List S24)
 | [], x3 => if x3.length < 8796093022208 then (some (x3 ++ [(⟨x1_1, x1_2⟩ : S24)])) else (none)
 | y9 :: u9, x3 => if x3.length < 8796093022208 then (run_delays.L0 x1_1 x1_2 u9 (x3 ++ [(y9.f0)])) else (none)
theorem run_delays.L0_le (x7 : List S41) (x1_0 : List S41) (x1_1 : Int) (x1_2 : Int) (hlen : x7.length ≤ 9223372036854775807) : ∀ (l : List S41) (i : Nat) (x3 : List S24), List.drop i (x7) = l → Le (run_delays.L0 x1_1 x1_2 l x3) (fun k => run_delays.l0 k x3 x7 (x7.length : Int) (i : Int) x1_0 x1_1 x1_2)
  | [], i, x3, hd => by
    have hn := drop_nil hd
    refine le_step ?_
    simp only [run_delays.l0, run_delays.L0]
    exact le_neg (by omega) (le_ite le_rfl le_none)
  | y9 :: u9, i, x3, hd => by
    have hw := w_next hd hlen
    have hx := drop_cons hd
    have ht := hx.2.2
    have h0 : (0 : Int) ≤ (i : Int) := by omega
    have h1 : (i : Int) < (x7.length : Int) := by have := hx.1; omega
    have h2 := h1
    have hy : (rd_T41 x7 (i : Int)) = y9 := rdT_head (t := T41) hd
    refine le_step ?_
    simp only [run_delays.l0, run_delays.L0]
    refine le_pos h1 ?_
    subst hy
    exact (le_pos h0 (le_pos h1 (le_ite (by rw [hw]; exact run_delays.L0_le x7 x1_0 x1_1 x1_2 hlen u9 (i + 1) (x3 ++ [((rd_T41 x7 (i : Int)).f0)]) ht) le_none)))
def run_delays.g (l0_0 : List S41) (l0_1 : S24) : Option (List S24) := if l0_0.length ≤ 9223372036854775807 then (run_delays.L0 l0_1.f0 l0_1.f1 l0_0 ([] : List S24)) else (none)
theorem run_delays.le (l0_0 : List S41) (l0_1 : S24) : Le (run_delays.g l0_0 l0_1) (fun k => run_delays.f k l0_0 l0_1) := (le_len fun hlen_ => run_delays.L0_le l0_0 l0_0 l0_1.f0 l0_1.f1 hlen_ _ 0 ([] : List S24) rfl)
def cmp_Or_int.L0 (x3 : Int) : List Int → Option Int
 | [] => some x3
 | y8 :: u8 => if y8 = x3 then (cmp_Or_int.L0 x3 u8) else (some y8)
theorem cmp_Or_int.L0_le (x6 : List Int) (x3 : Int) (hlen : x6.length ≤ 9223372036854775807) : ∀ (l : List Int) (i : Nat), List.drop i (x6) = l → Le (cmp_Or_int.L0 x3 l) (fun k => cmp_Or_int.l0 k x3 x6 (x6.length : Int) (i : Int))
  | [], i, hd => by
    have hn := drop_nil hd
    refine le_step ?_
    simp only [cmp_Or_int.l0, cmp_Or_int.L0]
    exact le_neg (by omega) le_rfl
  | y8 :: u8, i, hd => by
    have hw := w_next hd hlen
    have hx := drop_cons hd
    have ht := hx.2.2
    have h0 : (0 : Int) ≤ (i : Int) := by omega
    have h1 : (i : Int) < (x6.length : Int) := by have := hx.1; omega
    have h2 := h1
    have hy : (rd x6 (i : Int)) = y8 := rdT_head (t := (.int .i64)) hd
    refine le_step ?_
    simp only [cmp_Or_int.l0, cmp_Or_int.L0]
    refine le_pos h1 ?_
    subst hy
    exact (le_pos h0 (le_pos h1 (le_ite (by rw [hw]; exact cmp_Or_int.L0_le x6 x3 hlen u8 (i + 1) ht) le_rfl)))
def cmp_Or_int.g (a0 : List Int) : Option Int := if a0.length ≤ 9223372036854775807 then (cmp_Or_int.L0 0 a0) else (none)
theorem cmp_Or_int.le (a0 : List Int) : Le (cmp_Or_int.g a0) (fun k => cmp_Or_int.f k a0) := (le_len fun hlen_ => cmp_Or_int.L0_le a0 0 hlen_ _ 0 rfl)
def rat_size_compare.g (l0_0 : Int) (l0_1 : Int) (l1_0 : Int) (l1_1 : Int) : Option Int := (cmp_Compare_uint64.f l0_0 l1_0).bind fun t1 => ((cmp_Compare_uint64.f l0_1 l1_1).bind fun t2 => ((cmp_Or_int.g ([t1, t2] : List Int)).bind fun t3 => (some t3)))
theorem rat_size_compare.le (l0_0 : Int) (l0_1 : Int) (l1_0 : Int) (l1_1 : Int) : Le (rat_size_compare.g l0_0 l0_1 l1_0 l1_1) (fun k => rat_size_compare.f k l0_0 l0_1 l1_0 l1_1) := (le_bind le_rfl fun t1 => (le_bind le_rfl fun t2 => (le_bind (cmp_Or_int.le ([t1, t2] : List Int)) fun t3 => le_rfl)))
def rat_size_over.g (a b c d : Int) : Option (Int × Int × Int × Int) := lim (fun k => rat_size_over.f k a b c d)
theorem rat_size_over.le (a b c d : Int) : Le (rat_size_over.g a b c d) (fun k => rat_size_over.f k a b c d) := lim_le
def rat_common.g (a b c d : Int) : Option (Int × Int) := lim (fun k => rat_common.f k a b c d)
theorem rat_common.le (a b c d : Int) : Le (rat_common.g a b c d) (fun k => rat_common.f k a b c d) := lim_le
def rat_wide_number.g (l0_0 : S91) (l0_1 : Bool) : Option (Int × Bool) := if l0_0.f0 > 0 then (some (0, false)) else (if l0_0.f1 > 9223372036854775808 then (some (0, false)) else (if l0_0.f1 = 9223372036854775808 then (if (!l0_1) = true then (some (0, false)) else (if l0_1 = true then (some (w64 (wk .u64 (0 - l0_0.f1)), true)) else (some (w64 (l0_0.f1), true)))) else (if l0_1 = true then (some (w64 (wk .u64 (0 - l0_0.f1)), true)) else (some (w64 (l0_0.f1), true)))))
theorem rat_wide_number.le (l0_0 : S91) (l0_1 : Bool) : Le (rat_wide_number.g l0_0 l0_1) (fun k => rat_wide_number.f k l0_0 l0_1) := (le_ite le_rfl (le_ite le_rfl (le_ite (le_ite le_rfl (le_step (by simp only [rat_wide_number.j0]; exact (le_ite le_rfl le_rfl)))) (le_step (by simp only [rat_wide_number.j0]; exact (le_ite le_rfl le_rfl))))))
def rat_made.g (l0_0 : S91) (l0_1 : Bool) (l1_0 : S91) (l1_1 : Bool) : Option (Int × Int × Int) := (rat_common.g l0_0.f0 l0_0.f1 l1_0.f0 l1_0.f1).bind fun t1 => ((rat_size_over.g l0_0.f0 l0_0.f1 t1.1 t1.2).bind fun t2 => ((rat_size_over.g l1_0.f0 l1_0.f1 t1.1 t1.2).bind fun t3 => (if l0_1 = l1_1 then ((rat_wide_number.g (⟨t2.1, t2.2.1⟩ : S91) false).bind fun t4 => ((rat_wide_number.g (⟨t3.1, t3.2.1⟩ : S91) false).bind fun t5 => (if (!t4.2) = true then (some (0, 0, 20)) else (if (!t5.2) = true then (some (0, 0, 20)) else (some (t4.1, t5.1, 0)))))) else ((rat_size_isZero.f t2.1 t2.2.1).bind fun t6 => ((rat_wide_number.g (⟨t2.1, t2.2.1⟩ : S91) (!t6)).bind fun t4 => ((rat_wide_number.g (⟨t3.1, t3.2.1⟩ : S91) false).bind fun t5 => (if (!t4.2) = true then (some (0, 0, 20)) else (if (!t5.2) = true then (some (0, 0, 20)) else (some (t4.1, t5.1, 0))))))))))
theorem rat_made.le (l0_0 : S91) (l0_1 : Bool) (l1_0 : S91) (l1_1 : Bool) : Le (rat_made.g l0_0 l0_1 l1_0 l1_1) (fun k => rat_made.f k l0_0 l0_1 l1_0 l1_1) := (le_bind (rat_common.le l0_0.f0 l0_0.f1 l1_0.f0 l1_0.f1) fun t1 => (le_bind (rat_size_over.le l0_0.f0 l0_0.f1 t1.1 t1.2) fun t2 => (le_bind (rat_size_over.le l1_0.f0 l1_0.f1 t1.1 t1.2) fun t3 => (le_ite (le_step (by simp only [rat_made.j0]; exact (le_bind (rat_wide_number.le (⟨t2.1, t2.2.1⟩ : S91) false) fun t4 => (le_bind (rat_wide_number.le (⟨t3.1, t3.2.1⟩ : S91) false) fun t5 => (le_ite le_rfl (le_ite le_rfl le_rfl)))))) (le_bind le_rfl fun t6 => (le_step (by simp only [rat_made.j0]; exact (le_bind (rat_wide_number.le (⟨t2.1, t2.2.1⟩ : S91) (!t6)) fun t4 => (le_bind (rat_wide_number.le (⟨t3.1, t3.2.1⟩ : S91) false) fun t5 => (le_ite le_rfl (le_ite le_rfl le_rfl)))))))))))
def rat_New.g (a0 : Int) (a1 : Int) : Option (Int × Int × Int) := if a1 = 0 then (some (0, 0, 21)) else ((rat_of.f a0).bind fun t1 => ((rat_of.f a1).bind fun t2 => ((rat_made.g t1.1 t1.2 t2.1 t2.2).bind fun t3 => (some (t3.1, t3.2.1, t3.2.2)))))
theorem rat_New.le (a0 : Int) (a1 : Int) : Le (rat_New.g a0 a1) (fun k => rat_New.f k a0 a1) := (le_ite le_rfl (le_bind le_rfl fun t1 => (le_bind le_rfl fun t2 => (le_bind (rat_made.le t1.1 t1.2 t2.1 t2.2) fun t3 => le_rfl))))
def rat_Right.g (l0_0 : Int) (l0_1 : Int) : Option Bool := if l0_1 < 1 then (some false) else ((rat_New.g l0_0 l0_1).bind fun t1 => (if t1.2.2 = 0 then (some (decide ((⟨t1.1, t1.2.1⟩ : S24) = (⟨l0_0, l0_1⟩ : S24)))) else (some false)))
theorem rat_Right.le (l0_0 : Int) (l0_1 : Int) : Le (rat_Right.g l0_0 l0_1) (fun k => rat_Right.f k l0_0 l0_1) := (le_ite le_rfl (le_bind (rat_New.le l0_0 l0_1) fun t1 => (le_ite le_rfl le_rfl)))
def rat_both.g (l0_0 : Int) (l0_1 : Int) (l1_0 : Int) (l1_1 : Int) : Option Bool := (rat_Right.g l0_0 l0_1).bind fun t1 => (if t1 = true then ((rat_Right.g l1_0 l1_1).bind fun t2 => (some t2)) else (some false))
theorem rat_both.le (l0_0 : Int) (l0_1 : Int) (l1_0 : Int) (l1_1 : Int) : Le (rat_both.g l0_0 l0_1 l1_0 l1_1) (fun k => rat_both.f k l0_0 l0_1 l1_0 l1_1) := (le_bind (rat_Right.le l0_0 l0_1) fun t1 => (le_ite (le_bind (rat_Right.le l1_0 l1_1) fun t2 => le_rfl) le_rfl))
def rat_wide_sum.g (l0_0 : S91) (l0_1 : Bool) (l1_0 : S91) (l1_1 : Bool) : Option (S91 × Bool) := if l0_1 = l1_1 then ((rat_size_plus.f l0_0.f0 l0_0.f1 l1_0.f0 l1_0.f1).bind fun t1 => (some ((⟨t1.1, t1.2⟩ : S91), l0_1))) else ((rat_size_compare.g l0_0.f0 l0_0.f1 l1_0.f0 l1_0.f1).bind fun t2 => (if t2 = 0 then (some ((⟨0, 0⟩ : S91), false)) else (if t2 = 1 then ((rat_size_less.f l0_0.f0 l0_0.f1 l1_0.f0 l1_0.f1).bind fun t3 => (some ((⟨t3.1, t3.2⟩ : S91), l0_1))) else ((rat_size_less.f l1_0.f0 l1_0.f1 l0_0.f0 l0_0.f1).bind fun t4 => (some ((⟨t4.1, t4.2⟩ : S91), l1_1))))))
theorem rat_wide_sum.le (l0_0 : S91) (l0_1 : Bool) (l1_0 : S91) (l1_1 : Bool) : Le (rat_wide_sum.g l0_0 l0_1 l1_0 l1_1) (fun k => rat_wide_sum.f k l0_0 l0_1 l1_0 l1_1) := (le_ite (le_bind le_rfl fun t1 => le_rfl) (le_bind (rat_size_compare.le l0_0.f0 l0_0.f1 l1_0.f0 l1_0.f1) fun t2 => (le_ite le_rfl (le_ite (le_bind le_rfl fun t3 => le_rfl) (le_bind le_rfl fun t4 => le_rfl)))))
def rat_Add.g (l0_0 : Int) (l0_1 : Int) (l1_0 : Int) (l1_1 : Int) : Option (Int × Int × Int) := (rat_both.g l0_0 l0_1 l1_0 l1_1).bind fun t1 => (if (!t1) = true then (some (0, 0, 7)) else ((rat_times.f l0_0 l1_1).bind fun t2 => ((rat_times.f l1_0 l0_1).bind fun t3 => ((rat_wide_sum.g t2.1 t2.2 t3.1 t3.2).bind fun t4 => ((rat_times.f l0_1 l1_1).bind fun t5 => ((rat_made.g t4.1 t4.2 t5.1 t5.2).bind fun t6 => (some (t6.1, t6.2.1, t6.2.2))))))))
theorem rat_Add.le (l0_0 : Int) (l0_1 : Int) (l1_0 : Int) (l1_1 : Int) : Le (rat_Add.g l0_0 l0_1 l1_0 l1_1) (fun k => rat_Add.f k l0_0 l0_1 l1_0 l1_1) := (le_bind (rat_both.le l0_0 l0_1 l1_0 l1_1) fun t1 => (le_ite le_rfl (le_bind le_rfl fun t2 => (le_bind le_rfl fun t3 => (le_bind (rat_wide_sum.le t2.1 t2.2 t3.1 t3.2) fun t4 => (le_bind le_rfl fun t5 => (le_bind (rat_made.le t4.1 t4.2 t5.1 t5.2) fun t6 => le_rfl)))))))
def run_isDelay.g (l0_0 : Int) (l0_1 : Int) : Option Bool := (rat_Right.g l0_0 l0_1).bind fun t1 => (if t1 = true then (some (decide (l0_0 ≥ 0))) else (some false))
theorem run_isDelay.le (l0_0 : Int) (l0_1 : Int) : Le (run_isDelay.g l0_0 l0_1) (fun k => run_isDelay.f k l0_0 l0_1) := (le_bind (rat_Right.le l0_0 l0_1) fun t1 => (le_ite le_rfl le_rfl))
def run_Times_1.g (l0_0 : Int) (l0_1 : Int) : Option Bool := (run_isDelay.g l0_0 l0_1).bind fun t1 => (some (!t1))
theorem run_Times_1.le (l0_0 : Int) (l0_1 : Int) : Le (run_Times_1.g l0_0 l0_1) (fun k => run_Times_1.f k l0_0 l0_1) := (le_bind (run_isDelay.le l0_0 l0_1) fun t1 => le_rfl)
def slices_IndexFunc_api_Rat_api_Rat_at20.L0 : List S24 → Nat → Option Int
 | [], i => some (-1)
 | y8 :: u8, i => (run_Times_1.g (y8.f0) (y8.f1)).bind fun t1 => (if t1 = true then (some (i : Int)) else (slices_IndexFunc_api_Rat_api_Rat_at20.L0 u8 (i + 1)))
theorem slices_IndexFunc_api_Rat_api_Rat_at20.L0_le (x0 : List S24) (x1 : Bool) (hlen : x0.length ≤ 9223372036854775807) : ∀ (l : List S24) (i : Nat), List.drop i (x0) = l → Le (slices_IndexFunc_api_Rat_api_Rat_at20.L0 l i) (fun k => slices_IndexFunc_api_Rat_api_Rat_at20.l0 k x0 x1 (x0.length : Int) (i : Int))
  | [], i, hd => by
    have hn := drop_nil hd
    refine le_step ?_
    simp only [slices_IndexFunc_api_Rat_api_Rat_at20.l0, slices_IndexFunc_api_Rat_api_Rat_at20.L0]
    exact le_neg (by omega) le_rfl
  | y8 :: u8, i, hd => by
    have hw := w_next hd hlen
    have hx := drop_cons hd
    have ht := hx.2.2
    have h0 : (0 : Int) ≤ (i : Int) := by omega
    have h1 : (i : Int) < (x0.length : Int) := by have := hx.1; omega
    have h2 := h1
    have hy : (rd_T24 x0 (i : Int)) = y8 := rdT_head (t := T24) hd
    refine le_step ?_
    simp only [slices_IndexFunc_api_Rat_api_Rat_at20.l0, slices_IndexFunc_api_Rat_api_Rat_at20.L0]
    refine le_pos h1 ?_
    subst hy
    exact (le_pos h0 (le_pos h1 (le_bind (run_Times_1.le ((rd_T24 x0 (i : Int)).f0) ((rd_T24 x0 (i : Int)).f1)) fun t1 => (le_ite le_rfl (by rw [hw]; exact slices_IndexFunc_api_Rat_api_Rat_at20.L0_le x0 x1 hlen u8 (i + 1) ht)))))
def slices_IndexFunc_api_Rat_api_Rat_at20.g (a0 : List S24) (a1 : Bool) : Option Int := if a0.length ≤ 9223372036854775807 then (slices_IndexFunc_api_Rat_api_Rat_at20.L0 a0 0) else (none)
theorem slices_IndexFunc_api_Rat_api_Rat_at20.le (a0 : List S24) (a1 : Bool) : Le (slices_IndexFunc_api_Rat_api_Rat_at20.g a0 a1) (fun k => slices_IndexFunc_api_Rat_api_Rat_at20.f k a0 a1) := (le_len fun hlen_ => slices_IndexFunc_api_Rat_api_Rat_at20.L0_le a0 a1 hlen_ _ 0 rfl)
def slices_ContainsFunc_api_Rat_api_Rat_at20.g (a0 : List S24) (a1 : Bool) : Option Bool := (slices_IndexFunc_api_Rat_api_Rat_at20.g a0 a1).bind fun t1 => (some (decide (t1 ≥ 0)))
theorem slices_ContainsFunc_api_Rat_api_Rat_at20.le (a0 : List S24) (a1 : Bool) : Le (slices_ContainsFunc_api_Rat_api_Rat_at20.g a0 a1) (fun k => slices_ContainsFunc_api_Rat_api_Rat_at20.f k a0 a1) := (le_bind (slices_IndexFunc_api_Rat_api_Rat_at20.le a0 a1) fun t1 => le_rfl)
def run_Times.L : List S24 → List S24 → S24 → Option ((List S24) × Int)
 | acc, [], _ => some (acc, 0)
 | acc, y :: u, t => (rat_Add.g t.1 t.2 y.1 y.2).bind fun r => if r.2.2 = 0 then run_Times.L (acc ++ [(⟨r.1, r.2.1⟩ : S24)]) u (⟨r.1, r.2.1⟩ : S24) else some (([] : List S24), r.2.2)
theorem run_Times.L_le : ∀ (u acc : List S24) (t : S24), (acc ++ u).length ≤ 9223372036854775807 → Le (run_Times.L acc u t) (fun k => run_Times.l0 k (acc ++ u) ((acc ++ u).length : Int) (acc.length : Int) t.1 t.2)
  | [], acc, t, hlen => by
    refine le_step ?_
    rw [List.append_nil]
    simp only [run_Times.l0, run_Times.L]
    exact le_neg (by omega) le_rfl
  | y :: u, acc, t, hlen => by
    have hl : (acc ++ y :: u).length = acc.length + (u.length + 1) := by simp
    have hy : rd_T24 (acc ++ y :: u) (acc.length : Int) = y := rdT_head (t := T24) (l := u) (by simp)
    refine le_step ?_
    simp only [run_Times.l0, run_Times.L, hy]
    refine le_pos (by omega) (le_pos (by omega) (le_pos (by omega) (le_bind (rat_Add.le t.1 t.2 y.1 y.2) fun r => le_ite (le_pos (by omega) (le_pos (by omega) ?_)) le_rfl)))
    have ih := run_Times.L_le u (acc ++ [(⟨r.1, r.2.1⟩ : S24)]) (⟨r.1, r.2.1⟩ : S24) (by simpa using hlen)
    have e1 : acc ++ [(⟨r.1, r.2.1⟩ : S24)] ++ u = (acc ++ y :: u).set (Int.toNat (acc.length : Int)) (⟨r.1, r.2.1⟩ : S24) := by simp
    have e2 : (((acc ++ [(⟨r.1, r.2.1⟩ : S24)]).length : Nat) : Int) = w64 ((acc.length : Int) + 1) := by
      show _ = RowKit.wrap64 _
      unfold RowKit.wrap64
      simp only [List.length_append, List.length_cons, List.length_nil]
      omega
    rw [e2, e1] at ih
    rw [List.length_set] at ih
    exact ih
def run_Times.g (l0_0 : List S41) (l0_1 : S24) : Option ((List S24) × Int) := (run_delays.g l0_0 l0_1).bind fun t1 => ((slices_ContainsFunc_api_Rat_api_Rat_at20.g t1 false).bind fun t2 => (if t2 = true then (some (([] : List S24), 210)) else (if t1.length ≤ 9223372036854775807 then run_Times.L [] t1 (⟨0, 1⟩ : S24) else none)))
theorem run_Times.le (l0_0 : List S41) (l0_1 : S24) : Le (run_Times.g l0_0 l0_1) (fun k => run_Times.f k l0_0 l0_1) := le_bind (run_delays.le l0_0 l0_1) fun t1 => le_bind (slices_ContainsFunc_api_Rat_api_Rat_at20.le t1 false) fun t2 => le_ite le_rfl (le_len fun h => run_Times.L_le t1 [] (⟨0, 1⟩ : S24) h)
def gnomonlaw20_live.g : Option Bool := some true
theorem gnomonlaw20_live.le : Le (gnomonlaw20_live.g) (fun k => gnomonlaw20_live.f k) := live_le
def slices_Equal_api_Step_api_Step.L0 (x1 : List S41) : List S41 → Nat → Option Bool
 | [], i => some true
 | y13 :: u13, i => if (i : Int) < (x1.length : Int) then (if (⟨(y13.f0), (y13.f1)⟩ : S41) = (⟨((rd_T41 x1 (i : Int)).f0), ((rd_T41 x1 (i : Int)).f1)⟩ : S41) then (slices_Equal_api_Step_api_Step.L0 x1 u13 (i + 1)) else (some false)) else (none)
theorem slices_Equal_api_Step_api_Step.L0_le (x0 : List S41) (x1 : List S41) (hlen : x0.length ≤ 9223372036854775807) : ∀ (l : List S41) (i : Nat), List.drop i (x0) = l → Le (slices_Equal_api_Step_api_Step.L0 x1 l i) (fun k => slices_Equal_api_Step_api_Step.l0 k x0 x1 (x0.length : Int) (i : Int))
  | [], i, hd => by
    have hn := drop_nil hd
    refine le_step ?_
    simp only [slices_Equal_api_Step_api_Step.l0, slices_Equal_api_Step_api_Step.L0]
    exact le_neg (by omega) le_rfl
  | y13 :: u13, i, hd => by
    have hw := w_next hd hlen
    have hx := drop_cons hd
    have ht := hx.2.2
    have h0 : (0 : Int) ≤ (i : Int) := by omega
    have h1 : (i : Int) < (x0.length : Int) := by have := hx.1; omega
    have h2 := h1
    have hy : (rd_T41 x0 (i : Int)) = y13 := rdT_head (t := T41) hd
    refine le_step ?_
    simp only [slices_Equal_api_Step_api_Step.l0, slices_Equal_api_Step_api_Step.L0]
    refine le_pos h1 ?_
    subst hy
    exact (le_pos h0 (le_pos h1 (le_pos h0 (le_ite (le_ite (by rw [hw]; exact slices_Equal_api_Step_api_Step.L0_le x0 x1 hlen u13 (i + 1) ht) le_rfl) le_none))))
def slices_Equal_api_Step_api_Step.g (a0 : List S41) (a1 : List S41) : Option Bool := if (a0.length : Int) = (a1.length : Int) then (if a0.length ≤ 9223372036854775807 then (slices_Equal_api_Step_api_Step.L0 a1 a0 0) else (none)) else (some false)
theorem slices_Equal_api_Step_api_Step.le (a0 : List S41) (a1 : List S41) : Le (slices_Equal_api_Step_api_Step.g a0 a1) (fun k => slices_Equal_api_Step_api_Step.f k a0 a1) := (le_ite (le_len fun hlen_ => slices_Equal_api_Step_api_Step.L0_le a0 a1 hlen_ _ 0 rfl) le_rfl)
def run_Same.g (l0_0 : List S41) (l0_1 : S24) (l1_0 : List S41) (l1_1 : S24) : Option Bool := if l0_1 = l1_1 then ((slices_Equal_api_Step_api_Step.g l0_0 l1_0).bind fun t1 => (some t1)) else (some false)
theorem run_Same.le (l0_0 : List S41) (l0_1 : S24) (l1_0 : List S41) (l1_1 : S24) : Le (run_Same.g l0_0 l0_1 l1_0 l1_1) (fun k => run_Same.f k l0_0 l0_1 l1_0 l1_1) := (le_ite (le_bind (slices_Equal_api_Step_api_Step.le l0_0 l1_0) fun t1 => le_rfl) le_rfl)
def gnomonmem_SameRats.L0 (x1 : List S24) : List S24 → Nat → Option Bool
 | [], i => some true
 | y5 :: u5, i => if (i : Int) < (x1.length : Int) then (if y5 = (rd_T24 x1 (i : Int)) then (gnomonmem_SameRats.L0 x1 u5 (i + 1)) else (some false)) else (none)
theorem gnomonmem_SameRats.L0_le (x0 : List S24) (x1 : List S24) (hlen : x0.length ≤ 9223372036854775807) : ∀ (l : List S24) (i : Nat), List.drop i (x0) = l → Le (gnomonmem_SameRats.L0 x1 l i) (fun k => gnomonmem_SameRats.l0 k x0 x1 (i : Int))
  | [], i, hd => by
    have hn := drop_nil hd
    refine le_step ?_
    simp only [gnomonmem_SameRats.l0, gnomonmem_SameRats.L0]
    exact le_neg (by omega) le_rfl
  | y5 :: u5, i, hd => by
    have hw := w_next hd hlen
    have hx := drop_cons hd
    have ht := hx.2.2
    have h0 : (0 : Int) ≤ (i : Int) := by omega
    have h1 : (i : Int) < (x0.length : Int) := by have := hx.1; omega
    have hy : (rd_T24 x0 (i : Int)) = y5 := rdT_head (t := T24) hd
    refine le_step ?_
    simp only [gnomonmem_SameRats.l0, gnomonmem_SameRats.L0]
    refine le_pos h1 ?_
    subst hy
    exact (le_pos h0 (le_pos h1 (le_pos h0 (le_ite (le_ite (by rw [hw]; exact gnomonmem_SameRats.L0_le x0 x1 hlen u5 (i + 1) ht) le_rfl) le_none))))
def gnomonmem_SameRats.g (a0 : List S24) (a1 : List S24) : Option Bool := if (a0.length : Int) = (a1.length : Int) then (if a0.length ≤ 9223372036854775807 then (gnomonmem_SameRats.L0 a1 a0 0) else (none)) else (some false)
theorem gnomonmem_SameRats.le (a0 : List S24) (a1 : List S24) : Le (gnomonmem_SameRats.g a0 a1) (fun k => gnomonmem_SameRats.f k a0 a1) := (le_ite (le_len fun hlen_ => gnomonmem_SameRats.L0_le a0 a1 hlen_ _ 0 rfl) le_rfl)
def run_Join.L0 : List S26 → (List S41) → Int → Int → Option ((List S41) × S24 × Int)
 | [], x6_0, x6_1, x6_2 => some (x6_0, (⟨x6_1, x6_2⟩ : S24), 0)
 | y21 :: u21, x6_0, x6_1, x6_2 => (slices_Clone_api_Step_api_Step.f (y21.f0)).bind fun t2 => (if (t2.length : Int) > 0 then (if 0 ≤ 0 then (if 0 < (t2.length : Int) then ((rat_Add.g x6_1 x6_2 (((rd_T41 t2 0).f0).f0) (((rd_T41 t2 0).f0).f1)).bind fun t3 => (if t3.2.2 = 7 then (some (([] : List S41), (⟨0, 0⟩ : S24), 210)) else (if t3.2.2 = 0 then (if (t2.length : Int) > 0 then (if 0 ≤ 0 then (if 0 < (t2.length : Int) then (if x6_0.length + (t2.set (Int.toNat (0)) (⟨(⟨t3.1, t3.2.1⟩ : S24), ((rd_T41 t2 0).f1)⟩ : S41)).length ≤ 2932031007402 then (run_Join.L0 u21 (x6_0 ++ (t2.set (Int.toNat (0)) (⟨(⟨t3.1, t3.2.1⟩ : S24), ((rd_T41 t2 0).f1)⟩ : S41))) ((y21.f1).f0) ((y21.f1).f1)) else (none)) else (none)) else (none)) else (if x6_0.length + t2.length ≤ 2932031007402 then (run_Join.L0 u21 (x6_0 ++ t2) t3.1 t3.2.1) else (none))) else (some (([] : List S41), (⟨0, 0⟩ : S24), t3.2.2))))) else (none)) else (none)) else ((rat_Add.g x6_1 x6_2 ((y21.f1).f0) ((y21.f1).f1)).bind fun t3 => (if t3.2.2 = 7 then (some (([] : List S41), (⟨0, 0⟩ : S24), 210)) else (if t3.2.2 = 0 then (if (t2.length : Int) > 0 then (if 0 ≤ 0 then (if 0 < (t2.length : Int) then (if x6_0.length + (t2.set (Int.toNat (0)) (⟨(⟨t3.1, t3.2.1⟩ : S24), ((rd_T41 t2 0).f1)⟩ : S41)).length ≤ 2932031007402 then (run_Join.L0 u21 (x6_0 ++ (t2.set (Int.toNat (0)) (⟨(⟨t3.1, t3.2.1⟩ : S24), ((rd_T41 t2 0).f1)⟩ : S41))) ((y21.f1).f0) ((y21.f1).f1)) else (none)) else (none)) else (none)) else (if x6_0.length + t2.length ≤ 2932031007402 then (run_Join.L0 u21 (x6_0 ++ t2) t3.1 t3.2.1) else (none))) else (some (([] : List S41), (⟨0, 0⟩ : S24), t3.2.2))))))
theorem run_Join.L0_le (x19 : List S26) (x4_0 : List S41) (x4_1 : Int) (x4_2 : Int) (hlen : x19.length ≤ 9223372036854775807) : ∀ (l : List S26) (i : Nat) (x6_0 : List S41) (x6_1 : Int) (x6_2 : Int), List.drop i (x19) = l → Le (run_Join.L0 l x6_0 x6_1 x6_2) (fun k => run_Join.l0 k x19 (x19.length : Int) (i : Int) x4_0 x4_1 x4_2 x6_0 x6_1 x6_2)
  | [], i, x6_0, x6_1, x6_2, hd => by
    have hn := drop_nil hd
    refine le_step ?_
    simp only [run_Join.l0, run_Join.L0]
    exact le_neg (by omega) le_rfl
  | y21 :: u21, i, x6_0, x6_1, x6_2, hd => by
    have hw := w_next hd hlen
    have hx := drop_cons hd
    have ht := hx.2.2
    have h0 : (0 : Int) ≤ (i : Int) := by omega
    have h1 : (i : Int) < (x19.length : Int) := by have := hx.1; omega
    have h2 := h1
    have hy : (rd_T26 x19 (i : Int)) = y21 := rdT_head (t := T26) hd
    refine le_step ?_
    simp only [run_Join.l0, run_Join.L0]
    refine le_pos h1 ?_
    subst hy
    exact (le_pos h0 (le_pos h1 (le_bind le_rfl fun t2 => (le_ite (le_ite (le_ite (le_step (by simp only [run_Join.j1]; exact (le_bind (rat_Add.le x6_1 x6_2 (((rd_T41 t2 0).f0).f0) (((rd_T41 t2 0).f0).f1)) fun t3 => (le_ite le_rfl (le_ite (le_ite (le_ite (le_ite (le_ite (by rw [hw]; exact run_Join.L0_le x19 x4_0 x4_1 x4_2 hlen u21 (i + 1) (x6_0 ++ (t2.set (Int.toNat (0)) (⟨(⟨t3.1, t3.2.1⟩ : S24), ((rd_T41 t2 0).f1)⟩ : S41))) (((rd_T26 x19 (i : Int)).f1).f0) (((rd_T26 x19 (i : Int)).f1).f1) ht) le_none) le_none) le_none) (le_ite (by rw [hw]; exact run_Join.L0_le x19 x4_0 x4_1 x4_2 hlen u21 (i + 1) (x6_0 ++ t2) t3.1 t3.2.1 ht) le_none)) le_rfl))))) le_none) le_none) (le_step (by simp only [run_Join.j1]; exact (le_bind (rat_Add.le x6_1 x6_2 (((rd_T26 x19 (i : Int)).f1).f0) (((rd_T26 x19 (i : Int)).f1).f1)) fun t3 => (le_ite le_rfl (le_ite (le_ite (le_ite (le_ite (le_ite (by rw [hw]; exact run_Join.L0_le x19 x4_0 x4_1 x4_2 hlen u21 (i + 1) (x6_0 ++ (t2.set (Int.toNat (0)) (⟨(⟨t3.1, t3.2.1⟩ : S24), ((rd_T41 t2 0).f1)⟩ : S41))) (((rd_T26 x19 (i : Int)).f1).f0) (((rd_T26 x19 (i : Int)).f1).f1) ht) le_none) le_none) le_none) (le_ite (by rw [hw]; exact run_Join.L0_le x19 x4_0 x4_1 x4_2 hlen u21 (i + 1) (x6_0 ++ t2) t3.1 t3.2.1 ht) le_none)) le_rfl)))))))))
def run_Join.g (l0_0 : List S41) (l0_1 : S24) (a1 : List S26) : Option ((List S41) × S24 × Int) := (slices_Clone_api_Step_api_Step.f l0_0).bind fun t1 => (if a1.length ≤ 9223372036854775807 then (run_Join.L0 a1 t1 l0_1.f0 l0_1.f1) else (none))
theorem run_Join.le (l0_0 : List S41) (l0_1 : S24) (a1 : List S26) : Le (run_Join.g l0_0 l0_1 a1) (fun k => run_Join.f k l0_0 l0_1 a1) := (le_bind le_rfl fun t1 => (le_len fun hlen_ => run_Join.L0_le a1 ([] : List S41) 0 0 hlen_ _ 0 t1 l0_1.f0 l0_1.f1 rfl))
def gnomonlaw20_RunParts.g (l0_0 : List S41) (l0_1 : S24) (a1 : Int) (a2 : Int) : Option Bool := (run_Cut.f l0_0 l0_1 a1).bind fun t1 => ((run_Cut.f t1.1 t1.2 a2).bind fun t2 => (if a2 < a1 then ((gnomonlaw20_live.g).bind fun t3 => (if (!t3) = true then (some false) else (if a1 ≤ (l0_0.length : Int) then (if a2 ≤ a1 then ((run_Cut.f l0_0 (⟨l0_1.f0, l0_1.f1⟩ : S24) a2).bind fun t4 => ((run_Same.g t2.1 (⟨t2.2.f0, t2.2.f1⟩ : S24) t4.1 t4.2).bind fun t5 => (if (!t5) = true then (some false) else ((run_Times.g l0_0 (⟨l0_1.f0, l0_1.f1⟩ : S24)).bind fun t6 => (if t6.2 = 0 then (if a1 < 0 then (some true) else (if a1 > (l0_0.length : Int) then (some true) else ((run_Cut.f l0_0 (⟨l0_1.f0, l0_1.f1⟩ : S24) a1).bind fun t7 => ((run_Times.g t7.1 t7.2).bind fun t8 => (if t8.2 = 0 then (if (t6.1.length : Int) = (w64 ((l0_0.length : Int) + 1)) then (if (t8.1.length : Int) = (w64 (a1 + 1)) then (if 0 ≤ a1 then (if a1 ≤ (t8.1.length : Int) then (if 0 ≤ a1 then (if a1 ≤ (t6.1.length : Int) then ((gnomonmem_SameRats.g (t8.1.take (Int.toNat (a1))) (t6.1.take (Int.toNat (a1)))).bind fun t9 => (if (!t9) = true then (some false) else (if 0 ≤ a1 then (if a1 ≤ (l0_0.length : Int) then ((run_Cut.f l0_0 (⟨l0_1.f0, l0_1.f1⟩ : S24) a1).bind fun t10 => ((run_Join.g t10.1 t10.2 ([(⟨(l0_0.drop (Int.toNat (a1))), (⟨l0_1.f0, l0_1.f1⟩ : S24)⟩ : S26)] : List S26)).bind fun t11 => ((run_Times.g t11.1 t11.2.1).bind fun t12 => (if t11.2.2 = 0 then (if t12.2 = 0 then ((gnomonmem_SameRats.g t12.1 t6.1).bind fun t13 => (if t13 = true then ((run_Same.g t11.1 t11.2.1 l0_0 (⟨l0_1.f0, l0_1.f1⟩ : S24)).bind fun t14 => (some t14)) else (some false))) else (some false)) else (some false))))) else (none)) else (none)))) else (none)) else (none)) else (none)) else (none)) else (some false)) else (some false)) else (some false)))))) else (some true)))))) else ((run_Times.g l0_0 (⟨l0_1.f0, l0_1.f1⟩ : S24)).bind fun t6 => (if t6.2 = 0 then (if a1 < 0 then (some true) else (if a1 > (l0_0.length : Int) then (some true) else ((run_Cut.f l0_0 (⟨l0_1.f0, l0_1.f1⟩ : S24) a1).bind fun t7 => ((run_Times.g t7.1 t7.2).bind fun t8 => (if t8.2 = 0 then (if (t6.1.length : Int) = (w64 ((l0_0.length : Int) + 1)) then (if (t8.1.length : Int) = (w64 (a1 + 1)) then (if 0 ≤ a1 then (if a1 ≤ (t8.1.length : Int) then (if 0 ≤ a1 then (if a1 ≤ (t6.1.length : Int) then ((gnomonmem_SameRats.g (t8.1.take (Int.toNat (a1))) (t6.1.take (Int.toNat (a1)))).bind fun t9 => (if (!t9) = true then (some false) else (if 0 ≤ a1 then (if a1 ≤ (l0_0.length : Int) then ((run_Cut.f l0_0 (⟨l0_1.f0, l0_1.f1⟩ : S24) a1).bind fun t10 => ((run_Join.g t10.1 t10.2 ([(⟨(l0_0.drop (Int.toNat (a1))), (⟨l0_1.f0, l0_1.f1⟩ : S24)⟩ : S26)] : List S26)).bind fun t11 => ((run_Times.g t11.1 t11.2.1).bind fun t12 => (if t11.2.2 = 0 then (if t12.2 = 0 then ((gnomonmem_SameRats.g t12.1 t6.1).bind fun t13 => (if t13 = true then ((run_Same.g t11.1 t11.2.1 l0_0 (⟨l0_1.f0, l0_1.f1⟩ : S24)).bind fun t14 => (some t14)) else (some false))) else (some false)) else (some false))))) else (none)) else (none)))) else (none)) else (none)) else (none)) else (none)) else (some false)) else (some false)) else (some false)))))) else (some true)))) else ((run_Times.g l0_0 (⟨l0_1.f0, l0_1.f1⟩ : S24)).bind fun t6 => (if t6.2 = 0 then (if a1 < 0 then (some true) else (if a1 > (l0_0.length : Int) then (some true) else ((run_Cut.f l0_0 (⟨l0_1.f0, l0_1.f1⟩ : S24) a1).bind fun t7 => ((run_Times.g t7.1 t7.2).bind fun t8 => (if t8.2 = 0 then (if (t6.1.length : Int) = (w64 ((l0_0.length : Int) + 1)) then (if (t8.1.length : Int) = (w64 (a1 + 1)) then (if 0 ≤ a1 then (if a1 ≤ (t8.1.length : Int) then (if 0 ≤ a1 then (if a1 ≤ (t6.1.length : Int) then ((gnomonmem_SameRats.g (t8.1.take (Int.toNat (a1))) (t6.1.take (Int.toNat (a1)))).bind fun t9 => (if (!t9) = true then (some false) else (if 0 ≤ a1 then (if a1 ≤ (l0_0.length : Int) then ((run_Cut.f l0_0 (⟨l0_1.f0, l0_1.f1⟩ : S24) a1).bind fun t10 => ((run_Join.g t10.1 t10.2 ([(⟨(l0_0.drop (Int.toNat (a1))), (⟨l0_1.f0, l0_1.f1⟩ : S24)⟩ : S26)] : List S26)).bind fun t11 => ((run_Times.g t11.1 t11.2.1).bind fun t12 => (if t11.2.2 = 0 then (if t12.2 = 0 then ((gnomonmem_SameRats.g t12.1 t6.1).bind fun t13 => (if t13 = true then ((run_Same.g t11.1 t11.2.1 l0_0 (⟨l0_1.f0, l0_1.f1⟩ : S24)).bind fun t14 => (some t14)) else (some false))) else (some false)) else (some false))))) else (none)) else (none)))) else (none)) else (none)) else (none)) else (none)) else (some false)) else (some false)) else (some false)))))) else (some true)))))) else ((gnomonlaw20_live.g).bind fun t3 => (if (!t3) = true then (some false) else (if a1 ≤ (l0_0.length : Int) then (if a2 ≤ a1 then ((run_Cut.f l0_0 (⟨l0_1.f0, l0_1.f1⟩ : S24) a1).bind fun t4 => ((run_Same.g t2.1 (⟨t2.2.f0, t2.2.f1⟩ : S24) t4.1 t4.2).bind fun t5 => (if (!t5) = true then (some false) else ((run_Times.g l0_0 (⟨l0_1.f0, l0_1.f1⟩ : S24)).bind fun t6 => (if t6.2 = 0 then (if a1 < 0 then (some true) else (if a1 > (l0_0.length : Int) then (some true) else ((run_Cut.f l0_0 (⟨l0_1.f0, l0_1.f1⟩ : S24) a1).bind fun t7 => ((run_Times.g t7.1 t7.2).bind fun t8 => (if t8.2 = 0 then (if (t6.1.length : Int) = (w64 ((l0_0.length : Int) + 1)) then (if (t8.1.length : Int) = (w64 (a1 + 1)) then (if 0 ≤ a1 then (if a1 ≤ (t8.1.length : Int) then (if 0 ≤ a1 then (if a1 ≤ (t6.1.length : Int) then ((gnomonmem_SameRats.g (t8.1.take (Int.toNat (a1))) (t6.1.take (Int.toNat (a1)))).bind fun t9 => (if (!t9) = true then (some false) else (if 0 ≤ a1 then (if a1 ≤ (l0_0.length : Int) then ((run_Cut.f l0_0 (⟨l0_1.f0, l0_1.f1⟩ : S24) a1).bind fun t10 => ((run_Join.g t10.1 t10.2 ([(⟨(l0_0.drop (Int.toNat (a1))), (⟨l0_1.f0, l0_1.f1⟩ : S24)⟩ : S26)] : List S26)).bind fun t11 => ((run_Times.g t11.1 t11.2.1).bind fun t12 => (if t11.2.2 = 0 then (if t12.2 = 0 then ((gnomonmem_SameRats.g t12.1 t6.1).bind fun t13 => (if t13 = true then ((run_Same.g t11.1 t11.2.1 l0_0 (⟨l0_1.f0, l0_1.f1⟩ : S24)).bind fun t14 => (some t14)) else (some false))) else (some false)) else (some false))))) else (none)) else (none)))) else (none)) else (none)) else (none)) else (none)) else (some false)) else (some false)) else (some false)))))) else (some true)))))) else ((run_Times.g l0_0 (⟨l0_1.f0, l0_1.f1⟩ : S24)).bind fun t6 => (if t6.2 = 0 then (if a1 < 0 then (some true) else (if a1 > (l0_0.length : Int) then (some true) else ((run_Cut.f l0_0 (⟨l0_1.f0, l0_1.f1⟩ : S24) a1).bind fun t7 => ((run_Times.g t7.1 t7.2).bind fun t8 => (if t8.2 = 0 then (if (t6.1.length : Int) = (w64 ((l0_0.length : Int) + 1)) then (if (t8.1.length : Int) = (w64 (a1 + 1)) then (if 0 ≤ a1 then (if a1 ≤ (t8.1.length : Int) then (if 0 ≤ a1 then (if a1 ≤ (t6.1.length : Int) then ((gnomonmem_SameRats.g (t8.1.take (Int.toNat (a1))) (t6.1.take (Int.toNat (a1)))).bind fun t9 => (if (!t9) = true then (some false) else (if 0 ≤ a1 then (if a1 ≤ (l0_0.length : Int) then ((run_Cut.f l0_0 (⟨l0_1.f0, l0_1.f1⟩ : S24) a1).bind fun t10 => ((run_Join.g t10.1 t10.2 ([(⟨(l0_0.drop (Int.toNat (a1))), (⟨l0_1.f0, l0_1.f1⟩ : S24)⟩ : S26)] : List S26)).bind fun t11 => ((run_Times.g t11.1 t11.2.1).bind fun t12 => (if t11.2.2 = 0 then (if t12.2 = 0 then ((gnomonmem_SameRats.g t12.1 t6.1).bind fun t13 => (if t13 = true then ((run_Same.g t11.1 t11.2.1 l0_0 (⟨l0_1.f0, l0_1.f1⟩ : S24)).bind fun t14 => (some t14)) else (some false))) else (some false)) else (some false))))) else (none)) else (none)))) else (none)) else (none)) else (none)) else (none)) else (some false)) else (some false)) else (some false)))))) else (some true)))) else ((run_Times.g l0_0 (⟨l0_1.f0, l0_1.f1⟩ : S24)).bind fun t6 => (if t6.2 = 0 then (if a1 < 0 then (some true) else (if a1 > (l0_0.length : Int) then (some true) else ((run_Cut.f l0_0 (⟨l0_1.f0, l0_1.f1⟩ : S24) a1).bind fun t7 => ((run_Times.g t7.1 t7.2).bind fun t8 => (if t8.2 = 0 then (if (t6.1.length : Int) = (w64 ((l0_0.length : Int) + 1)) then (if (t8.1.length : Int) = (w64 (a1 + 1)) then (if 0 ≤ a1 then (if a1 ≤ (t8.1.length : Int) then (if 0 ≤ a1 then (if a1 ≤ (t6.1.length : Int) then ((gnomonmem_SameRats.g (t8.1.take (Int.toNat (a1))) (t6.1.take (Int.toNat (a1)))).bind fun t9 => (if (!t9) = true then (some false) else (if 0 ≤ a1 then (if a1 ≤ (l0_0.length : Int) then ((run_Cut.f l0_0 (⟨l0_1.f0, l0_1.f1⟩ : S24) a1).bind fun t10 => ((run_Join.g t10.1 t10.2 ([(⟨(l0_0.drop (Int.toNat (a1))), (⟨l0_1.f0, l0_1.f1⟩ : S24)⟩ : S26)] : List S26)).bind fun t11 => ((run_Times.g t11.1 t11.2.1).bind fun t12 => (if t11.2.2 = 0 then (if t12.2 = 0 then ((gnomonmem_SameRats.g t12.1 t6.1).bind fun t13 => (if t13 = true then ((run_Same.g t11.1 t11.2.1 l0_0 (⟨l0_1.f0, l0_1.f1⟩ : S24)).bind fun t14 => (some t14)) else (some false))) else (some false)) else (some false))))) else (none)) else (none)))) else (none)) else (none)) else (none)) else (none)) else (some false)) else (some false)) else (some false)))))) else (some true))))))))
theorem gnomonlaw20_RunParts.le (l0_0 : List S41) (l0_1 : S24) (a1 : Int) (a2 : Int) : Le (gnomonlaw20_RunParts.g l0_0 l0_1 a1 a2) (fun k => gnomonlaw20_RunParts.f k l0_0 l0_1 a1 a2) := (le_bind le_rfl fun t1 => (le_bind le_rfl fun t2 => (le_ite (le_step (by simp only [gnomonlaw20_RunParts.j0]; exact (le_bind (gnomonlaw20_live.le) fun t3 => (le_ite le_rfl (le_ite (le_ite (le_bind le_rfl fun t4 => (le_bind (run_Same.le t2.1 (⟨t2.2.f0, t2.2.f1⟩ : S24) t4.1 t4.2) fun t5 => (le_ite le_rfl (le_step (by simp only [gnomonlaw20_RunParts.j1]; exact (le_bind (run_Times.le l0_0 (⟨l0_1.f0, l0_1.f1⟩ : S24)) fun t6 => (le_ite (le_ite le_rfl (le_ite le_rfl (le_step (by simp only [gnomonlaw20_RunParts.j2]; exact (le_bind le_rfl fun t7 => (le_bind (run_Times.le t7.1 t7.2) fun t8 => (le_ite (le_ite (le_ite (le_ite (le_ite (le_ite (le_ite (le_bind (gnomonmem_SameRats.le (t8.1.take (Int.toNat (a1))) (t6.1.take (Int.toNat (a1)))) fun t9 => (le_ite le_rfl (le_step (by simp only [gnomonlaw20_RunParts.j3]; exact (le_ite (le_ite (le_bind le_rfl fun t10 => (le_bind (run_Join.le t10.1 t10.2 ([(⟨(l0_0.drop (Int.toNat (a1))), (⟨l0_1.f0, l0_1.f1⟩ : S24)⟩ : S26)] : List S26)) fun t11 => (le_bind (run_Times.le t11.1 t11.2.1) fun t12 => (le_ite (le_ite (le_bind (gnomonmem_SameRats.le t12.1 t6.1) fun t13 => (le_ite (le_bind (run_Same.le t11.1 t11.2.1 l0_0 (⟨l0_1.f0, l0_1.f1⟩ : S24)) fun t14 => le_rfl) le_rfl)) le_rfl) le_rfl)))) le_none) le_none))))) le_none) le_none) le_none) le_none) le_rfl) le_rfl) le_rfl))))))) le_rfl))))))) (le_step (by simp only [gnomonlaw20_RunParts.j1]; exact (le_bind (run_Times.le l0_0 (⟨l0_1.f0, l0_1.f1⟩ : S24)) fun t6 => (le_ite (le_ite le_rfl (le_ite le_rfl (le_step (by simp only [gnomonlaw20_RunParts.j2]; exact (le_bind le_rfl fun t7 => (le_bind (run_Times.le t7.1 t7.2) fun t8 => (le_ite (le_ite (le_ite (le_ite (le_ite (le_ite (le_ite (le_bind (gnomonmem_SameRats.le (t8.1.take (Int.toNat (a1))) (t6.1.take (Int.toNat (a1)))) fun t9 => (le_ite le_rfl (le_step (by simp only [gnomonlaw20_RunParts.j3]; exact (le_ite (le_ite (le_bind le_rfl fun t10 => (le_bind (run_Join.le t10.1 t10.2 ([(⟨(l0_0.drop (Int.toNat (a1))), (⟨l0_1.f0, l0_1.f1⟩ : S24)⟩ : S26)] : List S26)) fun t11 => (le_bind (run_Times.le t11.1 t11.2.1) fun t12 => (le_ite (le_ite (le_bind (gnomonmem_SameRats.le t12.1 t6.1) fun t13 => (le_ite (le_bind (run_Same.le t11.1 t11.2.1 l0_0 (⟨l0_1.f0, l0_1.f1⟩ : S24)) fun t14 => le_rfl) le_rfl)) le_rfl) le_rfl)))) le_none) le_none))))) le_none) le_none) le_none) le_none) le_rfl) le_rfl) le_rfl))))))) le_rfl))))) (le_step (by simp only [gnomonlaw20_RunParts.j1]; exact (le_bind (run_Times.le l0_0 (⟨l0_1.f0, l0_1.f1⟩ : S24)) fun t6 => (le_ite (le_ite le_rfl (le_ite le_rfl (le_step (by simp only [gnomonlaw20_RunParts.j2]; exact (le_bind le_rfl fun t7 => (le_bind (run_Times.le t7.1 t7.2) fun t8 => (le_ite (le_ite (le_ite (le_ite (le_ite (le_ite (le_ite (le_bind (gnomonmem_SameRats.le (t8.1.take (Int.toNat (a1))) (t6.1.take (Int.toNat (a1)))) fun t9 => (le_ite le_rfl (le_step (by simp only [gnomonlaw20_RunParts.j3]; exact (le_ite (le_ite (le_bind le_rfl fun t10 => (le_bind (run_Join.le t10.1 t10.2 ([(⟨(l0_0.drop (Int.toNat (a1))), (⟨l0_1.f0, l0_1.f1⟩ : S24)⟩ : S26)] : List S26)) fun t11 => (le_bind (run_Times.le t11.1 t11.2.1) fun t12 => (le_ite (le_ite (le_bind (gnomonmem_SameRats.le t12.1 t6.1) fun t13 => (le_ite (le_bind (run_Same.le t11.1 t11.2.1 l0_0 (⟨l0_1.f0, l0_1.f1⟩ : S24)) fun t14 => le_rfl) le_rfl)) le_rfl) le_rfl)))) le_none) le_none))))) le_none) le_none) le_none) le_none) le_rfl) le_rfl) le_rfl))))))) le_rfl))))))))) (le_step (by simp only [gnomonlaw20_RunParts.j0]; exact (le_bind (gnomonlaw20_live.le) fun t3 => (le_ite le_rfl (le_ite (le_ite (le_bind le_rfl fun t4 => (le_bind (run_Same.le t2.1 (⟨t2.2.f0, t2.2.f1⟩ : S24) t4.1 t4.2) fun t5 => (le_ite le_rfl (le_step (by simp only [gnomonlaw20_RunParts.j1]; exact (le_bind (run_Times.le l0_0 (⟨l0_1.f0, l0_1.f1⟩ : S24)) fun t6 => (le_ite (le_ite le_rfl (le_ite le_rfl (le_step (by simp only [gnomonlaw20_RunParts.j2]; exact (le_bind le_rfl fun t7 => (le_bind (run_Times.le t7.1 t7.2) fun t8 => (le_ite (le_ite (le_ite (le_ite (le_ite (le_ite (le_ite (le_bind (gnomonmem_SameRats.le (t8.1.take (Int.toNat (a1))) (t6.1.take (Int.toNat (a1)))) fun t9 => (le_ite le_rfl (le_step (by simp only [gnomonlaw20_RunParts.j3]; exact (le_ite (le_ite (le_bind le_rfl fun t10 => (le_bind (run_Join.le t10.1 t10.2 ([(⟨(l0_0.drop (Int.toNat (a1))), (⟨l0_1.f0, l0_1.f1⟩ : S24)⟩ : S26)] : List S26)) fun t11 => (le_bind (run_Times.le t11.1 t11.2.1) fun t12 => (le_ite (le_ite (le_bind (gnomonmem_SameRats.le t12.1 t6.1) fun t13 => (le_ite (le_bind (run_Same.le t11.1 t11.2.1 l0_0 (⟨l0_1.f0, l0_1.f1⟩ : S24)) fun t14 => le_rfl) le_rfl)) le_rfl) le_rfl)))) le_none) le_none))))) le_none) le_none) le_none) le_none) le_rfl) le_rfl) le_rfl))))))) le_rfl))))))) (le_step (by simp only [gnomonlaw20_RunParts.j1]; exact (le_bind (run_Times.le l0_0 (⟨l0_1.f0, l0_1.f1⟩ : S24)) fun t6 => (le_ite (le_ite le_rfl (le_ite le_rfl (le_step (by simp only [gnomonlaw20_RunParts.j2]; exact (le_bind le_rfl fun t7 => (le_bind (run_Times.le t7.1 t7.2) fun t8 => (le_ite (le_ite (le_ite (le_ite (le_ite (le_ite (le_ite (le_bind (gnomonmem_SameRats.le (t8.1.take (Int.toNat (a1))) (t6.1.take (Int.toNat (a1)))) fun t9 => (le_ite le_rfl (le_step (by simp only [gnomonlaw20_RunParts.j3]; exact (le_ite (le_ite (le_bind le_rfl fun t10 => (le_bind (run_Join.le t10.1 t10.2 ([(⟨(l0_0.drop (Int.toNat (a1))), (⟨l0_1.f0, l0_1.f1⟩ : S24)⟩ : S26)] : List S26)) fun t11 => (le_bind (run_Times.le t11.1 t11.2.1) fun t12 => (le_ite (le_ite (le_bind (gnomonmem_SameRats.le t12.1 t6.1) fun t13 => (le_ite (le_bind (run_Same.le t11.1 t11.2.1 l0_0 (⟨l0_1.f0, l0_1.f1⟩ : S24)) fun t14 => le_rfl) le_rfl)) le_rfl) le_rfl)))) le_none) le_none))))) le_none) le_none) le_none) le_none) le_rfl) le_rfl) le_rfl))))))) le_rfl))))) (le_step (by simp only [gnomonlaw20_RunParts.j1]; exact (le_bind (run_Times.le l0_0 (⟨l0_1.f0, l0_1.f1⟩ : S24)) fun t6 => (le_ite (le_ite le_rfl (le_ite le_rfl (le_step (by simp only [gnomonlaw20_RunParts.j2]; exact (le_bind le_rfl fun t7 => (le_bind (run_Times.le t7.1 t7.2) fun t8 => (le_ite (le_ite (le_ite (le_ite (le_ite (le_ite (le_ite (le_bind (gnomonmem_SameRats.le (t8.1.take (Int.toNat (a1))) (t6.1.take (Int.toNat (a1)))) fun t9 => (le_ite le_rfl (le_step (by simp only [gnomonlaw20_RunParts.j3]; exact (le_ite (le_ite (le_bind le_rfl fun t10 => (le_bind (run_Join.le t10.1 t10.2 ([(⟨(l0_0.drop (Int.toNat (a1))), (⟨l0_1.f0, l0_1.f1⟩ : S24)⟩ : S26)] : List S26)) fun t11 => (le_bind (run_Times.le t11.1 t11.2.1) fun t12 => (le_ite (le_ite (le_bind (gnomonmem_SameRats.le t12.1 t6.1) fun t13 => (le_ite (le_bind (run_Same.le t11.1 t11.2.1 l0_0 (⟨l0_1.f0, l0_1.f1⟩ : S24)) fun t14 => le_rfl) le_rfl)) le_rfl) le_rfl)))) le_none) le_none))))) le_none) le_none) le_none) le_none) le_rfl) le_rfl) le_rfl))))))) le_rfl))))))))))))
end
end Go.Proofs.YtkmleeeekbdomaaGreatDoor.Q
