/- Part of the proof: T4. -/
import Derived.Test.YtkmleeeekbdomaaGreatDoorMO
import Derived.Test.YtkmleeeekbdomaaGreatDoorD6
set_option linter.unusedSectionVars false
set_option linter.unusedVariables false
set_option linter.unusedSimpArgs false
set_option maxRecDepth 100000
namespace Go.Proofs.YtkmleeeekbdomaaGreatDoor.Q
open Go Go.Den Go.Proofs
noncomputable section
def slices_Equal_api_Step_api_Step.L0 (x1 : List S41) : List S41 → Nat → Option Bool
 | [], i => some true
 | y13 :: u13, i => if (i : Int) < (x1.length : Int) then (if (⟨(y13.f0), (y13.f1)⟩ : S41) = (⟨((rd_T41 x1 (i : Int)).f0), ((rd_T41 x1 (i : Int)).f1)⟩ : S41) then (slices_Equal_api_Step_api_Step.L0 x1 u13 (i + 1)) else (some false)) else (none)
theorem slices_Equal_api_Step_api_Step.L0_le (x0 : List S41) (x1 : List S41) (hlen : x0.length ≤ 9223372036854775807) : ∀ (l : List S41) (i : Nat), List.drop i (x0) = l → Le (slices_Equal_api_Step_api_Step.L0 x1 l i) (fun k => slices_Equal_api_Step_api_Step.l0 k x0 x1 (x0.length : Int) (i : Int))
  | [], i, hd => by
    have hn := drop_nil hd
    refine le_step ?_
    simp only [slices_Equal_api_Step_api_Step.l0, slices_Equal_api_Step_api_Step.L0]
    exact le_neg (by omega) le_rfl
  | y13 :: u13, i, hd => by
    have hw := w_next hd hlen
    have hx := drop_cons hd
    have ht := hx.2.2
    have h0 : (0 : Int) ≤ (i : Int) := by omega
    have h1 : (i : Int) < (x0.length : Int) := by have := hx.1; omega
    have h2 := h1
    have hy : (rd_T41 x0 (i : Int)) = y13 := rdT_head (t := T41) hd
    refine le_step ?_
    simp only [slices_Equal_api_Step_api_Step.l0, slices_Equal_api_Step_api_Step.L0]
    refine le_pos h1 ?_
    subst hy
    exact (le_pos h0 (le_pos h1 (le_pos h0 (le_ite (le_ite (by rw [hw]; exact slices_Equal_api_Step_api_Step.L0_le x0 x1 hlen u13 (i + 1) ht) le_rfl) le_none))))
def slices_Equal_api_Step_api_Step.g (a0 : List S41) (a1 : List S41) : Option Bool := if (a0.length : Int) = (a1.length : Int) then (if a0.length ≤ 9223372036854775807 then (slices_Equal_api_Step_api_Step.L0 a1 a0 0) else (none)) else (some false)
theorem slices_Equal_api_Step_api_Step.le (a0 : List S41) (a1 : List S41) : Le (slices_Equal_api_Step_api_Step.g a0 a1) (fun k => slices_Equal_api_Step_api_Step.f k a0 a1) := (le_ite (le_len fun hlen_ => slices_Equal_api_Step_api_Step.L0_le a0 a1 hlen_ _ 0 rfl) le_rfl)
def run_Same.g (l0_0 : List S41) (l0_1 : S24) (l1_0 : List S41) (l1_1 : S24) : Option Bool := if l0_1 = l1_1 then ((slices_Equal_api_Step_api_Step.g l0_0 l1_0).bind fun t1 => (some t1)) else (some false)
theorem run_Same.le (l0_0 : List S41) (l0_1 : S24) (l1_0 : List S41) (l1_1 : S24) : Le (run_Same.g l0_0 l0_1 l1_0 l1_1) (fun k => run_Same.f k l0_0 l0_1 l1_0 l1_1) := (le_ite (le_bind (slices_Equal_api_Step_api_Step.le l0_0 l1_0) fun t1 => le_rfl) le_rfl)
def gnomonref20_Same.L1 (x3_0 : List S41) : List S41 → Nat → Option Bool
 | [], i => some true
 | y5 :: u5, i => if (i : Int) < (x3_0.length : Int) then (if (⟨(y5.f0), (y5.f1)⟩ : S41) = (⟨((rd_T41 x3_0 (i : Int)).f0), ((rd_T41 x3_0 (i : Int)).f1)⟩ : S41) then (gnomonref20_Same.L1 x3_0 u5 (i + 1)) else (some false)) else (none)
theorem gnomonref20_Same.L1_le (x2_0 : List S41) (x2_1 : Int) (x2_2 : Int) (x3_0 : List S41) (x3_1 : Int) (x3_2 : Int) (hlen : x2_0.length ≤ 9223372036854775807) : ∀ (l : List S41) (i : Nat), List.drop i (x2_0) = l → Le (gnomonref20_Same.L1 x3_0 l i) (fun k => gnomonref20_Same.l1 k (i : Int) x2_0 x2_1 x2_2 x3_0 x3_1 x3_2)
  | [], i, hd => by
    have hn := drop_nil hd
    refine le_step ?_
    simp only [gnomonref20_Same.l1, gnomonref20_Same.L1]
    exact le_neg (by omega) le_rfl
  | y5 :: u5, i, hd => by
    have hw := w_next hd hlen
    have hx := drop_cons hd
    have ht := hx.2.2
    have h0 : (0 : Int) ≤ (i : Int) := by omega
    have h1 : (i : Int) < (x2_0.length : Int) := by have := hx.1; omega
    have hy : (rd_T41 x2_0 (i : Int)) = y5 := rdT_head (t := T41) hd
    refine le_step ?_
    simp only [gnomonref20_Same.l1, gnomonref20_Same.L1]
    refine le_pos h1 ?_
    subst hy
    exact (le_pos h0 (le_pos h1 (le_pos h0 (le_ite (le_ite (by rw [hw]; exact gnomonref20_Same.L1_le x2_0 x2_1 x2_2 x3_0 x3_1 x3_2 hlen u5 (i + 1) ht) le_rfl) le_none))))
def gnomonref20_Same.g (l0_0 : List S41) (l0_1 : S24) (l1_0 : List S41) (l1_1 : S24) : Option Bool := if (l0_0.length : Int) = (l1_0.length : Int) then (if l0_1 = l1_1 then (if l0_0.length ≤ 9223372036854775807 then (gnomonref20_Same.L1 l1_0 l0_0 0) else (none)) else (some false)) else (some false)
theorem gnomonref20_Same.le (l0_0 : List S41) (l0_1 : S24) (l1_0 : List S41) (l1_1 : S24) : Le (gnomonref20_Same.g l0_0 l0_1 l1_0 l1_1) (fun k => gnomonref20_Same.f k l0_0 l0_1 l1_0 l1_1) := (le_ite (le_ite (le_step (by simp only [gnomonref20_Same.j0]; exact (le_len fun hlen_ => gnomonref20_Same.L1_le l0_0 l0_1.f0 l0_1.f1 l1_0 l1_1.f0 l1_1.f1 hlen_ _ 0 rfl))) le_rfl) le_rfl)
end
end Go.Proofs.YtkmleeeekbdomaaGreatDoor.Q
