/-
  The law StatePlays: for every network and state the program and the document answer the same.
-/
import Derived.Test.YtcfapbnblailbaaGreatDoorP7
set_option linter.unusedVariables false
set_option linter.unusedSimpArgs false
set_option maxRecDepth 100000
namespace Go.Proofs.YtcfapbnblailbaaGreatDoor.Q
open Go Go.Den Go.RowKit Go.Proofs
noncomputable section
theorem inv_eq2 {a b c d} (h : OkN a b c d) {l v : List Int} (hl : l.length ≤ cap) (hv : v.length ≤ cap) : ∃ (r : List S38) (e : Int), r.length ≤ 1000 ∧ state_Invariants.g a b c d l v = some (r, e) ∧ gnomonref13_Invariants.g a b c d l v = some (r, e) := by
  have := cap_is
  by_cases hw : sWrong a b c d l v = 0
  · obtain ⟨g1, g2, g3⟩ := wrong_0 hw
    have hf := (wh_of h g1).few
    have hll : l.length ≤ 9223372036854775807 := by omega
    obtain ⟨r, r1, r2, r3⟩ := inv1 d (fun x hx => (hf.ds x hx).2.2.1) hf.dl l 0 [] d rfl g2 (by simp) (by omega)
    exact ⟨r, 0, r1, by rw [state_Invariants.g, wrong_eq h, Option.bind_some, if_pos hw, if_pos hll, r2], by rw [gnomonref13_Invariants.g, bad_eq h hl hv, Option.bind_some, if_pos hw, if_pos hll, r3]⟩
  · exact ⟨[], _, by simp, by rw [state_Invariants.g, wrong_eq h, Option.bind_some, if_neg hw], by rw [gnomonref13_Invariants.g, bad_eq h hl hv, Option.bind_some, if_neg hw]⟩
theorem StatePlays_pure : ∀ (X0 : S26) (X1 : S29), okT T26 X0 → okT T29 X1 → ∃ k, (gnomonlaw13_StatePlays.ce k).fn (X0, X1) = some true := by
  intro n s hn hs
  have h := okN_of hn
  have hc := cap_is
  have b1 : s.f0.length ≤ 17592186043904 := by
    have h1 : s.f0.length * 8 ≤ 140737488351232 := hs.1.2.2
    omega
  have b2 : s.f1.length ≤ 17592186043904 := by
    have h1 : s.f1.length * 8 ≤ 140737488351232 := hs.2.2.2
    omega
  have c1 : s.f0.length ≤ cap := by omega
  have c2 : s.f1.length ≤ cap := by omega
  obtain ⟨y1, H1, A1⟩ := hand_ev b1
  obtain ⟨y2, H2, A2⟩ := hand_ev b2
  have F1 := Ev.of_le (state_First.le n.f0 n.f1 n.f2 n.f3) (first_eq h)
  have F2 := Ev.of_le (gnomonref13_First.le n.f0 n.f1 n.f2 n.f3) (rfirst_eq h)
  obtain ⟨kr, ke, kl, k1, k2⟩ := key_eq h c1 c2
  have K1 := Ev.of_le (state_Key.le n.f0 n.f1 n.f2 n.f3 s.f0 s.f1) k1
  have K2 := Ev.of_le (gnomonref13_Key.le n.f0 n.f1 n.f2 n.f3 s.f0 s.f1) k2
  obtain ⟨pr, pe, p1, p2⟩ := print_eq h c1 c2
  have P1 := Ev.of_le (state_Print.le n.f0 n.f1 n.f2 n.f3 s.f0 s.f1) p1
  have P2 := Ev.of_le (gnomonref13_Print.le n.f0 n.f1 n.f2 n.f3 s.f0 s.f1) p2
  obtain ⟨ir, ie, il, i1, i2⟩ := inv_eq2 h c1 c2
  have I1 := Ev.of_le (state_Invariants.le n.f0 n.f1 n.f2 n.f3 s.f0 s.f1) i1
  have I2 := Ev.of_le (gnomonref13_Invariants.le n.f0 n.f1 n.f2 n.f3 s.f0 s.f1) i2
  have V := Ev.of_le gnomonlaw13_live.le live13
  obtain ⟨z1, z2⟩ : (sFirst n.f0 n.f1 n.f2 n.f3).1.length ≤ cap ∧ (sFirst n.f0 n.f1 n.f2 n.f3).2.1.length ≤ cap := by
    unfold sFirst
    split
    · exact ⟨by simpa using h.dl, by simpa using h.bl⟩
    · exact ⟨by simp, by simp⟩
  have S := Ev.of_le (gnomonref13_Same.le _ _ _ _) (sameSt_eq z1 z2)
  have M := Ev.of_le (gnomonmem_Same.le kr kr) (memSame_eq kl)
  have G := Ev.of_le (gnomonref11_SameGuards.le ir ir) (same_eq (by omega))
  have R1 := Ev.of_le (state_Right.le n.f0 n.f1 n.f2 n.f3 s.f0 s.f1) (stRight_eq h _ _)
  have R2 := Ev.of_le (gnomonref13_Right.le n.f0 n.f1 n.f2 n.f3 s.f0 s.f1) (rRight_eq h c1 c2)
  have T1 := Ev.of_le (state_Stays.le n.f0 n.f1 n.f2 n.f3 s.f0 s.f1) (stays_eq h _ _)
  have T2 := Ev.of_le (gnomonref13_Stays.le n.f0 n.f1 n.f2 n.f3 s.f0 s.f1) (rstays_eq h c1 c2)
  have C1 := Ev.of_le (state_Count.le n.f0 n.f1 n.f2 n.f3) (count_eq h)
  have C2 := rcount_ev h
  have E1 := Ev.of_le (gnomonmem_KeptInts.le _ _) (kept_eq b1 H1)
  have E2 := Ev.of_le (gnomonmem_KeptInts.le _ _) (kept_eq b2 H2)
  have Z : Ev (fun k => gnomonlaw13_StatePlays.f k n.f0 n.f1 n.f2 n.f3 s.f0 s.f1) true := by
    refine Ev.congr (fun k => by rw [gnomonlaw13_StatePlays.f]) ?_
    refine Ev.bind A1 (Ev.bind A2 (Ev.bind F1 (Ev.bind F2 (Ev.bind K1 (Ev.bind K2 (Ev.bind P1 (Ev.bind P2 (Ev.bind I1 (Ev.bind I2 (Ev.bind V ?_))))))))))
    refine Ev.pos rfl (Ev.pos rfl (Ev.bind S (Ev.pos rfl (Ev.pos rfl (Ev.bind M (Ev.pos rfl (Ev.pos rfl (Ev.pos rfl (Ev.pos rfl (Ev.bind G ?_))))))))))
    refine Ev.pos rfl (Ev.bind R1 (Ev.bind R2 (Ev.pos rfl (Ev.bind T1 (Ev.bind T2 (Ev.pos rfl (Ev.bind C1 (Ev.bind C2 ?_))))))))
    exact Ev.pos rfl (Ev.bind E1 (Ev.pos rfl (Ev.bind E2 (Ev.now _))))
  obtain ⟨K, hK⟩ := Z
  exact ⟨K, hK K (Nat.le_refl _)⟩
end
end Go.Proofs.YtcfapbnblailbaaGreatDoor.Q
