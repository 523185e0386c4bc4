/-
  NetGoals.
-/
import Derived.Test.YtbjkfkifkglplaaGreatDoorPG1
import Derived.Test.YtbjkfkifkglplaaGreatDoorD5b
set_option linter.unusedSectionVars false
set_option linter.unusedVariables false
set_option linter.unusedSimpArgs false
set_option maxRecDepth 100000
namespace Go.Proofs.YtbjkfkifkglplaaGreatDoor.Q
open Go Go.Den Go.RowKit Go.Proofs
noncomputable section
def lensP (p : S72) : Bool := decide ((p.f0.length : Int) > 16) || (decide ((p.f1.length : Int) > 16) || decide ((p.f2.length : Int) > 64))
def atB (d : List S76) (y : S133) : Bool := decide (y.f0 < 0) || (decide (y.f0 ≥ (d.length : Int)) || (decide (y.f1 < 0) || decide (y.f1 ≥ ((rd_T76 d y.f0).f1.length : Int))))
def sGoal (a : List ByteArray) (b : List S86) (c : List ByteArray) (d : List S76) (g : List S72) : Int :=
  if sWhole a b c d = 0 then (if (g.length : Int) > 16 then 6 else if g.any lensP = true then 6 else if (g.any fun p => p.f0.any (atB d)) = true then 122 else if (g.any fun p => p.f1.any (badC a)) = true then 12 else
    if (g.any fun p => p.f1.any badF) = true then 7 else if (g.any fun p => badT b p.f2) = true then 121 else 0) else sWhole a b c d
/-! The program. -/
theorem lens1 (p : S72) : net_WholeGoal_1.f p.f0 p.f1 p.f2 = some (if lensP p = true then 6 else 0) := by
  unfold net_WholeGoal_1.f lensP
  simp only [or_if, dec_if]
  repeat' split
  all_goals rfl
theorem ats0 (x : S26) : ∀ l, net_WholeGoal_2.L0 x l = some (if l.any (atB x.f3) = true then 122 else 0)
  | [] => rfl
  | y :: t => by
    rw [net_WholeGoal_2.L0, ats0 x t, List.any_cons, atB]
    simp only [or_if, dec_if]
    repeat' split
    all_goals first | rfl | (exfalso; omega)
theorem ats1 {p : S72} (h : okP p) (x : S26) : net_WholeGoal_2.g p.f0 p.f1 p.f2 x = some (if p.f0.any (atB x.f3) = true then 122 else 0) := by
  have := cap_is
  have h1 := h.1
  rw [net_WholeGoal_2.g, if_pos (by omega), ats0]
theorem clk1 {p : S72} (h : okP p) (x : S26) : net_WholeGoal_3.g p.f0 p.f1 p.f2 x = some (if p.f1.any (badC x.f0) = true then 12 else 0) := by
  have := cap_is
  have h1 := h.2.1
  rw [net_WholeGoal_3.g, net_clocksOf.g, if_pos (by omega), clocksOf0, Option.bind_some]
theorem cmp1 {p : S72} (h : okP p) : net_WholeGoal_4.g p.f0 p.f1 p.f2 = some (if p.f1.any badF = true then 7 else 0) := by
  have := cap_is
  have h1 := h.2.1
  rw [net_WholeGoal_4.g, net_cmps.g, if_pos (by omega), cmps0, Option.bind_some]
theorem tru1 {p : S72} (h : okP p) {x : S26} (hb : x.f1.length ≤ cap) : net_WholeGoal_5.g p.f0 p.f1 p.f2 x = some (if badT x.f1 p.f2 = true then 121 else 0) := by
  rw [net_WholeGoal_5.g, truth_eq2 h.2.2.2 hb, Option.bind_some]
theorem goal1 (y : DA1) {e : Int} (he : e ≠ 0) (K : Option Int) (P : S72 → Bool) : ∀ l, (∀ p ∈ l, ∀ u, net_WholeGoal.L1 y K (p :: u) = (some (if P p = true then e else 0)).bind (fun t => if t = 0 then net_WholeGoal.L1 y K u else some t)) → net_WholeGoal.L1 y K l = if l.any P = true then some e else K
  | [], _ => rfl
  | p :: u, h => by rw [h p List.mem_cons_self u, first_if he, goal1 y he K P u (fun q hq => h q (List.mem_cons_of_mem _ hq)), List.any_cons, or_if]
theorem goal_eq {a b c d g} (h : OkN a b c d) (hg : okG g) : net_WholeGoal.g a b c d g = some (sGoal a b c d g) := by
  have := cap_is
  have h1 := hg.1
  have hl : g.length ≤ 9223372036854775807 := by omega
  rw [net_WholeGoal.g, whole_eq h, Option.bind_some]
  simp only [net_WholeGoal.L0, if_pos hl]
  unfold sGoal
  by_cases h0 : sWhole a b c d = 0
  rotate_left
  · rw [if_neg h0, if_neg h0]
  rw [if_pos h0, if_pos h0]
  by_cases h2 : (g.length : Int) > 16
  · rw [if_pos h2, if_pos h2]
  rw [if_neg h2, if_neg h2, if_pos (by simp)]
  rw [goal1 _ (e := 6) (by decide) _ lensP g (fun p hp u => by rw [net_WholeGoal.L1]; simp only [Sum.elim_inl, Sum.elim_inr]; rw [lens1])]
  rw [goal1 _ (e := 122) (by decide) _ (fun p => p.f0.any (atB d)) g (fun p hp u => by rw [net_WholeGoal.L1]; simp only [Sum.elim_inl, Sum.elim_inr]; rw [ats1 (hg.2 p hp)])]
  rw [goal1 _ (e := 12) (by decide) _ (fun p => p.f1.any (badC a)) g (fun p hp u => by rw [net_WholeGoal.L1]; simp only [Sum.elim_inl, Sum.elim_inr]; rw [clk1 (hg.2 p hp)])]
  rw [goal1 _ (e := 7) (by decide) _ (fun p => p.f1.any badF) g (fun p hp u => by rw [net_WholeGoal.L1]; simp only [Sum.elim_inl, Sum.elim_inr]; rw [cmp1 (hg.2 p hp)])]
  rw [goal1 _ (e := 121) (by decide) _ (fun p => badT b p.f2) g (fun p hp u => by rw [net_WholeGoal.L1]; simp only [Sum.elim_inl, Sum.elim_inr]; rw [tru1 (x := (a, b, c, d)) (hg.2 p hp) h.bl])]
  repeat' split
  all_goals rfl
/-! The document. -/
section
variable {a : List ByteArray} {b : List S86} {c : List ByteArray} {d : List S76} {g : List S72} {v : Int}
theorem w5 (h : OkN a b c d) (hg : g.length ≤ cap) : ∀ (t : List S72) (i : Nat), g.drop i = t → (∀ p ∈ t, okP p) → v = (if (t.any fun p => badT b p.f2) = true then 121 else 0) →
    Ev (fun k => r10_WholeGoal.l5 k g (i : Int) a b c d) v
  | [], i, hd, _, hv => by
    have hn := drop_nil hd
    subst hv
    exact Ev.step (g := fun _ => some 0) (fun k => by rw [r10_WholeGoal.l5, if_neg (by omega)]) (Ev.now _)
  | p :: t, i, hd, hs, hv => by
    obtain ⟨h1, _, ht⟩ := drop_cons hd
    have hc := cap_is
    have hr : rd_T72 g (i : Int) = p := rdT_head (t := T72) hd
    refine Ev.step (fun k => by (rw [r10_WholeGoal.l5, if_pos (by omega), if_pos (by omega), if_pos (by omega), hr]; try rfl)) (Ev.bind (Ev.of_le (r10_testless.le _ _ _ _ _) (testless_eq (hs p List.mem_cons_self).2.2.2 h.bl)) ?_)
    rw [List.any_cons, or_if] at hv
    by_cases hp : badT b p.f2 = true
    · rw [if_pos hp] at hv
      subst hv
      exact Ev.congr (fun k => by rw [if_pos hp]) (Ev.now _)
    · rw [if_neg hp] at hv
      exact Ev.congr (fun k => by rw [if_neg hp, w1 (by omega)]) (w5 h hg t (i + 1) ht (fun z hz => hs z (List.mem_cons_of_mem _ hz)) hv)
theorem w4 (hg : g.length ≤ cap) {w : Int} {j : Nat} (hw : rd ([12, 7] : List Int) (j : Int) = w) (hj : j < 2) : ∀ (t : List S72) (i : Nat), g.drop i = t → (∀ p ∈ t, okP p) → ((t.any fun p => p.f1.any (gB a w)) = true → v = w) →
    ((t.any fun p => p.f1.any (gB a w)) = false → Ev (fun k => r10_WholeGoal.l3 k g [12, 7] ((j + 1 : Nat) : Int) a b c d) v) →
    Ev (fun k => r10_WholeGoal.l4 k g [12, 7] (j : Int) (i : Int) a b c d) v
  | [], i, hd, _, _, h => by
    have hn := drop_nil hd
    have hc := cap_is
    exact Ev.step (fun k => by rw [r10_WholeGoal.l4, if_neg (by omega), w1 (by omega)]) (h rfl)
  | p :: t, i, hd, hs, h1, h2 => by
    obtain ⟨h0, _, ht⟩ := drop_cons hd
    have hc := cap_is
    have hr : rd_T72 g (i : Int) = p := rdT_head (t := T72) hd
    have hlen : ((([12, 7] : List Int).length : Nat) : Int) = 2 := rfl
    refine Ev.step (fun k => by (rw [r10_WholeGoal.l4, if_pos (by omega), if_pos (by omega), if_pos (by omega), hr, hlen, if_pos (by omega), if_pos (by omega), hw]; try rfl)) (Ev.bind (Ev.of_le (r10_guards.le _ _ _ _ _ _) (rguards_eq w (hs p List.mem_cons_self).2.1)) ?_)
    simp only [List.any_cons, Bool.or_eq_true, Bool.or_eq_false_iff] at h1 h2
    cases hp : p.f1.any (gB a w) with
    | true =>
      rw [h1 (Or.inl hp)]
      exact Ev.congr (fun k => by rw [if_pos rfl, if_pos (by omega), if_pos (by omega)]) (Ev.now _)
    | false =>
      exact Ev.congr (fun k => by rw [if_neg (by decide), w1 (by omega)]) (w4 hg hw hj t (i + 1) ht (fun z hz => hs z (List.mem_cons_of_mem _ hz)) (fun e => h1 (Or.inr e)) (fun e => h2 ⟨hp, e⟩))
theorem w3 (h : OkN a b c d) (hg : okG g) (hv : v = (if (g.any fun p => p.f1.any (badC a)) = true then 12 else if (g.any fun p => p.f1.any badF) = true then 7 else if (g.any fun p => badT b p.f2) = true then 121 else 0)) :
    Ev (fun k => r10_WholeGoal.l3 k g [12, 7] 0 a b c d) v := by
  have e12 : (g.any fun p => p.f1.any (gB a 12)) = g.any fun p => p.f1.any (badC a) := any_congr fun p _ => gB_12 a p.f1
  have e7 : (g.any fun p => p.f1.any (gB a 7)) = g.any fun p => p.f1.any badF := any_congr fun p _ => gB_7 a p.f1
  refine Ev.step (fun k => by rw [r10_WholeGoal.l3, if_pos (by decide)]) ?_
  refine w4 (w := 12) (j := 0) hg.1 (by decide) (by decide) g 0 rfl hg.2 (fun e => by rw [e12] at e; rw [hv, if_pos e]) (fun e => ?_)
  rw [e12] at e
  rw [if_neg (by rw [e]; decide)] at hv
  refine Ev.step (fun k => by (rw [r10_WholeGoal.l3, if_pos (by decide)]; try rfl)) ?_
  refine w4 (w := 7) (j := 1) hg.1 (by decide) (by decide) g 0 rfl hg.2 (fun e => by rw [e7] at e; rw [hv, if_pos e]) (fun e => ?_)
  rw [e7] at e
  rw [if_neg (by rw [e]; decide)] at hv
  exact Ev.step (fun k => by (rw [r10_WholeGoal.l3, if_neg (by decide)]; try rfl)) (w5 h hg.1 g 0 rfl hg.2 hv)
theorem w2 {i : Nat} {p : S72} (hi : g.drop i = p :: g.drop (i + 1)) (hp : okP p) (hg : g.length ≤ cap) : ∀ (t : List S133) (q : Nat), p.f0.drop q = t → (t.any (atB d) = true → v = 122) →
    (t.any (atB d) = false → Ev (fun k => r10_WholeGoal.l1 k g ((i + 1 : Nat) : Int) a b c d) v) →
    Ev (fun k => r10_WholeGoal.l2 k g (i : Int) (q : Int) a b c d) v
  | [], q, hd, _, h => by
    have hn := drop_nil hd
    have hc := cap_is
    have h0 := (drop_cons hi).1
    have hr : rd_T72 g (i : Int) = p := rdT_head (t := T72) hi
    exact Ev.step (fun k => by rw [r10_WholeGoal.l2, if_pos (by omega), if_pos (by omega), hr, if_neg (by omega), w1 (by omega)]) (h rfl)
  | y :: t, q, hd, h1, h2 => by
    obtain ⟨hq, _, ht⟩ := drop_cons hd
    have hc := cap_is
    have h0 := (drop_cons hi).1
    have hp0 := hp.1
    have hr : rd_T72 g (i : Int) = p := rdT_head (t := T72) hi
    have hy : rd_T133 p.f0 (q : Int) = y := rdT_head (t := T133) hd
    have e : ∀ k, r10_WholeGoal.l2 (k + 1) g (i : Int) (q : Int) a b c d = if atB d y = true then some 122 else r10_WholeGoal.l2 k g (i : Int) ((q + 1 : Nat) : Int) a b c d := fun k => by
      rw [r10_WholeGoal.l2, if_pos (by omega), if_pos (by omega), hr, if_pos (by omega), if_pos (by omega), if_pos (by omega), if_pos (by omega), if_pos (by omega), hy, w1 (by omega), atB]
      simp only [or_if, dec_if]
      repeat' split
      all_goals first | rfl | (exfalso; omega)
    simp only [List.any_cons, Bool.or_eq_true, Bool.or_eq_false_iff] at h1 h2
    cases hb : atB d y with
    | true =>
      rw [h1 (Or.inl hb)]
      exact Ev.step (g := fun _ => some 122) (fun k => by rw [e, if_pos hb]) (Ev.now _)
    | false => exact Ev.step (fun k => by rw [e, if_neg (by rw [hb]; decide)]) (w2 hi hp hg t (q + 1) ht (fun e => h1 (Or.inr e)) (fun e => h2 ⟨hb, e⟩))
theorem w1' (hg : g.length ≤ cap) : ∀ (t : List S72) (i : Nat), g.drop i = t → (∀ p ∈ t, okP p) → ((t.any fun p => p.f0.any (atB d)) = true → v = 122) →
    ((t.any fun p => p.f0.any (atB d)) = false → Ev (fun k => r10_WholeGoal.l3 k g [12, 7] 0 a b c d) v) →
    Ev (fun k => r10_WholeGoal.l1 k g (i : Int) a b c d) v
  | [], i, hd, _, _, h => by
    have hn := drop_nil hd
    exact Ev.step (fun k => by rw [r10_WholeGoal.l1, if_neg (by omega)]) (h rfl)
  | p :: t, i, hd, hs, h1, h2 => by
    obtain ⟨h0, _, ht⟩ := drop_cons hd
    have hi : g.drop i = p :: g.drop (i + 1) := by rw [hd, ht]
    simp only [List.any_cons, Bool.or_eq_true, Bool.or_eq_false_iff] at h1 h2
    refine Ev.step (fun k => by (rw [r10_WholeGoal.l1, if_pos (by omega)]; try rfl)) (w2 hi (hs p List.mem_cons_self) hg p.f0 0 rfl (fun e => h1 (Or.inl e)) (fun e => ?_))
    exact w1' hg t (i + 1) ht (fun z hz => hs z (List.mem_cons_of_mem _ hz)) (fun e' => h1 (Or.inr e')) (fun e' => h2 ⟨e, e'⟩)
theorem w0' (hg : g.length ≤ cap) : ∀ (t : List S72) (i : Nat), g.drop i = t → (t.any lensP = true → v = 6) →
    (t.any lensP = false → Ev (fun k => r10_WholeGoal.l1 k g 0 a b c d) v) →
    Ev (fun k => r10_WholeGoal.l0 k g (i : Int) a b c d) v
  | [], i, hd, _, h => by
    have hn := drop_nil hd
    exact Ev.step (fun k => by rw [r10_WholeGoal.l0, if_neg (by omega)]) (h rfl)
  | p :: t, i, hd, h1, h2 => by
    obtain ⟨h0, _, ht⟩ := drop_cons hd
    have hc := cap_is
    have hr : rd_T72 g (i : Int) = p := rdT_head (t := T72) hd
    have g0 : (0 : Int) ≤ (i : Int) := by omega
    have g1 : (i : Int) < (g.length : Int) := by omega
    have e : ∀ k, r10_WholeGoal.l0 (k + 1) g (i : Int) a b c d = if lensP p = true then some 6 else r10_WholeGoal.l0 k g ((i + 1 : Nat) : Int) a b c d := fun k => by
      rw [r10_WholeGoal.l0, lensP]
      simp only [if_pos g0, if_pos g1, hr, or_if, dec_if, w1 (show i ≤ cap by omega)]
    simp only [List.any_cons, Bool.or_eq_true, Bool.or_eq_false_iff] at h1 h2
    cases hb : lensP p with
    | true =>
      rw [h1 (Or.inl hb)]
      exact Ev.step (g := fun _ => some 6) (fun k => by rw [e, if_pos hb]) (Ev.now _)
    | false => exact Ev.step (fun k => by rw [e, if_neg (by rw [hb]; decide)]) (w0' hg t (i + 1) ht (fun e => h1 (Or.inr e)) (fun e => h2 ⟨hb, e⟩))
theorem rgoal_ev (h : OkN a b c d) (hg : okG g) : Ev (fun k => r10_WholeGoal.f k a b c d g) (sGoal a b c d g) := by
  refine Ev.bind (Ev.of_le (r10_Whole.le _ _ _ _) (rwhole_eq h)) ?_
  unfold sGoal
  by_cases h0 : sWhole a b c d = 0
  rotate_left
  · rw [if_neg h0]; exact Ev.congr (fun k => by rw [if_neg h0]) (Ev.now _)
  rw [if_pos h0]
  refine Ev.congr (fun k => by rw [if_pos h0]) ?_
  by_cases h2 : (g.length : Int) > 16
  · rw [if_pos h2]; exact Ev.congr (fun k => by rw [if_pos h2]) (Ev.now _)
  rw [if_neg h2]
  refine Ev.congr (fun k => by rw [if_neg h2]; rfl) (w0' (a := a) (b := b) (c := c) (d := d) hg.1 g 0 rfl (fun e => by rw [if_pos e]) (fun e => ?_))
  rw [if_neg (by rw [e]; decide)]
  refine w1' hg.1 g 0 rfl hg.2 (fun e => by rw [if_pos e]) (fun e => ?_)
  rw [if_neg (by rw [e]; decide)]
  exact w3 h hg rfl
end
theorem NetGoals_pure : ∀ (X0 : S26) (X1 : List S72), okT T26 X0 → okT (.list T72) X1 → ∃ k, (gnomonlaw10_NetGoals.ce k).fn (X0, X1) = some true := fun X0 g h0 h1 => by
  obtain ⟨a, b, c, d⟩ := X0
  have hO : OkN a b c d := okN_of h0
  have hR : RN a b c d := rn_of h0
  have hG : okG g := okG_of h1
  have hRG : RG g := rg_of h1
  have e : Ev (fun k => gnomonlaw10_NetGoals.f k a b c d g) true := by
    unfold gnomonlaw10_NetGoals.f
    refine Ev.bind (hnet_ev hR) (Ev.bind (hgoal hRG) ?_)
    simp only [wk_autos, wk_goal, show (hT a).1 = a from rfl, show (hT c).1 = c from rfl]
    refine Ev.bind (Ev.of_le live_le rfl) (Ev.congr (fun k => by rw [if_pos rfl]) ?_)
    refine Ev.bind (Ev.of_le (net_WholeGoal.le _ _ _ _ _) (goal_eq hO hG)) (Ev.bind (rgoal_ev hO hG) (Ev.congr (fun k => by rw [if_pos rfl]) ?_))
    refine Ev.bind (knet_ev hR hO) (Ev.congr (fun k => by rw [if_pos rfl]) (Ev.bind (kgoal hRG) (Ev.now _)))
  obtain ⟨K, hK⟩ := e
  exact ⟨K, hK K (Nat.le_refl _)⟩
end
end Go.Proofs.YtbjkfkifkglplaaGreatDoor.Q
