/-
  The law MovesStay, in plain Lean.
-/
import Derived.Test.YtfajafegkechhaaDoorPM3
set_option linter.unusedVariables false
set_option linter.unusedSimpArgs false
set_option maxRecDepth 100000
namespace Go.Proofs.YtfajafegkechhaaDoor.Q
open Go Go.Den Go.RowKit Go.Proofs
noncomputable section
theorem live14 : gnomonlaw14_live.g = some true := by decide +kernel
section
variable {a : List ByteArray} {b : List S78} {c : List ByteArray} {d : List S49} {s0 s1 : List Int}
/-- The move is open. -/
def opn (a : List ByteArray) (b : List S78) (c : List ByteArray) (d : List S49) (s0 s1 : List Int) (z : S31) : Bool := @decide (∃ t0 t1, moves_pass.g a b c d s0 s1 z.f0 z.f1 z.f2 z.f3 = some (t0, t1, 0)) (Classical.propDecidable _)
theorem opn_iff {z : S31} : opn a b c d s0 s1 z = true ↔ ∃ t0 t1, moves_pass.g a b c d s0 s1 z.f0 z.f1 z.f2 z.f3 = some (t0, t1, 0) := by
  unfold opn
  exact @decide_eq_true_iff _ (Classical.propDecidable _)
theorem sd_rng {z : S31} (hd : d.length ≤ cap) (h : Sd d z) : rng z.f2 := by
  have := cap_is
  unfold rng
  obtain ⟨x, hx, h | ⟨_, y, hy, _⟩⟩ := h
  · omega
  · have := (eg_some.1 hy).1
    omega
theorem cnt_filter (p : S31 → Bool) (z : S31) : ∀ l : List S31, cnt z (l.filter p) = if p z = true then cnt z l else 0
  | [] => by simp [cnt]
  | y :: t => by
    have ih := cnt_filter p z t
    by_cases h : p y = true
    · rw [List.filter_cons_of_pos h, cnt, cnt, ih]
      by_cases e : y = z
      · subst e; rw [if_pos rfl, if_pos h, if_pos h]
      · rw [if_neg e]
        by_cases hz : p z = true
        · rw [if_pos hz, if_pos hz]
        · rw [if_neg hz, if_neg hz]; rfl
    · rw [List.filter_cons_of_neg h, ih, cnt]
      by_cases hz : p z = true
      · rw [if_pos hz, if_pos hz, if_neg (fun e => h (by rw [e]; exact hz)), Int.zero_add]
      · rw [if_neg hz, if_neg hz]
theorem en0 (h : OkN a b c d) (hw : sWhole a b c d = 0) (hA : isA d s0 = true) (hV : isV b s1 = true) : ∀ (u x : List S31), (∀ z ∈ u, rng z.f2) → x.length + u.length ≤ 4398046511104 → moves_Enabled.L0 a b c d s0 s1 u x = some (x ++ u.filter (opn a b c d s0 s1))
  | [], x, _, _ => by rw [moves_Enabled.L0, List.filter_nil, List.append_nil]
  | z :: t, x, hr, hl => by
    rw [List.length_cons] at hl
    obtain ⟨t0, t1, e, he, _⟩ := pass_ev h hw hA hV (hd_of (P := fun z : S31 => rng z.f2) hr)
    rw [moves_Enabled.L0, he, Option.bind_some]
    by_cases h0 : e = 0
    · subst h0
      rw [if_pos rfl, if_pos (by omega), en0 h hw hA hV t _ (tl_of hr) (by rw [List.length_append, List.length_singleton]; omega), List.filter_cons_of_pos (opn_iff.2 ⟨t0, t1, he⟩)]
      simp
    · rw [if_neg h0, en0 h hw hA hV t x (tl_of hr) (by omega), List.filter_cons_of_neg]
      intro hp
      obtain ⟨_, _, h2⟩ := opn_iff.1 hp
      rw [he] at h2
      exact h0 (congrArg (fun q : List Int × List Int × Int => q.2.2) (Option.some.inj h2))
theorem isSt_parts (h : isSt a b c d s0 s1 = true) : sWhole a b c d = 0 ∧ isA d s0 = true ∧ isV b s1 = true := by
  unfold isSt at h
  rw [Bool.and_eq_true, Bool.and_eq_true] at h
  exact ⟨of_decide_eq_true h.1, h.2.1, h.2.2⟩
theorem open_ev (h : OkN a b c d) {z : S31} (hz : rng z.f2) : ∃ t0 t1 e, moves_After.g a b c d s0 s1 z.f0 z.f1 z.f2 z.f3 = some (t0, t1, e) ∧ moves_Open.g a b c d s0 s1 z.f0 z.f1 z.f2 z.f3 = some e ∧ (e = 0 ↔ isSt a b c d s0 s1 = true ∧ opn a b c d s0 s1 z = true) ∧ (e = 0 → Behind b d s0 z t0 t1) := by
  have go : ∀ {t0 t1 : List Int} {e : Int}, moves_After.g a b c d s0 s1 z.f0 z.f1 z.f2 z.f3 = some (t0, t1, e) → moves_Open.g a b c d s0 s1 z.f0 z.f1 z.f2 z.f3 = some e := fun h => by rw [moves_Open.g, h, Option.bind_some]
  by_cases hw : sWhole a b c d = 0
  · cases hs : isSt a b c d s0 s1 with
    | true =>
      obtain ⟨_, hA, hV⟩ := isSt_parts hs
      obtain ⟨t0, t1, e, he, hB⟩ := pass_ev h hw hA hV hz
      have hx : moves_After.g a b c d s0 s1 z.f0 z.f1 z.f2 z.f3 = some (t0, t1, e) := by
        rw [moves_After.g, right_g h, Option.bind_some, decide_eq_true hw, if_neg (by decide), stRight_eq h, hs, Option.bind_some, if_neg (by decide), he, Option.bind_some]
      refine ⟨t0, t1, e, hx, go hx, ⟨fun h0 => ⟨rfl, opn_iff.2 ⟨t0, t1, by rw [he, h0]⟩⟩, fun hp => ?_⟩, hB⟩
      obtain ⟨_, _, h2⟩ := opn_iff.1 hp.2
      rw [he] at h2
      exact congrArg (fun q : List Int × List Int × Int => q.2.2) (Option.some.inj h2)
    | false =>
      have hx : moves_After.g a b c d s0 s1 z.f0 z.f1 z.f2 z.f3 = some ([], [], 130) := by
        rw [moves_After.g, right_g h, Option.bind_some, decide_eq_true hw, if_neg (by decide), stRight_eq h, hs, Option.bind_some, if_pos (by rfl)]
      exact ⟨_, _, _, hx, go hx, ⟨fun h0 => (by cases h0), fun hp => (by cases hp.1)⟩, fun h0 => (by cases h0)⟩
  · have hx : moves_After.g a b c d s0 s1 z.f0 z.f1 z.f2 z.f3 = some ([], [], 7) := by
      rw [moves_After.g, right_g h, Option.bind_some, decide_eq_false hw, if_pos (by rfl)]
    exact ⟨_, _, _, hx, go hx, ⟨fun h0 => (by cases h0), fun hp => absurd (isSt_parts hp.1).1 hw⟩, fun h0 => (by cases h0)⟩
/-! The law -/
theorem st6 (hd : d.length ≤ cap) : ∀ u : List S31, (∀ z ∈ u, Sd d z) → gnomonlaw14_MovesStay.L6 d u = some true
  | [], _ => rfl
  | z :: t, h => by
    have ih := st6 hd t (tl_of h)
    obtain ⟨x, hx, hc⟩ := hd_of h
    obtain ⟨⟨h0, h1, h2, h3⟩, hx⟩ := eg_some.1 hx
    rw [gnomonlaw14_MovesStay.L6, if_neg (by omega), if_neg (by omega), if_neg (by omega), if_pos h0, if_pos h1, if_neg (by omega), if_pos h0, if_pos h1, if_pos h2, if_pos h3, ← hx, ih]
    rcases hc with ⟨g1, g2, _⟩ | ⟨g1, _, _, _, g2, _, g3, _⟩
    · rw [if_pos (by rw [decide_eq_true g1, decide_eq_true g2]), if_pos g2]
    · rw [if_pos (by rw [decide_eq_false g1, decide_eq_false g2]), if_neg g2, g3]; rfl
theorem st3 (hA : isA d s0 = true) {E : List S31} {n : Int} (hn0 : 0 ≤ n) (hn1 : n < (E.length : Int)) {z : S31} (hE : rd_T31 E n = z) (hz : w64 (z.f2 - 1) = z.f2 - 1) {t0 : List Int} (hl : d.length = t0.length)
    (hs : ∀ i : Nat, (i : Int) ≠ z.f0 → (i : Int) ≠ z.f2 - 1 → rd t0 (i : Int) = rd s0 (i : Int)) (K : Option Bool) : ∀ (u : List Int) (i : Nat) (x : Bool), s0.drop i = u → (x = true ∨ ∃ j : Nat, i ≤ j ∧ j < d.length ∧ ((j : Int) = z.f0 ∨ (j : Int) = z.f2 - 1) ∧ com d s0 (j : Int) = true) → gnomonlaw14_MovesStay.L3 E n d t0 K u i x = K
  | [], i, x, hd, hx => by
    have hn := drop_nil hd
    have hA' := isA_len hA
    rcases hx with rfl | ⟨j, h1, h2, _⟩
    · rw [gnomonlaw14_MovesStay.L3, if_neg (show ¬ ((!true) = true) by decide)]
    · omega
  | y :: t, i, x, hd, hx => by
    obtain ⟨q1, q2, q3⟩ := drop_cons hd
    have hA' := isA_len hA
    have hy : rd s0 (i : Int) = y := rd_head hd
    have hr := isA_at hA (i := (i : Int)) (by omega) (by omega)
    rw [hy] at hr
    have hcom : com d s0 (i : Int) = decide ((rd_T45 (rd_T49 d (i : Int)).f1 y).f1 = 2) := by unfold com; rw [hy]
    have ih := st3 hA hn0 hn1 hE hz hl hs K t (i + 1)
    have keep : x = true → gnomonlaw14_MovesStay.L3 E n d t0 K t (i + 1) true = K := fun _ => ih true q3 (.inl rfl)
    have go : x = false → gnomonlaw14_MovesStay.L3 E n d t0 K t (i + 1) (decide ((rd_T45 (rd_T49 d (i : Int)).f1 y).f1 = 2)) = K := fun h => ih _ q3 (by
      rcases hx with h' | ⟨j, g1, g2, g3, g4⟩
      · rw [h] at h'; cases h'
      · by_cases e : j = i
        · subst e; left; rw [← hcom]; exact g4
        · exact .inr ⟨j, by omega, g2, g3, g4⟩)
    rw [gnomonlaw14_MovesStay.L3, if_pos hn0, if_pos hn1, hE]
    by_cases h0 : (i : Int) = z.f0
    · rw [if_pos h0, if_neg (show ¬ ((!true) = true) by decide)]
      cases x with
      | true => rw [if_pos rfl]; exact keep rfl
      | false => rw [if_neg (by decide), if_pos rfl, if_pos (by omega), if_pos hr.1, if_pos hr.2]; exact go rfl
    · rw [if_neg h0, if_pos hn0, if_pos hn1, hz]
      by_cases h1 : (i : Int) = z.f2 - 1
      · rw [decide_eq_true h1, if_neg (show ¬ ((!true) = true) by decide)]
        cases x with
        | true => rw [if_pos rfl]; exact keep rfl
        | false => rw [if_neg (by decide), if_pos rfl, if_pos (by omega), if_pos hr.1, if_pos hr.2]; exact go rfl
      · rw [decide_eq_false h1, if_pos (by rfl), if_pos (by omega), if_pos (by rw [hs i h0 h1, hy])]
        cases x with
        | true => rw [if_pos rfl]; exact keep rfl
        | false =>
          rw [if_neg (by decide), if_neg (by decide)]
          refine ih false q3 (.inr ?_)
          rcases hx with h' | ⟨j, g1, g2, g3, g4⟩
          · cases h'
          · refine ⟨j, ?_, g2, g3, g4⟩
            rcases Nat.lt_or_ge i j with h | h
            · exact h
            · have e : j = i := by omega
              subst e
              rcases g3 with g3 | g3
              · exact absurd g3 h0
              · exact absurd g3 h1
theorem st1 (h : OkN a b c d) {X E : List S31} (hX : X.length ≤ 4194304) (h6 : gnomonlaw14_MovesStay.L6 d X = some true)
    (hE : ∀ z ∈ E, cnt z X = 1 ∧ Sd d z ∧ isSt a b c d s0 s1 = true ∧ opn a b c d s0 s1 z = true) : ∀ (u : List S31) (i : Nat), E.drop i = u → gnomonlaw14_MovesStay.L1 X E a b c d s0 s1 u i = some true
  | [], i, _ => by rw [gnomonlaw14_MovesStay.L1, if_pos (by omega), h6]
  | z :: t, i, hd => by
    have hc := cap_is
    have h4 := h.dl
    obtain ⟨q1, q2, q3⟩ := drop_cons hd
    obtain ⟨g1, g2, g3, g4⟩ := hE z (List.mem_of_getElem? q2)
    obtain ⟨hw, hA, hV⟩ := isSt_parts g3
    have hlA := isA_len hA
    have hrng := sd_rng h4 g2
    obtain ⟨t0, t1, e, he, _, hio, hB⟩ := open_ev (s0 := s0) (s1 := s1) h hrng
    have h0 := hio.2 ⟨g3, g4⟩
    subst h0
    have B := hB rfl
    have hlt := isA_len B.locs
    have hst : isSt a b c d t0 t1 = true := by unfold isSt; rw [decide_eq_true hw, B.locs, B.vars]; rfl
    have er : rd_T31 E (i : Int) = z := rdT_head (t := T31) hd
    have hz : w64 (z.f2 - 1) = z.f2 - 1 := by
      obtain ⟨x, hx, g | ⟨_, y, hy, _⟩⟩ := g2
      · exact ws (by omega) (by omega)
      · have := (eg_some.1 hy).1
        exact ws (by omega) (by omega)
    rw [gnomonlaw14_MovesStay.L1, has_eq z (by omega), Option.bind_some, if_pos g1, he, Option.bind_some, if_pos rfl, stRight_eq h, Option.bind_some, hst, if_neg (show ¬ ((!true) = true) by decide), if_pos (show (t0.length : Int) = (d.length : Int) by omega), if_pos (by omega), hot_eq h g3, Option.bind_some, if_pos (by omega)]
    rw [st3 hA (by omega) (by omega) er hz hlt B.stay _ s0 0 _ rfl ?_]
    · exact st1 h hX h6 hE t (i + 1) q3
    · cases hh : hot d s0 with
      | false => exact .inl rfl
      | true =>
        obtain ⟨j, k1, k2, k3⟩ := B.hot hh
        exact .inr ⟨j, Nat.zero_le _, k2, k1, k3⟩
theorem stay_g (h : OkN a b c d) {z : S31} (hz : rng z.f2) : gnomonlaw14_MovesStay.g a b c d s0 s1 z.f0 z.f1 z.f2 z.f3 = some true := by
  have hc := cap_is
  obtain ⟨X, hX, hXl, hO, hN⟩ := all_ev h
  have hmem : ∀ y ∈ X, Sd d y ∧ cnt y X = 1 := fun y hy => by
    by_cases hw : sWhole a b c d = 0
    · have hO := hO hw y
      by_cases hs : Sd d y
      · exact ⟨hs, hO.1 hs⟩
      · have := hO.2 hs
        have := cnt_pos hy
        omega
    · rw [hN hw] at hy; cases hy
  obtain ⟨E, hE, hEE⟩ : ∃ E, moves_Enabled.g a b c d s0 s1 = some E ∧ E = if isSt a b c d s0 s1 = true then X.filter (opn a b c d s0 s1) else [] := by
    rw [moves_Enabled.g, stRight_eq h, Option.bind_some]
    cases hs : isSt a b c d s0 s1 with
    | false => exact ⟨[], by rw [if_pos (by rfl)], by rw [if_neg (by decide)]⟩
    | true =>
      obtain ⟨hw, hA, hV⟩ := isSt_parts hs
      refine ⟨_, ?_, rfl⟩
      rw [if_neg (show ¬ ((!true) = true) by decide), hX, Option.bind_some, if_pos (by omega), en0 h hw hA hV X [] (fun y hy => sd_rng h.dl (hmem y hy).1) (by simp; omega), List.nil_append, if_pos rfl]
  have hEl : E.length ≤ 4194304 := by
    rw [hEE]
    split
    · exact Nat.le_trans (List.length_filter_le _ _) hXl
    · simp
  have hEm : ∀ y ∈ E, cnt y X = 1 ∧ Sd d y ∧ isSt a b c d s0 s1 = true ∧ opn a b c d s0 s1 y = true := fun y hy => by
    rw [hEE] at hy
    split at hy
    · next hs =>
      rw [List.mem_filter] at hy
      exact ⟨(hmem y hy.1).2, (hmem y hy.1).1, hs, hy.2⟩
    · cases hy
  have hcz : cnt z E = 1 ↔ isSt a b c d s0 s1 = true ∧ opn a b c d s0 s1 z = true := by
    rw [hEE]
    by_cases hs : isSt a b c d s0 s1 = true
    · rw [if_pos hs, cnt_filter]
      by_cases hp : opn a b c d s0 s1 z = true
      · rw [if_pos hp]
        refine ⟨fun _ => ⟨hs, hp⟩, fun _ => ?_⟩
        obtain ⟨hw, hA, hV⟩ := isSt_parts hs
        obtain ⟨t0, t1, e, he, _, hio, hB⟩ := open_ev (s0 := s0) (s1 := s1) h hz
        exact (hO hw z).1 (hB (hio.2 ⟨hs, hp⟩)).sides
      · rw [if_neg hp]
        exact ⟨fun e => absurd e (by decide), fun e => absurd e.2 hp⟩
    · rw [if_neg hs]
      exact ⟨fun e => absurd (show (0 : Int) = 1 from e) (by decide), fun e => absurd e.1 hs⟩
  have hc1 : ¬ cnt z X > 1 := by
    by_cases hm : z ∈ X
    · have := (hmem z hm).2; omega
    · have := cnt_no hm; omega
  obtain ⟨t0, t1, e, _, hop, hio, _⟩ := open_ev (s0 := s0) (s1 := s1) h hz
  rw [gnomonlaw14_MovesStay.g, live14, Option.bind_some, if_neg (show ¬ ((!true) = true) by decide), hX, Option.bind_some, hE, Option.bind_some, has_eq z (show E.length ≤ cap by omega), Option.bind_some, hop, Option.bind_some, if_pos (by rw [decide_eq_decide, hcz, hio]), has_eq z (show X.length ≤ cap by omega), Option.bind_some, if_neg hc1, if_pos (by omega)]
  exact st1 h hXl (st6 h.dl X fun y hy => (hmem y hy).1) hEm E 0 rfl
end
theorem MovesStay_pure : ∀ (X0 : S26) (X1 : S29) (X2 : S31), okT T26 X0 → okT T29 X1 → okT T31 X2 → ∃ k, (gnomonlaw14_MovesStay.ce k).fn (X0, X1, X2) = some true := fun X0 X1 X2 h0 h1 h2 => by
  have hr : rng X2.f2 := by
    have := h2.2.2.1
    simp [okT, Lit.wf, IntKind.min, IntKind.max, IntKind.signed, IntKind.bits] at this
    exact this
  exact le_some (gnomonlaw14_MovesStay.le X0.f0 X0.f1 X0.f2 X0.f3 X1.f0 X1.f1 X2.f0 X2.f1 X2.f2 X2.f3) (stay_g (okN_of h0) hr)
end
end Go.Proofs.YtfajafegkechhaaDoor.Q
