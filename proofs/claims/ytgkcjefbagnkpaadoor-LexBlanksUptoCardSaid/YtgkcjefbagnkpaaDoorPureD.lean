import Derived.Test.YtgkcjefbagnkpaaDoorPureC
namespace Go.Proofs.YtgkcjefbagnkpaaDoor.PLex
set_option linter.unusedVariables false
set_option linter.unusedSimpArgs false
open Go Go.RowKit Go.Proofs.YtgkcjefbagnkpaaDoorW.PrintWords Go.Proofs.YtgkcjefbagnkpaaDoorW.PrintMore

/-! ### Next -/
/-- The token at a place that is no blank, as both say it. -/
inductive TokAt (s : ByteArray) (q : Nat) : Tok → Prop
  | end_ : q = s.size → TokAt s q (0, ⟨#[]⟩, 0, (q : Int), (q : Int), 0)
  | word (m : Nat) : q < s.size → cls (bt s (q : Int)) = 2 → 1 ≤ m → q + m ≤ s.size → Ev (fun k => lex_word.f k (s.extract q s.size)) (m : Int) → TokAt s q (1, s.extract q (q + m), 0, (q : Int), ((q + m : Nat) : Int), 0)
  | number (m : Nat) (v : Int) : q < s.size → cls (bt s (q : Int)) = 3 → 1 ≤ m → q + m ≤ s.size → 0 ≤ v → Ev (fun k => lex_number.f k (s.extract q s.size)) (numLex s q m v) → TokAt s q (numEnd s q m v)
  | sign : q < s.size → cls (bt s (q : Int)) ≠ 1 → cls (bt s (q : Int)) ≠ 2 → cls (bt s (q : Int)) ≠ 3 → cls (bt s (q : Int)) ≠ 4 → TokAt s q (signEnd s q)
theorem next_in {s : ByteArray} (hS : s.size ≤ 140737488351232) {p : Nat} (hp : p ≤ s.size) :
    ∃ (q : Nat) (r : Tok), p ≤ q ∧ q ≤ s.size ∧ Ev (fun k => lex_skip.l0 k s (p : Int)) (q : Int) ∧ TokAt s q r ∧ Ev (fun k => lex_Next.f k s (p : Int)) r ∧ Ev (fun k => gnomonref09_Next.f k s (p : Int)) r := by
  obtain ⟨q, h1, h2, h3, h4, h5⟩ := skip_both s hS _ p (Nat.le_refl _) hp
  have hs := ext_size s q
  have ml : ∀ k, lex_Next.f k s (p : Int) = lex_Next.j0 k s (p : Int) false := fun k => by rw [lex_Next.f, if_neg (by omega), decide_eq_false (by omega)]
  have mr : ∀ k, gnomonref09_Next.f k s (p : Int) = gnomonref09_Next.j0 k s (p : Int) false := fun k => by rw [gnomonref09_Next.f, if_neg (by omega), decide_eq_false (by omega)]
  have L : ∀ r : Tok, Ev (fun k => lex_Next.j0 k s (p : Int) false) r → Ev (fun k => lex_Next.f k s (p : Int)) r := fun r h => Ev.congr ml h
  have R : ∀ r : Tok, Ev (fun k => gnomonref09_Next.j0 k s (p : Int) false) r → Ev (fun k => gnomonref09_Next.f k s (p : Int)) r := fun r h => Ev.congr mr h
  by_cases hq : q < s.size
  · have hb : bt (s.extract q s.size) 0 = bt s (q : Int) := bt_ext (i := 0) (by omega)
    obtain ⟨hc1, hc4⟩ := h3 hq
    have of0 := of_ev (s.extract q s.size) 0
    rw [hb] at of0
    by_cases hc2 : cls (bt s (q : Int)) = 2
    · -- a word
      obtain ⟨m, a, b, c, d⟩ := word_both s hS q _ 1 (Nat.le_refl _) (by omega)
      refine ⟨q, (1, s.extract q (q + m), 0, (q : Int), ((q + m : Nat) : Int), 0), h1, h2, h4, .word m hq hc2 a b c, L _ ?_, R _ ?_⟩
      · refine Ev.step (fun k => by (rw [lex_Next.j0, if_neg (by decide)]; try rfl)) (Ev.bind h4 ?_)
        refine Ev.congr (fun k => by rw [if_neg (by omega), if_pos (by omega), if_pos (by omega), if_pos (by rw [show ((q : Int).toNat) = q from rfl]; omega), show ((q : Int).toNat) = q from rfl, hb]) (Ev.bind of0 ?_)
        refine Ev.congr (fun k => by rw [if_pos hc2]; try rfl) (Ev.bind (show Ev (fun k => lex_word.f k (s.extract q s.size)) (m : Int) from c) ?_)
        refine Ev.congr (fun k => ?_) (Ev.now _)
        rw [if_pos (by omega), if_pos (by omega), show ((m : Int).toNat) = m from rfl, ext_ext s q m b, wn (by omega)]
      · refine Ev.step (fun k => by (rw [gnomonref09_Next.j0, if_neg (by decide)]; try rfl)) (Ev.bind h5 ?_)
        have d0 := word_ref_go (m := 0) hS (by omega) (.inl hc2) d
        refine Ev.congr (fun k => ?_) d0
        rw [if_neg (by omega), if_pos (by omega), if_pos (by omega), digit_eq, Option.bind_some, if_neg (by simp [hc2]), letter_eq, Option.bind_some, if_pos (by simp [hc2])]
        rfl
    · by_cases hc3 : cls (bt s (q : Int)) = 3
      · -- a number
        obtain ⟨m, v, a, b, c, d, e, f⟩ := num_both s hS q hq hc3 _ 0 0 (Nat.le_refl _) (by omega) (by omega) (by omega)
        refine ⟨q, numEnd s q m v, h1, h2, h4, .number m v hq hc3 b c d e, L _ ?_, R _ ?_⟩
        · refine Ev.step (fun k => by (rw [lex_Next.j0, if_neg (by decide)]; try rfl)) (Ev.bind h4 ?_)
          refine Ev.congr (fun k => by rw [if_neg (by omega), if_pos (by omega), if_pos (by omega), if_pos (by rw [show ((q : Int).toNat) = q from rfl]; omega), show ((q : Int).toNat) = q from rfl, hb]) (Ev.bind of0 ?_)
          refine Ev.congr (fun k => by rw [if_neg hc2, if_pos hc3]; try rfl) (Ev.bind (show Ev (fun k => lex_number.f k (s.extract q s.size)) (numLex s q m v) from e) ?_)
          refine Ev.congr (fun k => ?_) (Ev.now _)
          unfold numLex numEnd
          by_cases hx : (bt s (q : Int) = 48 ∧ m > 1) ∨ v > 2147483647
          · rw [if_neg (by simp [hx]), if_pos hx]
          · have hv : mn v 2147483648 = v := by unfold mn; rw [if_neg (by have := (not_or.1 hx).2; omega)]
            rw [if_pos (by simp only [hx]; decide), if_neg hx]
            dsimp only
            rw [if_pos (by omega), if_pos (by omega), show ((m : Int).toNat) = m from rfl, ext_ext s q m c, wn (by omega), hv]
        · refine Ev.step (fun k => by (rw [gnomonref09_Next.j0, if_neg (by decide)]; try rfl)) (Ev.bind h5 ?_)
          refine Ev.congr (fun k => by rw [if_neg (by omega), if_pos (by omega), if_pos (by omega), digit_eq, Option.bind_some, if_pos (by simp [hc3])]) (Ev.bind (show Ev (fun k => gnomonref09_number.f k s (q : Int)) (numEnd s q m v) from f) (Ev.now _))
      · -- a sign
        refine ⟨q, signEnd s q, h1, h2, h4, .sign hq hc1 hc2 hc3 hc4, L _ ?_, R _ ?_⟩
        · refine Ev.step (fun k => by (rw [lex_Next.j0, if_neg (by decide)]; try rfl)) (Ev.bind h4 ?_)
          refine Ev.congr (fun k => by rw [if_neg (by omega), if_pos (by omega), if_pos (by omega), if_pos (by rw [show ((q : Int).toNat) = q from rfl]; omega), show ((q : Int).toNat) = q from rfl, hb]) (Ev.bind of0 ?_)
          refine Ev.congr (fun k => by rw [if_neg hc2, if_neg hc3]) (Ev.bind (sign_len hq) ?_)
          refine Ev.congr (fun k => ?_) (Ev.now _)
          unfold signLen signEnd
          by_cases hx : q + 2 ≤ s.size ∧ (s.extract q (q + 2)).toList ∈ two9
          · rw [if_pos hx, if_pos hx, if_neg (by decide), if_pos (by decide), if_pos (by omega), show (((2 : Nat) : Int).toNat) = 2 from rfl, ext_ext s q 2 hx.1, wn (by omega)]
          · rw [if_neg hx, if_neg hx]
            by_cases hy : one1 (bt s (q : Int)) = true
            · rw [if_pos hy, if_pos hy, if_neg (by decide), if_pos (by decide), if_pos (by omega), show (((1 : Nat) : Int).toNat) = 1 from rfl, ext_ext s q 1 (by omega), wn (by omega)]
            · rw [if_neg hy, if_neg hy, if_pos (by decide)]
        · refine Ev.step (fun k => by (rw [gnomonref09_Next.j0, if_neg (by decide)]; try rfl)) (Ev.bind h5 ?_)
          refine Ev.congr (fun k => by rw [if_neg (by omega), if_pos (by omega), if_pos (by omega), digit_eq, Option.bind_some, if_neg (by simp [hc3]), letter_eq, Option.bind_some, if_neg (by simp [hc2])]) (sign_ref hS hq)
  · obtain rfl : q = s.size := by omega
    refine ⟨s.size, (0, ⟨#[]⟩, 0, (s.size : Int), (s.size : Int), 0), h1, h2, h4, .end_ rfl, L _ ?_, R _ ?_⟩
    · refine Ev.step (fun k => by (rw [lex_Next.j0, if_neg (by decide)]; try rfl)) (Ev.bind h4 ?_)
      exact Ev.congr (fun k => by rw [if_pos rfl]) (Ev.now _)
    · refine Ev.step (fun k => by (rw [gnomonref09_Next.j0, if_neg (by decide)]; try rfl)) (Ev.bind h5 ?_)
      exact Ev.congr (fun k => by rw [if_pos rfl]) (Ev.now _)
theorem next_out {s : ByteArray} {p : Int} (hp : p < 0 ∨ p > (s.size : Int)) : Ev (fun k => lex_Next.f k s p) ((0, ⟨#[]⟩, 0, 0, 0, 2) : Tok) ∧ Ev (fun k => gnomonref09_Next.f k s p) ((0, ⟨#[]⟩, 0, 0, 0, 2) : Tok) := by
  have ml : ∀ k, lex_Next.f k s p = lex_Next.j0 k s p true := fun k => by
    rw [lex_Next.f]
    by_cases h : p < 0
    · rw [if_pos h]
    · rw [if_neg h, decide_eq_true (by omega)]
  have mr : ∀ k, gnomonref09_Next.f k s p = gnomonref09_Next.j0 k s p true := fun k => by
    rw [gnomonref09_Next.f]
    by_cases h : p < 0
    · rw [if_pos h]
    · rw [if_neg h, decide_eq_true (by omega)]
  exact ⟨Ev.congr ml (Ev.step (fun k => by rw [lex_Next.j0, if_pos rfl]) (Ev.now _)), Ev.congr mr (Ev.step (fun k => by rw [gnomonref09_Next.j0, if_pos rfl]) (Ev.now _))⟩
theorem next_both {s : ByteArray} (hS : s.size ≤ 140737488351232) (p : Int) : ∃ r : Tok, Ev (fun k => lex_Next.f k s p) r ∧ Ev (fun k => gnomonref09_Next.f k s p) r ∧ 0 ≤ r.1 ∧ r.1 ≤ 3 := by
  by_cases hp : p < 0 ∨ p > (s.size : Int)
  · exact ⟨_, (next_out hp).1, (next_out hp).2, by decide, by decide⟩
  · obtain ⟨n, rfl⟩ : ∃ n : Nat, p = n := ⟨p.toNat, by omega⟩
    obtain ⟨q, r, _, _, _, h, a, b⟩ := next_in hS (p := n) (by omega)
    refine ⟨r, a, b, ?_⟩
    cases h with
    | end_ => exact ⟨by simp, by simp⟩
    | word => exact ⟨by simp, by simp⟩
    | number => unfold numEnd; split <;> exact ⟨by simp, by simp⟩
    | sign => unfold signEnd; split <;> (try split) <;> exact ⟨by simp, by simp⟩
theorem live_ev : Ev gnomonlaw09_live.f true := Ev.of gnomonlaw09_live.mono (k := 60) (by decide +kernel)
theorem same_self (a c d : Int) (t : ByteArray) (h : 0 ≤ a ∧ a ≤ 3) : gnomonlaw09_same.f a t c d a t c d = some true := by
  unfold gnomonlaw09_same.f
  rw [if_pos (by unfold wrap64; omega), if_pos rfl, if_pos rfl]
  simp
end Go.Proofs.YtgkcjefbagnkpaaDoor.PLex
