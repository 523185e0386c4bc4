import Derived.Test.YtgkcjefbagnkpaaDoorPureA
namespace Go.Proofs.YtgkcjefbagnkpaaDoor.PLex
set_option linter.unusedVariables false
set_option linter.unusedSimpArgs false
open Go Go.RowKit Go.Proofs.YtgkcjefbagnkpaaDoorW.PrintWords Go.Proofs.YtgkcjefbagnkpaaDoorW.PrintMore

theorem ext_size (s : ByteArray) (p : Nat) : (s.extract p s.size).size = s.size - p := by simp
theorem ext_ext (s : ByteArray) (p m : Nat) (h : p + m ≤ s.size) : (s.extract p s.size).extract 0 m = s.extract p (p + m) := by
  apply Go.WideShapes.bytes_inj
  rw [Lib.extract_data, Lib.extract_data, Lib.extract_data]
  simp only [List.drop_zero, Nat.sub_zero]
  rw [List.take_take]
  congr 1
  omega
/-! ### Words -/
abbrev Tok := Int × ByteArray × Int × Int × Int × Int
theorem word_ref_stop {s : ByteArray} {p m : Nat} (hm : p + m ≤ s.size) (h : p + m < s.size → cls (bt s ((p + m : Nat) : Int)) ≠ 2 ∧ cls (bt s ((p + m : Nat) : Int)) ≠ 3 ∧ bt s ((p + m : Nat) : Int) ≠ 95) :
    Ev (fun k => gnomonref09_Next.l0 k s (p : Int) ((p + m : Nat) : Int)) ((1, s.extract p (p + m), 0, (p : Int), ((p + m : Nat) : Int), 0) : Tok) := by
  refine Ev.step (fun k => ?_) (Ev.now _)
  by_cases hp : p + m < s.size
  · obtain ⟨h1, h2, h3⟩ := h hp
    rw [gnomonref09_Next.l0, if_pos (by omega), if_pos (by omega), letter_eq, Option.bind_some, digit_eq, Option.bind_some, if_neg (by simpa using h1), if_neg (by simpa using h2), if_neg h3, if_pos (by omega), if_pos (by omega), if_pos (by omega)]
    rfl
  · rw [gnomonref09_Next.l0, if_neg (by omega), if_pos (by omega), if_pos (by omega), if_pos (by omega)]
    rfl
theorem word_ref_go {s : ByteArray} (hS : s.size ≤ 140737488351232) {p m : Nat} {r : Tok} (hp : p + m < s.size) (h : cls (bt s ((p + m : Nat) : Int)) = 2 ∨ cls (bt s ((p + m : Nat) : Int)) = 3 ∨ bt s ((p + m : Nat) : Int) = 95)
    (hr : Ev (fun k => gnomonref09_Next.l0 k s (p : Int) ((p + (m + 1) : Nat) : Int)) r) : Ev (fun k => gnomonref09_Next.l0 k s (p : Int) ((p + m : Nat) : Int)) r := by
  refine Ev.step (fun k => ?_) hr
  rw [gnomonref09_Next.l0, if_pos (by omega), if_pos (by omega), letter_eq, Option.bind_some, digit_eq, Option.bind_some, w1 (by omega)]
  by_cases h1 : cls (bt s ((p + m : Nat) : Int)) = 2
  · rw [if_pos (by simpa using h1)]; rfl
  · rw [if_neg (by simpa using h1)]
    by_cases h2 : cls (bt s ((p + m : Nat) : Int)) = 3
    · rw [if_pos (by simpa using h2)]; rfl
    · rw [if_neg (by simpa using h2), if_pos ((h.resolve_left h1).resolve_left h2)]; rfl
theorem word_both (s : ByteArray) (hS : s.size ≤ 140737488351232) (p : Nat) : ∀ n i : Nat, s.size - (p + i) ≤ n → p + i ≤ s.size → ∃ m : Nat, i ≤ m ∧ p + m ≤ s.size ∧
    Ev (fun k => lex_word.l0 k (s.extract p s.size) (i : Int)) (m : Int) ∧ Ev (fun k => gnomonref09_Next.l0 k s (p : Int) ((p + i : Nat) : Int)) ((1, s.extract p (p + m), 0, (p : Int), ((p + m : Nat) : Int), 0) : Tok) := by
  intro n
  have hs := ext_size s p
  induction n with
  | zero =>
    intro i h1 h2
    exact ⟨i, Nat.le_refl _, h2, Ev.step (fun k => by rw [lex_word.l0, if_neg (by omega)]) (Ev.now _), word_ref_stop h2 (fun h => by omega)⟩
  | succ n ih =>
    intro i h1 h2
    by_cases hp : p + i < s.size
    · by_cases hc : cls (bt s ((p + i : Nat) : Int)) = 2 ∨ cls (bt s ((p + i : Nat) : Int)) = 3 ∨ bt s ((p + i : Nat) : Int) = 95
      · obtain ⟨m, a, b, c, d⟩ := ih (i + 1) (by omega) (by omega)
        refine ⟨m, by omega, b, ?_, word_ref_go hS hp hc d⟩
        refine Ev.step (fun k => by rw [lex_word.l0, if_pos (by omega), if_pos (by omega)]) (Ev.bind (of_ev (s.extract p s.size) i) ?_)
        refine Ev.congr (fun k => ?_) c
        rw [bt_ext hp, w1 (by omega)]
        by_cases e1 : cls (bt s ((p + i : Nat) : Int)) = 2
        · rw [if_pos e1]
        · rw [if_neg e1]
          by_cases e2 : cls (bt s ((p + i : Nat) : Int)) = 3
          · rw [if_pos e2]
          · rw [if_neg e2, if_pos ((hc.resolve_left e1).resolve_left e2)]
      · have hc2 := not_or.1 hc
        have hc3 := not_or.1 hc2.2
        refine ⟨i, Nat.le_refl _, h2, ?_, word_ref_stop h2 (fun _ => ⟨hc2.1, hc3⟩)⟩
        refine Ev.step (fun k => by rw [lex_word.l0, if_pos (by omega), if_pos (by omega)]) (Ev.bind (of_ev (s.extract p s.size) i) ?_)
        refine Ev.congr (fun k => ?_) (Ev.now _)
        rw [bt_ext hp, if_neg hc2.1, if_neg hc3.1, if_neg hc3.2]
    · exact ⟨i, Nat.le_refl _, h2, Ev.step (fun k => by rw [lex_word.l0, if_neg (by omega)]) (Ev.now _), word_ref_stop h2 (fun h => by omega)⟩

/-! ### Numbers -/
def numEnd (s : ByteArray) (p m : Nat) (v : Int) : Tok := if (bt s (p : Int) = 48 ∧ m > 1) ∨ v > 2147483647 then (0, ⟨#[]⟩, 0, 0, (p : Int), 91) else (2, s.extract p (p + m), v, (p : Int), ((p + m : Nat) : Int), 0)
def numLex (s : ByteArray) (p m : Nat) (v : Int) : Int × Int × Bool := ((m : Int), mn v 2147483648, decide (¬ ((bt s (p : Int) = 48 ∧ m > 1) ∨ v > 2147483647)))
theorem num_ref_stop {s : ByteArray} (hS : s.size ≤ 140737488351232) {p m : Nat} {v : Int} (hp : p < s.size) (hm : p + m ≤ s.size) (k : Nat) :
    gnomonref09_number.j1 (k + 1) s (p : Int) ((p + m : Nat) : Int) v false = some (numEnd s p m v) := by
  rw [gnomonref09_number.j1, if_neg (by decide), if_pos (by omega), if_pos (by omega), w1 (by omega)]
  unfold numEnd
  by_cases h1 : bt s (p : Int) = 48
  · rw [if_pos h1]
    by_cases h2 : m > 1
    · rw [if_pos (by omega), if_pos (.inl ⟨h1, h2⟩)]
    · rw [if_neg (by omega)]
      by_cases h3 : v > 2147483647
      · rw [if_pos h3, if_pos (.inr h3)]
      · rw [if_neg h3, if_pos (by omega), if_pos (by omega), if_neg (fun h => h.elim (fun h => h2 h.2) h3)]; rfl
  · rw [if_neg h1]
    by_cases h3 : v > 2147483647
    · rw [if_pos h3, if_pos (.inr h3)]
    · rw [if_neg h3, if_pos (by omega), if_pos (by omega), if_neg (fun h => h.elim (fun h => h1 h.1) h3)]; rfl
theorem num_lex_stop {s : ByteArray} {p m : Nat} {v : Int} (hp : p < s.size) (hm1 : 1 ≤ m) (hv : 0 ≤ v) :
    (if mn v 2147483648 < 2147483648 then (if (m : Int) = 1 then (some ((m : Int), mn v 2147483648, true)) else (if 0 < ((s.extract p s.size).size : Int) then (some ((m : Int), mn v 2147483648, ((bt (s.extract p s.size) 0) != 48))) else (none))) else (some ((m : Int), mn v 2147483648, false))) = some (numLex s p m v) := by
  have hb : bt (s.extract p s.size) 0 = bt s (p : Int) := bt_ext (i := 0) (by omega)
  have hs := ext_size s p
  rw [hb]
  unfold numLex
  have hmn : mn v 2147483648 = if v ≤ 2147483647 then v else 2147483648 := by unfold mn; split <;> split <;> omega
  by_cases h3 : v > 2147483647
  · rw [if_neg (by rw [hmn]; split <;> omega)]
    simp [h3]
  · rw [if_pos (by rw [hmn]; split <;> omega)]
    by_cases h1 : m = 1
    · rw [if_pos (by omega)]
      subst h1
      simp [show ¬ 2147483647 < v by omega]
    · rw [if_neg (by omega), if_pos (by omega)]
      simp only [Option.some.injEq, Prod.mk.injEq, true_and]
      by_cases h4 : bt s (p : Int) = 48
      · simp [h4, show 1 < m by omega]
      · simp [h4, show v ≤ 2147483647 by omega]
theorem num_both (s : ByteArray) (hS : s.size ≤ 140737488351232) (p : Nat) (hp0 : p < s.size) (hd0 : cls (bt s (p : Int)) = 3) : ∀ n i : Nat, ∀ v : Int, s.size - (p + i) ≤ n → p + i ≤ s.size → 0 ≤ v → v ≤ 21474836489 → ∃ (m : Nat) (v' : Int), i ≤ m ∧ 1 ≤ m ∧ p + m ≤ s.size ∧ 0 ≤ v' ∧
    Ev (fun k => lex_number.l0 k (s.extract p s.size) (i : Int) (mn v 2147483648)) (numLex s p m v') ∧ Ev (fun k => gnomonref09_number.l0 k s (p : Int) ((p + i : Nat) : Int) v) (numEnd s p m v') := by
  intro n
  have hs := ext_size s p
  induction n with
  | zero =>
    intro i v h1 h2 h3 h4
    refine ⟨i, v, Nat.le_refl _, by omega, h2, h3, ?_, ?_⟩
    · refine Ev.step (fun k => ?_) (Ev.now _)
      rw [lex_number.l0, if_neg (by omega), num_lex_stop hp0 (by omega) h3]
    · refine Ev.step (fun k => by rw [gnomonref09_number.l0, if_neg (by omega)]) (Ev.step (num_ref_stop hS hp0 h2) (Ev.now _))
  | succ n ih =>
    intro i v h1 h2 h3 h4
    by_cases hp : p + i < s.size
    · by_cases hc : cls (bt s ((p + i : Nat) : Int)) = 3
      · have hd := cls3 s _ hc
        obtain ⟨m, v', a, b, c, d, e, f⟩ := ih (i + 1) (if v ≤ 2147483648 then v * 10 + (bt s ((p + i : Nat) : Int) - 48) else v) (by omega) (by omega) (by split <;> omega) (by split <;> omega)
        refine ⟨m, v', by omega, b, c, d, ?_, ?_⟩
        · refine Ev.step (fun k => by rw [lex_number.l0, if_pos (by omega), if_pos (by omega)]) (Ev.bind (of_ev (s.extract p s.size) i) ?_)
          refine Ev.congr (fun k => ?_) e
          rw [bt_ext hp, if_pos hc, w1 (by omega)]
          congr 1
          unfold mn wrap64
          have : (bt s ((p + i : Nat) : Int) - 48) % 256 = bt s ((p + i : Nat) : Int) - 48 := by omega
          rw [this]
          split <;> split <;> split <;> (try split) <;> omega
        · refine Ev.step (fun k => by rw [gnomonref09_number.l0, if_pos (by omega), if_pos (by omega), digit_eq, Option.bind_some, decide_eq_true hc]) (Ev.step (fun k => ?_) f)
          rw [gnomonref09_number.j1, if_pos rfl, w1 (by omega)]
          by_cases hv : v ≤ 2147483648
          · rw [if_pos hv, if_pos (by omega), if_pos (by omega), if_pos hv]
            congr 1
            unfold wrap64
            omega
          · rw [if_neg hv, if_neg hv]; rfl
      · have hi : 1 ≤ i := by
          rcases Nat.eq_zero_or_pos i with h | h
          · subst h; exact absurd hd0 hc
          · exact h
        refine ⟨i, v, Nat.le_refl _, hi, h2, h3, ?_, ?_⟩
        · refine Ev.step (fun k => by rw [lex_number.l0, if_pos (by omega), if_pos (by omega)]) (Ev.bind (of_ev (s.extract p s.size) i) ?_)
          refine Ev.congr (fun k => ?_) (Ev.now _)
          rw [bt_ext hp, if_neg hc, num_lex_stop hp0 hi h3]
        · refine Ev.step (fun k => by rw [gnomonref09_number.l0, if_pos (by omega), if_pos (by omega), digit_eq, Option.bind_some, decide_eq_false hc]) (Ev.step (num_ref_stop hS hp0 h2) (Ev.now _))
    · refine ⟨i, v, Nat.le_refl _, by omega, h2, h3, ?_, ?_⟩
      · refine Ev.step (fun k => ?_) (Ev.now _)
        rw [lex_number.l0, if_neg (by omega), num_lex_stop hp0 (by omega) h3]
      · refine Ev.step (fun k => by rw [gnomonref09_number.l0, if_neg (by omega)]) (Ev.step (num_ref_stop hS hp0 h2) (Ev.now _))
end Go.Proofs.YtgkcjefbagnkpaaDoor.PLex
