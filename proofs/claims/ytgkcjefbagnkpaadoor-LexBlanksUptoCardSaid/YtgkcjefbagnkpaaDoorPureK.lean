import Derived.Test.YtgkcjefbagnkpaaDoorPureH
namespace Go.Proofs.YtgkcjefbagnkpaaDoor.PLex
set_option linter.unusedVariables false
set_option linter.unusedSimpArgs false
open Go Go.RowKit Go.Proofs.YtgkcjefbagnkpaaDoorW.PrintWords Go.Proofs.YtgkcjefbagnkpaaDoorW.PrintMore

/-! ### A token is known by its own bytes and by the one behind it -/
def wordy (c : Int) : Prop := cls c = 2 ∨ cls c = 3 ∨ c = 95
theorem run_ex (P : Nat → Prop) (z : Nat) : ∀ n i : Nat, z - i ≤ n → i ≤ z → ∃ m, i ≤ m ∧ m ≤ z ∧ (∀ j, i ≤ j → j < m → P j) ∧ (m < z → ¬ P m) := by
  intro n
  induction n with
  | zero => intro i h1 h2; exact ⟨i, Nat.le_refl _, h2, fun j a b => by omega, fun h => by omega⟩
  | succ n ih =>
    intro i h1 h2
    by_cases hi : i < z
    · rcases Classical.em (P i) with hp | hp
      · obtain ⟨m, a, b, c, d⟩ := ih (i + 1) (by omega) (by omega)
        refine ⟨m, by omega, b, fun j h3 h4 => ?_, d⟩
        rcases Nat.lt_or_ge i j with h5 | h5
        · exact c j h5 h4
        · rw [show j = i by omega]; exact hp
      · exact ⟨i, Nat.le_refl _, h2, fun j a b => by omega, fun _ => hp⟩
    · exact ⟨i, Nat.le_refl _, h2, fun j a b => by omega, fun h => by omega⟩
theorem word_run {s : ByteArray} (hS : s.size ≤ 140737488351232) {p m : Nat} (hm : p + m ≤ s.size) (hstop : p + m < s.size → ¬ wordy (bt s ((p + m : Nat) : Int))) :
    ∀ n i : Nat, m - i ≤ n → i ≤ m → (∀ j, i ≤ j → j < m → wordy (bt s ((p + j : Nat) : Int))) → Ev (fun k => lex_word.l0 k (s.extract p s.size) (i : Int)) (m : Int) := by
  have hs := ext_size s p
  have fin : Ev (fun k => lex_word.l0 k (s.extract p s.size) (m : Int)) (m : Int) := by
    by_cases hp : p + m < s.size
    · have hw := hstop hp
      unfold wordy at hw
      have h1 := not_or.1 hw
      have h2 := not_or.1 h1.2
      refine Ev.step (fun k => by rw [lex_word.l0, if_pos (by omega), if_pos (by omega)]) (Ev.bind (of_ev (s.extract p s.size) m) ?_)
      refine Ev.congr (fun k => ?_) (Ev.now _)
      rw [bt_ext hp, if_neg h1.1, if_neg h2.1, if_neg h2.2]
    · exact Ev.step (fun k => by rw [lex_word.l0, if_neg (by omega)]) (Ev.now _)
  intro n
  induction n with
  | zero => intro i h1 h2 _; obtain rfl : i = m := by omega
            exact fin
  | succ n ih =>
    intro i h1 h2 hw
    by_cases hi : i < m
    · have hc := hw i (Nat.le_refl _) hi
      have hp : p + i < s.size := by omega
      refine Ev.step (fun k => by rw [lex_word.l0, if_pos (by omega), if_pos (by omega)]) (Ev.bind (of_ev (s.extract p s.size) i) ?_)
      refine Ev.congr (fun k => ?_) (ih (i + 1) (by omega) (by omega) (fun j a b => hw j (by omega) b))
      rw [bt_ext hp, w1 (by omega)]
      unfold wordy at hc
      by_cases e1 : cls (bt s ((p + i : Nat) : Int)) = 2
      · rw [if_pos e1]
      · rw [if_neg e1]
        by_cases e2 : cls (bt s ((p + i : Nat) : Int)) = 3
        · rw [if_pos e2]
        · rw [if_neg e2, if_pos ((hc.resolve_left e1).resolve_left e2)]
    · obtain rfl : i = m := by omega
      exact fin
/-- What the first j digits say, held back above the limit. -/
def nv (s : ByteArray) (p : Nat) : Nat → Int
  | 0 => 0
  | j + 1 => if nv s p j ≤ 2147483648 then nv s p j * 10 + (bt s ((p + j : Nat) : Int) - 48) else nv s p j
theorem nv_succ (s : ByteArray) (p j : Nat) : nv s p (j + 1) = if nv s p j ≤ 2147483648 then nv s p j * 10 + (bt s ((p + j : Nat) : Int) - 48) else nv s p j := rfl
theorem nv_range {s : ByteArray} {p : Nat} : ∀ m : Nat, (∀ j, j < m → cls (bt s ((p + j : Nat) : Int)) = 3) → 0 ≤ nv s p m ∧ nv s p m ≤ 21474836489
  | 0, _ => by unfold nv; omega
  | m + 1, h => by
    have ih := nv_range m (fun j hj => h j (by omega))
    have hd := cls3 s _ (h m (by omega))
    rw [nv_succ]
    split <;> omega
theorem num_run {s : ByteArray} (hS : s.size ≤ 140737488351232) {p m : Nat} (hp0 : p < s.size) (hm1 : 1 ≤ m) (hm : p + m ≤ s.size) (hall : ∀ j, j < m → cls (bt s ((p + j : Nat) : Int)) = 3) (hstop : p + m < s.size → cls (bt s ((p + m : Nat) : Int)) ≠ 3) :
    ∀ n i : Nat, m - i ≤ n → i ≤ m → Ev (fun k => lex_number.l0 k (s.extract p s.size) (i : Int) (mn (nv s p i) 2147483648)) (numLex s p m (nv s p m)) := by
  have hs := ext_size s p
  have hnv := nv_range m hall
  have fin : Ev (fun k => lex_number.l0 k (s.extract p s.size) (m : Int) (mn (nv s p m) 2147483648)) (numLex s p m (nv s p m)) := by
    by_cases hp : p + m < s.size
    · refine Ev.step (fun k => by rw [lex_number.l0, if_pos (by omega), if_pos (by omega)]) (Ev.bind (of_ev (s.extract p s.size) m) ?_)
      refine Ev.congr (fun k => ?_) (Ev.now _)
      rw [bt_ext hp, if_neg (hstop hp), num_lex_stop hp0 hm1 hnv.1]
    · refine Ev.step (fun k => ?_) (Ev.now _)
      rw [lex_number.l0, if_neg (by omega), num_lex_stop hp0 hm1 hnv.1]
  intro n
  induction n with
  | zero => intro i h1 h2; obtain rfl : i = m := by omega
            exact fin
  | succ n ih =>
    intro i h1 h2
    by_cases hi : i < m
    · have hc := hall i hi
      have hd := cls3 s _ hc
      have hp : p + i < s.size := by omega
      have hv := nv_range (s := s) (p := p) i (fun j hj => hall j (by omega))
      refine Ev.step (fun k => by rw [lex_number.l0, if_pos (by omega), if_pos (by omega)]) (Ev.bind (of_ev (s.extract p s.size) i) ?_)
      refine Ev.congr (fun k => ?_) (ih (i + 1) (by omega) (by omega))
      rw [bt_ext hp, if_pos hc, w1 (by omega), nv_succ]
      congr 1
      unfold mn wrap64
      have : (bt s ((p + i : Nat) : Int) - 48) % 256 = bt s ((p + i : Nat) : Int) - 48 := by omega
      rw [this]
      split <;> split <;> split <;> (try split) <;> omega
    · obtain rfl : i = m := by omega
      exact fin
theorem nv_eq {s t : ByteArray} {q q' : Nat} : ∀ m : Nat, (∀ j, j < m → bt t ((q' + j : Nat) : Int) = bt s ((q + j : Nat) : Int)) → nv t q' m = nv s q m
  | 0, _ => rfl
  | m + 1, h => by rw [nv_succ, nv_succ, nv_eq m (fun j hj => h j (by omega)), h m (by omega)]
theorem ext_same {s t : ByteArray} {q q' m : Nat} (h : ∀ j, j < m → bt t ((q' + j : Nat) : Int) = bt s ((q + j : Nat) : Int)) (hs : q + m ≤ s.size) (ht : q' + m ≤ t.size) : t.extract q' (q' + m) = s.extract q (q + m) := by
  apply Go.WideShapes.bytes_inj
  apply List.ext_getElem?
  intro i
  by_cases hi : i < m
  · rw [piece_get t q' (q' + m) i (by omega) ht, piece_get s q (q + m) i (by omega) hs, bt_get (by omega), bt_get (by omega), h i hi]
  · have h1 := piece_size (s := t) (p := q') ht
    have h2 := piece_size (s := s) (p := q) hs
    rw [List.getElem?_eq_none (by rw [data_length]; omega), List.getElem?_eq_none (by rw [data_length]; omega)]
theorem two_blank {s : ByteArray} {q : Nat} (h : q + 2 ≤ s.size) (hm : (s.extract q (q + 2)).toList ∈ two9) : cls (bt s ((q + 1 : Nat) : Int)) ≠ 1 := by
  have h1 := (piece_get s q (q + 2) 1 (by omega) h).trans (bt_get (s := s) (i := q + 1) (by omega))
  rw [ByteArray.toList_eq] at hm
  have hb := by256 (p := fun c => cls c = 1 → ∀ x ∈ two9, x[1]? ≠ some (UInt8.ofNat c.toNat)) (by decide +kernel) s ((q + 1 : Nat) : Int)
  intro hc
  exact hb hc _ hm h1
/-- The token of another text, where the same bytes stand and what comes behind them ends it as well. -/
theorem local_tok {s t : ByteArray} (hS : s.size ≤ 140737488351232) (hT : t.size ≤ 140737488351232) {p q p' q' m : Nat} {r : Tok} (h : Nx s p q r) (he : r.2.2.2.2.2 = 0) (hk : r.1 ≠ 0) (hrm : r.2.1.size = m)
    (hp' : p' ≤ t.size) (hsk : Ev (fun k => lex_skip.l0 k t (p' : Int)) (q' : Int)) (hb : ∀ j, j < m → bt t ((q' + j : Nat) : Int) = bt s ((q + j : Nat) : Int)) (ht : q' + m ≤ t.size)
    (hst : q' + m = t.size ∨ (q' + m < t.size ∧ cls (bt t ((q' + m : Nat) : Int)) = 1) ∨ (q' + m < t.size ∧ q + m < s.size ∧ bt t ((q' + m : Nat) : Int) = bt s ((q + m : Nat) : Int))) :
    ∃ r', Nx t p' q' r' ∧ r'.1 = r.1 ∧ r'.2.1 = r.2.1 ∧ r'.2.2.1 = r.2.2.1 ∧ r'.2.2.2.1 = (q' : Int) ∧ r'.2.2.2.2.1 = ((q' + m : Nat) : Int) ∧ r'.2.2.2.2.2 = 0 := by
  obtain ⟨q2, r', n⟩ := nx hT hp'
  have hq2 : (q2 : Int) = (q' : Int) := Ev.uniq' n.skip hsk
  obtain rfl : q2 = q' := by omega
  obtain ⟨hq, m', m1, m2, m3, m4, m5⟩ := h.tok.step he hk
  have hsz := piece_size (s := s) (p := q) m2
  rw [m3, hsz] at hrm
  obtain rfl : m' = m := by omega
  have b0 : bt t (q2 : Int) = bt s (q : Int) := hb 0 (by omega)
  have hx := ext_same hb m2 ht
  refine ⟨r', n, ?_⟩
  rw [m3, ← hx]
  have hnt := n.tok
  have hst2 : h.tok = h.tok := rfl
  -- the kinds of a token of s
  have cases_s : (cls (bt s (q : Int)) = 2 ∧ r.1 = 1 ∧ r.2.2.1 = 0 ∧ Ev (fun k => lex_word.f k (s.extract q s.size)) (m' : Int)) ∨
      (cls (bt s (q : Int)) = 3 ∧ r.1 = 2 ∧ ∃ v, 0 ≤ v ∧ Ev (fun k => lex_number.f k (s.extract q s.size)) (numLex s q m' v) ∧ ¬ ((bt s (q : Int) = 48 ∧ m' > 1) ∨ v > 2147483647) ∧ r.2.2.1 = v) ∨
      (cls (bt s (q : Int)) ≠ 2 ∧ cls (bt s (q : Int)) ≠ 3 ∧ r.1 = 3 ∧ r.2.2.1 = 0 ∧ ((m' = 2 ∧ (s.extract q (q + 2)).toList ∈ two9) ∨ (m' = 1 ∧ ¬ (q + 2 ≤ s.size ∧ (s.extract q (q + 2)).toList ∈ two9) ∧ one1 (bt s (q : Int)) = true))) := by
    have hh := h.tok
    cases hh with
    | end_ => exact absurd rfl hk
    | word m a b c d e =>
      have : ((q + m : Nat) : Int) = ((q + m' : Nat) : Int) := m5
      obtain rfl : m = m' := by omega
      exact .inl ⟨b, rfl, rfl, e⟩
    | number m v a b c d e f =>
      unfold numEnd at he m5 ⊢
      split at he
      · cases he
      · rename_i hx2
        rw [if_neg hx2] at m5 ⊢
        have : ((q + m : Nat) : Int) = ((q + m' : Nat) : Int) := m5
        obtain rfl : m = m' := by omega
        exact .inr (.inl ⟨b, rfl, v, e, f, hx2, rfl⟩)
    | sign a b c d e =>
      unfold signEnd at he m5 ⊢
      split at he
      · rename_i hx2
        rw [if_pos hx2] at m5 ⊢
        have : ((q + 2 : Nat) : Int) = ((q + m' : Nat) : Int) := m5
        exact .inr (.inr ⟨c, d, rfl, rfl, .inl ⟨by omega, hx2.2⟩⟩)
      · rename_i hx2
        rw [if_neg hx2] at m5 ⊢
        split at he
        · rename_i hy
          rw [if_pos hy] at m5 ⊢
          have : ((q + 1 : Nat) : Int) = ((q + m' : Nat) : Int) := m5
          exact .inr (.inr ⟨c, d, rfl, rfl, .inr ⟨by omega, hx2, hy⟩⟩)
        · cases he
  have hqt : q2 < t.size := by omega
  rcases cases_s with ⟨c1, c2, c3, c4⟩ | ⟨c1, c2, v, c3, c4, c5, c6⟩ | ⟨c1, c2, c3, c4, c5⟩
  · -- a word
    obtain ⟨z, z1, z2, z3, z4⟩ := run_ex (fun j => wordy (bt s ((q + j : Nat) : Int))) (s.size - q) (s.size - q) 1 (by omega) (by omega)
    have hz : (z : Int) = (m' : Int) := Ev.uniq' (word_run hS (by omega) (fun hh => z4 (by omega)) (z - 1) 1 (by omega) z1 z3) c4
    obtain rfl : z = m' := by omega
    have hw : Ev (fun k => lex_word.f k (t.extract q2 t.size)) (z : Int) := by
      refine word_run hT ht (fun hh => ?_) (z - 1) 1 (by omega) z1 (fun j h1 h2 => by rw [hb j h2]; exact z3 j h1 h2)
      rcases hst with h1 | ⟨_, h1⟩ | ⟨_, h1, h2⟩
      · omega
      · unfold wordy
        rintro (h2 | h2 | h2)
        · rw [h2] at h1; cases h1
        · rw [h2] at h1; cases h1
        · rw [h2] at h1; exact absurd h1 (by decide)
      · rw [h2]; exact z4 (by omega)
    cases hnt with
    | end_ e => omega
    | word m a b c d e =>
      have : (m : Int) = (z : Int) := Ev.uniq' e hw
      obtain rfl : m = z := by omega
      exact ⟨c2.symm, rfl, c3.symm, rfl, rfl, rfl⟩
    | number m v a b => rw [b0] at b; rw [c1] at b; cases b
    | sign a b c => rw [b0] at c; exact absurd c1 c
  · -- a number
    obtain ⟨z, z1, z2, z3, z4⟩ := run_ex (fun j => cls (bt s ((q + j : Nat) : Int)) = 3) (s.size - q) (s.size - q) 0 (by omega) (by omega)
    have hz1 : 1 ≤ z := by
      rcases Nat.eq_zero_or_pos z with h0 | h0
      · subst h0; exact absurd c1 (z4 (by omega))
      · exact h0
    have hrun := num_run hS (p := q) hq hz1 (by omega) (fun j hj => z3 j (Nat.zero_le _) hj) (fun hh => z4 (by omega)) z 0 (by omega) (Nat.zero_le _)
    have hz : numLex s q z (nv s q z) = numLex s q m' v := Ev.uniq' (show Ev (fun k => lex_number.f k (s.extract q s.size)) _ from hrun) c4
    have hzm : (z : Int) = (m' : Int) := congrArg (fun x => x.1) hz
    obtain rfl : z = m' := by omega
    have hmn : mn (nv s q z) 2147483648 = mn v 2147483648 := congrArg (fun x => x.2.1) hz
    have hall : ∀ j, j < z → cls (bt t ((q2 + j : Nat) : Int)) = 3 := fun j hj => by rw [hb j hj]; exact z3 j (Nat.zero_le _) hj
    have hrt := num_run hT (p := q2) hqt hz1 ht hall (fun hh => by
      rcases hst with h1 | ⟨_, h1⟩ | ⟨_, h1, h2⟩
      · omega
      · rw [h1]; decide
      · rw [h2]; exact z4 (by omega)) z 0 (by omega) (Nat.zero_le _)
    rw [nv_eq z hb] at hrt
    cases hnt with
    | end_ e => omega
    | word m a b => rw [b0, c1] at b; cases b
    | number m v' a b c d e f =>
      have hz' : numLex t q2 m v' = numLex t q2 z (nv s q z) := Ev.uniq' f (show Ev (fun k => lex_number.f k (t.extract q2 t.size)) _ from hrt)
      have hzm' : (m : Int) = (z : Int) := congrArg (fun x => x.1) hz'
      obtain rfl : m = z := by omega
      have hmn' : mn v' 2147483648 = mn (nv s q m) 2147483648 := congrArg (fun x => x.2.1) hz'
      have hvv : v' = v := by
        have := not_or.1 c5
        unfold mn at hmn hmn'
        split at hmn <;> split at hmn <;> split at hmn' <;> omega
      subst hvv
      unfold numEnd
      rw [if_neg (by rw [b0]; exact c5)]
      exact ⟨c2.symm, rfl, c6.symm, rfl, rfl, rfl⟩
    | sign a b c d => rw [b0] at d; exact absurd c1 d
  · -- a sign
    cases hnt with
    | end_ e => omega
    | word m a b => rw [b0] at b; exact absurd b c1
    | number m v a b => rw [b0] at b; exact absurd b c2
    | sign a b c d e =>
      unfold signEnd
      rcases c5 with ⟨rfl, c6⟩ | ⟨rfl, c6, c7⟩
      · have : q2 + 2 ≤ t.size ∧ (t.extract q2 (q2 + 2)).toList ∈ two9 := ⟨ht, by rw [hx]; exact c6⟩
        rw [if_pos this]
        exact ⟨c3.symm, rfl, c4.symm, rfl, rfl, rfl⟩
      · have : ¬ (q2 + 2 ≤ t.size ∧ (t.extract q2 (q2 + 2)).toList ∈ two9) := by
          rintro ⟨h1, h2⟩
          rcases hst with h3 | ⟨_, h3⟩ | ⟨_, h3, h4⟩
          · omega
          · exact two_blank h1 h2 h3
          · refine c6 ⟨by omega, ?_⟩
            rw [← ext_same (s := s) (t := t) (q := q) (q' := q2) (m := 2) (fun j hj => ?_) (by omega) h1]
            · exact h2
            · rcases Nat.lt_or_ge j 1 with h5 | h5
              · exact hb j h5
              · rw [show j = 1 by omega]; exact h4
        rw [if_neg this, if_pos (by rw [b0]; exact c7)]
        exact ⟨c3.symm, rfl, c4.symm, rfl, rfl, rfl⟩
end Go.Proofs.YtgkcjefbagnkpaaDoor.PLex
