import Derived.Test.YtgkcjefbagnkpaaDoorPureE
namespace Go.Proofs.YtgkcjefbagnkpaaDoor.PLex
set_option linter.unusedVariables false
set_option linter.unusedSimpArgs false
open Go Go.RowKit Go.Proofs.YtgkcjefbagnkpaaDoorW.PrintWords Go.Proofs.YtgkcjefbagnkpaaDoorW.PrintMore

/-! ### The way over blanks and remarks -/
theorem Ev.uniq' {α : Type} {g : Nat → Option α} {a b : α} (h : Ev g a) (h' : Ev g b) : a = b := by
  obtain ⟨K, h⟩ := h
  obtain ⟨K', h'⟩ := h'
  have h1 := h (max K K') (by omega)
  rw [h' (max K K') (by omega)] at h1
  exact (Option.some.inj h1).symm
theorem skip_blank {t : ByteArray} (hT : t.size ≤ 140737488351232) {p : Nat} {z : Int} (hp : p < t.size) (hc : cls (bt t (p : Int)) = 1) (h : Ev (fun k => lex_skip.l0 k t ((p + 1 : Nat) : Int)) z) : Ev (fun k => lex_skip.l0 k t (p : Int)) z := by
  refine Ev.step (fun k => by (rw [lex_skip.l0, if_pos (by omega), if_pos (by omega)]; try rfl)) (Ev.bind (of_ev t p) ?_)
  refine Ev.congr (fun k => ?_) h
  rw [hc, if_neg (by omega), if_pos rfl, w1 (by omega)]
theorem skip_remark {t : ByteArray} (hT : t.size ≤ 140737488351232) {p f : Nat} {z : Int} (hp : p ≤ f) (hf : f < t.size) (hc : cls (bt t (p : Int)) = 4) (hn : ∀ j : Nat, p ≤ j → j < f → bt t (j : Int) ≠ 10) (h10 : bt t (f : Int) = 10)
    (h : Ev (fun k => lex_skip.l0 k t ((f + 1 : Nat) : Int)) z) : Ev (fun k => lex_skip.l0 k t (p : Int)) z := by
  have hi := index_at hp (by omega) hn (fun _ => h10)
  rw [if_pos hf] at hi
  refine Ev.step (fun k => by (rw [lex_skip.l0, if_pos (by omega), if_pos (by omega)]; try rfl)) (Ev.bind (of_ev t p) ?_)
  refine Ev.congr (fun k => ?_) h
  rw [hc, if_pos rfl, if_pos (by omega), strings_IndexByte.f, Option.bind_some]
  rw [show (Int.toNat 10).toUInt8 = 10 from rfl, show ((p : Int).toNat) = p from rfl, hi, if_neg (by omega), wn (by omega), w1 (by omega), show p + (f - p) + 1 = f + 1 by omega]
theorem skip_open {t : ByteArray} (hT : t.size ≤ 140737488351232) {p : Nat} (hp : p < t.size) (hc : cls (bt t (p : Int)) = 4) (hn : ∀ j : Nat, p ≤ j → j < t.size → bt t (j : Int) ≠ 10) :
    Ev (fun k => lex_skip.l0 k t (p : Int)) (t.size : Int) := by
  have hi := index_at (q := t.size) (by omega) (Nat.le_refl _) hn (fun h => by omega)
  rw [if_neg (by omega)] at hi
  refine Ev.step (fun k => by (rw [lex_skip.l0, if_pos (by omega), if_pos (by omega)]; try rfl)) (Ev.bind (of_ev t p) ?_)
  refine Ev.congr (fun k => ?_) (Ev.now _)
  rw [hc, if_pos rfl, if_pos (by omega), strings_IndexByte.f, Option.bind_some]
  rw [show (Int.toNat 10).toUInt8 = 10 from rfl, show ((p : Int).toNat) = p from rfl, hi, if_pos (by omega)]
theorem skip_here {t : ByteArray} {p : Nat} (hp : p ≤ t.size) (hc : p < t.size → cls (bt t (p : Int)) ≠ 1 ∧ cls (bt t (p : Int)) ≠ 4) : Ev (fun k => lex_skip.l0 k t (p : Int)) (p : Int) := by
  by_cases h : p < t.size
  · refine Ev.step (fun k => by (rw [lex_skip.l0, if_pos (by omega), if_pos (by omega)]; try rfl)) (Ev.bind (of_ev t p) ?_)
    refine Ev.congr (fun k => ?_) (Ev.now _)
    rw [if_neg (hc h).2, if_neg (hc h).1]
  · exact Ev.step (fun k => by rw [lex_skip.l0, if_neg (by omega)]) (Ev.now _)
/-- Blanks, and remarks with their line feeds. -/
inductive Bl (s : ByteArray) : Nat → Nat → Prop
  | done (p : Nat) : Bl s p p
  | blank (p q : Nat) : p < s.size → cls (bt s (p : Int)) = 1 → Bl s (p + 1) q → Bl s p q
  | remark (p f q : Nat) : p ≤ f → f < s.size → cls (bt s (p : Int)) = 4 → (∀ j : Nat, p ≤ j → j < f → bt s (j : Int) ≠ 10) → bt s (f : Int) = 10 → Bl s (f + 1) q → Bl s p q
theorem Bl.le {s : ByteArray} {p q : Nat} (h : Bl s p q) : p ≤ q := by
  induction h with
  | done => omega
  | blank => omega
  | remark => omega
/-- Where the way ends: at a token, at the text's end, or in a last remark that no line feed ends. -/
theorem skip_shape (s : ByteArray) (hS : s.size ≤ 140737488351232) : ∀ n p : Nat, s.size - p ≤ n → p ≤ s.size → ∃ q0 q : Nat, Bl s p q0 ∧ q0 ≤ q ∧ q ≤ s.size ∧ Ev (fun k => lex_skip.l0 k s (p : Int)) (q : Int) ∧
    ((q0 = q ∧ (q < s.size → cls (bt s (q : Int)) ≠ 1 ∧ cls (bt s (q : Int)) ≠ 4)) ∨ (q = s.size ∧ q0 < s.size ∧ cls (bt s (q0 : Int)) = 4 ∧ ∀ j : Nat, q0 ≤ j → j < s.size → bt s (j : Int) ≠ 10)) := by
  intro n
  induction n with
  | zero =>
    intro p h1 h2
    exact ⟨p, p, .done p, Nat.le_refl _, h2, skip_here h2 (fun h => by omega), .inl ⟨rfl, fun h => by omega⟩⟩
  | succ n ih =>
    intro p h1 h2
    by_cases hp : p < s.size
    · rcases cls_cases s (p : Int) with ⟨hc, _, _⟩ | ⟨hc, hb⟩ | ⟨hc, hc4, _⟩
      · obtain ⟨q0, q, a, b, c, d, e⟩ := ih (p + 1) (by omega) (by omega)
        exact ⟨q0, q, .blank p q0 hp hc a, b, c, skip_blank hS hp hc d, e⟩
      · obtain ⟨f, a1, a2, a3, a4, _⟩ := scan_lf s hS _ p (Nat.le_refl _) h2
        by_cases hf : f < s.size
        · obtain ⟨q0, q, a, b, c, d, e⟩ := ih (f + 1) (by omega) (by omega)
          exact ⟨q0, q, .remark p f q0 a1 hf hc a3 (a4 hf) a, b, c, skip_remark hS a1 hf hc a3 (a4 hf) d, e⟩
        · have hn : ∀ j : Nat, p ≤ j → j < s.size → bt s (j : Int) ≠ 10 := fun j h1 h2 => a3 j h1 (by omega)
          exact ⟨p, s.size, .done p, h2, Nat.le_refl _, skip_open hS hp hc hn, .inr ⟨rfl, hp, hc, hn⟩⟩
      · exact ⟨p, p, .done p, Nat.le_refl _, h2, skip_here h2 (fun _ => ⟨hc, hc4⟩), .inl ⟨rfl, fun _ => ⟨hc, hc4⟩⟩⟩
    · exact ⟨p, p, .done p, Nat.le_refl _, h2, skip_here h2 (fun h => by omega), .inl ⟨rfl, fun h => by omega⟩⟩
/-- The same blanks and remarks in another text. -/
theorem bl_go {s : ByteArray} {p q : Nat} (h : Bl s p q) : ∀ (t : ByteArray) (p' : Nat), t.size ≤ 140737488351232 → p' + (q - p) ≤ t.size → (∀ j : Nat, p ≤ j → j < q → bt t ((p' + (j - p) : Nat) : Int) = bt s (j : Int)) →
    ∀ z : Int, Ev (fun k => lex_skip.l0 k t ((p' + (q - p) : Nat) : Int)) z → Ev (fun k => lex_skip.l0 k t (p' : Int)) z := by
  induction h with
  | done p => intro t p' hT h1 h2 z hz; simpa using hz
  | blank p q hp hc hb ih =>
    intro t p' hT h1 h2 z hz
    have hle := hb.le
    have h0 := h2 p (Nat.le_refl _) (by omega)
    rw [Nat.sub_self, Nat.add_zero] at h0
    refine skip_blank hT (by omega) (by rw [h0]; exact hc) (ih t (p' + 1) hT (by omega) (fun j hj1 hj2 => ?_) z ?_)
    · have := h2 j (by omega) hj2
      rw [show p' + 1 + (j - (p + 1)) = p' + (j - p) by omega]; exact this
    · rw [show p' + 1 + (q - (p + 1)) = p' + (q - p) by omega]; exact hz
  | remark p f q hpf hf hc hn h10 hb ih =>
    intro t p' hT h1 h2 z hz
    have hle := hb.le
    have h0 := h2 p (Nat.le_refl _) (by omega)
    rw [Nat.sub_self, Nat.add_zero] at h0
    refine skip_remark hT (p := p') (f := p' + (f - p)) (by omega) (by omega) (by rw [h0]; exact hc) (fun j hj1 hj2 => ?_) ?_ (ih t (p' + (f - p) + 1) hT (by omega) (fun j hj1 hj2 => ?_) z ?_)
    · have := h2 (p + (j - p')) (by omega) (by omega)
      rw [show p' + (p + (j - p') - p) = j by omega] at this
      rw [this]
      exact hn _ (by omega) (by omega)
    · rw [h2 f (by omega) (by omega)]; exact h10
    · have := h2 j (by omega) hj2
      rw [show p' + (f - p) + 1 + (j - (f + 1)) = p' + (j - p) by omega]; exact this
    · rw [show p' + (f - p) + 1 + (q - (f + 1)) = p' + (q - p) by omega]; exact hz
theorem piece_get (s : ByteArray) (p q i : Nat) (h : p + i < q) (hq : q ≤ s.size) : (s.extract p q).data.toList[i]? = s.data.toList[p + i]? := by
  rw [Lib.extract_data, List.getElem?_take, if_pos (by omega), List.getElem?_drop]
theorem piece_size {s : ByteArray} {p q : Nat} (hq : q ≤ s.size) : (s.extract p q).size = q - p := by simp; omega
theorem bt_piece {s : ByteArray} {p q i : Nat} (h : p + i < q) (hq : q ≤ s.size) : bt (s.extract p q) (i : Int) = bt s ((p + i : Nat) : Int) := by
  have hs := piece_size (s := s) (p := p) hq
  have h1 := bt_get (s := s.extract p q) (i := i) (by omega)
  rw [piece_get s p q i h hq, bt_get (by omega)] at h1
  have h2 := bt_range s ((p + i : Nat) : Int)
  have h3 := bt_range (s.extract p q) (i : Int)
  have h4 := congrArg UInt8.toNat (Option.some.inj h1)
  rw [UInt8.toNat_ofNat', UInt8.toNat_ofNat'] at h4
  omega
end Go.Proofs.YtgkcjefbagnkpaaDoor.PLex
