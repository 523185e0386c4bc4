import Derived.Test.YtgkcjefbagnkpaaDoorPureK
namespace Go.Proofs.YtgkcjefbagnkpaaDoor.PLex
set_option linter.unusedVariables false
set_option linter.unusedSimpArgs false
open Go Go.RowKit Go.Proofs.YtgkcjefbagnkpaaDoorW.PrintWords Go.Proofs.YtgkcjefbagnkpaaDoorW.PrintMore

theorem toks_stop {s : ByteArray} {p q : Nat} {r : Tok} (h : Nx s p q r) (hd : r.2.2.2.2.2 ≠ 0 ∨ r.1 = 0) : Ev (fun k => lex_All.toks k s (p : Int)) [tk r] := by
  refine Ev.step (fun k => by (rw [lex_All.toks]; try rfl)) (Ev.bind h.lex ?_)
  exact Ev.congr (fun k => by rw [if_pos hd]; rfl) (Ev.now _)
theorem toks_cons {s : ByteArray} {p q n : Nat} {r : Tok} {l : List Tk} (h : Nx s p q r) (he : r.2.2.2.2.2 = 0) (hk : r.1 ≠ 0) (hn : r.2.2.2.2.1 = (n : Int)) (hl : Ev (fun k => lex_All.toks k s (n : Int)) l) : Ev (fun k => lex_All.toks k s (p : Int)) (tk r :: l) := by
  refine Ev.step (fun k => by (rw [lex_All.toks]; try rfl)) (Ev.bind h.lex ?_)
  obtain ⟨K, hK⟩ := hl
  refine ⟨K, fun k hk2 => ?_⟩
  have : lex_All.toks k s r.2.2.2.2.1 = some l := by rw [hn]; exact hK k hk2
  dsimp only
  rw [if_neg (fun h => h.elim (fun h => h he) hk), this]
  rfl
/-- The same tokens, but for their places. -/
inductive Same : List Tk → List Tk → Prop
  | nil : Same [] []
  | cons (x x' : Tk) (l l' : List Tk) : x'.1.f0 = x.1.f0 → x'.1.f1 = x.1.f1 → x'.1.f2 = x.1.f2 → Same l l' → Same (x :: l) (x' :: l')
theorem Same.len {l l' : List Tk} (h : Same l l') : l'.length = l.length := by
  induction h with
  | nil => rfl
  | cons x x' l l' _ _ _ _ ih => simp [ih]
theorem Same.get {l l' : List Tk} (h : Same l l') : ∀ (i : Nat) (h1 : i < l.length) (h2 : i < l'.length), l'[i].1.f0 = l[i].1.f0 ∧ l'[i].1.f1 = l[i].1.f1 ∧ l'[i].1.f2 = l[i].1.f2 := by
  induction h with
  | nil => intro i h1; exact absurd h1 (Nat.not_lt_zero _)
  | cons x x' l l' a b c _ ih =>
    intro i h1 h2
    cases i with
    | zero => exact ⟨a, b, c⟩
    | succ i => exact ih i (by simpa using h1) (by simpa using h2)
theorem end_tok {s : ByteArray} {q : Nat} {r : Tok} (h : TokAt s q r) (he : r.2.2.2.2.2 = 0) (hk : r.1 = 0) : q = s.size ∧ r = (0, ⟨#[]⟩, 0, (q : Int), (q : Int), 0) := by
  cases h with
  | end_ e => exact ⟨e, rfl⟩
  | word => cases hk
  | number =>
    unfold numEnd at hk he
    split at he
    · cases he
    · rename_i hx; rw [if_neg hx] at hk; cases hk
  | sign =>
    unfold signEnd at hk he
    split at he
    · rename_i hx; rw [if_pos hx] at hk; cases hk
    · rename_i hx
      rw [if_neg hx] at hk
      split at he
      · rename_i hy; rw [if_pos hy] at hk; cases hk
      · cases he
theorem first_byte {s : ByteArray} {q : Nat} {r : Tok} (h : TokAt s q r) (hk : q < s.size) : cls (bt s (q : Int)) ≠ 1 ∧ cls (bt s (q : Int)) ≠ 4 := by
  cases h with
  | end_ e => omega
  | word m a b => rw [b]; exact ⟨by decide, by decide⟩
  | number m v a b => rw [b]; exact ⟨by decide, by decide⟩
  | sign a b c d e => exact ⟨b, e⟩
theorem bt_of_get {s t : ByteArray} {a b : Nat} (h : t.data.toList[a]? = s.data.toList[b]?) (ha : a < t.size) (hb : b < s.size) : bt t (a : Int) = bt s (b : Int) := by
  rw [bt_get ha, bt_get hb] at h
  have h2 := bt_range s (b : Int)
  have h3 := bt_range t (a : Int)
  have h4 := congrArg UInt8.toNat (Option.some.inj h)
  rw [UInt8.toNat_ofNat', UInt8.toNat_ofNat'] at h4
  omega
theorem bt_of_byte {t : ByteArray} {a : Nat} {c : UInt8} (h : t.data.toList[a]? = some c) : a < t.size ∧ bt t (a : Int) = (c.toNat : Int) := by
  have ha : a < t.size := by
    rcases Nat.lt_or_ge a t.size with h1 | h1
    · exact h1
    · rw [List.getElem?_eq_none (by rw [data_length]; omega)] at h; cases h
  exact ⟨ha, (byte_eq ha).1 h⟩
end Go.Proofs.YtgkcjefbagnkpaaDoor.PLex
