import Derived.Test.YtgkcjefbagnkpaaDoorPureD
namespace Go.Proofs.YtgkcjefbagnkpaaDoor.PLex
set_option linter.unusedVariables false
set_option linter.unusedSimpArgs false
open Go Go.RowKit Go.Proofs.YtgkcjefbagnkpaaDoorW.PrintWords Go.Proofs.YtgkcjefbagnkpaaDoorW.PrintMore

/-! ### The tokens of a text -/
def tk (r : Tok) : Tk := (⟨r.1, r.2.1, r.2.2.1, r.2.2.2.1⟩, r.2.2.2.2.1, r.2.2.2.2.2)
/-- One step of Next from the place p, its token standing at q. -/
structure Nx (s : ByteArray) (p q : Nat) (r : Tok) : Prop where
  le : p ≤ q
  le2 : q ≤ s.size
  skip : Ev (fun k => lex_skip.l0 k s (p : Int)) (q : Int)
  tok : TokAt s q r
  lex : Ev (fun k => lex_Next.f k s (p : Int)) r
  ref : Ev (fun k => gnomonref09_Next.f k s (p : Int)) r
theorem nx {s : ByteArray} (hS : s.size ≤ 140737488351232) {p : Nat} (hp : p ≤ s.size) : ∃ q r, Nx s p q r := by
  obtain ⟨q, r, a, b, c, d, e, f⟩ := next_in hS hp
  exact ⟨q, r, a, b, c, d, e, f⟩
theorem TokAt.kind {s : ByteArray} {q : Nat} {r : Tok} (h : TokAt s q r) : 0 ≤ r.1 ∧ r.1 ≤ 3 := by
  cases h with
  | end_ => exact ⟨by simp, by simp⟩
  | word => exact ⟨by simp, by simp⟩
  | number => unfold numEnd; split <;> exact ⟨by simp, by simp⟩
  | sign => unfold signEnd; split <;> (try split) <;> exact ⟨by simp, by simp⟩
/-- A token that is none of the last ones: its text, and the place behind it. -/
theorem TokAt.step {s : ByteArray} {q : Nat} {r : Tok} (h : TokAt s q r) (he : r.2.2.2.2.2 = 0) (hk : r.1 ≠ 0) :
    q < s.size ∧ ∃ m : Nat, 1 ≤ m ∧ q + m ≤ s.size ∧ r.2.1 = s.extract q (q + m) ∧ r.2.2.2.1 = (q : Int) ∧ r.2.2.2.2.1 = ((q + m : Nat) : Int) := by
  cases h with
  | end_ => exact absurd rfl hk
  | word m h1 h2 h3 h4 => exact ⟨h1, m, h3, h4, rfl, rfl, rfl⟩
  | number m v h1 h2 h3 h4 =>
    refine ⟨h1, m, h3, h4, ?_⟩
    unfold numEnd at he hk ⊢
    split at he
    · cases he
    · rename_i hx; rw [if_neg hx]; exact ⟨rfl, rfl, rfl⟩
  | sign h1 =>
    refine ⟨h1, ?_⟩
    unfold signEnd at he hk ⊢
    split at he
    · rename_i hx; rw [if_pos hx]; exact ⟨2, by omega, hx.1, rfl, rfl, rfl⟩
    · rename_i hx
      rw [if_neg hx] at hk ⊢
      split at he
      · rename_i hy; rw [if_pos hy]; exact ⟨1, by omega, by omega, rfl, rfl, rfl⟩
      · cases he
inductive Chain (s : ByteArray) : Nat → List Tk → Prop
  | stop (p q : Nat) (r : Tok) : Nx s p q r → (r.2.2.2.2.2 ≠ 0 ∨ r.1 = 0) → Chain s p [tk r]
  | go (p q n : Nat) (r : Tok) (l : List Tk) : Nx s p q r → r.2.2.2.2.2 = 0 → r.1 ≠ 0 → r.2.2.2.2.1 = (n : Int) → q < n → n ≤ s.size → Chain s n l → Chain s p (tk r :: l)
theorem toks_ev {s : ByteArray} (hS : s.size ≤ 140737488351232) : ∀ n p : Nat, s.size - p ≤ n → p ≤ s.size → ∃ l, Ev (fun k => lex_All.toks k s (p : Int)) l ∧ Chain s p l ∧ l.length ≤ s.size - p + 1 := by
  intro n
  induction n with
  | zero =>
    intro p h1 h2
    obtain ⟨q, r, h⟩ := nx hS h2
    have hd : r.2.2.2.2.2 ≠ 0 ∨ r.1 = 0 := by
      rcases Classical.em (r.2.2.2.2.2 = 0) with he | he
      · rcases Classical.em (r.1 = 0) with hk | hk
        · exact .inr hk
        · have := (h.tok.step he hk).1
          have := h.le
          omega
      · exact .inl he
    refine ⟨[tk r], ?_, .stop p q r h hd, by simp⟩
    refine Ev.step (fun k => by (rw [lex_All.toks]; try rfl)) (Ev.bind h.lex ?_)
    exact Ev.congr (fun k => by rw [if_pos hd]; rfl) (Ev.now _)
  | succ n ih =>
    intro p h1 h2
    obtain ⟨q, r, h⟩ := nx hS h2
    by_cases hd : r.2.2.2.2.2 ≠ 0 ∨ r.1 = 0
    · refine ⟨[tk r], ?_, .stop p q r h hd, by simp⟩
      refine Ev.step (fun k => by (rw [lex_All.toks]; try rfl)) (Ev.bind h.lex ?_)
      exact Ev.congr (fun k => by rw [if_pos hd]; rfl) (Ev.now _)
    · have hd' := not_or.1 hd
      have he : r.2.2.2.2.2 = 0 := Classical.not_not.1 hd'.1
      obtain ⟨hq, m, hm1, hm2, _, _, hn⟩ := h.tok.step he hd'.2
      have hle := h.le
      obtain ⟨l, a, b, c⟩ := ih (q + m) (by omega) hm2
      refine ⟨tk r :: l, ?_, .go p q (q + m) r l h he hd'.2 hn (by omega) hm2 b, by simp only [List.length_cons]; omega⟩
      refine Ev.step (fun k => by (rw [lex_All.toks]; try rfl)) (Ev.bind h.lex ?_)
      obtain ⟨K, hK⟩ := a
      refine ⟨K, fun k hk => ?_⟩
      have : lex_All.toks k s r.2.2.2.2.1 = some l := by rw [hn]; exact hK k hk
      dsimp only
      rw [if_neg hd, this]
      rfl
def conv (x : Tk) : S29 := ⟨x.1.f0, x.1.f1, x.1.f2, x.1.f3⟩
theorem Chain.ne {s : ByteArray} {p : Nat} {l : List Tk} (h : Chain s p l) : l ≠ [] := by cases h <;> simp
theorem Chain.kinds {s : ByteArray} {p : Nat} {l : List Tk} (h : Chain s p l) : ∀ x ∈ l, 0 ≤ x.1.f0 ∧ x.1.f0 ≤ 3 := by
  induction h with
  | stop p q r h hd => intro x hx; obtain rfl := List.mem_singleton.1 hx; exact h.tok.kind
  | go p q n r l h he hk hn _ _ hc ih =>
    intro x hx
    rcases List.mem_cons.1 hx with rfl | hx
    · exact h.tok.kind
    · exact ih x hx
/-- What All hands back. -/
def lexOut (l : List Tk) : List S24 × Int × Int := match l.getLast? with
  | some x => if x.2.2 = 0 then (l.map (·.1), 0, 0) else ([], x.2.2, x.2.1)
  | none => ([], 0, 0)
theorem all_lex {s : ByteArray} {l : List Tk} (h : Ev (fun k => lex_All.toks k s 0) l) (hc : l ≠ []) (hl : l.length < 3518437208883) : Ev (fun k => lex_All.f k s) (lexOut l) := by
  refine Ev.bind (f := fun _ => lex_All.out) h ?_
  refine Ev.congr (fun k => ?_) (Ev.now _)
  unfold lex_All.out lexOut
  rw [if_pos hl]
  cases he : l.getLast? with
  | none => exact absurd (List.getLast?_eq_none_iff.1 he) hc
  | some x =>
    rw [Option.bind_some]
    dsimp only
    split <;> rfl
theorem rd24_get (l : List S24) (i : Nat) (hi : i < l.length) : rd_T24 l (i : Int) = l[i] := by unfold rd_T24; simp [List.getD, hi]
theorem all_one {s : ByteArray} (hS : s.size ≤ 1048576) : ∃ l, Chain s 0 l ∧ l.length ≤ s.size + 1 ∧ Ev (fun k => lex_All.f k s) (lexOut l) := by
  obtain ⟨l, a, b, c⟩ := toks_ev (s := s) (by omega) s.size 0 (by omega) (Nat.zero_le _)
  exact ⟨l, b, by omega, all_lex a b.ne (by omega)⟩
end Go.Proofs.YtgkcjefbagnkpaaDoor.PLex
