import Derived.Test.YtgkcjefbagnkpaaDoorPureD
namespace Go.Proofs.YtgkcjefbagnkpaaDoor.PLex
set_option linter.unusedVariables false
set_option linter.unusedSimpArgs false
open Go Go.RowKit Go.Proofs.YtgkcjefbagnkpaaDoorW.PrintWords Go.Proofs.YtgkcjefbagnkpaaDoorW.PrintMore

/-! ### The tokens of a text -/
def tk (r : Tok) : Tk := (⟨r.1, r.2.1, r.2.2.1, r.2.2.2.1⟩, r.2.2.2.2.1, r.2.2.2.2.2)
/-- One step of Next from the place p, its token standing at q. -/
structure Nx (s : ByteArray) (p q : Nat) (r : Tok) : Prop where
  le : p ≤ q
  le2 : q ≤ s.size
  skip : Ev (fun k => lex_skip.l0 k s (p : Int)) (q : Int)
  tok : TokAt s q r
  lex : Ev (fun k => lex_Next.f k s (p : Int)) r
  ref : Ev (fun k => gnomonref09_Next.f k s (p : Int)) r
theorem nx {s : ByteArray} (hS : s.size ≤ 140737488351232) {p : Nat} (hp : p ≤ s.size) : ∃ q r, Nx s p q r := by
  obtain ⟨q, r, a, b, c, d, e, f⟩ := next_in hS hp
  exact ⟨q, r, a, b, c, d, e, f⟩
theorem TokAt.kind {s : ByteArray} {q : Nat} {r : Tok} (h : TokAt s q r) : 0 ≤ r.1 ∧ r.1 ≤ 3 := by
  cases h with
  | end_ => exact ⟨by simp, by simp⟩
  | word => exact ⟨by simp, by simp⟩
  | number => unfold numEnd; split <;> exact ⟨by simp, by simp⟩
  | sign => unfold signEnd; split <;> (try split) <;> exact ⟨by simp, by simp⟩
/-- A token that is none of the last ones: its text, and the place behind it. -/
theorem TokAt.step {s : ByteArray} {q : Nat} {r : Tok} (h : TokAt s q r) (he : r.2.2.2.2.2 = 0) (hk : r.1 ≠ 0) :
    q < s.size ∧ ∃ m : Nat, 1 ≤ m ∧ q + m ≤ s.size ∧ r.2.1 = s.extract q (q + m) ∧ r.2.2.2.1 = (q : Int) ∧ r.2.2.2.2.1 = ((q + m : Nat) : Int) := by
  cases h with
  | end_ => exact absurd rfl hk
  | word m h1 h2 h3 h4 => exact ⟨h1, m, h3, h4, rfl, rfl, rfl⟩
  | number m v h1 h2 h3 h4 =>
    refine ⟨h1, m, h3, h4, ?_⟩
    unfold numEnd at he hk ⊢
    split at he
    · cases he
    · rename_i hx; rw [if_neg hx]; exact ⟨rfl, rfl, rfl⟩
  | sign h1 =>
    refine ⟨h1, ?_⟩
    unfold signEnd at he hk ⊢
    split at he
    · rename_i hx; rw [if_pos hx]; exact ⟨2, by omega, hx.1, rfl, rfl, rfl⟩
    · rename_i hx
      rw [if_neg hx] at hk ⊢
      split at he
      · rename_i hy; rw [if_pos hy]; exact ⟨1, by omega, by omega, rfl, rfl, rfl⟩
      · cases he
inductive Chain (s : ByteArray) : Nat → List Tk → Prop
  | stop (p q : Nat) (r : Tok) : Nx s p q r → (r.2.2.2.2.2 ≠ 0 ∨ r.1 = 0) → Chain s p [tk r]
  | go (p q n : Nat) (r : Tok) (l : List Tk) : Nx s p q r → r.2.2.2.2.2 = 0 → r.1 ≠ 0 → r.2.2.2.2.1 = (n : Int) → q < n → n ≤ s.size → Chain s n l → Chain s p (tk r :: l)
theorem toks_ev {s : ByteArray} (hS : s.size ≤ 140737488351232) : ∀ n p : Nat, s.size - p ≤ n → p ≤ s.size → ∃ l, Ev (fun k => lex_All.toks k s (p : Int)) l ∧ Chain s p l ∧ l.length ≤ s.size - p + 1 := by
  intro n
  induction n with
  | zero =>
    intro p h1 h2
    obtain ⟨q, r, h⟩ := nx hS h2
    have hd : r.2.2.2.2.2 ≠ 0 ∨ r.1 = 0 := by
      rcases Classical.em (r.2.2.2.2.2 = 0) with he | he
      · rcases Classical.em (r.1 = 0) with hk | hk
        · exact .inr hk
        · have := (h.tok.step he hk).1
          have := h.le
          omega
      · exact .inl he
    refine ⟨[tk r], ?_, .stop p q r h hd, by simp⟩
    refine Ev.step (fun k => by (rw [lex_All.toks]; try rfl)) (Ev.bind h.lex ?_)
    exact Ev.congr (fun k => by rw [if_pos hd]; rfl) (Ev.now _)
  | succ n ih =>
    intro p h1 h2
    obtain ⟨q, r, h⟩ := nx hS h2
    by_cases hd : r.2.2.2.2.2 ≠ 0 ∨ r.1 = 0
    · refine ⟨[tk r], ?_, .stop p q r h hd, by simp⟩
      refine Ev.step (fun k => by (rw [lex_All.toks]; try rfl)) (Ev.bind h.lex ?_)
      exact Ev.congr (fun k => by rw [if_pos hd]; rfl) (Ev.now _)
    · have hd' := not_or.1 hd
      have he : r.2.2.2.2.2 = 0 := Classical.not_not.1 hd'.1
      obtain ⟨hq, m, hm1, hm2, _, _, hn⟩ := h.tok.step he hd'.2
      have hle := h.le
      obtain ⟨l, a, b, c⟩ := ih (q + m) (by omega) hm2
      refine ⟨tk r :: l, ?_, .go p q (q + m) r l h he hd'.2 hn (by omega) hm2 b, by simp only [List.length_cons]; omega⟩
      refine Ev.step (fun k => by (rw [lex_All.toks]; try rfl)) (Ev.bind h.lex ?_)
      obtain ⟨K, hK⟩ := a
      refine ⟨K, fun k hk => ?_⟩
      have : lex_All.toks k s r.2.2.2.2.1 = some l := by rw [hn]; exact hK k hk
      dsimp only
      rw [if_neg hd, this]
      rfl
def conv (x : Tk) : S29 := ⟨x.1.f0, x.1.f1, x.1.f2, x.1.f3⟩
def allOut (acc : List S29) (l : List Tk) : List S29 × Int × Int := match l.getLast? with
  | some x => if x.2.2 = 0 then (acc ++ l.map conv, 0, 0) else ([], x.2.2, x.2.1)
  | none => ([], 0, 0)
theorem Chain.ne {s : ByteArray} {p : Nat} {l : List Tk} (h : Chain s p l) : l ≠ [] := by cases h <;> simp
theorem all_ref {s : ByteArray} {p : Nat} {l : List Tk} (h : Chain s p l) : ∀ acc : List S29, acc.length + l.length ≤ 3518437208883 → Ev (fun k => gnomonref09_All.l0 k s acc (p : Int)) (allOut acc l) := by
  induction h with
  | stop p q r h hd =>
    intro acc hl
    simp only [List.length_singleton] at hl
    refine Ev.step (fun k => by (rw [gnomonref09_All.l0]; try rfl)) (Ev.bind h.ref ?_)
    refine Ev.congr (fun k => ?_) (Ev.now _)
    by_cases he : r.2.2.2.2.2 = 0
    · have hk := hd.resolve_left (fun h => h he)
      rw [if_pos he, if_pos (by omega), Option.bind_some, if_pos hk]
      show _ = some (allOut acc [tk r])
      unfold allOut
      rw [List.getLast?_singleton]
      dsimp only
      rw [if_pos (show (tk r).2.2 = 0 from he)]
      rfl
    · rw [if_neg he]
      show _ = some (allOut acc [tk r])
      unfold allOut
      rw [List.getLast?_singleton]
      dsimp only
      rw [if_neg (show ¬ (tk r).2.2 = 0 from he)]
      rfl
  | go p q n r l h he hk hn _ _ hc ih =>
    intro acc hl
    simp only [List.length_cons] at hl
    have hr := ih (acc ++ [conv (tk r)]) (by simp only [List.length_append, List.length_singleton]; omega)
    refine Ev.step (fun k => by (rw [gnomonref09_All.l0]; try rfl)) (Ev.bind h.ref ?_)
    have e : allOut acc (tk r :: l) = allOut (acc ++ [conv (tk r)]) l := by
      unfold allOut
      obtain ⟨y, l', rfl⟩ := List.exists_cons_of_ne_nil hc.ne
      rw [List.getLast?_cons_cons]
      simp
    rw [e]
    refine Ev.congr (fun k => ?_) hr
    rw [if_pos he, if_pos (by omega), Option.bind_some, if_neg hk, hn]
    rfl
theorem Chain.kinds {s : ByteArray} {p : Nat} {l : List Tk} (h : Chain s p l) : ∀ x ∈ l, 0 ≤ x.1.f0 ∧ x.1.f0 ≤ 3 := by
  induction h with
  | stop p q r h hd => intro x hx; obtain rfl := List.mem_singleton.1 hx; exact h.tok.kind
  | go p q n r l h he hk hn _ _ hc ih =>
    intro x hx
    rcases List.mem_cons.1 hx with rfl | hx
    · exact h.tok.kind
    · exact ih x hx
theorem all_loop (l : List Tk) (hl : l.length ≤ 140737488351232) (hk : ∀ x ∈ l, 0 ≤ x.1.f0 ∧ x.1.f0 ≤ 3) : ∀ n i : Nat, l.length - i ≤ n → i ≤ l.length → Ev (fun k => gnomonlaw09_LexAll.l0 k (l.map (·.1)) (l.map conv) (i : Int)) true := by
  intro n
  induction n with
  | zero =>
    intro i h1 h2
    exact Ev.step (fun k => by rw [gnomonlaw09_LexAll.l0, if_neg (by rw [List.length_map]; omega)]) (Ev.now _)
  | succ n ih =>
    intro i h1 h2
    by_cases hi : i < l.length
    · refine Ev.step (fun k => ?_) (ih (i + 1) (by omega) (by omega))
      rw [gnomonlaw09_LexAll.l0, if_pos (by rw [List.length_map]; omega), if_pos (by omega), if_pos (by rw [List.length_map]; omega)]
      have e1 : rd_T24 (l.map (·.1)) (i : Int) = (l[i]).1 := by unfold rd_T24; simp [List.getD, hi]
      have e2 : rd_T29 (l.map conv) (i : Int) = conv (l[i]) := by unfold rd_T29; simp [List.getD, hi]
      rw [e1, e2]
      unfold conv
      rw [same_self _ _ _ _ (hk _ (List.getElem_mem hi)), Option.bind_some, if_pos rfl, w1 (by omega)]
    · exact Ev.step (fun k => by rw [gnomonlaw09_LexAll.l0, if_neg (by rw [List.length_map]; omega)]) (Ev.now _)
/-- What All hands back. -/
def lexOut (l : List Tk) : List S24 × Int × Int := match l.getLast? with
  | some x => if x.2.2 = 0 then (l.map (·.1), 0, 0) else ([], x.2.2, x.2.1)
  | none => ([], 0, 0)
theorem all_lex {s : ByteArray} {l : List Tk} (h : Ev (fun k => lex_All.toks k s 0) l) (hc : l ≠ []) (hl : l.length < 3518437208883) : Ev (fun k => lex_All.f k s) (lexOut l) := by
  refine Ev.bind (f := fun _ => lex_All.out) h ?_
  refine Ev.congr (fun k => ?_) (Ev.now _)
  unfold lex_All.out lexOut
  rw [if_pos hl]
  cases he : l.getLast? with
  | none => exact absurd (List.getLast?_eq_none_iff.1 he) hc
  | some x =>
    rw [Option.bind_some]
    dsimp only
    split <;> rfl
theorem all_both {s : ByteArray} (hS : s.size ≤ 1048576) : ∃ l, Chain s 0 l ∧ l.length ≤ s.size + 1 ∧ Ev (fun k => lex_All.f k s) (lexOut l) ∧ Ev (fun k => gnomonref09_All.f k s) (allOut [] l) := by
  obtain ⟨l, a, b, c⟩ := toks_ev (s := s) (by omega) s.size 0 (by omega) (Nat.zero_le _)
  exact ⟨l, b, by omega, all_lex a b.ne (by omega), all_ref b [] (by simp only [List.length_nil]; omega)⟩
theorem LexAll_pure : ∀ (a0 : ByteArray), a0.size ≤ 140737488351232 → (a0.size + 1) ≤ 1048576 → ∃ k, gnomonlaw09_LexAll.f k a0 = some true := by
  intro s h0 h1
  obtain ⟨l, hc, hl, a, b⟩ := all_both (s := s) (by omega)
  refine Ev.rounds (g := fun k => gnomonlaw09_LexAll.f k s) ?_
  refine Ev.bind a (Ev.bind b (Ev.bind live_ev ?_))
  have fin : ∀ k, (if (true : Bool) = true then (if (lexOut l).2.1 = (allOut [] l).2.1 then (if (lexOut l).2.2 = (allOut [] l).2.2 then (gnomonlaw09_LexAll.j0 k (lexOut l).1 (allOut [] l).1 (((lexOut l).1.length : Int) != ((allOut [] l).1.length : Int))) else (gnomonlaw09_LexAll.j0 k (lexOut l).1 (allOut [] l).1 true)) else (gnomonlaw09_LexAll.j0 k (lexOut l).1 (allOut [] l).1 true)) else (gnomonlaw09_LexAll.j0 k (lexOut l).1 (allOut [] l).1 true)) =
      gnomonlaw09_LexAll.j0 k (lexOut l).1 (allOut [] l).1 false ∧ ((lexOut l).1 = [] ∧ (allOut [] l).1 = [] ∨ (lexOut l).1 = l.map (·.1) ∧ (allOut [] l).1 = l.map conv) := by
    intro k
    rw [if_pos rfl]
    unfold lexOut allOut
    cases he : l.getLast? with
    | none => exact absurd (List.getLast?_eq_none_iff.1 he) hc.ne
    | some x =>
      dsimp only
      by_cases hx : x.2.2 = 0
      · simp only [hx]
        simp
      · simp only [if_neg hx]
        simp
  refine Ev.congr (fun k => (fin k).1) (Ev.step (fun k => by (rw [gnomonlaw09_LexAll.j0, if_neg (by decide)]; try rfl)) ?_)
  rcases (fin 0).2 with ⟨e1, e2⟩ | ⟨e1, e2⟩
  · rw [e1, e2]
    exact all_loop [] (by simp) (fun x hx => by cases hx) 0 0 (by simp) (by simp)
  · rw [e1, e2]
    exact all_loop l (by omega) hc.kinds l.length 0 (by omega) (by omega)
end Go.Proofs.YtgkcjefbagnkpaaDoor.PLex
