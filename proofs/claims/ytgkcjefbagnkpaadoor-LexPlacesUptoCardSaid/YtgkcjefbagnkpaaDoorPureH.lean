import Derived.Test.YtgkcjefbagnkpaaDoorPureE
import Derived.Test.YtgkcjefbagnkpaaDoorPLexx9
namespace Go.Proofs.YtgkcjefbagnkpaaDoor.PLex
set_option linter.unusedVariables false
set_option linter.unusedSimpArgs false
open Go Go.RowKit Go.Proofs.YtgkcjefbagnkpaaDoorW.PrintWords Go.Proofs.YtgkcjefbagnkpaaDoorW.PrintMore

/-! ### The way over blanks and remarks -/
theorem Ev.uniq' {α : Type} {g : Nat → Option α} {a b : α} (h : Ev g a) (h' : Ev g b) : a = b := by
  obtain ⟨K, h⟩ := h
  obtain ⟨K', h'⟩ := h'
  have h1 := h (max K K') (by omega)
  rw [h' (max K K') (by omega)] at h1
  exact (Option.some.inj h1).symm
theorem skip_blank {t : ByteArray} (hT : t.size ≤ 140737488351232) {p : Nat} {z : Int} (hp : p < t.size) (hc : cls (bt t (p : Int)) = 1) (h : Ev (fun k => lex_skip.l0 k t ((p + 1 : Nat) : Int)) z) : Ev (fun k => lex_skip.l0 k t (p : Int)) z := by
  refine Ev.step (fun k => by (rw [lex_skip.l0, if_pos (by omega), if_pos (by omega)]; try rfl)) (Ev.bind (of_ev t p) ?_)
  refine Ev.congr (fun k => ?_) h
  rw [hc, if_neg (by omega), if_pos rfl, w1 (by omega)]
theorem skip_remark {t : ByteArray} (hT : t.size ≤ 140737488351232) {p f : Nat} {z : Int} (hp : p ≤ f) (hf : f < t.size) (hc : cls (bt t (p : Int)) = 4) (hn : ∀ j : Nat, p ≤ j → j < f → bt t (j : Int) ≠ 10) (h10 : bt t (f : Int) = 10)
    (h : Ev (fun k => lex_skip.l0 k t ((f + 1 : Nat) : Int)) z) : Ev (fun k => lex_skip.l0 k t (p : Int)) z := by
  have hi := index_at hp (by omega) hn (fun _ => h10)
  rw [if_pos hf] at hi
  refine Ev.step (fun k => by (rw [lex_skip.l0, if_pos (by omega), if_pos (by omega)]; try rfl)) (Ev.bind (of_ev t p) ?_)
  refine Ev.congr (fun k => ?_) h
  rw [hc, if_pos rfl, if_pos (by omega), strings_IndexByte.f, Option.bind_some]
  rw [show (Int.toNat 10).toUInt8 = 10 from rfl, show ((p : Int).toNat) = p from rfl, hi, if_neg (by omega), wn (by omega), w1 (by omega), show p + (f - p) + 1 = f + 1 by omega]
theorem skip_open {t : ByteArray} (hT : t.size ≤ 140737488351232) {p : Nat} (hp : p < t.size) (hc : cls (bt t (p : Int)) = 4) (hn : ∀ j : Nat, p ≤ j → j < t.size → bt t (j : Int) ≠ 10) :
    Ev (fun k => lex_skip.l0 k t (p : Int)) (t.size : Int) := by
  have hi := index_at (q := t.size) (by omega) (Nat.le_refl _) hn (fun h => by omega)
  rw [if_neg (by omega)] at hi
  refine Ev.step (fun k => by (rw [lex_skip.l0, if_pos (by omega), if_pos (by omega)]; try rfl)) (Ev.bind (of_ev t p) ?_)
  refine Ev.congr (fun k => ?_) (Ev.now _)
  rw [hc, if_pos rfl, if_pos (by omega), strings_IndexByte.f, Option.bind_some]
  rw [show (Int.toNat 10).toUInt8 = 10 from rfl, show ((p : Int).toNat) = p from rfl, hi, if_pos (by omega)]
theorem skip_here {t : ByteArray} {p : Nat} (hp : p ≤ t.size) (hc : p < t.size → cls (bt t (p : Int)) ≠ 1 ∧ cls (bt t (p : Int)) ≠ 4) : Ev (fun k => lex_skip.l0 k t (p : Int)) (p : Int) := by
  by_cases h : p < t.size
  · refine Ev.step (fun k => by (rw [lex_skip.l0, if_pos (by omega), if_pos (by omega)]; try rfl)) (Ev.bind (of_ev t p) ?_)
    refine Ev.congr (fun k => ?_) (Ev.now _)
    rw [if_neg (hc h).2, if_neg (hc h).1]
  · exact Ev.step (fun k => by rw [lex_skip.l0, if_neg (by omega)]) (Ev.now _)
/-- Blanks, and remarks with their line feeds. -/
inductive Bl (s : ByteArray) : Nat → Nat → Prop
  | done (p : Nat) : Bl s p p
  | blank (p q : Nat) : p < s.size → cls (bt s (p : Int)) = 1 → Bl s (p + 1) q → Bl s p q
  | remark (p f q : Nat) : p ≤ f → f < s.size → cls (bt s (p : Int)) = 4 → (∀ j : Nat, p ≤ j → j < f → bt s (j : Int) ≠ 10) → bt s (f : Int) = 10 → Bl s (f + 1) q → Bl s p q
theorem Bl.le {s : ByteArray} {p q : Nat} (h : Bl s p q) : p ≤ q := by
  induction h with
  | done => omega
  | blank => omega
  | remark => omega
/-- Where the way ends: at a token, at the text's end, or in a last remark that no line feed ends. -/
theorem skip_shape (s : ByteArray) (hS : s.size ≤ 140737488351232) : ∀ n p : Nat, s.size - p ≤ n → p ≤ s.size → ∃ q0 q : Nat, Bl s p q0 ∧ q0 ≤ q ∧ q ≤ s.size ∧ Ev (fun k => lex_skip.l0 k s (p : Int)) (q : Int) ∧
    ((q0 = q ∧ (q < s.size → cls (bt s (q : Int)) ≠ 1 ∧ cls (bt s (q : Int)) ≠ 4)) ∨ (q = s.size ∧ q0 < s.size ∧ cls (bt s (q0 : Int)) = 4 ∧ ∀ j : Nat, q0 ≤ j → j < s.size → bt s (j : Int) ≠ 10)) := by
  intro n
  induction n with
  | zero =>
    intro p h1 h2
    exact ⟨p, p, .done p, Nat.le_refl _, h2, skip_here h2 (fun h => by omega), .inl ⟨rfl, fun h => by omega⟩⟩
  | succ n ih =>
    intro p h1 h2
    by_cases hp : p < s.size
    · rcases cls_cases s (p : Int) with ⟨hc, _, _⟩ | ⟨hc, hb⟩ | ⟨hc, hc4, _⟩
      · obtain ⟨q0, q, a, b, c, d, e⟩ := ih (p + 1) (by omega) (by omega)
        exact ⟨q0, q, .blank p q0 hp hc a, b, c, skip_blank hS hp hc d, e⟩
      · obtain ⟨f, a1, a2, a3, a4, _⟩ := scan_lf s hS _ p (Nat.le_refl _) h2
        by_cases hf : f < s.size
        · obtain ⟨q0, q, a, b, c, d, e⟩ := ih (f + 1) (by omega) (by omega)
          exact ⟨q0, q, .remark p f q0 a1 hf hc a3 (a4 hf) a, b, c, skip_remark hS a1 hf hc a3 (a4 hf) d, e⟩
        · have hn : ∀ j : Nat, p ≤ j → j < s.size → bt s (j : Int) ≠ 10 := fun j h1 h2 => a3 j h1 (by omega)
          exact ⟨p, s.size, .done p, h2, Nat.le_refl _, skip_open hS hp hc hn, .inr ⟨rfl, hp, hc, hn⟩⟩
      · exact ⟨p, p, .done p, Nat.le_refl _, h2, skip_here h2 (fun _ => ⟨hc, hc4⟩), .inl ⟨rfl, fun _ => ⟨hc, hc4⟩⟩⟩
    · exact ⟨p, p, .done p, Nat.le_refl _, h2, skip_here h2 (fun h => by omega), .inl ⟨rfl, fun h => by omega⟩⟩
/-- The same blanks and remarks in another text. -/
theorem bl_go {s : ByteArray} {p q : Nat} (h : Bl s p q) : ∀ (t : ByteArray) (p' : Nat), t.size ≤ 140737488351232 → p' + (q - p) ≤ t.size → (∀ j : Nat, p ≤ j → j < q → bt t ((p' + (j - p) : Nat) : Int) = bt s (j : Int)) →
    ∀ z : Int, Ev (fun k => lex_skip.l0 k t ((p' + (q - p) : Nat) : Int)) z → Ev (fun k => lex_skip.l0 k t (p' : Int)) z := by
  induction h with
  | done p => intro t p' hT h1 h2 z hz; simpa using hz
  | blank p q hp hc hb ih =>
    intro t p' hT h1 h2 z hz
    have hle := hb.le
    have h0 := h2 p (Nat.le_refl _) (by omega)
    rw [Nat.sub_self, Nat.add_zero] at h0
    refine skip_blank hT (by omega) (by rw [h0]; exact hc) (ih t (p' + 1) hT (by omega) (fun j hj1 hj2 => ?_) z ?_)
    · have := h2 j (by omega) hj2
      rw [show p' + 1 + (j - (p + 1)) = p' + (j - p) by omega]; exact this
    · rw [show p' + 1 + (q - (p + 1)) = p' + (q - p) by omega]; exact hz
  | remark p f q hpf hf hc hn h10 hb ih =>
    intro t p' hT h1 h2 z hz
    have hle := hb.le
    have h0 := h2 p (Nat.le_refl _) (by omega)
    rw [Nat.sub_self, Nat.add_zero] at h0
    refine skip_remark hT (p := p') (f := p' + (f - p)) (by omega) (by omega) (by rw [h0]; exact hc) (fun j hj1 hj2 => ?_) ?_ (ih t (p' + (f - p) + 1) hT (by omega) (fun j hj1 hj2 => ?_) z ?_)
    · have := h2 (p + (j - p')) (by omega) (by omega)
      rw [show p' + (p + (j - p') - p) = j by omega] at this
      rw [this]
      exact hn _ (by omega) (by omega)
    · rw [h2 f (by omega) (by omega)]; exact h10
    · have := h2 j (by omega) hj2
      rw [show p' + (f - p) + 1 + (j - (f + 1)) = p' + (j - p) by omega]; exact this
    · rw [show p' + (f - p) + 1 + (q - (f + 1)) = p' + (q - p) by omega]; exact hz
theorem piece_get (s : ByteArray) (p q i : Nat) (h : p + i < q) (hq : q ≤ s.size) : (s.extract p q).data.toList[i]? = s.data.toList[p + i]? := by
  rw [Lib.extract_data, List.getElem?_take, if_pos (by omega), List.getElem?_drop]
theorem piece_size {s : ByteArray} {p q : Nat} (hq : q ≤ s.size) : (s.extract p q).size = q - p := by simp; omega
theorem bt_piece {s : ByteArray} {p q i : Nat} (h : p + i < q) (hq : q ≤ s.size) : bt (s.extract p q) (i : Int) = bt s ((p + i : Nat) : Int) := by
  have hs := piece_size (s := s) (p := p) hq
  have h1 := bt_get (s := s.extract p q) (i := i) (by omega)
  rw [piece_get s p q i h hq, bt_get (by omega)] at h1
  have h2 := bt_range s ((p + i : Nat) : Int)
  have h3 := bt_range (s.extract p q) (i : Int)
  have h4 := congrArg UInt8.toNat (Option.some.inj h1)
  rw [UInt8.toNat_ofNat', UInt8.toNat_ofNat'] at h4
  omega
/-- What stands between a place and its token is blanks and remarks alone. -/
theorem between {s : ByteArray} (hS : s.size ≤ 140737488351232) {p q : Nat} {r : Tok} (h : Nx s p q r) : Ev (fun k => gnomonref09_Next.f k (s.extract p q) 0) ((0, ⟨#[]⟩, 0, ((q - p : Nat) : Int), ((q - p : Nat) : Int), 0) : Tok) := by
  have hpq := h.le
  have hq := h.le2
  have hs := piece_size (s := s) (p := p) hq
  obtain ⟨q0, q1, a, b, c, d, e⟩ := skip_shape s hS _ p (Nat.le_refl _) (by omega)
  have hqq : (q : Int) = (q1 : Int) := Ev.uniq' h.skip d
  obtain rfl : q = q1 := by omega
  have hle := a.le
  have hz : Ev (fun k => lex_skip.l0 k (s.extract p q) ((q0 - p : Nat) : Int)) ((q - p : Nat) : Int) := by
    rcases e with ⟨e1, _⟩ | ⟨e1, e2, e3, e4⟩
    · subst e1
      exact skip_here (by omega) (fun h => by omega)
    · have hb : ∀ j : Nat, q0 - p ≤ j → j < (s.extract p q).size → bt (s.extract p q) (j : Int) = bt s ((p + j : Nat) : Int) := fun j h1 h2 => bt_piece (by omega) hq
      have := skip_open (t := s.extract p q) (p := q0 - p) (by omega) (by omega) (by rw [hb _ (Nat.le_refl _) (by omega), show p + (q0 - p) = q0 by omega]; exact e3) (fun j h1 h2 => by rw [hb j h1 h2]; exact e4 _ (by omega) (by omega))
      rw [hs] at this
      exact this
  have hsk : Ev (fun k => lex_skip.l0 k (s.extract p q) ((0 : Nat) : Int)) ((q - p : Nat) : Int) := by
    refine bl_go a (s.extract p q) 0 (by omega) (by omega) (fun j h1 h2 => ?_) _ (by rw [Nat.zero_add]; exact hz)
    rw [Nat.zero_add, bt_piece (by omega) hq, show p + (j - p) = j by omega]
  obtain ⟨q2, r2, n⟩ := nx (s := s.extract p q) (by omega) (p := 0) (Nat.zero_le _)
  have hq2 : (q2 : Int) = ((q - p : Nat) : Int) := Ev.uniq' n.skip hsk
  have ht := n.tok
  have hr := n.ref
  cases ht with
  | end_ e =>
    rw [hq2] at hr
    exact hr
  | word m a => omega
  | number m v a => omega
  | sign a => omega

/-! ### LexPlaces -/
theorem places_step {s : ByteArray} (hS : s.size ≤ 140737488351232) (L : List S24) {p q i : Nat} {r : Tok} (h : Nx s p q r) (hi : i < L.length) (hL : L[i] = (tk r).1) (he : r.2.2.2.2.2 = 0) (hl : L.length ≤ 140737488351232)
    (hx : r.2.2.2.1 = (q : Int) ∧ q + r.2.1.size ≤ s.size ∧ r.2.1 = s.extract q (q + r.2.1.size) ∧ r.2.2.2.2.1 = ((q + r.2.1.size : Nat) : Int))
    {b : Bool} (hb : Ev (fun k => gnomonlaw09_LexPlaces.l0 k s L ((q + r.2.1.size : Nat) : Int) ((i + 1 : Nat) : Int)) b) : Ev (fun k => gnomonlaw09_LexPlaces.l0 k s L (p : Int) (i : Int)) b := by
  obtain ⟨x1, x2, x3, x4⟩ := hx
  have hle := h.le
  have hle2 := h.le2
  refine Ev.step (fun k => by (rw [gnomonlaw09_LexPlaces.l0, if_pos (by omega)]; try rfl)) (Ev.bind h.lex ?_)
  have e24 : rd_T24 L (i : Int) = (tk r).1 := by unfold rd_T24; rw [← hL]; simp [List.getD, hi]
  have hj : Ev (fun k => gnomonlaw09_LexPlaces.j1 k s L (p : Int) (i : Int) ((q + r.2.1.size : Nat) : Int) false r.1 r.2.1 r.2.2.1 (q : Int)) b := by
    refine Ev.step (fun k => by (rw [gnomonlaw09_LexPlaces.j1, if_neg (by decide), if_pos (by omega), if_pos (by omega), if_pos (by omega)]; try rfl)) (Ev.bind (show Ev (fun k => gnomonref09_Next.f k (s.extract (p : Int).toNat (q : Int).toNat) 0) ((0, ⟨#[]⟩, 0, ((q - p : Nat) : Int), ((q - p : Nat) : Int), 0) : Tok) from between hS h) ?_)
    refine Ev.congr (fun k => ?_) hb
    have : wrap64 ((q : Int) - (p : Int)) = ((q - p : Nat) : Int) := by rw [wself (by omega) (by omega)]; omega
    rw [this, if_pos rfl, if_pos rfl, w1 (by omega)]
  refine Ev.congr (fun k => ?_) hj
  rw [if_pos he, if_pos (by omega), e24]
  have : (!(r.1 == (tk r).1.f0) || (!(r.2.1.toList == ((tk r).1.f1).toList) || (!(r.2.2.1 == (tk r).1.f2) || (!(r.2.2.2.1 == (tk r).1.f3))))) = false := by simp [tk]
  have hw : wrap64 ((q : Int) + (r.2.1.size : Int)) = ((q + r.2.1.size : Nat) : Int) := wn (by omega)
  rw [this, if_neg (by decide), x1, if_neg (by omega), hw, if_neg (by omega), if_pos (by omega), if_pos (by omega), if_pos (by omega), x4]
  have hx3 : (s.extract ((q : Int).toNat) (((q + r.2.1.size : Nat) : Int).toNat)).toList = r.2.1.toList := congrArg ByteArray.toList x3.symm
  rw [if_pos hx3]
  simp
theorem places_loop {s : ByteArray} (hS : s.size ≤ 1048576) {p : Nat} {l : List Tk} (h : Chain s p l) : ∀ (L : List S24) (i : Nat), L.length ≤ 140737488351232 → L.drop i = l.map (·.1) → (∀ x, l.getLast? = some x → x.2.2 = 0) → Ev (fun k => gnomonlaw09_LexPlaces.l0 k s L (p : Int) (i : Int)) true := by
  induction h with
  | stop p q r h hd =>
    intro L i hl hL hx
    have he : r.2.2.2.2.2 = 0 := hx (tk r) rfl
    have hk : r.1 = 0 := hd.resolve_left (fun h => h he)
    have hlen : L.length = i + 1 := by
      have := congrArg List.length hL
      simp only [List.length_drop, List.length_map, List.length_singleton] at this
      omega
    have hLi : L[i]'(by omega) = (tk r).1 := by
      have := congrArg (fun x => x[0]?) hL
      simp only [List.getElem?_drop, Nat.add_zero, List.map_cons, List.getElem?_cons_zero] at this
      rw [List.getElem?_eq_getElem (by omega)] at this
      exact Option.some.inj this
    obtain ⟨hq, hr⟩ : q = s.size ∧ r = (0, ⟨#[]⟩, 0, (q : Int), (q : Int), 0) := by
      have ht := h.tok
      cases ht with
      | end_ e => exact ⟨e, rfl⟩
      | word => cases hk
      | number =>
        unfold numEnd at hk he
        split at he
        · cases he
        · rename_i hx; rw [if_neg hx] at hk; cases hk
      | sign =>
        unfold signEnd at hk he
        split at he
        · rename_i hx; rw [if_pos hx] at hk; cases hk
        · rename_i hx
          rw [if_neg hx] at hk
          split at he
          · rename_i hy; rw [if_pos hy] at hk; cases hk
          · cases he
    have hz : r.2.1.size = 0 := by rw [hr]; rfl
    refine places_step (by omega) L h (by omega) hLi he hl ⟨by rw [hr], by omega, ?_, ?_⟩ ?_
    · rw [hz, hr]
      apply Go.WideShapes.bytes_inj
      rw [Lib.extract_data, Nat.add_zero, Nat.sub_self]
      rfl
    · rw [hz, hr]; rfl
    · rw [hz]
      refine Ev.step (fun k => by (rw [gnomonlaw09_LexPlaces.l0, if_neg (by omega)]; try rfl)) (Ev.bind live_ev ?_)
      refine Ev.congr (fun k => ?_) (Ev.now _)
      have hw : wrap64 ((L.length : Int) - 1) = (i : Int) := by rw [wself (by omega) (by omega)]; omega
      rw [if_pos rfl, if_pos (by omega), hw, if_pos (by omega), if_pos (by omega)]
      have e24 : rd_T24 L (i : Int) = (tk r).1 := by unfold rd_T24; rw [← hLi]; simp [List.getD, hlen]
      rw [e24, if_pos (show (tk r).1.f0 = 0 from hk)]
      simp
      omega
  | go p q n r l h he hk hn hqn hns hc ih =>
    intro L i hl hL hx
    have hlen : i < L.length := by
      have := congrArg List.length hL
      simp only [List.length_drop, List.length_map, List.length_cons] at this
      omega
    have hLi : L[i] = (tk r).1 := by
      have := congrArg (fun x => x[0]?) hL
      simp only [List.getElem?_drop, Nat.add_zero, List.map_cons, List.getElem?_cons_zero] at this
      rw [List.getElem?_eq_getElem hlen] at this
      exact Option.some.inj this
    obtain ⟨hq, m, m1, m2, m3, m4, m5⟩ := h.tok.step he hk
    have hz : r.2.1.size = m := by rw [m3]; have := piece_size (s := s) (p := q) m2; omega
    refine places_step (by omega) L h hlen hLi he hl ⟨m4, by omega, by rw [hz]; exact m3, by rw [hz]; exact m5⟩ ?_
    have hnm : q + r.2.1.size = n := by rw [hz]; omega
    rw [hnm]
    refine ih L (i + 1) hl ?_ (fun x hx2 => hx x ?_)
    · rw [List.drop_eq_getElem_cons hlen, List.map_cons] at hL
      exact (List.cons.inj hL).2
    · obtain ⟨y, l', rfl⟩ := List.exists_cons_of_ne_nil hc.ne
      rw [List.getLast?_cons_cons]; exact hx2
theorem LexPlaces_pure : ∀ (a0 : ByteArray), a0.size ≤ 140737488351232 → (a0.size + 1) ≤ 1048576 → ∃ k, gnomonlaw09_LexPlaces.f k a0 = some true := by
  intro s h0 h1
  obtain ⟨l, hc, hl, a, b⟩ := all_both (s := s) (by omega)
  refine Ev.rounds (g := fun k => gnomonlaw09_LexPlaces.f k s) ?_
  refine Ev.bind a ?_
  have hl2 : ∃ x, l.getLast? = some x := by
    cases he : l.getLast? with
    | none => exact absurd (List.getLast?_eq_none_iff.1 he) hc.ne
    | some x => exact ⟨x, rfl⟩
  obtain ⟨x, hx⟩ := hl2
  by_cases he : x.2.2 = 0
  · have ho : lexOut l = (l.map (·.1), 0, 0) := by unfold lexOut; rw [hx]; dsimp only; rw [if_pos he]
    rw [ho]
    exact places_loop (by omega) hc (l.map (·.1)) 0 (by rw [List.length_map]; omega) rfl (fun y hy => by rw [hx] at hy; obtain rfl := Option.some.inj hy; exact he)
  · have ho : lexOut l = ([], x.2.2, x.2.1) := by unfold lexOut; rw [hx]; dsimp only; rw [if_neg he]
    rw [ho]
    refine Ev.congr (fun k => by (rw [if_neg he]; try rfl)) (Ev.bind live_ev (Ev.now _))
end Go.Proofs.YtgkcjefbagnkpaaDoor.PLex
