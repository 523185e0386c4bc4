import Derived.Test.YtgkcjefbagnkpaaDoorPureM
namespace Go.Proofs.YtgkcjefbagnkpaaDoor.PLex
set_option linter.unusedVariables false
set_option linter.unusedSimpArgs false
open Go Go.RowKit Go.Proofs.YtgkcjefbagnkpaaDoorW.PrintWords Go.Proofs.YtgkcjefbagnkpaaDoorW.PrintMore

/-- The text T is s, with a blank, a remark and a tab more at the place c. -/
structure Ins (s T : ByteArray) (c d : Nat) : Prop where
  d4 : 4 ≤ d
  hc : c ≤ s.size
  size : T.size = s.size + d
  pre : ∀ j : Nat, j < c → bt T (j : Int) = bt s (j : Int)
  post : ∀ j : Nat, c ≤ j → j < s.size → bt T ((j + d : Nat) : Int) = bt s (j : Int)
  b0 : bt T (c : Int) = 32
  b1 : bt T ((c + 1 : Nat) : Int) = 35
  mid : ∀ j : Nat, c + 1 ≤ j → j < c + d - 2 → bt T (j : Int) ≠ 10
  b2 : bt T ((c + d - 2 : Nat) : Int) = 10
  b3 : bt T ((c + d - 1 : Nat) : Int) = 9
theorem Ins.tab {s T : ByteArray} {c d : Nat} (I : Ins s T c d) (hT : T.size ≤ 140737488351232) {z : Int} (h : Ev (fun k => lex_skip.l0 k T ((c + d : Nat) : Int)) z) : Ev (fun k => lex_skip.l0 k T ((c + d - 1 : Nat) : Int)) z := by
  have h4 := I.d4; have hs := I.size; have hc := I.hc
  refine skip_blank hT (by omega) (by rw [I.b3]; decide) ?_
  rw [show c + d - 1 + 1 = c + d by omega]; exact h
theorem Ins.skip {s T : ByteArray} {c d : Nat} (I : Ins s T c d) (hT : T.size ≤ 140737488351232) {z : Int} (h : Ev (fun k => lex_skip.l0 k T ((c + d : Nat) : Int)) z) : Ev (fun k => lex_skip.l0 k T (c : Int)) z := by
  have h4 := I.d4; have hs := I.size; have hc := I.hc
  refine skip_blank hT (by omega) (by rw [I.b0]; decide) ?_
  refine skip_remark hT (p := c + 1) (f := c + d - 2) (by omega) (by omega) (by rw [I.b1]; decide) I.mid I.b2 ?_
  rw [show c + d - 2 + 1 = c + d - 1 by omega]; exact I.tab hT h
/-- Behind the place, all is as it was, but later. -/
theorem suf_skip {s T : ByteArray} {c d : Nat} (I : Ins s T c d) (hS : s.size ≤ 140737488351232) (hT : T.size ≤ 140737488351232) {p q : Nat} {r : Tok} (h : Nx s p q r) (hp : c ≤ p) : Ev (fun k => lex_skip.l0 k T ((p + d : Nat) : Int)) ((q + d : Nat) : Int) := by
  have hs := I.size
  have hpq := h.le; have hq := h.le2
  obtain ⟨q0, q1, a, b, e1, f, g⟩ := skip_shape s hS _ p (Nat.le_refl _) (by omega)
  have hqq : (q : Int) = (q1 : Int) := Ev.uniq' h.skip f
  obtain rfl : q = q1 := by omega
  have hle := a.le
  refine bl_go a T (p + d) hT (by omega) (fun j h1 h2 => ?_) _ ?_
  · rw [show p + d + (j - p) = j + d by omega]; exact I.post j (by omega) (by omega)
  · rw [show p + d + (q0 - p) = q0 + d by omega]
    rcases g with ⟨e, g⟩ | ⟨g1, g2, g3, g4⟩
    · subst e
      exact skip_here (by omega) (fun hh => by rw [I.post q0 (by omega) (by omega)]; exact g (by omega))
    · have := skip_open (t := T) hT (p := q0 + d) (by omega) (by rw [I.post q0 (by omega) g2]; exact g3) (fun j h1 h2 => by
        have := I.post (j - d) (by omega) (by omega)
        rw [show j - d + d = j by omega] at this
        rw [this]; exact g4 _ (by omega) (by omega))
      rw [show q + d = T.size by omega]; exact this
theorem end_here {T : ByteArray} (hT : T.size ≤ 140737488351232) {p : Nat} (hp : p ≤ T.size) (hsk : Ev (fun k => lex_skip.l0 k T (p : Int)) (T.size : Int)) : Ev (fun k => lex_All.toks k T (p : Int)) [tk ((0, ⟨#[]⟩, 0, (T.size : Int), (T.size : Int), 0) : Tok)] := by
  obtain ⟨q2, r2, n⟩ := nx hT hp
  have hq2 : (q2 : Int) = (T.size : Int) := Ev.uniq' n.skip hsk
  obtain rfl : q2 = T.size := by omega
  have hn := n
  have ht := n.tok
  cases ht with
  | end_ e => exact toks_stop n (.inr rfl)
  | word m a => omega
  | number m v a => omega
  | sign a => omega
theorem suf_tok {s T : ByteArray} {c d : Nat} (I : Ins s T c d) (hS : s.size ≤ 140737488351232) (hT : T.size ≤ 140737488351232) {p q p' m : Nat} {r : Tok} (h : Nx s p q r) (he : r.2.2.2.2.2 = 0) (hk : r.1 ≠ 0) (hrm : r.2.1.size = m) (hqm : q + m ≤ s.size) (hq : c ≤ q)
    (hp' : p' ≤ T.size) (hsk : Ev (fun k => lex_skip.l0 k T (p' : Int)) ((q + d : Nat) : Int)) :
    ∃ r', Nx T p' (q + d) r' ∧ r'.1 = r.1 ∧ r'.2.1 = r.2.1 ∧ r'.2.2.1 = r.2.2.1 ∧ r'.2.2.2.1 = ((q + d : Nat) : Int) ∧ r'.2.2.2.2.1 = ((q + d + m : Nat) : Int) ∧ r'.2.2.2.2.2 = 0 := by
  have hs := I.size
  refine local_tok hS hT h he hk hrm hp' hsk (fun j hj => ?_) (by omega) ?_
  · rw [show q + d + j = q + j + d by omega]; exact I.post _ (by omega) (by omega)
  · by_cases hh : q + m = s.size
    · left; omega
    · right; right
      refine ⟨by omega, by omega, ?_⟩
      rw [show q + d + m = q + m + d by omega]; exact I.post _ (by omega) (by omega)
theorem last_cons {x : Tk} {l : List Tk} (hl : l ≠ []) (h : ∀ y, (x :: l).getLast? = some y → y.2.2 = 0) : ∀ y, l.getLast? = some y → y.2.2 = 0 := by
  obtain ⟨y, l', rfl⟩ := List.exists_cons_of_ne_nil hl
  intro z hz
  exact h z (by rw [List.getLast?_cons_cons]; exact hz)
theorem last_cons' {x : Tk} {l : List Tk} (hl : l ≠ []) (h : ∀ y, l.getLast? = some y → y.2.2 = 0) : ∀ y, (x :: l).getLast? = some y → y.2.2 = 0 := by
  obtain ⟨y, l', rfl⟩ := List.exists_cons_of_ne_nil hl
  intro z hz
  rw [List.getLast?_cons_cons] at hz
  exact h z hz
theorem Same.ne {l l' : List Tk} (h : Same l l') (hl : l ≠ []) : l' ≠ [] := by
  cases h with
  | nil => exact hl
  | cons => simp
theorem suf_chain {s T : ByteArray} {c d : Nat} (I : Ins s T c d) (hS : s.size ≤ 140737488351232) (hT : T.size ≤ 140737488351232) {p : Nat} {l : List Tk} (h : Chain s p l) : (∀ x, l.getLast? = some x → x.2.2 = 0) → c ≤ p →
    ∃ l', Ev (fun k => lex_All.toks k T ((p + d : Nat) : Int)) l' ∧ Same l l' ∧ ∀ x, l'.getLast? = some x → x.2.2 = 0 := by
  have hs := I.size
  induction h with
  | stop p q r h hd =>
    intro hx hp
    have he : r.2.2.2.2.2 = 0 := hx (tk r) rfl
    have hk : r.1 = 0 := hd.resolve_left (fun h => h he)
    obtain ⟨hq, hr⟩ := end_tok h.tok he hk
    have hsk := suf_skip I hS hT h hp
    have hle := h.le
    rw [show q + d = T.size by omega] at hsk
    refine ⟨_, end_here hT (by omega) hsk, .cons _ _ _ _ ?_ ?_ ?_ .nil, fun x hx => ?_⟩
    · rw [hr]; rfl
    · rw [hr]; rfl
    · rw [hr]; rfl
    · obtain rfl := Option.some.inj hx; rfl
  | go p q n r l h he hk hn hqn hns hc ih =>
    intro hx hp
    obtain ⟨hq, m, m1, m2, m3, m4, m5⟩ := h.tok.step he hk
    have hsz : r.2.1.size = m := by rw [m3]; have := piece_size (s := s) (p := q) m2; omega
    have hle := h.le
    obtain ⟨r', n', e1, e2, e3, e4, e5, e6⟩ := suf_tok I hS hT h he hk hsz m2 (by omega) (by omega) (suf_skip I hS hT h hp)
    obtain ⟨l', a, b, g⟩ := ih (last_cons hc.ne hx) (by omega)
    refine ⟨tk r' :: l', toks_cons n' e6 (by rw [e1]; exact hk) (n := n + d) (by rw [e5]; omega) a, .cons _ _ _ _ e1 e2 e3 b, last_cons' (b.ne hc.ne) g⟩
theorem Chain.places {s : ByteArray} {p : Nat} {l : List Tk} (h : Chain s p l) : (∀ x, l.getLast? = some x → x.2.2 = 0) → ∀ x ∈ l, (p : Int) ≤ x.1.f3 ∧ x.1.f3 ≤ (s.size : Int) := by
  induction h with
  | stop p q r h hd =>
    intro hx x hm
    obtain rfl := List.mem_singleton.1 hm
    have he : r.2.2.2.2.2 = 0 := hx (tk r) rfl
    have hk : r.1 = 0 := hd.resolve_left (fun h => h he)
    obtain ⟨hq, hr⟩ := end_tok h.tok he hk
    have hle := h.le
    rw [hr]
    show (p : Int) ≤ (q : Int) ∧ (q : Int) ≤ _
    omega
  | go p q n r l h he hk hn hqn hns hc ih =>
    intro hx x hm
    have hle := h.le
    rcases List.mem_cons.1 hm with rfl | hm
    · obtain ⟨hq, m, m1, m2, m3, m4, m5⟩ := h.tok.step he hk
      show (p : Int) ≤ r.2.2.2.1 ∧ r.2.2.2.1 ≤ _
      omega
    · have := ih (last_cons hc.ne hx) x hm
      omega
/-- Up to the place that changed, and over it. -/
theorem pre_chain {s T : ByteArray} {c d : Nat} (I : Ins s T c d) (hS : s.size ≤ 140737488351232) (hT : T.size ≤ 140737488351232) {p : Nat} {l : List Tk} (h : Chain s p l) : (∀ x, l.getLast? = some x → x.2.2 = 0) → ∀ i : Nat, ∀ hi : i < l.length, (l[i]).1.f3 = (c : Int) → p ≤ c →
    ∃ l', Ev (fun k => lex_All.toks k T (p : Int)) l' ∧ Same l l' ∧ (∀ x, l'.getLast? = some x → x.2.2 = 0) ∧ ∀ j (h1 : j < l.length) (h2 : j < l'.length), j < i → l'[j].1.f3 = l[j].1.f3 := by
  have hs := I.size
  have hcs := I.hc
  -- over the place
  have over : ∀ (p q : Nat) (r : Tok), Nx s p q r → q = c → Ev (fun k => lex_skip.l0 k T (p : Int)) ((q + d : Nat) : Int) := by
    intro p q r h hqc
    have hpq := h.le; have hq := h.le2
    obtain ⟨q0, q1, a, b, e1, f, g⟩ := skip_shape s hS _ p (Nat.le_refl _) (by omega)
    have hqq : (q : Int) = (q1 : Int) := Ev.uniq' h.skip f
    obtain rfl : q = q1 := by omega
    have hle := a.le
    refine bl_go a T p hT (by omega) (fun j h1 h2 => by rw [show p + (j - p) = j by omega]; exact I.pre j (by omega)) _ ?_
    rw [show p + (q0 - p) = q0 by omega]
    rcases g with ⟨e, g⟩ | ⟨g1, g2, g3, g4⟩
    · subst e
      subst hqc
      exact I.skip hT (skip_here (by omega) (fun hh => by rw [I.post q0 (Nat.le_refl _) (by omega)]; exact g (by omega)))
    · have h4 := I.d4
      refine skip_remark hT (p := q0) (f := c + d - 2) (by omega) (by omega) (by rw [I.pre q0 (by omega)]; exact g3) (fun j h1 h2 => ?_) I.b2 ?_
      · rcases Nat.lt_or_ge j c with h5 | h5
        · rw [I.pre j h5]; exact g4 j h1 (by omega)
        · rcases Nat.lt_or_ge c j with h6 | h6
          · exact I.mid j (by omega) h2
          · rw [show j = c by omega, I.b0]; decide
      · rw [show c + d - 2 + 1 = c + d - 1 by omega, show q + d = c + d by omega]
        exact I.tab hT (skip_here (by omega) (fun hh => by omega))
  induction h with
  | stop p q r h hd =>
    intro hx i hi hl hp
    have he : r.2.2.2.2.2 = 0 := hx (tk r) rfl
    have hk : r.1 = 0 := hd.resolve_left (fun h => h he)
    obtain ⟨hq, hr⟩ := end_tok h.tok he hk
    obtain rfl : i = 0 := by simpa using hi
    have hqc : (q : Int) = (c : Int) := by rw [← hl, hr]; rfl
    have hsk := over p q r h (by omega)
    rw [show q + d = T.size by omega] at hsk
    refine ⟨_, end_here hT (by omega) hsk, .cons _ _ _ _ ?_ ?_ ?_ .nil, fun x hx => ?_, fun j _ _ h => absurd h (Nat.not_lt_zero _)⟩
    · rw [hr]; rfl
    · rw [hr]; rfl
    · rw [hr]; rfl
    · obtain rfl := Option.some.inj hx; rfl
  | go p q n r l h he hk hn hqn hns hc ih =>
    intro hx i hi hl hp
    obtain ⟨hq, m, m1, m2, m3, m4, m5⟩ := h.tok.step he hk
    have hsz : r.2.1.size = m := by rw [m3]; have := piece_size (s := s) (p := q) m2; omega
    have hle := h.le
    cases i with
    | zero =>
      have hqc : (q : Int) = (c : Int) := by rw [← hl]; exact m4.symm
      obtain ⟨r', n', e1, e2, e3, e4, e5, e6⟩ := suf_tok I hS hT h he hk hsz m2 (by omega) (by omega) (over p q r h (by omega))
      obtain ⟨l', a, b, g⟩ := suf_chain I hS hT hc (last_cons hc.ne hx) (by omega)
      exact ⟨tk r' :: l', toks_cons n' e6 (by rw [e1]; exact hk) (n := n + d) (by rw [e5]; omega) a, .cons _ _ _ _ e1 e2 e3 b, last_cons' (b.ne hc.ne) g, fun j _ _ h => absurd h (Nat.not_lt_zero _)⟩
    | succ i =>
      have hi' : i < l.length := by simpa using hi
      have hl' : (l[i]).1.f3 = (c : Int) := hl
      have hpl := (hc.places (last_cons hc.ne hx) _ (List.getElem_mem hi')).1
      have hnc : n ≤ c := by omega
      have hfb := first_byte h.tok hq
      have hsk : Ev (fun k => lex_skip.l0 k T (p : Int)) (q : Int) := by
        obtain ⟨q0, q1, a, b, e1, f, g⟩ := skip_shape s hS _ p (Nat.le_refl _) (by omega)
        have hqq : (q : Int) = (q1 : Int) := Ev.uniq' h.skip f
        obtain rfl : q = q1 := by omega
        have hle2 := a.le
        refine bl_go a T p hT (by omega) (fun j h1 h2 => by rw [show p + (j - p) = j by omega]; exact I.pre j (by omega)) _ ?_
        rw [show p + (q0 - p) = q0 by omega]
        rcases g with ⟨e, g⟩ | ⟨g1, g2, g3, g4⟩
        · subst e
          exact skip_here (by omega) (fun hh => by rw [I.pre q0 (by omega)]; exact g (by omega))
        · omega
      obtain ⟨r', n', e1, e2, e3, e4, e5, e6⟩ := local_tok hS hT h he hk hsz (by omega) hsk (fun j hj => I.pre _ (by omega)) (by omega) (by
        rcases Nat.lt_or_ge (q + m) c with h5 | h5
        · exact .inr (.inr ⟨by omega, by omega, I.pre _ h5⟩)
        · have h4 := I.d4
          refine .inr (.inl ⟨by omega, ?_⟩)
          rw [show q + m = c by omega, I.b0]; decide)
      obtain ⟨l', a, b, g, g2⟩ := ih (last_cons hc.ne hx) i hi' hl' hnc
      refine ⟨tk r' :: l', toks_cons n' e6 (by rw [e1]; exact hk) (n := n) (by rw [e5]; omega) a, .cons _ _ _ _ e1 e2 e3 b, last_cons' (b.ne hc.ne) g, fun j h1 h2 h3 => ?_⟩
      cases j with
      | zero => show r'.2.2.2.1 = r.2.2.2.1; rw [e4, m4]
      | succ j => exact g2 j (by simpa using h1) (by simpa using h2) (by omega)
/-- The text that the law makes. -/
def blanked (s r : ByteArray) (c : Nat) : ByteArray := ((((s.extract 0 c) ++ (⟨#[32, 35]⟩ : ByteArray)) ++ r) ++ (⟨#[10, 9]⟩ : ByteArray)) ++ s.extract c s.size
theorem blanked_data (s r : ByteArray) (c : Nat) : (blanked s r c).data.toList = (s.extract 0 c).data.toList ++ (32 :: 35 :: (r.data.toList ++ (10 :: 9 :: (s.extract c s.size).data.toList))) := by
  unfold blanked
  simp only [ByteArray.data_append, Array.toList_append]
  simp
theorem ins_of (s r : ByteArray) (c : Nat) (hc : c ≤ s.size) (hr : ∀ j : Nat, j < r.size → bt r (j : Int) ≠ 10) : Ins s (blanked s r c) c (r.size + 4) := by
  have hA := piece_size (s := s) (p := 0) hc
  have hD := piece_size (s := s) (p := c) (Nat.le_refl _)
  have hsz : (blanked s r c).size = s.size + (r.size + 4) := by
    rw [← data_length, blanked_data]
    simp only [List.length_append, List.length_cons, data_length]
    omega
  have hget : ∀ j : Nat, (blanked s r c).data.toList[c + j]? = (32 :: 35 :: (r.data.toList ++ (10 :: 9 :: (s.extract c s.size).data.toList)))[j]? := by
    intro j
    rw [blanked_data, List.getElem?_append_right (by rw [data_length]; omega), data_length]
    congr 1
    omega
  have hmid : ∀ j : Nat, j < r.size → bt (blanked s r c) ((c + 2 + j : Nat) : Int) = bt r (j : Int) := by
    intro j hj
    refine bt_of_get ?_ (by omega) hj
    rw [show c + 2 + j = c + (j + 1 + 1) by omega, hget, List.getElem?_cons_succ, List.getElem?_cons_succ, List.getElem?_append_left (by rw [data_length]; omega)]
  have htail : ∀ j : Nat, (blanked s r c).data.toList[c + (r.size + 2 + j)]? = (10 :: 9 :: (s.extract c s.size).data.toList)[j]? := by
    intro j
    rw [hget, show r.size + 2 + j = r.size + j + 1 + 1 by omega, List.getElem?_cons_succ, List.getElem?_cons_succ, List.getElem?_append_right (by rw [data_length]; omega), data_length]
    congr 1
    omega
  refine ⟨by omega, hc, hsz, fun j hj => ?_, fun j h1 h2 => ?_, ?_, ?_, fun j h1 h2 => ?_, ?_, ?_⟩
  · refine bt_of_get ?_ (by omega) (by omega)
    rw [blanked_data, List.getElem?_append_left (by rw [data_length]; omega), piece_get s 0 c j (by omega) hc, Nat.zero_add]
  · refine bt_of_get ?_ (by omega) (by omega)
    have := htail (j - c + 1 + 1)
    rw [show c + (r.size + 2 + (j - c + 1 + 1)) = j + (r.size + 4) by omega, List.getElem?_cons_succ, List.getElem?_cons_succ, extract_get, show c + (j - c) = j by omega] at this
    exact this
  · exact (bt_of_byte (a := c) (c := 32) (hget 0)).2
  · exact (bt_of_byte (a := c + 1) (c := 35) (hget 1)).2
  · rcases Nat.lt_or_ge j (c + 2) with h3 | h3
    · rw [show j = c + 1 by omega, (bt_of_byte (a := c + 1) (c := 35) (hget 1)).2]; decide
    · have := hmid (j - (c + 2)) (by omega)
      rw [show c + 2 + (j - (c + 2)) = j by omega] at this
      rw [this]
      exact hr _ (by omega)
  · have := (bt_of_byte (a := c + (r.size + 2 + 0)) (c := 10) (htail 0)).2
    rw [show c + (r.size + 4) - 2 = c + (r.size + 2 + 0) by omega]
    exact this
  · have := (bt_of_byte (a := c + (r.size + 2 + 1)) (c := 9) (htail 1)).2
    rw [show c + (r.size + 4) - 1 = c + (r.size + 2 + 1) by omega]
    exact this
end Go.Proofs.YtgkcjefbagnkpaaDoor.PLex
