import Derived.Test.YtgkcjefbagnkpaaDoorPureB
namespace Go.Proofs.YtgkcjefbagnkpaaDoor.PLex
set_option linter.unusedVariables false
set_option linter.unusedSimpArgs false
open Go Go.RowKit Go.Proofs.YtgkcjefbagnkpaaDoorW.PrintWords Go.Proofs.YtgkcjefbagnkpaaDoorW.PrintMore

/-! ### Signs -/
def two9 : List (List UInt8) := [[46, 46], [58, 61], [45, 62], [38, 38], [124, 124], [33, 61], [60, 61], [61, 61], [62, 61]]
abbrev twoB : List ByteArray := [(⟨#[46, 46]⟩ : ByteArray), (⟨#[58, 61]⟩ : ByteArray), (⟨#[45, 62]⟩ : ByteArray), (⟨#[38, 38]⟩ : ByteArray), (⟨#[124, 124]⟩ : ByteArray), (⟨#[33, 61]⟩ : ByteArray), (⟨#[60, 61]⟩ : ByteArray), (⟨#[61, 61]⟩ : ByteArray), (⟨#[62, 61]⟩ : ByteArray), (⟨#[]⟩ : ByteArray), (⟨#[]⟩ : ByteArray)]
abbrev oneB : ByteArray := ⟨#[44, 59, 46, 123, 125, 40, 41, 33, 60, 62, 63, 43, 45, 42]⟩
theorem bytes_of_list {a b : ByteArray} (h : a.toList = b.toList) : a = b := by
  rw [ByteArray.toList_eq, ByteArray.toList_eq] at h
  exact Go.WideShapes.bytes_inj h
def one1 (c : Int) : Bool := decide (Lib.indexByte oneB.data.toList c.toNat.toUInt8 ≥ 0)
theorem sign_chain {β : Type} (g : Bool → β) (T : List UInt8) : (if T = ([46, 46] : List UInt8) then (g (T == ([46, 46] : List UInt8))) else (if T = ([58, 61] : List UInt8) then (g (T == ([58, 61] : List UInt8))) else (if T = ([45, 62] : List UInt8) then (g (T == ([45, 62] : List UInt8))) else (if T = ([38, 38] : List UInt8) then (g (T == ([38, 38] : List UInt8))) else (if T = ([124, 124] : List UInt8) then (g (T == ([124, 124] : List UInt8))) else (if T = ([33, 61] : List UInt8) then (g (T == ([33, 61] : List UInt8))) else (if T = ([60, 61] : List UInt8) then (g (T == ([60, 61] : List UInt8))) else (if T = ([61, 61] : List UInt8) then (g (T == ([61, 61] : List UInt8))) else (g (T == ([62, 61] : List UInt8))))))))))) = g (decide (T ∈ two9)) := by
  by_cases h0 : T = ([46, 46] : List UInt8)
  · subst h0
    rw [if_pos rfl]
    exact congrArg g (by decide)
  rw [if_neg h0]
  by_cases h1 : T = ([58, 61] : List UInt8)
  · subst h1
    rw [if_pos rfl]
    exact congrArg g (by decide)
  rw [if_neg h1]
  by_cases h2 : T = ([45, 62] : List UInt8)
  · subst h2
    rw [if_pos rfl]
    exact congrArg g (by decide)
  rw [if_neg h2]
  by_cases h3 : T = ([38, 38] : List UInt8)
  · subst h3
    rw [if_pos rfl]
    exact congrArg g (by decide)
  rw [if_neg h3]
  by_cases h4 : T = ([124, 124] : List UInt8)
  · subst h4
    rw [if_pos rfl]
    exact congrArg g (by decide)
  rw [if_neg h4]
  by_cases h5 : T = ([33, 61] : List UInt8)
  · subst h5
    rw [if_pos rfl]
    exact congrArg g (by decide)
  rw [if_neg h5]
  by_cases h6 : T = ([60, 61] : List UInt8)
  · subst h6
    rw [if_pos rfl]
    exact congrArg g (by decide)
  rw [if_neg h6]
  by_cases h7 : T = ([61, 61] : List UInt8)
  · subst h7
    rw [if_pos rfl]
    exact congrArg g (by decide)
  rw [if_neg h7]
  refine congrArg g ?_
  rw [Bool.eq_iff_iff]
  simp [two9, h0, h1, h2, h3, h4, h5, h6, h7]
theorem sign_lex (t : ByteArray) (ht : 0 < t.size) : Ev (fun k => lex_sign.f k t) (if t.size > 1 ∧ (t.extract 0 2).toList ∈ two9 then 2 else if one1 (bt t 0) = true then 1 else 0) := by
  have hj : ∀ k b, lex_sign.j0 (k + 1) t b = some (if b = true then 2 else if one1 (bt t 0) = true then 1 else 0) := by
    intro k b
    rw [lex_sign.j0]
    cases b with
    | true => rfl
    | false =>
      rw [if_neg (by decide), if_pos (by omega), strings_IndexByte.f, Option.bind_some]
      unfold one1
      by_cases h : Lib.indexByte oneB.data.toList (bt t 0).toNat.toUInt8 ≥ 0
      · rw [if_pos h, decide_eq_true h]; rfl
      · rw [if_neg h, decide_eq_false h]; rfl
  refine ⟨1, fun k hk => ?_⟩
  obtain ⟨k, rfl⟩ : ∃ m, k = m + 1 := ⟨k - 1, by omega⟩
  show lex_sign.f (k + 1) t = _
  by_cases h1 : t.size > 1
  · have : lex_sign.f (k + 1) t = lex_sign.j0 (k + 1) t (decide ((t.extract 0 2).toList ∈ two9)) := by
      rw [lex_sign.f, if_pos (by omega), if_pos (by omega), if_pos (by omega)]
      exact sign_chain (fun b => lex_sign.j0 (k + 1) t b) _
    rw [this, hj]
    by_cases h2 : (t.extract 0 2).toList ∈ two9
    · rw [if_pos (by simpa using h2), if_pos ⟨h1, h2⟩]
    · rw [if_neg (c := decide ((t.extract 0 2).toList ∈ two9) = true) (by simpa using h2), if_neg (c := t.size > 1 ∧ (t.extract 0 2).toList ∈ two9) (fun h => h2 h.2)]
  · rw [lex_sign.f, if_neg (by omega), if_pos (by omega), strings_IndexByte.f, Option.bind_some, if_neg (c := t.size > 1 ∧ (t.extract 0 2).toList ∈ two9) (fun h => h1 h.1)]
    unfold one1
    by_cases h : Lib.indexByte oneB.data.toList (bt t 0).toNat.toUInt8 ≥ 0
    · rw [if_pos h, decide_eq_true h]; rfl
    · rw [if_neg h, decide_eq_false h]; rfl
theorem two_of : ∀ i : Fin 9, (rdOf ByteArray.empty twoB (i.val : Int)).toList = two9.getD i.val [] := by decide +kernel
theorem l1_next {s : ByteArray} (hS : s.size ≤ 140737488351232) {p i : Nat} (hp : p < s.size) (hi : i < 9) (h : p + 2 ≤ s.size → (s.extract p (p + 2)).toList ≠ two9.getD i []) (k : Nat) :
    gnomonref09_Next.l1 (k + 1) s (p : Int) (i : Int) = gnomonref09_Next.l1 k s (p : Int) ((i + 1 : Nat) : Int) := by
  have ht := two_of ⟨i, hi⟩
  have w2 : wrap64 ((p : Int) + 2) = ((p + 2 : Nat) : Int) := by unfold wrap64; omega
  rw [gnomonref09_Next.l1, if_pos (by omega), w2, w1 (by omega)]
  by_cases h2 : p + 2 ≤ s.size
  · rw [if_pos (by omega), if_pos (by omega), if_pos (by omega), if_pos (by omega), if_pos (by omega), if_neg]
    intro e
    refine h h2 (Eq.trans ?_ ht)
    exact e
  · rw [if_neg (by omega)]
theorem l1_stop {s : ByteArray} (hS : s.size ≤ 140737488351232) {p i : Nat} (hi : i < 9) (h2 : p + 2 ≤ s.size) (h : (s.extract p (p + 2)).toList = two9.getD i []) (k : Nat) :
    gnomonref09_Next.l1 (k + 1) s (p : Int) (i : Int) = some (3, s.extract p (p + 2), 0, (p : Int), ((p + 2 : Nat) : Int), 0) := by
  have ht := two_of ⟨i, hi⟩
  have w2 : wrap64 ((p : Int) + 2) = ((p + 2 : Nat) : Int) := by unfold wrap64; omega
  have he : rdOf ByteArray.empty twoB (i : Int) = s.extract p (p + 2) := bytes_of_list (ht.trans h.symm)
  rw [gnomonref09_Next.l1, if_pos (by omega), w2, if_pos (by omega), if_pos (by omega), if_pos (by omega), if_pos (by omega), if_pos (by omega), if_pos]
  · rw [show rdOf ByteArray.empty ([(⟨#[46, 46]⟩ : ByteArray), (⟨#[58, 61]⟩ : ByteArray), (⟨#[45, 62]⟩ : ByteArray), (⟨#[38, 38]⟩ : ByteArray), (⟨#[124, 124]⟩ : ByteArray), (⟨#[33, 61]⟩ : ByteArray), (⟨#[60, 61]⟩ : ByteArray), (⟨#[61, 61]⟩ : ByteArray), (⟨#[62, 61]⟩ : ByteArray), (⟨#[]⟩ : ByteArray), (⟨#[]⟩ : ByteArray)] : List ByteArray) (i : Int) = s.extract p (p + 2) from he]
  · exact congrArg ByteArray.toList he.symm
theorem l1_all {s : ByteArray} (hS : s.size ≤ 140737488351232) {p : Nat} (hp : p < s.size) : ∀ n i : Nat, 9 - i ≤ n → i ≤ 9 →
    ((∃ j, i ≤ j ∧ j < 9 ∧ p + 2 ≤ s.size ∧ (s.extract p (p + 2)).toList = two9.getD j []) → Ev (fun k => gnomonref09_Next.l1 k s (p : Int) (i : Int)) ((3, s.extract p (p + 2), 0, (p : Int), ((p + 2 : Nat) : Int), 0) : Tok)) ∧
    ((∀ j, i ≤ j → j < 9 → p + 2 ≤ s.size → (s.extract p (p + 2)).toList ≠ two9.getD j []) → ∀ r : Tok, Ev (fun k => gnomonref09_Next.l2 k s (p : Int) 0) r → Ev (fun k => gnomonref09_Next.l1 k s (p : Int) (i : Int)) r) := by
  intro n
  induction n with
  | zero =>
    intro i h1 h2
    refine ⟨fun ⟨j, a, b, _⟩ => by omega, fun h r hr => ?_⟩
    exact Ev.step (fun k => by rw [gnomonref09_Next.l1, if_neg (by omega)]) hr
  | succ n ih =>
    intro i h1 h2
    by_cases hi : i < 9
    · by_cases h : p + 2 ≤ s.size ∧ (s.extract p (p + 2)).toList = two9.getD i []
      · exact ⟨fun _ => Ev.step (l1_stop hS hi h.1 h.2) (Ev.now _), fun hn => absurd h.2 (hn i (Nat.le_refl _) hi h.1)⟩
      · have hne : p + 2 ≤ s.size → (s.extract p (p + 2)).toList ≠ two9.getD i [] := fun h2 h3 => h ⟨h2, h3⟩
        obtain ⟨ia, ib⟩ := ih (i + 1) (by omega) (by omega)
        refine ⟨fun ⟨j, a, b, c, d⟩ => ?_, fun hn r hr => Ev.step (l1_next hS hp hi hne) (ib (fun j a => hn j (by omega)) r hr)⟩
        refine Ev.step (l1_next hS hp hi hne) (ia ⟨j, ?_, b, c, d⟩)
        rcases Nat.lt_or_ge i j with h5 | h5
        · exact h5
        · rw [show j = i by omega] at d; exact absurd d (hne c)
    · refine ⟨fun ⟨j, a, b, _⟩ => by omega, fun h r hr => ?_⟩
      exact Ev.step (fun k => by rw [gnomonref09_Next.l1, if_neg (by omega)]) hr
theorem two_mem (x : List UInt8) : x ∈ two9 ↔ ∃ j, 0 ≤ j ∧ j < 9 ∧ x = two9.getD j [] := by
  constructor
  · intro h
    obtain ⟨j, hj, rfl⟩ := List.getElem_of_mem h
    exact ⟨j, Nat.zero_le _, hj, by simp [List.getD, hj]⟩
  · rintro ⟨j, _, hj, rfl⟩
    have : j < two9.length := hj
    simp [List.getD, this]
theorem one_byte {s : ByteArray} {p : Nat} (h : p < s.size) : (s.extract p (p + 1)).data.toList = [UInt8.ofNat (bt s (p : Int)).toNat] := by
  have h1 := bt_get h
  rw [Lib.extract_data, show p + 1 - p = 1 by omega]
  have h2 : p < s.data.toList.length := by rw [data_length]; exact h
  rw [List.drop_eq_getElem_cons h2]
  rw [List.getElem?_eq_getElem h2] at h1
  rw [Option.some.inj h1]
  rfl
theorem l2_all {s : ByteArray} (hS : s.size ≤ 140737488351232) {p : Nat} (hp : p < s.size) : ∀ n i : Nat, 14 - i ≤ n → i ≤ 14 →
    ((∃ j, i ≤ j ∧ j < 14 ∧ bt s (p : Int) = bt oneB (j : Int)) → Ev (fun k => gnomonref09_Next.l2 k s (p : Int) (i : Int)) ((3, s.extract p (p + 1), 0, (p : Int), ((p + 1 : Nat) : Int), 0) : Tok)) ∧
    ((∀ j : Nat, i ≤ j → j < 14 → bt s (p : Int) ≠ bt oneB (j : Int)) → Ev (fun k => gnomonref09_Next.l2 k s (p : Int) (i : Int)) ((0, ⟨#[]⟩, 0, 0, (p : Int), 90) : Tok)) := by
  intro n
  induction n with
  | zero =>
    intro i h1 h2
    exact ⟨fun ⟨j, a, b, _⟩ => by omega, fun h => Ev.step (fun k => by rw [gnomonref09_Next.l2, if_neg (by omega)]) (Ev.now _)⟩
  | succ n ih =>
    intro i h1 h2
    by_cases hi : i < 14
    · by_cases h : bt s (p : Int) = bt oneB (i : Int)
      · refine ⟨fun _ => Ev.step (fun k => ?_) (Ev.now _), fun hn => absurd h (hn i (Nat.le_refl _) hi)⟩
        rw [gnomonref09_Next.l2, if_pos (by omega), if_pos (by omega), if_pos (by omega), if_pos (by omega), if_pos h, w1 (by omega), if_pos (by omega), if_pos (by omega), w1 (by omega)]
        have he : oneB.extract i (i + 1) = s.extract p (p + 1) := by
          apply Go.WideShapes.bytes_inj
          rw [one_byte hp, one_byte (show i < oneB.size from hi), h]
        rw [show (⟨#[44, 59, 46, 123, 125, 40, 41, 33, 60, 62, 63, 43, 45, 42]⟩ : ByteArray).extract (i : Int).toNat ((i + 1 : Nat) : Int).toNat = s.extract p (p + 1) from he]
      · obtain ⟨ia, ib⟩ := ih (i + 1) (by omega) (by omega)
        have st : ∀ k, gnomonref09_Next.l2 (k + 1) s (p : Int) (i : Int) = gnomonref09_Next.l2 k s (p : Int) ((i + 1 : Nat) : Int) := by
          intro k
          rw [gnomonref09_Next.l2, if_pos (by omega), if_pos (by omega), if_pos (by omega), if_pos (by omega), if_neg h, w1 (by omega)]
        refine ⟨fun ⟨j, a, b, d⟩ => Ev.step st (ia ⟨j, ?_, b, d⟩), fun hn => Ev.step st (ib (fun j a => hn j (by omega)))⟩
        rcases Nat.lt_or_ge i j with h5 | h5
        · exact h5
        · rw [show j = i by omega] at d; exact absurd d h
    · exact ⟨fun ⟨j, a, b, _⟩ => by omega, fun h => Ev.step (fun k => by rw [gnomonref09_Next.l2, if_neg (by omega)]) (Ev.now _)⟩
theorem one_iff (s : ByteArray) (i : Int) : one1 (bt s i) = true ↔ ∃ j, 0 ≤ j ∧ j < 14 ∧ bt s i = bt oneB ((j : Nat) : Int) := by
  have h := by256 (p := fun c => one1 c = true ↔ ∃ j : Fin 14, c = bt oneB (j.val : Int)) (by decide +kernel) s i
  rw [h]
  exact ⟨fun ⟨j, hj⟩ => ⟨j.val, Nat.zero_le _, j.isLt, hj⟩, fun ⟨j, _, hj, e⟩ => ⟨⟨j, hj⟩, e⟩⟩
/-- The sign at a place, as both say it. -/
def signEnd (s : ByteArray) (p : Nat) : Tok := if p + 2 ≤ s.size ∧ (s.extract p (p + 2)).toList ∈ two9 then (3, s.extract p (p + 2), 0, (p : Int), ((p + 2 : Nat) : Int), 0)
  else if one1 (bt s (p : Int)) = true then (3, s.extract p (p + 1), 0, (p : Int), ((p + 1 : Nat) : Int), 0) else (0, ⟨#[]⟩, 0, 0, (p : Int), 90)
def signLen (s : ByteArray) (p : Nat) : Nat := if p + 2 ≤ s.size ∧ (s.extract p (p + 2)).toList ∈ two9 then 2 else if one1 (bt s (p : Int)) = true then 1 else 0
theorem sign_ref {s : ByteArray} (hS : s.size ≤ 140737488351232) {p : Nat} (hp : p < s.size) : Ev (fun k => gnomonref09_Next.l1 k s (p : Int) 0) (signEnd s p) := by
  obtain ⟨a, b⟩ := l1_all hS hp 9 0 (by omega) (by omega)
  obtain ⟨c, d⟩ := l2_all hS hp 14 0 (by omega) (by omega)
  unfold signEnd
  split
  · rename_i h
    obtain ⟨j, h1, h2, h3⟩ := (two_mem _).1 h.2
    exact a ⟨j, h1, h2, h.1, h3⟩
  · rename_i h
    refine b (fun j h1 h2 h3 h4 => h ⟨h3, (two_mem _).2 ⟨j, h1, h2, h4⟩⟩) _ ?_
    split
    · rename_i h5
      obtain ⟨j, h6⟩ := (one_iff _ _).1 h5
      exact c ⟨j, h6⟩
    · rename_i h5
      exact d (fun j h6 h7 h8 => h5 ((one_iff _ _).2 ⟨j, h6, h7, h8⟩))
theorem sign_len {s : ByteArray} {p : Nat} (hp : p < s.size) : Ev (fun k => lex_sign.f k (s.extract p s.size)) (signLen s p : Int) := by
  have hs := ext_size s p
  have hb : bt (s.extract p s.size) 0 = bt s (p : Int) := bt_ext (i := 0) (by omega)
  have h := sign_lex (s.extract p s.size) (by omega)
  rw [hb] at h
  by_cases h2 : p + 2 ≤ s.size
  · rw [ext_ext s p 2 h2] at h
    have e : ((s.extract p s.size).size > 1 ∧ (s.extract p (p + 2)).toList ∈ two9) ↔ (p + 2 ≤ s.size ∧ (s.extract p (p + 2)).toList ∈ two9) := ⟨fun h => ⟨h2, h.2⟩, fun h => ⟨by omega, h.2⟩⟩
    simp only [e] at h
    unfold signLen
    split
    · rename_i h3; rw [if_pos h3] at h; exact h
    · rename_i h3
      rw [if_neg h3] at h
      split
      · rename_i h4; rw [if_pos h4] at h; exact h
      · rename_i h4; rw [if_neg h4] at h; exact h
  · rw [if_neg (by omega)] at h
    unfold signLen
    rw [if_neg (fun h => h2 h.1)]
    split
    · rename_i h4; rw [if_pos h4] at h; exact h
    · rename_i h4; rw [if_neg h4] at h; exact h
end Go.Proofs.YtgkcjefbagnkpaaDoor.PLex
