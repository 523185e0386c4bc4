import Derived.Test.YtgkcjefbagnkpaaDoorOLex
import Derived.Test.YtgkcjefbagnkpaaDoorPLexx6
import Derived.Test.YtgkcjefbagnkpaaDoorPLexx7
import Derived.Lib.IndexBytes
import Derived.Lib.IndexLaws
namespace Go.Proofs.YtgkcjefbagnkpaaDoor.PLex
set_option linter.unusedVariables false
set_option linter.unusedSimpArgs false
open Go Go.RowKit Go.Proofs.YtgkcjefbagnkpaaDoorW.PrintWords Go.Proofs.YtgkcjefbagnkpaaDoorW.PrintMore

/-! A byte's class -/
def cls (c : Int) : Int := if c = 32 ∨ c = 9 ∨ c = 13 ∨ c = 10 then 1 else if c = 35 then 4 else if (97 ≤ c ∧ c ≤ 122) ∨ (65 ≤ c ∧ c ≤ 90) then 2 else if 48 ≤ c ∧ c ≤ 57 then 3 else 0
theorem by256 {p : Int → Prop} (h : ∀ n : Fin 256, p (n.val : Int)) (s : ByteArray) (i : Int) : p (bt s i) := by
  have hb := bt_range s i
  have := h ⟨(bt s i).toNat, by omega⟩
  rwa [show (((⟨(bt s i).toNat, by omega⟩ : Fin 256).val : Nat) : Int) = bt s i from by simp; omega] at this
theorem of_ev (s : ByteArray) (i : Int) : Ev (fun k => lex_of.f k (bt s i)) (cls (bt s i)) :=
  Ev.of (lex_of.mono _) (k := 4) (by256 (p := fun c => lex_of.f 4 c = some (cls c)) (by decide +kernel) s i)
theorem digit_eq (s : ByteArray) (i : Int) : gnomonref09_digit.f (bt s i) = some (decide (cls (bt s i) = 3)) :=
  by256 (p := fun c => gnomonref09_digit.f c = some (decide (cls c = 3))) (by decide +kernel) s i
theorem letter_eq (s : ByteArray) (i : Int) : gnomonref09_letter.f (bt s i) = some (decide (cls (bt s i) = 2)) :=
  by256 (p := fun c => gnomonref09_letter.f c = some (decide (cls c = 2))) (by decide +kernel) s i
theorem cls3 (s : ByteArray) (i : Int) : cls (bt s i) = 3 → 48 ≤ bt s i ∧ bt s i ≤ 57 :=
  by256 (p := fun c => cls c = 3 → 48 ≤ c ∧ c ≤ 57) (by decide +kernel) s i
theorem cls_cases (s : ByteArray) (i : Int) : (cls (bt s i) = 1 ∧ (bt s i = 32 ∨ bt s i = 9 ∨ bt s i = 13 ∨ bt s i = 10) ∧ bt s i ≠ 35) ∨ (cls (bt s i) = 4 ∧ bt s i = 35) ∨ (cls (bt s i) ≠ 1 ∧ cls (bt s i) ≠ 4 ∧ bt s i ≠ 32 ∧ bt s i ≠ 9 ∧ bt s i ≠ 13 ∧ bt s i ≠ 10 ∧ bt s i ≠ 35) :=
  by256 (p := fun c => (cls c = 1 ∧ (c = 32 ∨ c = 9 ∨ c = 13 ∨ c = 10) ∧ c ≠ 35) ∨ (cls c = 4 ∧ c = 35) ∨ (cls c ≠ 1 ∧ cls c ≠ 4 ∧ c ≠ 32 ∧ c ≠ 9 ∧ c ≠ 13 ∧ c ≠ 10 ∧ c ≠ 35)) (by decide +kernel) s i
theorem w1 {n : Nat} (h : n ≤ 140737488351232) : wrap64 ((n : Int) + 1) = ((n + 1 : Nat) : Int) := by unfold wrap64; omega
theorem wn {n m : Nat} (h : n + m ≤ 281474976702464) : wrap64 ((n : Int) + (m : Int)) = ((n + m : Nat) : Int) := by unfold wrap64; omega
theorem wself {n : Int} (h : 0 ≤ n) (h2 : n ≤ 281474976702464) : wrap64 n = n := by unfold wrap64; omega

/-! ### Blanks and remarks -/
theorem scan_lf (s : ByteArray) (hS : s.size ≤ 140737488351232) : ∀ n p : Nat, s.size - p ≤ n → p ≤ s.size → ∃ q : Nat, p ≤ q ∧ q ≤ s.size ∧
    (∀ j : Nat, p ≤ j → j < q → bt s (j : Int) ≠ 10) ∧ (q < s.size → bt s (q : Int) = 10) ∧
    ∀ r, Ev (fun k => gnomonref09_begin.l0 k s (q : Int)) r → Ev (fun k => gnomonref09_begin.l1 k s (p : Int)) r := by
  intro n
  induction n with
  | zero =>
    intro p h1 h2
    refine ⟨p, Nat.le_refl _, h2, fun j h3 h4 => by omega, fun h => by omega, fun r hr => ?_⟩
    exact Ev.step (fun k => by rw [gnomonref09_begin.l1, if_neg (by omega)]) hr
  | succ n ih =>
    intro p h1 h2
    by_cases hp : p < s.size
    · by_cases hb : bt s (p : Int) = 10
      · refine ⟨p, Nat.le_refl _, h2, fun j h3 h4 => by omega, fun h => hb, fun r hr => ?_⟩
        exact Ev.step (fun k => by rw [gnomonref09_begin.l1, if_pos (by omega), if_pos (by omega), if_pos hb]) hr
      · obtain ⟨q, a, b, c, d, e⟩ := ih (p + 1) (by omega) (by omega)
        refine ⟨q, by omega, b, fun j h3 h4 => ?_, d, fun r hr => ?_⟩
        · rcases Nat.lt_or_ge p j with h5 | h5
          · exact c j h5 h4
          · rw [show j = p by omega]; exact hb
        · exact Ev.step (fun k => by rw [gnomonref09_begin.l1, if_pos (by omega), if_pos (by omega), if_neg hb, w1 (by omega)]) (e r hr)
    · refine ⟨p, Nat.le_refl _, h2, fun j h3 h4 => by omega, fun h => by omega, fun r hr => ?_⟩
      exact Ev.step (fun k => by rw [gnomonref09_begin.l1, if_neg (by omega)]) hr

theorem bt_get {s : ByteArray} {i : Nat} (h : i < s.size) : s.data.toList[i]? = some (UInt8.ofNat (bt s (i : Int)).toNat) := by
  rw [List.getElem?_eq_getElem (by rw [data_length]; exact h)]
  have h1 : bt s (i : Int) = ((s[i]'h).toNat : Int) := by unfold bt; rw [dif_pos (by simpa using h)]; rfl
  rw [h1]
  simp
  rfl
theorem byte_eq {s : ByteArray} {i : Nat} {c : UInt8} (h : i < s.size) : s.data.toList[i]? = some c ↔ bt s (i : Int) = (c.toNat : Int) := by
  rw [bt_get h]
  have := bt_range s (i : Int)
  constructor
  · intro e
    have e := Option.some.inj e
    rw [← e]
    rw [UInt8.toNat_ofNat']
    omega
  · intro e
    rw [e]
    simp
theorem extract_get (s : ByteArray) (p i : Nat) : (s.extract p s.size).data.toList[i]? = s.data.toList[p + i]? := by
  rw [Lib.extract_data, List.getElem?_take]
  split
  · rw [List.getElem?_drop]
  · rw [List.getElem?_eq_none]; rw [data_length]; omega
theorem bt_ext {s : ByteArray} {p i : Nat} (h : p + i < s.size) : bt (s.extract p s.size) (i : Int) = bt s ((p + i : Nat) : Int) := by
  have hs : (s.extract p s.size).size = s.size - p := by simp
  have h1 := bt_get (s := s.extract p s.size) (i := i) (by omega)
  rw [extract_get, bt_get h] at h1
  have h2 := bt_range s ((p + i : Nat) : Int)
  have h3 := bt_range (s.extract p s.size) (i : Int)
  have h4 := congrArg UInt8.toNat (Option.some.inj h1)
  rw [UInt8.toNat_ofNat', UInt8.toNat_ofNat'] at h4
  omega
theorem index_at {s : ByteArray} {p q : Nat} (hp : p ≤ q) (hq : q ≤ s.size) (hb : ∀ j : Nat, p ≤ j → j < q → bt s (j : Int) ≠ 10) (he : q < s.size → bt s (q : Int) = 10) :
    Lib.indexByte (s.extract p s.size).data.toList 10 = if q < s.size then ((q - p : Nat) : Int) else -1 := by
  have hge := Lib.indexByte_ge (s.extract p s.size).data.toList 10
  by_cases h : Lib.indexByte (s.extract p s.size).data.toList 10 = -1
  · rw [h]
    split
    · rename_i hq2
      have := Lib.indexByte_none h (q - p)
      rw [extract_get, show p + (q - p) = q by omega] at this
      exact absurd ((byte_eq (c := 10) hq2).2 (he hq2)) this
    · rfl
  · obtain ⟨o, ho⟩ : ∃ o : Nat, Lib.indexByte (s.extract p s.size).data.toList 10 = o := ⟨(Lib.indexByte (s.extract p s.size).data.toList 10).toNat, by omega⟩
    obtain ⟨h1, h2⟩ := Lib.indexByte_some ho
    rw [extract_get] at h1
    have hlt : p + o < s.size := by
      rcases Nat.lt_or_ge (p + o) s.size with h | h
      · exact h
      · rw [List.getElem?_eq_none (by rw [data_length]; omega)] at h1; cases h1
    have h3 := (byte_eq hlt).1 h1
    have h4 : ¬ (p + o < q) := fun h => hb _ (by omega) h h3
    have h5 : q < s.size := by omega
    have h6 : ¬ (q < p + o) := fun h => by
      have := h2 (q - p) (by omega)
      rw [extract_get, show p + (q - p) = q by omega] at this
      exact this ((byte_eq (c := 10) h5).2 (he h5))
    rw [ho, if_pos h5]
    omega
theorem begin_step {s : ByteArray} {p : Nat} (hp : p < s.size) (k : Nat) : gnomonref09_begin.l0 (k + 1) s (p : Int) = gnomonref09_begin.j1 k s (p : Int) (bt s p) (decide (bt s p = 32 ∨ bt s p = 9 ∨ bt s p = 13 ∨ bt s p = 10)) := by
  rw [gnomonref09_begin.l0, if_pos (by omega), if_pos (by omega)]
  by_cases h1 : bt s p = 32
  · simp [h1]
  · by_cases h2 : bt s p = 9
    · simp [h2]
    · by_cases h3 : bt s p = 13
      · simp [h3]
      · simp [h1, h2, h3, Bool.beq_eq_decide_eq]
theorem skip_both (s : ByteArray) (hS : s.size ≤ 140737488351232) : ∀ n p : Nat, s.size - p ≤ n → p ≤ s.size → ∃ r : Nat, p ≤ r ∧ r ≤ s.size ∧
    (r < s.size → cls (bt s r) ≠ 1 ∧ cls (bt s r) ≠ 4) ∧ Ev (fun k => lex_skip.l0 k s (p : Int)) (r : Int) ∧ Ev (fun k => gnomonref09_begin.l0 k s (p : Int)) (r : Int) := by
  intro n
  induction n with
  | zero =>
    intro p h1 h2
    refine ⟨p, Nat.le_refl _, h2, fun h => by omega, ?_, ?_⟩
    · exact Ev.step (fun k => by rw [lex_skip.l0, if_neg (by omega)]) (Ev.now _)
    · exact Ev.step (fun k => by rw [gnomonref09_begin.l0, if_neg (by omega)]) (Ev.now _)
  | succ n ih =>
    intro p h1 h2
    by_cases hp : p < s.size
    · rcases cls_cases s (p : Int) with ⟨hc, hb, _⟩ | ⟨hc, hb⟩ | ⟨hc, hc4, hb⟩
      · obtain ⟨r, a, b, c, d, e⟩ := ih (p + 1) (by omega) (by omega)
        refine ⟨r, by omega, b, c, ?_, ?_⟩
        · refine Ev.step (fun k => by rw [lex_skip.l0, if_pos (by omega), if_pos (by omega)]) (Ev.bind (of_ev s p) ?_)
          refine Ev.congr (fun k => ?_) d
          rw [hc, if_neg (by omega), if_pos rfl, w1 (by omega)]
        · refine Ev.step (begin_step hp) (Ev.step (fun k => ?_) e)
          rw [gnomonref09_begin.j1, if_pos (by simpa using hb), w1 (by omega)]
      · obtain ⟨q, a1, a2, a3, a4, a5⟩ := scan_lf s hS _ p (Nat.le_refl _) h2
        have hi := index_at a1 a2 a3 a4
        by_cases hq : q < s.size
        · rw [if_pos hq] at hi
          obtain ⟨r, a, b, c, d, e⟩ := ih (q + 1) (by omega) (by omega)
          have hq10 := a4 hq
          refine ⟨r, by omega, b, c, ?_, ?_⟩
          · refine Ev.step (fun k => by rw [lex_skip.l0, if_pos (by omega), if_pos (by omega)]) (Ev.bind (of_ev s p) ?_)
            refine Ev.congr (fun k => ?_) d
            rw [hc, if_pos rfl, if_pos (by omega), strings_IndexByte.f, Option.bind_some]
            rw [show (Int.toNat 10).toUInt8 = 10 from rfl, show ((p : Int).toNat) = p from rfl, hi, if_neg (by omega), wn (by omega), w1 (by omega), show p + (q - p) + 1 = q + 1 by omega]
          · refine Ev.step (begin_step hp) (Ev.step (fun k => ?_) (a5 _ (Ev.step (begin_step hq) (Ev.step (fun k => ?_) e))))
            · rw [gnomonref09_begin.j1, if_neg (by rw [hb]; decide), if_pos hb]
            · rw [gnomonref09_begin.j1, if_pos (by rw [hq10]; decide), w1 (by omega)]
        · rw [if_neg hq] at hi
          refine ⟨s.size, by omega, Nat.le_refl _, fun h => by omega, ?_, ?_⟩
          · refine Ev.step (fun k => by rw [lex_skip.l0, if_pos (by omega), if_pos (by omega)]) (Ev.bind (of_ev s p) ?_)
            refine Ev.congr (fun k => ?_) (Ev.now _)
            rw [hc, if_pos rfl, if_pos (by omega), strings_IndexByte.f, Option.bind_some]
            rw [show (Int.toNat 10).toUInt8 = 10 from rfl, show ((p : Int).toNat) = p from rfl, hi, if_pos (by omega)]
          · refine Ev.step (begin_step hp) (Ev.step (fun k => ?_) (a5 _ (Ev.step (fun k => by rw [gnomonref09_begin.l0, if_neg (by omega)]) ?_)))
            · rw [gnomonref09_begin.j1, if_neg (by rw [hb]; decide), if_pos hb]
            · rw [show q = s.size by omega]; exact Ev.now _
      · refine ⟨p, Nat.le_refl _, h2, fun _ => ⟨hc, hc4⟩, ?_, ?_⟩
        · refine Ev.step (fun k => by rw [lex_skip.l0, if_pos (by omega), if_pos (by omega)]) (Ev.bind (of_ev s p) ?_)
          refine Ev.congr (fun k => ?_) (Ev.now _)
          rw [if_neg hc4, if_neg hc]
        · refine Ev.step (begin_step hp) (Ev.step (fun k => ?_) (Ev.now _))
          rw [gnomonref09_begin.j1, if_neg (by simp [hb]), if_neg hb.2.2.2.2]
    · refine ⟨p, Nat.le_refl _, h2, fun h => by omega, ?_, ?_⟩
      · exact Ev.step (fun k => by rw [lex_skip.l0, if_neg (by omega)]) (Ev.now _)
      · exact Ev.step (fun k => by rw [gnomonref09_begin.l0, if_neg (by omega)]) (Ev.now _)
end Go.Proofs.YtgkcjefbagnkpaaDoor.PLex
