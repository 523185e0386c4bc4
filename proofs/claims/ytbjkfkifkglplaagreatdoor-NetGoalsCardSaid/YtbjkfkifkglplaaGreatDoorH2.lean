/-
  The document's IsName: it answers for every text; what the program takes for a name is one.
-/
import Derived.Test.YtbjkfkifkglplaaGreatDoorH1b
set_option linter.unusedSectionVars false
set_option linter.unusedVariables false
set_option linter.unusedSimpArgs false
set_option maxRecDepth 100000
namespace Go.Proofs.YtbjkfkifkglplaaGreatDoor.Q
open Go Go.Den Go.RowKit Go.Proofs
/-- From some round on F answers, always the same, and so. -/
def TotP {R : Type} (P : R → Prop) (F : Nat → Option R) : Prop := ∃ v, P v ∧ Ev F v
section
variable {A R : Type} {P : R → Prop} {f g : Nat → Option R}
theorem Tot.now {v : R} (h : P v) : TotP P (fun _ => some v) := ⟨v, h, Ev.now v⟩
theorem Tot.step (h : ∀ k, f (k + 1) = g k) (hg : TotP P g) : TotP P f := by obtain ⟨v, hp, hv⟩ := hg; exact ⟨v, hp, Ev.step h hv⟩
theorem Tot.congr (h : ∀ k, f k = g k) (hg : TotP P g) : TotP P f := by obtain ⟨v, hp, hv⟩ := hg; exact ⟨v, hp, Ev.congr h hv⟩
theorem Tot.bind {a : Nat → Option A} {b : Nat → A → Option R} {x : A} (ha : Ev a x) (h : TotP P (fun k => b k x)) : TotP P (fun k => (a k).bind (b k)) := by obtain ⟨v, hp, hv⟩ := h; exact ⟨v, hp, Ev.bind ha hv⟩
theorem Tot.bindS {a : Option A} {b : Nat → A → Option R} {x : A} (ha : a = some x) (h : TotP P (fun k => b k x)) : TotP P (fun k => a.bind (b k)) := by subst ha; exact h
theorem Tot.ite {c : Prop} [Decidable c] (h : c → TotP P f) (h' : ¬ c → TotP P g) : TotP P (fun k => if c then f k else g k) := by
  by_cases hc : c
  · simpa only [if_pos hc] using h hc
  · simpa only [if_neg hc] using h' hc
theorem Tot.pos {c : Prop} [Decidable c] (hc : c) (h : TotP P f) : TotP P (fun k => if c then f k else g k) := by simpa only [if_pos hc] using h
theorem Tot.neg {c : Prop} [Decidable c] (hc : ¬ c) (h : TotP P g) : TotP P (fun k => if c then f k else g k) := by simpa only [if_neg hc] using h
theorem Ev.pos {c : Prop} [Decidable c] {v : R} (hc : c) (h : Ev f v) : Ev (fun k => if c then f k else g k) v := by simpa only [if_pos hc] using h
theorem Ev.neg {c : Prop} [Decidable c] {v : R} (hc : ¬ c) (h : Ev g v) : Ev (fun k => if c then f k else g k) v := by simpa only [if_neg hc] using h
theorem Ev.bindS {a : Option A} {b : Nat → A → Option R} {x : A} {v : R} (ha : a = some x) (h : Ev (fun k => b k x) v) : Ev (fun k => a.bind (b k)) v := by subst ha; exact h
end
/-- No list, no text is longer than memory. -/
abbrev cap : Nat := 140737488355328
def isL (c : Int) : Bool := decide ((97 ≤ c ∧ c ≤ 122) ∨ (65 ≤ c ∧ c ≤ 90))
def isD (c : Int) : Bool := decide (48 ≤ c ∧ c ≤ 57)
theorem letter_eq (c : Int) : r09_letter.f c = some (isL c) := by
  unfold r09_letter.f isL
  repeat' split
  all_goals (congr 1; first | (apply decide_eq_decide.2; omega) | (symm; apply decide_eq_true; omega) | (symm; apply decide_eq_false; omega))
theorem digit_eq (c : Int) : r09_digit.f c = some (isD c) := by
  unfold r09_digit.f isD
  repeat' split
  all_goals (congr 1; first | (apply decide_eq_decide.2; omega) | (symm; apply decide_eq_true; omega) | (symm; apply decide_eq_false; omega))
theorem w1 {n : Nat} (h : n ≤ cap) : w64 ((n : Int) + 1) = ((n + 1 : Nat) : Int) := by show RowKit.wrap64 _ = _; have : cap = 140737488355328 := rfl; unfold RowKit.wrap64; omega
/-! begin -/
theorem begin_both {s : ByteArray} (hS : s.size ≤ cap) : ∀ n p : Nat, s.size - p ≤ n → p ≤ s.size →
    (∃ q : Nat, q ≤ s.size ∧ Ev (fun k => r09_begin.l0 k s (p : Int)) (q : Int)) ∧ (∃ q : Nat, q ≤ s.size ∧ Ev (fun k => r09_begin.l2 k s (p : Int)) (q : Int)) := by
  have fin : (∃ q : Nat, q ≤ s.size ∧ Ev (fun k => r09_begin.l0 k s ((s.size : Nat) : Int)) (q : Int)) ∧ (∃ q : Nat, q ≤ s.size ∧ Ev (fun k => r09_begin.l2 k s ((s.size : Nat) : Int)) (q : Int)) := by
    have h1 : Ev (fun k => r09_begin.l0 k s ((s.size : Nat) : Int)) ((s.size : Nat) : Int) := Ev.step (fun k => by rw [r09_begin.l0, if_neg (by omega)]) (Ev.now _)
    exact ⟨⟨_, Nat.le_refl _, h1⟩, ⟨_, Nat.le_refl _, Ev.step (fun k => by rw [r09_begin.l2, if_neg (by omega)]) h1⟩⟩
  intro n
  induction n with
  | zero =>
    intro p h1 h2
    obtain rfl : p = s.size := by omega
    exact fin
  | succ n ih =>
    intro p h1 h2
    by_cases hp : p < s.size
    · obtain ⟨⟨qa, la, ha⟩, ⟨qb, lb, hb⟩⟩ := ih (p + 1) (by omega) (by omega)
      have e0 : ∀ k, r09_begin.l0 (k + 1) s (p : Int) = r09_begin.j1 k s (p : Int) (btI s p) (decide (btI s p = 32 ∨ btI s p = 9 ∨ btI s p = 13 ∨ btI s p = 10)) := fun k => by
        rw [r09_begin.l0, if_pos (by omega), if_pos (by omega), if_pos (by omega)]
        by_cases c1 : btI s p = 32
        · rw [if_pos c1]; congr 1; simp [c1]
        · rw [if_neg c1]
          by_cases c2 : btI s p = 9
          · rw [if_pos c2]; congr 1; simp [c2]
          · rw [if_neg c2]
            by_cases c3 : btI s p = 13
            · rw [if_pos c3]; congr 1; simp [c3]
            · rw [if_neg c3]; congr 1; simp [c1, c2, c3]
      have e2 : ∀ k, r09_begin.l2 (k + 1) s (p : Int) = if btI s p = 10 then r09_begin.l0 k s (p : Int) else r09_begin.l2 k s ((p + 1 : Nat) : Int) := fun k => by
        rw [r09_begin.l2, if_pos (by omega), if_pos (by omega), if_pos (by omega), w1 (by omega)]
      by_cases hbl : btI s p = 32 ∨ btI s p = 9 ∨ btI s p = 13 ∨ btI s p = 10
      · have A : Ev (fun k => r09_begin.l0 k s (p : Int)) (qa : Int) := Ev.step (fun k => by rw [e0, decide_eq_true hbl]) (Ev.step (f := fun k => r09_begin.j1 k s (p : Int) (btI s p) true) (fun k => by rw [r09_begin.j1, if_pos rfl, w1 (by omega)]) ha)
        refine ⟨⟨_, la, A⟩, ?_⟩
        by_cases h10 : btI s p = 10
        · exact ⟨_, la, Ev.step (fun k => by rw [e2, if_pos h10]) A⟩
        · exact ⟨_, lb, Ev.step (fun k => by rw [e2, if_neg h10]) hb⟩
      · have B : Ev (fun k => r09_begin.l2 k s (p : Int)) (qb : Int) := Ev.step (fun k => by rw [e2, if_neg (by omega)]) hb
        refine ⟨?_, ⟨_, lb, B⟩⟩
        by_cases h35 : btI s p = 35
        · exact ⟨_, lb, Ev.step (fun k => by rw [e0, decide_eq_false hbl]) (Ev.step (f := fun k => r09_begin.j1 k s (p : Int) (btI s p) false) (fun k => by rw [r09_begin.j1, if_neg (by decide), if_pos h35]) B)⟩
        · exact ⟨p, h2, Ev.step (fun k => by rw [e0, decide_eq_false hbl]) (Ev.step (f := fun k => r09_begin.j1 k s (p : Int) (btI s p) false) (fun k => by rw [r09_begin.j1, if_neg (by decide), if_neg h35]) (Ev.now _))⟩
    · obtain rfl : p = s.size := by omega
      exact fin
/-- Where a letter stands nothing is skipped. -/
theorem begin_stay {s : ByteArray} (h0 : 0 < s.size) (hc : isL (btI s 0) = true) : Ev (fun k => r09_begin.f k s 0) 0 := by
  have hc := of_decide_eq_true hc
  refine Ev.congr (fun k => by rw [r09_begin.f]) (Ev.step (g := fun k => r09_begin.j1 k s 0 (btI s 0) false) (fun k => ?_) (Ev.step (fun k => by rw [r09_begin.j1, if_neg (by decide), if_neg (by omega)]) (Ev.now _)))
  rw [r09_begin.l0, if_pos (by omega), if_pos (by omega), if_pos (by omega), if_neg (by omega), if_neg (by omega), if_neg (by omega), decide_eq_false (by omega)]
/-! A number, a word, a sign -/
abbrev Tok := Int × ByteArray × Int × Int × Int × Int
def isW (c : Int) : Bool := isL c || (isD c || decide (c = 95))
/-- No word. -/
def NoW (v : Tok) : Prop := v.1 ≠ 1
/-- A word that begins so, and goes on just so far. -/
def IsW (s : ByteArray) (p : Nat) (v : Tok) : Prop := v.2.2.2.1 = (p : Int) ∧ (v.2.2.2.2.1 = (s.size : Int) → ∀ i : Nat, p ≤ i → i < s.size → isW (btI s i) = true)
theorem number_tot {s : ByteArray} (hS : s.size ≤ cap) {p : Nat} (hp : p < s.size) (a : Int) (b : ByteArray) (c d : Int) : ∀ n i : Nat, s.size - i ≤ n → p ≤ i → i ≤ s.size → ∀ x : Int, TotP NoW (fun k => r09_number.l0 k s (p : Int) (i : Int) x a b c d)
  | n, i, h1, h2, h3, x => by
    have tail : TotP NoW (fun _ : Nat => if 0 ≤ (p : Int) then (if (p : Int) < (s.size : Int) then (if (btI s p) = 48 then (if (i : Int) > (w64 ((p : Int) + 1)) then (some (0, (⟨#[]⟩ : ByteArray), 0, 0, (p : Int), 91)) else (if x > 2147483647 then (some (0, (⟨#[]⟩ : ByteArray), 0, 0, (p : Int), 91)) else (if 0 ≤ (i : Int) then (if (i : Int) ≤ (s.size : Int) then (if 0 ≤ (p : Int) then (if (p : Int) ≤ (i : Int) then (some (2, (s.extract (Int.toNat ((p : Int))) (Int.toNat ((i : Int)))), x, (p : Int), (i : Int), (0 : Int))) else (none)) else (none)) else (none)) else (none)))) else (if x > 2147483647 then (some (0, (⟨#[]⟩ : ByteArray), 0, 0, (p : Int), 91)) else (if 0 ≤ (i : Int) then (if (i : Int) ≤ (s.size : Int) then (if 0 ≤ (p : Int) then (if (p : Int) ≤ (i : Int) then (some (2, (s.extract (Int.toNat ((p : Int))) (Int.toNat ((i : Int)))), x, (p : Int), (i : Int), 0)) else (none)) else (none)) else (none)) else (none)))) else (none)) else (none)) := by
      refine Tot.pos (by omega) (Tot.pos (by omega) (Tot.ite (fun _ => Tot.ite (fun _ => Tot.now (by show _ ≠ _; simp)) fun _ => Tot.ite (fun _ => Tot.now (by show _ ≠ _; simp)) fun _ => ?_) fun _ => Tot.ite (fun _ => Tot.now (by show _ ≠ _; simp)) fun _ => ?_))
      all_goals exact Tot.pos (by omega) (Tot.pos (by omega) (Tot.pos (by omega) (Tot.pos (by omega) (Tot.now (by show _ ≠ _; simp)))))
    by_cases hi : i < s.size
    · refine Tot.step (fun k => by rw [r09_number.l0, if_pos (by omega), if_pos (by omega), if_pos (by omega)]) (Tot.bindS (digit_eq _) (Tot.ite (fun _ => ?_) fun _ => tail))
      match n, h1 with
      | 0, h1 => omega
      | n + 1, h1 =>
      refine Tot.step (fun k => by rw [r09_number.j1]) (Tot.ite (fun _ => Tot.pos (by omega) (Tot.pos (by omega) ?_)) fun _ => ?_)
      all_goals rw [w1 (by omega)]; exact number_tot hS hp a b c d n (i + 1) (by omega) (by omega) (by omega) _
    · exact Tot.step (fun k => by rw [r09_number.l0, if_neg (by omega)]) tail
theorem word_tot {s : ByteArray} (hS : s.size ≤ cap) {p : Nat} (hp : p < s.size) (a : Int) (b : ByteArray) (c d : Int) : ∀ n i : Nat, s.size - i ≤ n → p ≤ i → i ≤ s.size → (∀ j : Nat, p ≤ j → j < i → isW (btI s j) = true) → TotP (IsW s p) (fun k => r09_Next.l1 k s (p : Int) (i : Int) a b c d)
  | n, i, h1, h2, h3, hb => by
    have tail : (i < s.size → isW (btI s i) = false) → TotP (IsW s p) (fun _ : Nat => if 0 ≤ (i : Int) then (if (i : Int) ≤ (s.size : Int) then (if 0 ≤ (p : Int) then (if (p : Int) ≤ (i : Int) then (some ((1 : Int), (s.extract (Int.toNat ((p : Int))) (Int.toNat ((i : Int)))), (0 : Int), (p : Int), (i : Int), (0 : Int))) else (none)) else (none)) else (none)) else (none)) := fun _ =>
      Tot.pos (by omega) (Tot.pos (by omega) (Tot.pos (by omega) (Tot.pos (by omega) (Tot.now ⟨rfl, fun he j hj hj2 => hb j hj (by have he : (i : Int) = (s.size : Int) := he; omega)⟩))))
    by_cases hi : i < s.size
    · have go : isW (btI s i) = true → TotP (IsW s p) (fun k => r09_Next.l1 k s (p : Int) (w64 ((i : Int) + 1)) a b c d) := fun hw => by
        match n, h1 with
        | 0, h1 => omega
        | n + 1, h1 =>
        rw [w1 (by omega)]
        exact word_tot hS hp a b c d n (i + 1) (by omega) (by omega) (by omega) fun j hj hj2 => by
          by_cases e : j = i
          · rw [e]; exact hw
          · exact hb j hj (by omega)
      refine Tot.step (fun k => by rw [r09_Next.l1, if_pos (by omega), if_pos (by omega), if_pos (by omega)]) (Tot.bindS (letter_eq _) (Tot.ite (fun h => go ?_) fun hL => ?_))
      · unfold isW; rw [h]; rfl
      refine Tot.pos (by omega) (Tot.pos (by omega) (Tot.bindS (digit_eq _) (Tot.ite (fun h => go ?_) fun hD => ?_)))
      · unfold isW; rw [h]; simp
      refine Tot.pos (by omega) (Tot.pos (by omega) (Tot.ite (fun h => go ?_) fun hU => tail fun _ => ?_))
      · unfold isW; rw [decide_eq_true h]; simp
      · rw [Bool.not_eq_true] at hL hD
        unfold isW; rw [hL, hD, decide_eq_false hU]; rfl
    · exact Tot.step (fun k => by rw [r09_Next.l1, if_neg (by omega)]) (tail fun h => absurd h hi)
/-- A run of letters, digits, low lines to the text's end is one word. -/
theorem word_all {s : ByteArray} (hS : s.size ≤ cap) (a : Int) (b : ByteArray) (c d : Int) (hw' : ∀ i : Nat, i < s.size → isW (btI s i) = true) (h0 : 0 < s.size) : ∀ n i : Nat, s.size - i ≤ n → i ≤ s.size → Ev (fun k => r09_Next.l1 k s 0 (i : Int) a b c d) (1, s.extract 0 s.size, 0, 0, (s.size : Int), 0)
  | n, i, h1, h3 => by
    have hw : ∀ i : Nat, i < s.size → isL (btI s i) = true ∨ isD (btI s i) = true ∨ btI s i = 95 := fun i hi => by simpa [isW] using hw' i hi
    by_cases hi : i < s.size
    · have go : Ev (fun k => r09_Next.l1 k s 0 (w64 ((i : Int) + 1)) a b c d) (1, s.extract 0 s.size, 0, 0, (s.size : Int), 0) := by
        match n, h1 with
        | 0, h1 => omega
        | n + 1, h1 =>
        rw [w1 (by omega)]
        exact word_all hS a b c d hw' h0 n (i + 1) (by omega) (by omega)
      refine Ev.step (fun k => by rw [r09_Next.l1, if_pos (by omega), if_pos (by omega), if_pos (by omega)]) (Ev.bindS (letter_eq _) ?_)
      by_cases hL : isL (btI s i) = true
      · exact Ev.pos hL go
      · refine Ev.neg hL (Ev.pos (by omega) (Ev.pos (by omega) (Ev.bindS (digit_eq _) ?_)))
        by_cases hD : isD (btI s i) = true
        · exact Ev.pos hD go
        · exact Ev.neg hD (Ev.pos (by omega) (Ev.pos (by omega) (Ev.pos (((hw i hi).resolve_left hL).resolve_left hD) go)))
    · obtain rfl : i = s.size := by omega
      exact Ev.step (g := fun _ => some (1, s.extract 0 s.size, 0, 0, (s.size : Int), 0)) (fun k => by rw [r09_Next.l1, if_neg (by omega), if_pos (by omega), if_pos (by omega), if_pos (by omega), if_pos (by omega)]; rfl) (Ev.now _)
theorem sign1_tot {s : ByteArray} (hS : s.size ≤ cap) {p : Nat} (hp : p < s.size) (x : ByteArray) (a : Int) (b : ByteArray) (c d : Int) (hx : x.size ≤ cap) : ∀ n i : Nat, x.size - i ≤ n → i ≤ x.size → TotP NoW (fun k => r09_Next.l3 k s (p : Int) x (i : Int) a b c d)
  | n, i, h1, h3 => by
    by_cases hi : i < x.size
    · refine Tot.step (fun k => by rw [r09_Next.l3, if_pos (by omega), if_pos (by omega), if_pos (by omega), if_pos (by omega), if_pos (by omega), w1 (by omega)]) (Tot.ite (fun _ => Tot.pos (by omega) (Tot.pos (by omega) (Tot.pos (by omega) (Tot.pos (by omega) (Tot.now (by show _ ≠ _; simp)))))) fun _ => ?_)
      match n, h1 with
      | 0, h1 => omega
      | n + 1, h1 => exact sign1_tot hS hp x a b c d hx n (i + 1) (by omega) (by omega)
    · exact Tot.step (fun k => by rw [r09_Next.l3, if_neg (by omega)]) (Tot.now (by show _ ≠ _; simp))
theorem sign2_tot {s : ByteArray} (hS : s.size ≤ cap) {p : Nat} (hp : p < s.size) (x) (a : Int) (b : ByteArray) (c d : Int) : ∀ n i : Nat, 9 - i ≤ n → i ≤ 9 → TotP NoW (fun k => r09_Next.l2 k s (p : Int) x (i : Int) a b c d)
  | n, i, h1, h3 => by
    have hc : cap = 140737488355328 := rfl
    have hw2 : w64 ((p : Int) + 2) = ((p + 2 : Nat) : Int) := by show RowKit.wrap64 _ = _; unfold RowKit.wrap64; omega
    by_cases hi : i < 9
    · have go : TotP NoW (fun k => r09_Next.l2 k s (p : Int) x (w64 ((i : Int) + 1)) a b c d) := by
        match n, h1 with
        | 0, h1 => omega
        | n + 1, h1 =>
        rw [w1 (by omega)]
        exact sign2_tot hS hp x a b c d n (i + 1) (by omega) (by omega)
      refine Tot.step (fun k => by rw [r09_Next.l2, hw2]) (Tot.pos (by omega) (Tot.ite (fun h => ?_) fun _ => go))
      refine Tot.pos (by omega) (Tot.pos h (Tot.pos (by omega) (Tot.pos (by omega) (Tot.pos (by omega) (Tot.pos (by omega) (Tot.ite (fun _ => Tot.pos (by omega) (Tot.pos (by omega) (Tot.now (by show _ ≠ _; simp)))) fun _ => go))))))
    · refine Tot.step (fun k => by rw [r09_Next.l2, if_neg (by omega)]) ?_
      exact sign1_tot hS hp (⟨#[44, 59, 46, 123, 125, 40, 41, 33, 60, 62, 63, 43, 45, 42]⟩ : ByteArray) a b c d (by decide) 14 0 (by decide) (by decide)
/-- Where the token begins, and what it is if it is a word. -/
def NextP (s : ByteArray) (v : Tok) : Prop := v.1 = 1 → ∃ q : Nat, q < s.size ∧ isL (btI s q) = true ∧ IsW s q v
theorem next_tot {s : ByteArray} (hS : s.size ≤ cap) : TotP (NextP s) (fun k => r09_Next.f k s 0) := by
  refine Tot.congr (fun k => by rw [r09_Next.f, if_neg (by omega), if_neg (by omega)]) (Tot.step (fun k => by rw [r09_Next.j0]) ?_)
  obtain ⟨⟨q, hq, h⟩, -⟩ := begin_both hS s.size 0 (by omega) (Nat.zero_le _)
  have no : ∀ {F : Nat → Option Tok}, TotP NoW F → TotP (NextP s) F := fun ⟨v, hv, h⟩ => ⟨v, fun h1 => absurd h1 hv, h⟩
  refine Tot.bind (x := (q : Int)) (Ev.congr (fun k => by rw [r09_begin.f]; rfl) h) (Tot.ite (fun _ => Tot.now (fun h => absurd (show (0 : Int) = 1 from h) (by decide))) fun hne => ?_)
  have hq2 : q < s.size := by omega
  refine Tot.pos (by omega) (Tot.pos (by omega) (Tot.bindS (digit_eq _) (Tot.ite (fun _ => ?_) fun _ => ?_)))
  · obtain ⟨r, hr0, hr⟩ := number_tot hS hq2 0 (⟨#[]⟩ : ByteArray) 0 0 s.size q (by omega) (Nat.le_refl _) hq 0
    exact Tot.bind (x := r) (Ev.congr (fun k => by rw [r09_number.f]) hr) (Tot.now fun h1 => absurd h1 hr0)
  · refine Tot.pos (by omega) (Tot.pos (by omega) (Tot.bindS (letter_eq _) (Tot.ite (fun hL => ?_) fun _ => no (sign2_tot hS hq2 _ _ _ _ _ 9 0 (by omega) (by omega)))))
    obtain ⟨v, hv, h⟩ := word_tot hS hq2 0 (⟨#[]⟩ : ByteArray) 0 0 s.size q (by omega) (Nat.le_refl _) hq (fun j h1 h2 => by omega)
    exact ⟨v, fun _ => ⟨q, hq2, hL, hv⟩, h⟩
/-! IsName -/
abbrev K15 : List ByteArray := [(⟨#[99, 108, 111, 99, 107]⟩ : ByteArray), (⟨#[105, 110, 116]⟩ : ByteArray), (⟨#[99, 104, 97, 110]⟩ : ByteArray), (⟨#[97, 117, 116, 111]⟩ : ByteArray), (⟨#[108, 111, 99]⟩ : ByteArray), (⟨#[101, 100, 103, 101]⟩ : ByteArray), (⟨#[105, 110]⟩ : ByteArray), (⟨#[105, 110, 118]⟩ : ByteArray), (⟨#[119, 104, 101, 110]⟩ : ByteArray), (⟨#[115, 121, 110, 99]⟩ : ByteArray), (⟨#[100, 111]⟩ : ByteArray), (⟨#[117, 114, 103, 101, 110, 116]⟩ : ByteArray), (⟨#[99, 111, 109, 109, 105, 116, 116, 101, 100]⟩ : ByteArray), (⟨#[116, 114, 117, 101]⟩ : ByteArray), (⟨#[114, 101, 97, 99, 104]⟩ : ByteArray)]
abbrev never_ : ByteArray := ⟨#[110, 101, 118, 101, 114]⟩
theorem kept_mem (s : ByteArray) : s ∈ lex_kept ↔ s ∈ K15 ∨ s = never_ := by
  unfold lex_kept
  simp only [List.mem_cons, List.not_mem_nil, or_false, or_assoc]
theorem name_loop {s : ByteArray} {x} (hx : ([x.1, x.2.1, x.2.2.1, x.2.2.2.1, x.2.2.2.2.1, x.2.2.2.2.2.1, x.2.2.2.2.2.2.1, x.2.2.2.2.2.2.2.1, x.2.2.2.2.2.2.2.2.1, x.2.2.2.2.2.2.2.2.2.1, x.2.2.2.2.2.2.2.2.2.2.1, x.2.2.2.2.2.2.2.2.2.2.2.1, x.2.2.2.2.2.2.2.2.2.2.2.2.1, x.2.2.2.2.2.2.2.2.2.2.2.2.2.1, x.2.2.2.2.2.2.2.2.2.2.2.2.2.2] : List ByteArray) = K15) : ∀ n i : Nat, 15 - i ≤ n → i ≤ 15 →
    (s ∈ K15.drop i → Ev (fun k => r09_IsName.l0 k s x (i : Int)) false) ∧ (s ∉ K15.drop i → ∀ r, Ev (fun k => r09_IsName.l0 k s x 15) r → Ev (fun k => r09_IsName.l0 k s x (i : Int)) r) := by
  intro n
  induction n with
  | zero =>
    intro i h1 h2
    obtain rfl : i = 15 := by omega
    exact ⟨fun h => (by simp at h), fun _ r h => h⟩
  | succ n ih =>
    intro i h1 h2
    by_cases hi : i < 15
    · obtain ⟨ia, ib⟩ := ih (i + 1) (by omega) (by omega)
      have hd : K15.drop i = K15[i] :: K15.drop (i + 1) := List.drop_eq_getElem_cons hi
      have hr : rdT .str K15 (i : Int) = K15[i] := rdT_head (t := .str) hd
      have st : ∀ k, r09_IsName.l0 (k + 1) s x (i : Int) = if s = K15[i] then some false else r09_IsName.l0 k s x ((i + 1 : Nat) : Int) := by
        intro k
        rw [r09_IsName.l0, if_pos (by omega), if_pos (by omega), if_pos (by omega), w1 (by have : cap = 140737488355328 := rfl; omega), hx, hr]
      rw [hd]
      by_cases hs : s = K15[i]
      · refine ⟨fun _ => Ev.step (fun k => ?_) (Ev.now _), fun hn => absurd (by rw [← hs]; exact List.mem_cons_self) hn⟩
        rw [st, if_pos hs]
      · refine ⟨fun h => Ev.step (fun k => ?_) (ia ((List.mem_cons.1 h).resolve_left hs)), fun hn r hr2 => Ev.step (fun k => ?_) (ib (fun h => hn (List.mem_cons_of_mem _ h)) r hr2)⟩
        · rw [st, if_neg hs]
        · rw [st, if_neg hs]
    · obtain rfl : i = 15 := by omega
      exact ⟨fun h => (by simp at h), fun _ r h => h⟩
theorem ff {Q : Prop} (h : false = true) : Q := by cases h
theorem isName_tot {s : ByteArray} (hS : s.size ≤ cap) : TotP (fun b => b = true → s.size ≤ 16 ∧ isL (btI s 0) = true ∧ (∀ i : Nat, i < s.size → isW (btI s i) = true) ∧ 0 < s.size ∧ s ∉ lex_kept) (fun k => r09_IsName.f k s) := by
  refine Tot.congr (fun k => by rw [r09_IsName.f]) ?_
  obtain ⟨la, lb⟩ := name_loop (s := s) (x := ((⟨#[99, 108, 111, 99, 107]⟩ : ByteArray), (⟨#[105, 110, 116]⟩ : ByteArray), (⟨#[99, 104, 97, 110]⟩ : ByteArray), (⟨#[97, 117, 116, 111]⟩ : ByteArray), (⟨#[108, 111, 99]⟩ : ByteArray), (⟨#[101, 100, 103, 101]⟩ : ByteArray), (⟨#[105, 110]⟩ : ByteArray), (⟨#[105, 110, 118]⟩ : ByteArray), (⟨#[119, 104, 101, 110]⟩ : ByteArray), (⟨#[115, 121, 110, 99]⟩ : ByteArray), (⟨#[100, 111]⟩ : ByteArray), (⟨#[117, 114, 103, 101, 110, 116]⟩ : ByteArray), (⟨#[99, 111, 109, 109, 105, 116, 116, 101, 100]⟩ : ByteArray), (⟨#[116, 114, 117, 101]⟩ : ByteArray), (⟨#[114, 101, 97, 99, 104]⟩ : ByteArray))) rfl 15 0 (by omega) (by omega)
  rw [List.drop_zero] at la lb
  by_cases hm : s ∈ K15
  · exact ⟨_, fun h => (by cases h), la hm⟩
  · obtain ⟨r, hr0, hr⟩ := next_tot hS
    obtain ⟨v, hP, hv⟩ : TotP (fun b => b = true → s.size ≤ 16 ∧ isL (btI s 0) = true ∧ (∀ i : Nat, i < s.size → isW (btI s i) = true) ∧ 0 < s.size ∧ s ∉ lex_kept) (fun k => r09_IsName.l0 k s _ 15) := by
      refine Tot.step (fun k => by rw [r09_IsName.l0, if_neg (by decide)]) (Tot.bind hr (Tot.ite (fun _ => Tot.now ff) fun hnv => Tot.ite (fun _ => Tot.ite (fun h1 => Tot.ite (fun h2 => Tot.ite (fun h3 => Tot.now fun h => ?_) fun _ => Tot.now ff) fun _ => Tot.now ff) fun _ => Tot.now ff) fun _ => Tot.now ff))
      obtain ⟨q, hq, hL, hw1, hw2⟩ := hr0 h1
      have h := of_decide_eq_true h
      obtain rfl : q = 0 := by have := hw1.symm.trans h3; omega
      exact ⟨by clear lb la; omega, hL, fun i hi => hw2 h2 i (Nat.zero_le _) hi, hq, fun hk => ((kept_mem s).1 hk).elim hm hnv⟩
    exact ⟨v, hP, lb hm v hv⟩
theorem isName_true {s : ByteArray} (h0 : 0 < s.size) (h16 : s.size ≤ 16) (hL : isL (btI s 0) = true) (hw' : ∀ i : Nat, i < s.size → isW (btI s i) = true) (hk : s ∉ lex_kept) : Ev (fun k => r09_IsName.f k s) true := by
  have hcap : cap = 140737488355328 := rfl
  refine Ev.congr (fun k => by rw [r09_IsName.f]) ?_
  have hN : Ev (fun k => r09_Next.f k s 0) (1, s.extract 0 s.size, 0, 0, (s.size : Int), 0) := by
    refine Ev.congr (fun k => by rw [r09_Next.f, if_neg (by omega), if_neg (by omega)]) (Ev.step (fun k => by rw [r09_Next.j0]) (Ev.bind (begin_stay h0 hL) ?_))
    refine Ev.neg (by omega) (Ev.pos (by omega) (Ev.pos (by omega) (Ev.bindS (digit_eq _) ?_)))
    have hD : ¬ isD (btI s 0) = true := by have := of_decide_eq_true hL; intro h; have := of_decide_eq_true h; omega
    refine Ev.neg hD ?_
    exact Ev.pos (by omega) (Ev.pos (by omega) (Ev.bindS (letter_eq _) (Ev.pos hL (word_all (by omega) _ _ _ _ hw' h0 s.size 0 (by omega) (by omega)))))
  have hl : ∀ x, Ev (fun k => r09_IsName.l0 k s x 15) true := fun x => by
    refine Ev.step (fun k => by rw [r09_IsName.l0, if_neg (by omega)]) (Ev.bind hN ?_)
    refine Ev.neg (fun h => hk ((kept_mem s).2 (.inr h))) (Ev.pos rfl (Ev.pos rfl (Ev.pos rfl (Ev.pos rfl ?_))))
    rw [decide_eq_true (show (s.size : Int) ≤ 16 by omega)]
    exact Ev.now _
  exact (name_loop rfl 15 0 (by decide) (by decide)).2 (fun h => hk ((kept_mem s).2 (.inl h))) _ (hl _)
/-- The document's answer. -/
noncomputable def refName (s : ByteArray) : Bool := by classical exact if h : s.size ≤ cap then (isName_tot h).choose else false
theorem refName_spec {s : ByteArray} (hS : s.size ≤ cap) : (refName s = true → s.size ≤ 16 ∧ isL (btI s 0) = true ∧ (∀ i : Nat, i < s.size → isW (btI s i) = true) ∧ 0 < s.size ∧ s ∉ lex_kept) ∧ Ev (fun k => r09_IsName.f k s) (refName s) := by
  unfold refName
  rw [dif_pos hS]
  exact (isName_tot hS).choose_spec
theorem refName_ev {s : ByteArray} (hS : s.size ≤ cap) : Ev (fun k => r09_IsName.f k s) (refName s) := (refName_spec hS).2
theorem refName_true {s : ByteArray} (h0 : 0 < s.size) (h16 : s.size ≤ 16) (hL : isL (btI s 0) = true) (hw' : ∀ i : Nat, i < s.size → isW (btI s i) = true) (hk : s ∉ lex_kept) : refName s = true :=
  Ev.uniq (refName_ev (by have : cap = 140737488355328 := rfl; omega)) (isName_true h0 h16 hL hw' hk)
end Go.Proofs.YtbjkfkifkglplaaGreatDoor.Q
