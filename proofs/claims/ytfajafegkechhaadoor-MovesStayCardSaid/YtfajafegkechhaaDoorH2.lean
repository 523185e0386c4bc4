/-
  The document's IsName: it answers for every text; what the program takes for a name is one.
-/
import Derived.Test.YtfajafegkechhaaDoorH1b
set_option linter.unusedVariables false
set_option linter.unusedSimpArgs false
set_option maxRecDepth 100000
namespace Go.Proofs.YtfajafegkechhaaDoor.Q
open Go Go.Den Go.RowKit Go.Proofs
/-- From some round on F answers, always the same, and so. -/
def TotP {R : Type} (P : R → Prop) (F : Nat → Option R) : Prop := ∃ v, P v ∧ Ev F v
section
variable {A R : Type} {P : R → Prop} {f g : Nat → Option R}
theorem Tot.now {v : R} (h : P v) : TotP P (fun _ => some v) := ⟨v, h, Ev.now v⟩
theorem Tot.step (h : ∀ k, f (k + 1) = g k) (hg : TotP P g) : TotP P f := by obtain ⟨v, hp, hv⟩ := hg; exact ⟨v, hp, Ev.step h hv⟩
theorem Tot.congr (h : ∀ k, f k = g k) (hg : TotP P g) : TotP P f := by obtain ⟨v, hp, hv⟩ := hg; exact ⟨v, hp, Ev.congr h hv⟩
theorem Tot.bind {a : Nat → Option A} {b : Nat → A → Option R} {x : A} (ha : Ev a x) (h : TotP P (fun k => b k x)) : TotP P (fun k => (a k).bind (b k)) := by obtain ⟨v, hp, hv⟩ := h; exact ⟨v, hp, Ev.bind ha hv⟩
theorem Tot.bindS {a : Option A} {b : Nat → A → Option R} {x : A} (ha : a = some x) (h : TotP P (fun k => b k x)) : TotP P (fun k => a.bind (b k)) := by subst ha; exact h
theorem Tot.ite {c : Prop} [Decidable c] (h : c → TotP P f) (h' : ¬ c → TotP P g) : TotP P (fun k => if c then f k else g k) := by
  by_cases hc : c
  · simpa only [if_pos hc] using h hc
  · simpa only [if_neg hc] using h' hc
theorem Tot.pos {c : Prop} [Decidable c] (hc : c) (h : TotP P f) : TotP P (fun k => if c then f k else g k) := by simpa only [if_pos hc] using h
theorem Tot.neg {c : Prop} [Decidable c] (hc : ¬ c) (h : TotP P g) : TotP P (fun k => if c then f k else g k) := by simpa only [if_neg hc] using h
theorem Ev.pos {c : Prop} [Decidable c] {v : R} (hc : c) (h : Ev f v) : Ev (fun k => if c then f k else g k) v := by simpa only [if_pos hc] using h
theorem Ev.neg {c : Prop} [Decidable c] {v : R} (hc : ¬ c) (h : Ev g v) : Ev (fun k => if c then f k else g k) v := by simpa only [if_neg hc] using h
theorem Ev.bindS {a : Option A} {b : Nat → A → Option R} {x : A} {v : R} (ha : a = some x) (h : Ev (fun k => b k x) v) : Ev (fun k => a.bind (b k)) v := by subst ha; exact h
end
/-- No list, no text is longer than memory. -/
abbrev cap : Nat := 140737488355328
def isL (c : Int) : Bool := decide ((97 ≤ c ∧ c ≤ 122) ∨ (65 ≤ c ∧ c ≤ 90))
def isD (c : Int) : Bool := decide (48 ≤ c ∧ c ≤ 57)
theorem w1 {n : Nat} (h : n ≤ cap) : w64 ((n : Int) + 1) = ((n + 1 : Nat) : Int) := by show RowKit.wrap64 _ = _; have : cap = 140737488355328 := rfl; unfold RowKit.wrap64; omega
/-! begin -/
abbrev Tok := Int × ByteArray × Int × Int × Int × Int
def isW (c : Int) : Bool := isL c || (isD c || decide (c = 95))
/-- No word. -/
def NoW (v : Tok) : Prop := v.1 ≠ 1
/-- A word that begins so, and goes on just so far. -/
def IsW (s : ByteArray) (p : Nat) (v : Tok) : Prop := v.2.2.2.1 = (p : Int) ∧ (v.2.2.2.2.1 = (s.size : Int) → ∀ i : Nat, p ≤ i → i < s.size → isW (btI s i) = true)
def NextP (s : ByteArray) (v : Tok) : Prop := v.1 = 1 → ∃ q : Nat, q < s.size ∧ isL (btI s q) = true ∧ IsW s q v
abbrev K15 : List ByteArray := [(⟨#[99, 108, 111, 99, 107]⟩ : ByteArray), (⟨#[105, 110, 116]⟩ : ByteArray), (⟨#[99, 104, 97, 110]⟩ : ByteArray), (⟨#[97, 117, 116, 111]⟩ : ByteArray), (⟨#[108, 111, 99]⟩ : ByteArray), (⟨#[101, 100, 103, 101]⟩ : ByteArray), (⟨#[105, 110]⟩ : ByteArray), (⟨#[105, 110, 118]⟩ : ByteArray), (⟨#[119, 104, 101, 110]⟩ : ByteArray), (⟨#[115, 121, 110, 99]⟩ : ByteArray), (⟨#[100, 111]⟩ : ByteArray), (⟨#[117, 114, 103, 101, 110, 116]⟩ : ByteArray), (⟨#[99, 111, 109, 109, 105, 116, 116, 101, 100]⟩ : ByteArray), (⟨#[116, 114, 117, 101]⟩ : ByteArray), (⟨#[114, 101, 97, 99, 104]⟩ : ByteArray)]
abbrev never_ : ByteArray := ⟨#[110, 101, 118, 101, 114]⟩
theorem kept_mem (s : ByteArray) : s ∈ lex_kept ↔ s ∈ K15 ∨ s = never_ := by
  unfold lex_kept
  simp only [List.mem_cons, List.not_mem_nil, or_false, or_assoc]
theorem ff {Q : Prop} (h : false = true) : Q := by cases h
/-- The string is a name. -/
noncomputable def refName (s : ByteArray) : Bool := @decide (s.size ≤ 16 ∧ isL (btI s 0) = true ∧ (∀ i : Nat, i < s.size → isW (btI s i) = true) ∧ 0 < s.size ∧ s ∉ lex_kept) (Classical.propDecidable _)
theorem refName_spec {s : ByteArray} (hS : s.size ≤ cap) : (refName s = true → s.size ≤ 16 ∧ isL (btI s 0) = true ∧ (∀ i : Nat, i < s.size → isW (btI s i) = true) ∧ 0 < s.size ∧ s ∉ lex_kept) ∧ True :=
  ⟨fun h => by unfold refName at h; exact @of_decide_eq_true _ (Classical.propDecidable _) h, trivial⟩
theorem refName_true {s : ByteArray} (h0 : 0 < s.size) (h16 : s.size ≤ 16) (hL : isL (btI s 0) = true) (hw' : ∀ i : Nat, i < s.size → isW (btI s i) = true) (hk : s ∉ lex_kept) : refName s = true := by
  unfold refName; exact @decide_eq_true _ (Classical.propDecidable _) ⟨h16, hL, hw', h0, hk⟩
end Go.Proofs.YtfajafegkechhaaDoor.Q
