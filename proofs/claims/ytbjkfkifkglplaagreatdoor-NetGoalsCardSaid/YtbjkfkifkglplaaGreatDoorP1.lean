/-
  What a network's looks answer: the program's and the document's, over lists.
-/
import Derived.Test.YtbjkfkifkglplaaGreatDoorT4
import Derived.Test.YtbjkfkifkglplaaGreatDoorD5a
set_option linter.unusedSectionVars false
set_option linter.unusedVariables false
set_option linter.unusedSimpArgs false
set_option maxRecDepth 100000
namespace Go.Proofs.YtbjkfkifkglplaaGreatDoor.Q
open Go Go.Den Go.RowKit Go.Proofs
theorem or_if {β : Type} (p q : Bool) (e K : β) : (if (p || q) = true then e else K) = if p = true then e else if q = true then e else K := by cases p <;> simp
theorem and_if {β : Type} (p q : Bool) (e K : β) : (if (p && q) = true then e else K) = if p = true then (if q = true then e else K) else K := by cases p <;> simp
theorem not_if {β : Type} (p : Bool) (e K : β) : (if (!p) = true then e else K) = if p = true then K else e := by cases p <;> simp
theorem dec_if {β : Type} (c : Prop) [Decidable c] (e K : β) : (if decide c = true then e else K) = if c then e else K := by by_cases h : c <;> simp [h]
theorem flat_any {α β : Type} (f : α → List β) (p : β → Bool) : ∀ l : List α, (l.flatMap f).any p = l.any fun x => (f x).any p
  | [] => rfl
  | x :: t => by rw [List.flatMap_cons, List.any_append, List.any_cons, flat_any f p t]
theorem any_or {α : Type} (p q : α → Bool) : ∀ l : List α, (l.any p || l.any q) = l.any fun x => p x || q x
  | [] => rfl
  | x :: t => by rw [List.any_cons, List.any_cons, List.any_cons, ← any_or p q t]; ac_rfl
theorem any_congr {α : Type} {p q : α → Bool} : ∀ {l : List α}, (∀ x ∈ l, p x = q x) → l.any p = l.any q
  | [], _ => rfl
  | x :: t, h => by rw [List.any_cons, List.any_cons, h x List.mem_cons_self, any_congr fun y hy => h y (List.mem_cons_of_mem _ hy)]
theorem tl_of {α : Type} {P : α → Prop} {x : α} {t : List α} (h : ∀ y ∈ x :: t, P y) : ∀ y ∈ t, P y := fun y hy => h y (List.mem_cons_of_mem _ hy)
theorem hd_of {α : Type} {P : α → Prop} {x : α} {t : List α} (h : ∀ y ∈ x :: t, P y) : P x := h x List.mem_cons_self
/-! What came in. -/
theorem cap_is : cap = 140737488355328 := rfl
def okS (s : S81) : Prop := s.f3.length ≤ cap ∧ opsOk s.f3
def okE (e : S79) : Prop := e.f2.length ≤ cap ∧ (e.f3.length ≤ cap ∧ opsOk e.f3) ∧ e.f6.length ≤ cap ∧ ∀ s ∈ e.f6, okS s
def okL (l : S84) : Prop := l.f0.size ≤ cap ∧ l.f2.length ≤ cap
def okA (a : S76) : Prop := a.f0.size ≤ cap ∧ (a.f1.length ≤ cap ∧ ∀ l ∈ a.f1, okL l) ∧ a.f2.length ≤ cap ∧ ∀ e ∈ a.f2, okE e
structure OkN (a : List ByteArray) (b : List S86) (c : List ByteArray) (d : List S76) : Prop where
  al : a.length ≤ cap
  bl : b.length ≤ cap
  cl : c.length ≤ cap
  dl : d.length ≤ cap
  sa : ∀ s ∈ a, s.size ≤ cap
  sb : ∀ v ∈ b, v.f0.size ≤ cap
  sc : ∀ s ∈ c, s.size ≤ cap
  ds : ∀ x ∈ d, okA x
theorem u8_of {n : Int} (h : (Lit.int .u8 n).wf = true) : 0 ≤ n ∧ n ≤ 255 := by
  simp [Lit.wf, IntKind.min, IntKind.max, IntKind.signed, IntKind.bits] at h
  exact h
theorem okN_of {x : S26} (h : okT T26 x) : OkN x.f0 x.f1 x.f2 x.f3 := by
  have hc : cap = 140737488355328 := rfl
  obtain ⟨h0, h1, h2, h3⟩ := h
  have ho : ∀ l : List S151, okT (.list T151) l → l.length ≤ cap ∧ opsOk l := fun l h => ⟨Nat.le_trans h.2.1 (by decide), fun z hz => u8_of (h.1 z hz).1⟩
  have hs : ∀ s : S81, okT T81 s → okS s := fun s h => ho _ h.2.2.2
  have he : ∀ e : S79, okT T79 e → okE e := fun e h => by
    obtain ⟨_, _, g2, g3, _, _, g6⟩ := h
    exact ⟨Nat.le_trans g2.2.1 (by decide), ho _ g3, Nat.le_trans g6.2.1 (by decide), fun s h => hs s (g6.1 s h)⟩
  have hl : ∀ l : S84, okT T84 l → okL l := fun l h => by
    obtain ⟨g0, _, g2⟩ := h
    exact ⟨Nat.le_trans g0 (by decide), Nat.le_trans g2.2.1 (by decide)⟩
  have ha : ∀ a : S76, okT T76 a → okA a := fun a h => by
    obtain ⟨g0, g1, g2⟩ := h
    exact ⟨Nat.le_trans g0 (by decide), ⟨Nat.le_trans g1.2.1 (by decide), fun l hx => hl l (g1.1 l hx)⟩, Nat.le_trans g2.2.1 (by decide), fun e hx => he e (g2.1 e hx)⟩
  exact ⟨Nat.le_trans h0.2.1 (by decide), Nat.le_trans h1.2.1 (by decide), Nat.le_trans h2.2.1 (by decide), Nat.le_trans h3.2.1 (by decide), fun s hx => Nat.le_trans (h0.1 s hx) (by decide), fun v hx => Nat.le_trans (h1.1 v hx).1 (by decide), fun s hx => Nat.le_trans (h2.1 s hx) (by decide), fun x hx => ha x (h3.1 x hx)⟩
/-! some -/
def bSome (d : List S76) : Bool := decide ((d.length : Int) = 0) || d.any (fun x => decide ((x.f1.length : Int) = 0))
theorem some_idx : ∀ (d : List S76) (i : Nat), ∃ v : Int, slX.L0 d i = some v ∧ (d.any (fun x => decide ((x.f1.length : Int) = 0)) = decide (v ≥ 0))
  | [], i => ⟨-1, rfl, rfl⟩
  | x :: t, i => by
    rw [slX.L0, net_some_1.f, Option.bind_some, List.any_cons]
    by_cases h : (x.f1.length : Int) = 0
    · rw [decide_eq_true h, if_pos rfl, Bool.true_or]
      exact ⟨i, rfl, (decide_eq_true (by omega)).symm⟩
    · rw [decide_eq_false h, if_neg (by decide), Bool.false_or]
      exact some_idx t (i + 1)
theorem some_eq {a b c} {d : List S76} (hd : d.length ≤ cap) : net_some.g a b c d = some (if bSome d = true then 2 else 0) := by
  have hc := cap_is
  unfold net_some.g bSome slY.g slX.g
  obtain ⟨v, h1, h2⟩ := some_idx d 0
  rw [if_pos (show d.length ≤ 9223372036854775807 by omega), h1, Option.bind_some, Option.bind_some, ← h2, or_if, dec_if]
  by_cases h0 : (d.length : Int) = 0
  · rw [if_pos h0, if_pos h0]
  · rw [if_neg h0, if_neg h0]; split <;> rfl
/-! sizes -/
def longS (s : S81) : Bool := decide ((s.f3.length : Int) > 64)
def longE (e : S79) : Bool := decide ((e.f2.length : Int) > 16) || (decide ((e.f6.length : Int) > 16) || (decide ((e.f3.length : Int) > 64) || e.f6.any longS))
def longL (l : S84) : Bool := decide ((l.f2.length : Int) > 16)
def longA (x : S76) : Bool := decide ((x.f1.length : Int) > 64) || (decide ((x.f2.length : Int) > 256) || (x.f1.any longL || x.f2.any longE))
def bSizes (a : List ByteArray) (b : List S86) (c : List ByteArray) (d : List S76) : Bool := decide ((a.length : Int) > 8) || (decide ((b.length : Int) > 16) || (decide ((c.length : Int) > 16) || (decide ((d.length : Int) > 8) || d.any longA)))
theorem sizes6 (K : Option Int) : ∀ l, net_sizes.L6 K l = if l.any longS = true then some 6 else K
  | [] => rfl
  | s :: t => by rw [net_sizes.L6, sizes6 K t, List.any_cons, or_if, longS, dec_if]
theorem sizes4 (K : Option Int) : ∀ l, (∀ e ∈ l, okE e) → net_sizes.L4 K l = if l.any longE = true then some 6 else K
  | [], _ => rfl
  | e :: t, h => by
    have := cap_is
    have h1 := (hd_of h).2.2.1
    rw [net_sizes.L4, if_pos (show e.f6.length ≤ 9223372036854775807 by omega), sizes6, sizes4 K t (tl_of h), List.any_cons, or_if, longE]
    simp only [or_if, dec_if]
theorem sizes3 (es : List S79) (hes : es.length ≤ cap ∧ ∀ e ∈ es, okE e) (K : Option Int) : ∀ l, net_sizes.L3 es K l = if l.any longL = true then some 6 else if es.any longE = true then some 6 else K
  | [] => by
    have := cap_is
    rw [net_sizes.L3, if_pos (show es.length ≤ 9223372036854775807 by omega), sizes4 K es hes.2]; rfl
  | s :: t => by rw [net_sizes.L3, sizes3 es hes K t, List.any_cons, or_if, longL, dec_if]
theorem sizes1 : ∀ l, (∀ x ∈ l, okA x) → net_sizes.L1 l = some (if l.any longA = true then 6 else 0)
  | [], _ => rfl
  | x :: t, h => by
    have := cap_is
    have h1 := hd_of h
    rw [net_sizes.L1, if_pos (show x.f1.length ≤ 9223372036854775807 by have := h1.2.1.1; omega), sizes3 _ h1.2.2, sizes1 t (tl_of h), List.any_cons]
    rw [longA]
    simp only [or_if, dec_if]
    repeat' split
    all_goals rfl
theorem sizes_eq {a b c d} (h : OkN a b c d) : net_sizes.g a b c d = some (if bSizes a b c d = true then 6 else 0) := by
  have := cap_is
  have := h.dl
  rw [net_sizes.g, if_pos (show d.length ≤ 9223372036854775807 by omega), sizes1 d h.ds]
  rw [bSizes]
  simp only [or_if, dec_if]
  repeat' split
  all_goals rfl
theorem long6 (K : Option Bool) : ∀ l, r10_long.L6 K l = if l.any longS = true then some true else K
  | [] => rfl
  | s :: t => by rw [r10_long.L6, long6 K t, List.any_cons, or_if, longS, dec_if]
theorem long4 (K : Option Bool) : ∀ l, (∀ e ∈ l, okE e) → r10_long.L4 K l = if l.any longE = true then some true else K
  | [], _ => rfl
  | e :: t, h => by
    have := cap_is
    have h1 := (hd_of h).2.2.1
    rw [r10_long.L4, if_pos (show e.f6.length ≤ 9223372036854775807 by omega), long6, long4 K t (tl_of h), List.any_cons, or_if, longE]
    simp only [or_if, dec_if]
theorem long3 (es : List S79) (hes : es.length ≤ cap ∧ ∀ e ∈ es, okE e) (K : Option Bool) : ∀ l, r10_long.L3 es K l = if l.any longL = true then some true else if es.any longE = true then some true else K
  | [] => by
    have := cap_is
    rw [r10_long.L3, if_pos (show es.length ≤ 9223372036854775807 by omega), long4 K es hes.2]; rfl
  | s :: t => by rw [r10_long.L3, long3 es hes K t, List.any_cons, or_if, longL, dec_if]
theorem long1 : ∀ l, (∀ x ∈ l, okA x) → r10_long.L1 l = some (l.any longA)
  | [], _ => rfl
  | x :: t, h => by
    have := cap_is
    have h1 := hd_of h
    rw [r10_long.L1, if_pos (show x.f1.length ≤ 9223372036854775807 by have := h1.2.1.1; omega), long3 _ h1.2.2, long1 t (tl_of h), List.any_cons]
    have e : some (longA x || t.any longA) = if longA x = true then some true else some (t.any longA) := by cases longA x <;> rfl
    rw [e, longA]
    simp only [or_if, dec_if]
theorem long_eq {a b c d} (h : OkN a b c d) : r10_long.g a b c d = some (bSizes a b c d) := by
  have := cap_is
  have := h.dl
  rw [r10_long.g, if_pos (show d.length ≤ 9223372036854775807 by omega), long1 d h.ds]
  have e : some (bSizes a b c d) = if bSizes a b c d = true then some true else some false := by cases bSizes a b c d <;> rfl
  rw [e]
  rw [bSizes]
  simp only [or_if, dec_if]
  repeat' split
  all_goals first | rfl | (simp_all; done)
/-- What is left when the sizes are right. -/
structure Few (a : List ByteArray) (b : List S86) (c : List ByteArray) (d : List S76) : Prop where
  al : a.length ≤ 8
  bl : b.length ≤ 16
  cl : c.length ≤ 16
  dl : d.length ≤ 8
  ds : ∀ x ∈ d, x.f1.length ≤ 64 ∧ x.f2.length ≤ 256 ∧ (∀ l ∈ x.f1, l.f2.length ≤ 16) ∧ ∀ e ∈ x.f2, e.f2.length ≤ 16 ∧ e.f6.length ≤ 16
theorem few_of {a b c d} (h : bSizes a b c d = false) : Few a b c d := by
  simp only [bSizes, Bool.or_eq_false_iff, decide_eq_false_iff_not, List.any_eq_false] at h
  obtain ⟨h1, h2, h3, h4, h5⟩ := h
  refine ⟨by omega, by omega, by omega, by omega, fun x hx => ?_⟩
  have := h5 x hx
  rw [Bool.not_eq_true] at this
  simp only [longA, Bool.or_eq_false_iff, decide_eq_false_iff_not, List.any_eq_false] at this
  obtain ⟨g1, g2, g3, g4⟩ := this
  refine ⟨by omega, by omega, fun l hl => ?_, fun e he => ?_⟩
  · have := g3 l hl
    simp only [longL, decide_eq_true_eq] at this
    omega
  · have := g4 e he
    rw [Bool.not_eq_true] at this
    simp only [longE, Bool.or_eq_false_iff, decide_eq_false_iff_not] at this
    omega
/-! vars, locs, edges -/
def badV (v : S86) : Bool := decide (v.f1 > v.f3) || (decide (v.f3 > v.f2) || (decide (v.f1 < -1048576) || decide (v.f2 > 1048576)))
theorem vars0 : ∀ l, net_vars.L0 l = some (if l.any badV = true then 124 else 0)
  | [] => rfl
  | v :: t => by
    rw [net_vars.L0, vars0 t, List.any_cons]
    rw [badV]
    simp only [or_if, dec_if]
    repeat' split
    all_goals rfl
theorem vars_eq {a b c d} (h : OkN a b c d) : net_vars.g a b c d = some (if b.any badV = true then 124 else 0) := by
  have := cap_is
  have := h.bl
  rw [net_vars.g, if_pos (show b.length ≤ 9223372036854775807 by omega), vars0]
def badK (l : S84) : Bool := decide (l.f1 > 2)
def bLocs (d : List S76) : Bool := d.any fun x => x.f1.any badK
theorem locs1 (K : Option Int) : ∀ l, net_locs.L1 K l = if l.any badK = true then some 122 else K
  | [] => rfl
  | s :: t => by rw [net_locs.L1, locs1 K t, List.any_cons, or_if, badK, dec_if]
theorem locs0 : ∀ l, (∀ x ∈ l, okA x) → net_locs.L0 l = some (if (bLocs l) = true then 122 else 0)
  | [], _ => rfl
  | x :: t, h => by
    have := cap_is
    have h1 := (hd_of h).2.1.1
    rw [net_locs.L0, if_pos (show x.f1.length ≤ 9223372036854775807 by omega), locs1, locs0 t (tl_of h), bLocs, bLocs, List.any_cons, or_if]
    repeat' split
    all_goals rfl
theorem locs_eq {a b c d} (h : OkN a b c d) : net_locs.g a b c d = some (if bLocs d = true then 122 else 0) := by
  have := cap_is
  have := h.dl
  rw [net_locs.g, if_pos (show d.length ≤ 9223372036854775807 by omega), locs0 d h.ds]
def inL (x : S76) (i : Int) : Bool := decide (i ≥ 0) && decide (i < (x.f1.length : Int))
def badE (c : List ByteArray) (x : S76) (e : S79) : Bool := !inL x e.f0 || (!inL x e.f1 || (decide (e.f4 < 0) || (decide (e.f4 > (c.length : Int)) || (e.f5 && decide (e.f4 = 0)))))
def bEdges (c : List ByteArray) (d : List S76) : Bool := d.any fun x => x.f2.any (badE c x)
theorem inL_eq (i : Int) (x : S76) : net_edges_1.f i x = some (inL x i) := by
  unfold net_edges_1.f inL
  by_cases h : i ≥ 0
  · rw [if_pos h, decide_eq_true h, Bool.true_and]
  · rw [if_neg h, decide_eq_false h, Bool.false_and]
theorem edges1 (x : S76) (c : List ByteArray) (K : Option Int) : ∀ l, net_edges.L1 x c K l = if l.any (badE c x) = true then some 123 else K
  | [] => rfl
  | e :: t => by
    rw [net_edges.L1, inL_eq, Option.bind_some, inL_eq, Option.bind_some, edges1 x c K t, List.any_cons]
    rw [badE]
    simp only [or_if, and_if, dec_if]
theorem edges0 (c : List ByteArray) : ∀ l, (∀ x ∈ l, okA x) → net_edges.L0 c l = some (if bEdges c l = true then 123 else 0)
  | [], _ => rfl
  | x :: t, h => by
    have := cap_is
    have h1 := (hd_of h).2.2.1
    rw [net_edges.L0, if_pos (show x.f2.length ≤ 9223372036854775807 by omega), edges1, edges0 c t (tl_of h), bEdges, bEdges, List.any_cons, or_if]
    repeat' split
    all_goals rfl
theorem edges_eq {a b c d} (h : OkN a b c d) : net_edges.g a b c d = some (if bEdges c d = true then 123 else 0) := by
  have := cap_is
  have := h.dl
  rw [net_edges.g, if_pos (show d.length ≤ 9223372036854775807 by omega), edges0 c d h.ds]
/-! guards, sets -/
def guardsL (d : List S76) : List S43 := d.flatMap fun x => (x.f1.flatMap fun l => l.f2) ++ x.f2.flatMap fun e => e.f2
def setsL (d : List S76) : List S81 := d.flatMap fun x => x.f2.flatMap fun e => e.f6
theorem flat_len {α β : Type} {f : α → List β} {m : Nat} : ∀ {xs : List α}, (∀ x ∈ xs, (f x).length ≤ m) → (xs.flatMap f).length ≤ xs.length * m
  | [], _ => by simp
  | x :: t, h => by
    rw [List.flatMap_cons, List.length_append, List.length_cons, Nat.add_mul, Nat.one_mul]
    have := flat_len (f := f) (m := m) (xs := t) (tl_of h)
    have := hd_of h
    omega
theorem guards2 (K : List S43 → Option (List S43)) : ∀ (l : List S79) (x : List S43), x.length + (l.flatMap fun e => e.f2).length ≤ 4398046511104 → net_guards.L2 K l x = K (x ++ l.flatMap fun e => e.f2)
  | [], x, _ => by simp [net_guards.L2]
  | e :: t, x, h => by
    rw [List.flatMap_cons, List.length_append] at h
    rw [net_guards.L2, if_pos (by omega), guards2 K t _ (by rw [List.length_append]; omega), List.flatMap_cons, List.append_assoc]
theorem guards1 (es : List S79) (hes : es.length ≤ cap) (K : List S43 → Option (List S43)) : ∀ (l : List S84) (x : List S43), x.length + (l.flatMap fun e => e.f2).length + (es.flatMap fun e => e.f2).length ≤ 4398046511104 → net_guards.L1 es K l x = K (x ++ (l.flatMap fun e => e.f2) ++ es.flatMap fun e => e.f2)
  | [], x, h => by
    have := cap_is
    rw [net_guards.L1, if_pos (by omega), guards2 K es x (by simpa using h)]; simp
  | e :: t, x, h => by
    rw [List.flatMap_cons, List.length_append] at h
    rw [net_guards.L1, if_pos (by omega), guards1 es hes K t _ (by rw [List.length_append]; omega), List.flatMap_cons]
    simp [List.append_assoc]
theorem guards0 : ∀ (l : List S76) (x : List S43), (∀ y ∈ l, okA y) → x.length + (guardsL l).length ≤ 4398046511104 → net_guards.L0 l x = some (x ++ guardsL l)
  | [], x, _, _ => by simp [net_guards.L0, guardsL]
  | y :: t, x, h, hl => by
    have := cap_is
    have h1 := (hd_of h).2.1.1
    have e : guardsL (y :: t) = ((y.f1.flatMap fun l => l.f2) ++ y.f2.flatMap fun e => e.f2) ++ guardsL t := by rw [guardsL, List.flatMap_cons]; rfl
    rw [e, List.length_append, List.length_append] at hl
    rw [net_guards.L0, if_pos (show y.f1.length ≤ 9223372036854775807 by omega), guards1 _ (hd_of h).2.2.1 _ _ _ (by omega), guards0 t _ (tl_of h) (by simp only [List.length_append]; omega), e]
    simp [List.append_assoc]
theorem guards_len {a b c d} (h : Few a b c d) : (guardsL d).length ≤ 40960 := by
  have := flat_len (f := fun x : S76 => (x.f1.flatMap fun l => l.f2) ++ x.f2.flatMap fun e => e.f2) (m := 5120) (xs := d) fun x hx => by
    obtain ⟨h1, h2, h3, h4⟩ := h.ds x hx
    have g1 := flat_len (f := fun l : S84 => l.f2) (m := 16) (xs := x.f1) h3
    have g2 := flat_len (f := fun e : S79 => e.f2) (m := 16) (xs := x.f2) fun e he => (h4 e he).1
    rw [List.length_append]
    omega
  have := h.dl
  unfold guardsL
  omega
theorem sets_len {a b c d} (h : Few a b c d) : (setsL d).length ≤ 32768 := by
  have := flat_len (f := fun x : S76 => x.f2.flatMap fun e => e.f6) (m := 4096) (xs := d) fun x hx => by
    obtain ⟨h1, h2, h3, h4⟩ := h.ds x hx
    have g2 := flat_len (f := fun e : S79 => e.f6) (m := 16) (xs := x.f2) fun e he => (h4 e he).2
    omega
  have := h.dl
  unfold setsL
  omega
theorem guards_eq {a b c d} (h : OkN a b c d) (hf : Few a b c d) : net_guards.g a b c d = some (guardsL d) := by
  have := cap_is
  have := h.dl
  have := guards_len hf
  rw [net_guards.g, if_pos (show d.length ≤ 9223372036854775807 by omega), guards0 d [] h.ds (by simp; omega)]; rfl
theorem sets1 (K : List S81 → Option (List S81)) : ∀ (l : List S79) (x : List S81), x.length + (l.flatMap fun e => e.f6).length ≤ 2932031007402 → net_sets.L1 K l x = K (x ++ l.flatMap fun e => e.f6)
  | [], x, _ => by simp [net_sets.L1]
  | e :: t, x, h => by
    rw [List.flatMap_cons, List.length_append] at h
    rw [net_sets.L1, if_pos (by omega), sets1 K t _ (by rw [List.length_append]; omega), List.flatMap_cons, List.append_assoc]
theorem sets0 : ∀ (l : List S76) (x : List S81), (∀ y ∈ l, okA y) → x.length + (setsL l).length ≤ 2932031007402 → net_sets.L0 l x = some (x ++ setsL l)
  | [], x, _, _ => by simp [net_sets.L0, setsL]
  | y :: t, x, h, hl => by
    have := cap_is
    have h1 := (hd_of h).2.2.1
    have e : setsL (y :: t) = (y.f2.flatMap fun e => e.f6) ++ setsL t := by rw [setsL, List.flatMap_cons]; rfl
    rw [e, List.length_append] at hl
    rw [net_sets.L0, if_pos (show y.f2.length ≤ 9223372036854775807 by omega), sets1 _ _ _ (by omega), sets0 t _ (tl_of h) (by simp only [List.length_append]; omega), e]
    simp [List.append_assoc]
theorem sets_eq {a b c d} (h : OkN a b c d) (hf : Few a b c d) : net_sets.g a b c d = some (setsL d) := by
  have := cap_is
  have := h.dl
  have := sets_len hf
  rw [net_sets.g, if_pos (show d.length ≤ 9223372036854775807 by omega), sets0 d [] h.ds (by simp; omega)]; rfl
/-! clocks, forms -/
def isC (a : List ByteArray) (c : Int) : Bool := decide (c ≥ 1) && decide (c ≤ (a.length : Int))
theorem isC_eq (a : List ByteArray) (b c d) (x : Int) : net_isClock.f a b c d x = some (isC a x) := by
  unfold net_isClock.f isC
  by_cases h : x ≥ 1
  · rw [if_pos h, decide_eq_true h, Bool.true_and]
  · rw [if_neg h, decide_eq_false h, Bool.false_and]
def badC (a : List ByteArray) (g : S43) : Bool := !isC a g.f0 || (!decide (g.f1 = 0) && !isC a g.f1)
def badS (a : List ByteArray) (s : S81) : Bool := !decide (s.f0 = 0) && !isC a s.f0
def badF (g : S43) : Bool := decide (g.f2 < 1) || decide (g.f2 > 5)
def badG (s : S81) : Bool := (decide (s.f0 = 0) && !decide (s.f1 = 0)) || (!decide (s.f0 = 0) && (!decide (s.f2 = 0) || decide ((s.f3.length : Int) > 0)))
theorem clocksOf0 (a b c d) : ∀ l, net_clocksOf.L0 a b c d l = some (if l.any (badC a) = true then 12 else 0)
  | [] => rfl
  | g :: t => by
    rw [net_clocksOf.L0, isC_eq, Option.bind_some, isC_eq, Option.bind_some, clocksOf0 a b c d t, List.any_cons]
    rw [badC]
    simp only [or_if, and_if, not_if, dec_if]
    repeat' split
    all_goals rfl
theorem clocks0 (a b c d) : ∀ l, net_clocks.L0 a b c d l = some (if l.any (badS a) = true then 12 else 0)
  | [] => rfl
  | g :: t => by
    rw [net_clocks.L0, isC_eq, Option.bind_some, clocks0 a b c d t, List.any_cons]
    rw [badS]
    simp only [or_if, and_if, not_if, dec_if]
    repeat' split
    all_goals rfl
def bClocks (a : List ByteArray) (d : List S76) : Bool := (guardsL d).any (badC a) || (setsL d).any (badS a)
theorem clocks_eq {a b c d} (h : OkN a b c d) (hf : Few a b c d) : net_clocks.g a b c d = some (if bClocks a d = true then 12 else 0) := by
  have := guards_len hf
  have := sets_len hf
  rw [net_clocks.g, guards_eq h hf, Option.bind_some, net_clocksOf.g, if_pos (by omega), clocksOf0, Option.bind_some, sets_eq h hf, Option.bind_some, if_pos (show (setsL d).length ≤ 9223372036854775807 by omega), clocks0, bClocks, or_if]
  by_cases h1 : (guardsL d).any (badC a) = true
  · rw [if_pos h1, if_neg (by omega), if_pos h1]
  · rw [if_neg h1, if_pos rfl, if_neg h1]
theorem cmps0 : ∀ l, net_cmps.L0 l = some (if l.any badF = true then 7 else 0)
  | [] => rfl
  | g :: t => by
    rw [net_cmps.L0, cmps0 t, List.any_cons]
    rw [badF]
    simp only [or_if, dec_if]
    repeat' split
    all_goals rfl
theorem forms0 : ∀ l, net_forms.L0 l = some (if l.any badG = true then 7 else 0)
  | [] => rfl
  | g :: t => by
    rw [net_forms.L0, forms0 t, List.any_cons]
    rw [badG]
    simp only [or_if, and_if, not_if, dec_if]
    repeat' split
    all_goals first | rfl | contradiction
def bForms (d : List S76) : Bool := (guardsL d).any badF || (setsL d).any badG
theorem forms_eq {a b c d} (h : OkN a b c d) (hf : Few a b c d) : net_forms.g a b c d = some (if bForms d = true then 7 else 0) := by
  have := guards_len hf
  have := sets_len hf
  rw [net_forms.g, guards_eq h hf, Option.bind_some, net_cmps.g, if_pos (by omega), cmps0, Option.bind_some, sets_eq h hf, Option.bind_some, if_pos (show (setsL d).length ≤ 9223372036854775807 by omega), forms0, bForms, or_if]
  by_cases h1 : (guardsL d).any badF = true
  · rw [if_pos h1, if_neg (by omega), if_pos h1]
  · rw [if_neg h1, if_pos rfl, if_neg h1]
/-! tests -/
def isT (l : List S151) : Bool := decide (0 < l.length) && Tr (N l 0).f0
theorem isT_eq {l : List S151} (ho : opsOk l) : expr_IsTruth.f l = some (isT l) := by
  unfold expr_IsTruth.f isT
  by_cases h : (l.length : Int) = 0
  · rw [if_pos h, decide_eq_false (by omega), Bool.false_and]
  · obtain ⟨r, h1, h2⟩ := of_truth (ho _ (N_mem (l := l) (i := 0) (by omega)))
    rw [if_neg h, if_pos (by omega), if_pos (by omega), decide_eq_true (by omega), Bool.true_and]
    have h1' : expr_of.f (rd_T151 l 0).f0 = some r := h1
    rw [h1', Option.bind_some, h2]
theorem isTr_eq {l : List S151} (ho : opsOk l) : r08_IsTruth.f l = some (isT l) := by
  unfold r08_IsTruth.f isT
  by_cases h : (l.length : Int) > 0
  · rw [if_pos h, if_pos (by omega), if_pos (by omega), decide_eq_true (by omega), Bool.true_and]
    have h1' : r08_truth.f (rd_T151 l 0).f0 = some (Tr (N l 0).f0) := truth_eq (ho _ (N_mem (l := l) (i := 0) (by omega)))
    rw [h1', Option.bind_some]
  · rw [if_neg h, decide_eq_false (by omega), Bool.false_and]
theorem rightg_eq {l : List S151} (ho : opsOk l) {n : Nat} (hn : n ≤ cap) : expr_Right.g l (n : Int) = some (sRight l n) := by
  have := cap_is
  unfold expr_Right.g
  rw [if_pos ⟨ho, by omega, by omega⟩]
theorem rightr_eq {l : List S151} (ho : opsOk l) {n : Nat} (hn : n ≤ cap) : r08_Right.g l (n : Int) = some (sRight l n) := by
  have := cap_is
  unfold r08_Right.g
  rw [if_pos ⟨ho, by omega, by omega⟩]
noncomputable section
/-- A test that is none. -/
def badT (b : List S86) (l : List S151) : Bool := decide ((l.length : Int) > 0) && (!decide (sRight l (b.length : Int) = 0) || !isT l)
def badX (b : List S86) (s : S81) : Bool := decide (s.f0 = 0) && (decide (s.f2 < 0) || (decide (s.f2 ≥ (b.length : Int)) || (!decide (sRight s.f3 (b.length : Int) = 0) || isT s.f3)))
def bTests (b : List S86) (d : List S76) : Bool := (d.any fun x => x.f2.any fun e => badT b e.f3) || (setsL d).any (badX b)
theorem truth_eq2 {a b c d} {l : List S151} (ho : opsOk l) (hb : b.length ≤ cap) : net_truth.g a b c d l = some (if badT b l = true then 121 else 0) := by
  rw [net_truth.g, rightg_eq ho hb, Option.bind_some, isT_eq ho, Option.bind_some, badT]
  simp only [or_if, and_if, not_if, dec_if]
  repeat' split
  all_goals rfl
theorem tests1 {a b c d} (hb : b.length ≤ cap) (K : Option Int) : ∀ l, (∀ e ∈ l, okE e) → net_tests.L1 a b c d K l = if (l.any fun e => badT b e.f3) = true then some 121 else K
  | [], _ => rfl
  | e :: t, h => by
    rw [net_tests.L1, truth_eq2 (hd_of h).2.1.2 hb, Option.bind_some, tests1 hb K t (tl_of h), List.any_cons, or_if]
    by_cases h1 : badT b e.f3 = true
    · rw [if_pos h1, if_pos h1, if_neg (by omega)]
    · rw [if_neg h1, if_neg h1, if_pos rfl]
theorem tests2 {b : List S86} (hb : b.length ≤ cap) : ∀ l, (∀ s ∈ l, okS s) → net_tests.L2 b l = some (if l.any (badX b) = true then 121 else 0)
  | [], _ => rfl
  | s :: t, h => by
    rw [net_tests.L2, rightg_eq (hd_of h).2 hb, Option.bind_some, isT_eq (hd_of h).2, Option.bind_some, tests2 hb t (tl_of h), List.any_cons]
    rw [badX]
    simp only [or_if, and_if, not_if, dec_if]
    repeat' split
    all_goals rfl
theorem mem_sets {d : List S76} (h : ∀ x ∈ d, okA x) : ∀ s ∈ setsL d, okS s := fun s hs => by
  obtain ⟨x, hx, h1⟩ := List.mem_flatMap.1 hs
  obtain ⟨e, he, h2⟩ := List.mem_flatMap.1 h1
  exact ((h x hx).2.2.2 e he).2.2.2 s h2
theorem tests0 {a b c d} (h : OkN a b c d) (hf : Few a b c d) : ∀ l, (∀ x ∈ l, okA x) → net_tests.L0 a b c d l = some (if ((l.any fun x => x.f2.any fun e => badT b e.f3) || (setsL d).any (badX b)) = true then 121 else 0)
  | [], _ => by
    have := sets_len hf
    rw [net_tests.L0, sets_eq h hf, Option.bind_some, if_pos (by omega), tests2 h.bl _ (mem_sets h.ds)]; rfl
  | x :: t, hx => by
    have := cap_is
    have h1 := (hd_of hx).2.2.1
    rw [net_tests.L0, if_pos (show x.f2.length ≤ 9223372036854775807 by omega), tests1 h.bl _ _ (hd_of hx).2.2.2, tests0 h hf t (tl_of hx), List.any_cons, Bool.or_assoc]
    rw [or_if (x.f2.any fun e => badT b e.f3)]
    split <;> rfl
theorem tests_eq {a b c d} (h : OkN a b c d) (hf : Few a b c d) : net_tests.g a b c d = some (if bTests b d = true then 121 else 0) := by
  have := cap_is
  have := h.dl
  rw [net_tests.g, if_pos (show d.length ≤ 9223372036854775807 by omega), tests0 h hf d h.ds, bTests]
end
end Go.Proofs.YtbjkfkifkglplaaGreatDoor.Q
