/-
  How the abstract machine's data lie in the model's memory; what keeps them.
-/
import Derived.Test.YtbjkfkifkglplaaGreatDoorD1
set_option linter.unusedSectionVars false
set_option linter.unusedSimpArgs false
set_option linter.unusedVariables false
namespace Go.Den
open Go Go.RowKit

theorem Ty.sz_pos : ∀ t : Ty, 0 < t.sz
  | .int _ | .bool | .str | .list _ => by simp [Ty.sz]
  | .prod a b => by have := Ty.sz_pos a; simp only [Ty.sz]; omega
  | .fn _ _ _ | .alt _ _ | .fz | .ref _ | .nl | .rl _ => by simp [Ty.sz]
theorem add_add (a : Addr) (i j : Nat) : (a.add i).add j = a.add (i + j) := by
  unfold Addr.add
  by_cases hi : i = 0
  · subst hi; simp
  · by_cases hj : j = 0
    · subst hj; simp
    · simp [hi, hj, Nat.add_assoc]
theorem add_block (a : Addr) (i : Nat) : (a.add i).block = a.block := by unfold Addr.add; split <;> rfl
theorem add_spot {a : Addr} {i : Nat} (h : a.spot = none) : (a.add i).spot = none := by unfold Addr.add; split <;> first | exact h | rfl
theorem add_zero (a : Addr) : a.add 0 = a := by simp [Addr.add]
theorem add_mk (b o i : Nat) : (⟨b, o, none⟩ : Addr).add i = ⟨b, o + i, none⟩ := by unfold Addr.add; split <;> simp_all

def CellsAt (w : World) (a : Addr) (d : List Value) : Prop := ∀ i u, d[i]? = some u → w.cell? (a.add i) = some u
theorem CellsAt.step {w w' : World} {a : Addr} {d : List Value} (h : CellsAt w a d) (hb : w'.heap[a.block]? = w.heap[a.block]?) : CellsAt w' a d :=
  fun i u hu => (World.cell?_of_block (w := w) (w' := w') (a := a.add i) (by rw [add_block]; exact hb)).trans (h i u hu)
theorem CellsAt.left {w : World} {a : Addr} {c d : List Value} (h : CellsAt w a (c ++ d)) : CellsAt w a c := fun i u hu => h i u (by
  have := (List.getElem?_eq_some_iff.1 hu).1
  rw [List.getElem?_append_left this]; exact hu)
theorem CellsAt.right {w : World} {a : Addr} {c d : List Value} (h : CellsAt w a (c ++ d)) : CellsAt w (a.add c.length) d := fun i u hu => by
  rw [add_add]
  exact h (c.length + i) u (by rw [List.getElem?_append_right (by omega)]; simpa using hu)
theorem CellsAt.app {w : World} {a : Addr} {c d : List Value} (h : CellsAt w a c) (h' : CellsAt w (a.add c.length) d) : CellsAt w a (c ++ d) := fun i u hu => by
  by_cases hi : i < c.length
  · rw [List.getElem?_append_left hi] at hu; exact h i u hu
  · rw [List.getElem?_append_right (by omega)] at hu
    have := h' _ _ hu
    rw [add_add] at this
    have e : c.length + (i - c.length) = i := by omega
    rwa [e] at this

/-- Cells in parts: structs and single ones. -/
def Parts : List (Bool × Nat) → List Value → List Value → Prop
  | [], cs, ps => cs = [] ∧ ps = []
  | (agg, n) :: r, cs, ps => ∃ c d p q, cs = c ++ d ∧ c.length = n ∧ ps = p :: q ∧ (match agg with | true => p = .agg c.toArray | false => c = [p]) ∧ Parts r d q
/-- Cells that are plain data of a kind; all memory behind them lies in the blocks I. -/
def K (w : World) (I : Nat → Prop) : (t : Ty) → t.den → List Value → Prop
  | .int k, x, cs => cs = [.int k x]
  | .bool, x, cs => cs = [.bool x]
  | .str, x, cs => cs = [.string x]
  | .list t, xs, cs => ∃ A c, cs = [.slice A (List.length xs) c] ∧ List.length xs ≤ c ∧ c ≤ maxLen ∧
      (xs = [] ∨ ∃ a, A = some a ∧ (I a.block ∧ a.spot = none) ∧ ∀ (j : Nat) (x : t.den), xs[j]? = some x → ∃ d, K w I t x d ∧ CellsAt w (a.add (j * t.sz)) d)
  | .prod a b, x, cs => ∃ c d, cs = c ++ d ∧ K w I a x.1 c ∧ K w I b x.2 d
  | .fn f gs t, x, cs => ∃ l caps : List Value, cs = [.func (.func f) #[] caps.toArray] ∧ Parts gs l caps ∧ (gs = [] ∨ K w I t x l)
  | .alt a b, x, cs => (∃ v, cs = [v]) ∧ (match x with | .inl y => K w I a y cs | .inr y => K w I b y cs)
  | .fz, _, cs => cs = [.nilFunc]
  | .nl, _, cs => cs = [.slice none 0 0]
  | .rl t, x, cs => ∃ A c, cs = [.slice A (List.length x.1) c] ∧ List.length x.1 + List.length x.2 ≤ c ∧ c ≤ maxLen ∧
      (List.append x.1 x.2 = [] ∨ ∃ a, A = some a ∧ (I a.block ∧ a.spot = none) ∧ ∀ (j : Nat) (y : t.den), (List.append x.1 x.2)[j]? = some y → ∃ d, K w I t y d ∧ CellsAt w (a.add (j * t.sz)) d)
  | .ref t, x, cs => ∃ a d, cs = [.pointer (some a)] ∧ I a.block ∧ K w I t x d ∧ CellsAt w a d
theorem K_len {w : World} {I : Nat → Prop} : ∀ {t : Ty} {x : t.den} {cs : List Value}, K w I t x cs → cs.length = t.sz
  | .int _, _, _, h => by simp only [K] at h; subst h; rfl
  | .bool, _, _, h => by simp only [K] at h; subst h; rfl
  | .str, _, _, h => by simp only [K] at h; subst h; rfl
  | .list _, _, _, h => by obtain ⟨A, c, h, _⟩ := h; subst h; rfl
  | .prod a b, _, _, h => by obtain ⟨c, d, h, h1, h2⟩ := h; subst h; simp [Ty.sz, K_len h1, K_len h2]
  | .fn _ _ _, _, _, h => by obtain ⟨_, _, h, _⟩ := h; subst h; rfl
  | .alt _ _, _, _, h => by obtain ⟨⟨v, h⟩, _⟩ := h; subst h; rfl
  | .fz, _, _, h => by simp only [K] at h; subst h; rfl
  | .nl, _, _, h => by simp only [K] at h; subst h; rfl
  | .rl _, _, _, h => by obtain ⟨A, c, h, _⟩ := h; subst h; rfl
  | .ref _, _, _, h => by obtain ⟨_, _, h, _⟩ := h; subst h; rfl
theorem K_one {w : World} {I : Nat → Prop} : ∀ {t : Ty} {x : t.den} {cs : List Value}, K w I t x cs → ∀ u ∈ cs, u.oneCell' = true
  | .int _, _, _, h => by simp only [K] at h; subst h; simp [Value.oneCell']
  | .bool, _, _, h => by simp only [K] at h; subst h; simp [Value.oneCell']
  | .str, _, _, h => by simp only [K] at h; subst h; simp [Value.oneCell']
  | .list _, _, _, h => by obtain ⟨A, c, h, _⟩ := h; subst h; simp [Value.oneCell']
  | .prod a b, _, _, h => by
    obtain ⟨c, d, h, h1, h2⟩ := h
    subst h
    intro u hu
    rcases List.mem_append.1 hu with hu | hu
    · exact K_one h1 u hu
    · exact K_one h2 u hu
  | .fn _ _ _, _, _, h => by obtain ⟨_, _, h, _⟩ := h; subst h; simp [Value.oneCell']
  | .alt _ _, .inl _, _, h => K_one h.2
  | .alt _ _, .inr _, _, h => K_one h.2
  | .fz, _, _, h => by simp only [K] at h; subst h; simp [Value.oneCell']
  | .nl, _, _, h => by simp only [K] at h; subst h; simp [Value.oneCell']
  | .rl _, _, _, h => by obtain ⟨A, c, h, _⟩ := h; subst h; simp [Value.oneCell']
  | .ref _, _, _, h => by obtain ⟨_, _, h, _⟩ := h; subst h; simp [Value.oneCell']
theorem K_step {w w' : World} {I J : Nat → Prop} (hIJ : ∀ b, I b → J b) (hk : ∀ b, I b → w'.heap[b]? = w.heap[b]?) : ∀ {t : Ty} {x : t.den} {cs : List Value}, K w I t x cs → K w' J t x cs
  | .int _, _, _, h => h
  | .bool, _, _, h => h
  | .str, _, _, h => h
  | .list t, xs, _, h => by
    obtain ⟨A, c, h, h1, h2, h3⟩ := h
    refine ⟨A, c, h, h1, h2, h3.imp id ?_⟩
    rintro ⟨a, ha, hI, hall⟩
    refine ⟨a, ha, ⟨hIJ _ hI.1, hI.2⟩, fun j x hx => ?_⟩
    obtain ⟨d, hd, hc⟩ := hall j x hx
    exact ⟨d, K_step hIJ hk hd, hc.step (by rw [add_block]; exact hk _ hI.1)⟩
  | .prod a b, _, _, h => by
    obtain ⟨c, d, h, h1, h2⟩ := h
    exact ⟨c, d, h, K_step hIJ hk h1, K_step hIJ hk h2⟩
  | .fn f gs t, x, _, h => by
    obtain ⟨l, caps, h, h1, h2⟩ := h
    exact ⟨l, caps, h, h1, h2.imp id (K_step hIJ hk)⟩
  | .alt a b, .inl y, _, h => ⟨h.1, K_step hIJ hk h.2⟩
  | .alt a b, .inr y, _, h => ⟨h.1, K_step hIJ hk h.2⟩
  | .fz, _, _, h => h
  | .nl, _, _, h => h
  | .rl t, xs, _, h => by
    obtain ⟨A, c, h, h1, h2, h3⟩ := h
    refine ⟨A, c, h, h1, h2, h3.imp id ?_⟩
    rintro ⟨a, ha, hI, hall⟩
    refine ⟨a, ha, ⟨hIJ _ hI.1, hI.2⟩, fun j x hx => ?_⟩
    obtain ⟨d, hd, hc⟩ := hall j x hx
    exact ⟨d, K_step hIJ hk hd, hc.step (by rw [add_block]; exact hk _ hI.1)⟩
  | .ref t, x, _, h => by
    obtain ⟨a, d, h, h1, h2, h3⟩ := h
    exact ⟨a, d, h, hIJ _ h1, K_step hIJ hk h2, h3.step (hk _ h1)⟩

/-- A list that lies in a row is one. -/
theorem K_rl_list {w : World} {I : Nat → Prop} {t : Ty} {x : (Ty.rl t).den} {cs : List Value} (h : K w I (.rl t) x cs) : K w I (.list t) x.1 cs := by
  obtain ⟨A, c, h, h1, h2, h3⟩ := h
  refine ⟨A, c, h, by omega, h2, ?_⟩
  rcases h3 with h3 | ⟨a, ha, hI, hall⟩
  · exact .inl (List.append_eq_nil_iff.1 h3).1
  · refine .inr ⟨a, ha, hI, fun j y hy => hall j y ?_⟩
    have := (List.getElem?_eq_some_iff.1 hy).1
    exact (List.getElem?_append_left this).trans hy
theorem castF_K {w : World} {I : Nat → Prop} {u t : Ty} {f : u.den → t.den} {x : u.den} {cs : List Value} (hf : castF u t = some f) (h : K w I u x cs) : K w I t (f x) cs := by
  unfold castF at hf
  split at hf
  · rename_i hb
    cases hf
    obtain rfl := Ty.beq_eq hb
    exact h
  · cases hf
theorem castF_sz {u t : Ty} {f : u.den → t.den} (hf : castF u t = some f) : u.sz = t.sz := by
  unfold castF at hf
  split at hf
  · rename_i hb
    rw [Ty.beq_eq hb]
  · cases hf
theorem weak_sz : ∀ {u t : Ty} {f : u.den → t.den}, weakTo u t = some f → u.sz = t.sz := by
  intro u
  induction u with
  | rl a _ =>
    intro t f hf
    simp only [weakTo] at hf
    split at hf
    · rename_i hc; exact castF_sz hc
    · split at hf
      · rfl
      · cases hf
  | list a _ =>
    intro t f hf
    simp only [weakTo] at hf
    split at hf
    · rename_i hc; exact castF_sz hc
    · split at hf
      · rfl
      · cases hf
  | prod a b iha ihb =>
    intro t f hf
    simp only [weakTo] at hf
    split at hf
    · rename_i hc; exact castF_sz hc
    · split at hf
      · obtain ⟨g1, h1, hf⟩ := Option.bind_eq_some_iff.1 hf
        obtain ⟨g2, h2, hf⟩ := Option.bind_eq_some_iff.1 hf
        simp only [Ty.sz, iha h1, ihb h2]
      · cases hf
  | _ =>
    intro t f hf
    simp only [weakTo] at hf
    exact castF_sz hf
theorem map_K {w : World} {I : Nat → Prop} {a b : Ty} {g : a.den → b.den} (hs : a.sz = b.sz) (hg : ∀ {x : a.den} {cs : List Value}, K w I a x cs → K w I b (g x) cs) {xs : List a.den} {cs : List Value} (h : K w I (.list a) xs cs) : K w I (.list b) (List.map g xs) cs := by
  obtain ⟨A, c, h, h1, h2, h3⟩ := h
  refine ⟨A, c, by simpa using h, by simpa using h1, h2, ?_⟩
  rcases h3 with h3 | ⟨p, ha, hI, hall⟩
  · exact .inl (by rw [h3]; rfl)
  · refine .inr ⟨p, ha, hI, fun j y hy => ?_⟩
    rw [List.getElem?_map] at hy
    obtain ⟨z, hz, rfl⟩ := Option.map_eq_some_iff.1 hy
    obtain ⟨d, hd, hc⟩ := hall j z hz
    exact ⟨d, hg hd, by rw [← hs]; exact hc⟩
theorem weak_K {w : World} {I : Nat → Prop} : ∀ {u t : Ty} {f : u.den → t.den} {x : u.den} {cs : List Value}, weakTo u t = some f → K w I u x cs → K w I t (f x) cs := by
  intro u
  induction u with
  | rl a ih =>
    intro t f x cs hf h
    simp only [weakTo] at hf
    split at hf
    · rename_i hc; cases hf; exact castF_K hc h
    · split at hf
      · split at hf
        · rename_i hc
          cases hf
          exact castF_K hc (K_rl_list h)
        · obtain ⟨g, hg, hf⟩ := Option.bind_eq_some_iff.1 hf
          cases hf
          exact map_K (weak_sz hg) (fun h => ih hg h) (K_rl_list h)
      · cases hf
  | list a ih =>
    intro t f x cs hf h
    simp only [weakTo] at hf
    split at hf
    · rename_i hc; cases hf; exact castF_K hc h
    · split at hf
      · obtain ⟨g, hg, hf⟩ := Option.bind_eq_some_iff.1 hf
        cases hf
        exact map_K (weak_sz hg) (fun h => ih hg h) h
      · cases hf
  | prod a b iha ihb =>
    intro t f x cs hf h
    simp only [weakTo] at hf
    split at hf
    · rename_i hc; cases hf; exact castF_K hc h
    · split at hf
      · obtain ⟨g1, h1, hf⟩ := Option.bind_eq_some_iff.1 hf
        obtain ⟨g2, h2, hf⟩ := Option.bind_eq_some_iff.1 hf
        cases hf
        obtain ⟨c, d, e, k1, k2⟩ := h
        exact ⟨c, d, e, iha h1 k1, ihb h2 k2⟩
      · cases hf
  | _ =>
    intro t f x cs hf h
    simp only [weakTo] at hf
    exact castF_K hf h
theorem listTo_K {w : World} {I : Nat → Prop} {u t : Ty} {xs : List u.den} {y : List t.den} {cs : List Value} (hy : listTo t xs = some y) (h : K w I (.list u) xs cs) : K w I (.list t) y cs := by
  unfold listTo at hy
  obtain ⟨f, hf, hy⟩ := Option.bind_eq_some_iff.1 hy
  cases hy
  exact weak_K hf h
theorem K_rl_all {w : World} {I : Nat → Prop} {t : Ty} {x : (Ty.rl t).den} {A : Option Addr} {n c : Nat} (h : K w I (.rl t) x [.slice A n c]) : n = List.length x.1 ∧ K w I (.list t) (List.append x.1 x.2) [.slice A (List.length (List.append x.1 x.2)) c] := by
  obtain ⟨A', c', h, h1, h2, h3⟩ := h
  simp only [List.cons.injEq, Value.slice.injEq, and_true] at h
  obtain ⟨rfl, rfl, rfl⟩ := h
  exact ⟨rfl, A, c, rfl, by show (x.1 ++ x.2).length ≤ c; rw [List.length_append]; exact h1, h2, h3⟩
theorem K_list_rl {w : World} {I : Nat → Prop} {t : Ty} {xs : List t.den} {A : Option Addr} {n c k : Nat} (h : K w I (.list t) xs [.slice A n c]) (hk : k ≤ xs.length) : K w I (.rl t) (List.take k xs, List.drop k xs) [.slice A k c] := by
  obtain ⟨A', c', h, h1, h2, h3⟩ := h
  simp only [List.cons.injEq, Value.slice.injEq, and_true] at h
  obtain ⟨rfl, rfl, rfl⟩ := h
  have e : List.append (List.take k xs) (List.drop k xs) = xs := List.take_append_drop k xs
  refine ⟨A, c, by rw [List.length_take, Nat.min_eq_left hk], by rw [List.length_take, List.length_drop, Nat.min_eq_left hk]; omega, h2, ?_⟩
  show List.append (List.take k xs) (List.drop k xs) = [] ∨ _
  simp only [e]
  exact h3
/-- A row of elements, as cells one behind the other. -/
def Reps {α : Type} (R : α → List Value → Prop) : List α → List Value → Prop
  | [], cs => cs = []
  | x :: xs, cs => ∃ c d, cs = c ++ d ∧ R x c ∧ Reps R xs d
section
variable {α : Type} {R R' : α → List Value → Prop}
theorem Reps.imp (h : ∀ x c, R x c → R' x c) : ∀ {xs cs}, Reps R xs cs → Reps R' xs cs
  | [], _, hr => hr
  | _ :: _, _, hr => by obtain ⟨c, d, e, h1, h2⟩ := hr; exact ⟨c, d, e, h _ _ h1, Reps.imp h h2⟩
theorem Reps.app : ∀ {xs ys cs ds}, Reps R xs cs → Reps R ys ds → Reps R (xs ++ ys) (cs ++ ds)
  | [], _, _, _, h, h' => by simp only [Reps] at h; subst h; simpa using h'
  | x :: xs, _, _, _, h, h' => by
    obtain ⟨c, d, rfl, h1, h2⟩ := h
    exact ⟨c, d ++ _, by simp, h1, Reps.app h2 h'⟩
theorem Reps.len {n : Nat} (hn : ∀ x c, R x c → c.length = n) : ∀ {xs cs}, Reps R xs cs → cs.length = xs.length * n
  | [], _, h => by simp only [Reps] at h; subst h; simp
  | x :: xs, _, h => by
    obtain ⟨c, d, rfl, h1, h2⟩ := h
    simp [hn _ _ h1, Reps.len hn h2, Nat.add_mul, Nat.add_comm]
theorem Reps.mem (hone : ∀ x c, R x c → ∀ u ∈ c, Value.oneCell' u = true) : ∀ {xs cs}, Reps R xs cs → ∀ u ∈ cs, Value.oneCell' u = true
  | [], _, h, u, hu => by simp only [Reps] at h; subst h; cases hu
  | x :: xs, _, h, u, hu => by
    obtain ⟨c, d, rfl, h1, h2⟩ := h
    rcases List.mem_append.1 hu with hu | hu
    · exact hone _ _ h1 u hu
    · exact Reps.mem hone h2 u hu
/-- The cells of an element. -/
theorem Reps.get {n : Nat} (hn : ∀ x c, R x c → c.length = n) : ∀ {xs cs} {j : Nat} {x : α}, Reps R xs cs → xs[j]? = some x →
    ∃ p c q, cs = p ++ c ++ q ∧ p.length = j * n ∧ R x c ∧ ∀ y c', R y c' → Reps R (xs.set j y) (p ++ c' ++ q)
  | x :: xs, _, 0, y, h, hx => by
    obtain ⟨c, d, rfl, h1, h2⟩ := h
    simp only [List.getElem?_cons_zero, Option.some.injEq] at hx
    subst hx
    exact ⟨[], c, d, by simp, by simp, h1, fun y c' hy => ⟨c', d, by simp, hy, h2⟩⟩
  | x :: xs, _, j + 1, y, h, hx => by
    obtain ⟨c, d, rfl, h1, h2⟩ := h
    obtain ⟨p, c1, q, rfl, hp, hR, hset⟩ := Reps.get hn h2 (by simpa using hx)
    refine ⟨c ++ p, c1, q, by simp, by simp [hn _ _ h1, hp, Nat.add_mul, Nat.add_comm], hR, fun y c' hy => ?_⟩
    exact ⟨c, p ++ c' ++ q, by simp, h1, hset y c' hy⟩
  | [], _, _, _, _, hx => by simp at hx
theorem Reps.nil_iff {cs} : Reps R [] cs ↔ cs = [] := Iff.rfl
theorem Reps.one {x c} (h : R x c) : Reps R [x] c := ⟨c, [], by simp, h, rfl⟩
theorem Reps.take {n : Nat} (hn : ∀ x c, R x c → c.length = n) : ∀ {xs cs} (m : Nat), Reps R xs cs → Reps R (xs.take m) (cs.take (m * n))
  | [], _, m, h => by simp only [Reps] at h; subst h; simp [Reps]
  | x :: xs, _, 0, h => by simp [Reps]
  | x :: xs, _, m + 1, h => by
    obtain ⟨c, d, rfl, h1, h2⟩ := h
    refine ⟨c, d.take (m * n), ?_, h1, Reps.take hn m h2⟩
    have hc := hn _ _ h1
    rw [Nat.add_mul, Nat.one_mul, List.take_append]
    rw [List.take_of_length_le (by omega)]
    congr 2; omega
end
/-- Two lists, element by element. -/
def L2 {α β : Type} (R : α → β → Prop) : List α → List β → Prop
  | [], [] => True
  | x :: xs, y :: ys => R x y ∧ L2 R xs ys
  | _, _ => False
section
variable {α β : Type} {R R' : α → β → Prop}
theorem L2.imp (h : ∀ x y, R x y → R' x y) : ∀ {xs ys}, L2 R xs ys → L2 R' xs ys
  | [], [], _ => trivial
  | _ :: _, _ :: _, hr => ⟨h _ _ hr.1, L2.imp h hr.2⟩
  | [], _ :: _, hr => hr.elim
  | _ :: _, [], hr => hr.elim
theorem L2.len : ∀ {xs : List α} {ys : List β}, L2 R xs ys → xs.length = ys.length
  | [], [], _ => rfl
  | _ :: _, _ :: _, hr => by simp [L2.len hr.2]
  | [], _ :: _, hr => hr.elim
  | _ :: _, [], hr => hr.elim
theorem L2.get : ∀ {xs : List α} {ys : List β} {i : Nat} {x : α}, L2 R xs ys → xs[i]? = some x → ∃ y, ys[i]? = some y ∧ R x y
  | _ :: _, y :: _, 0, x, hr, hx => ⟨y, rfl, by simp at hx; subst hx; exact hr.1⟩
  | _ :: xs, _ :: ys, i + 1, x, hr, hx => by simpa using L2.get hr.2 (by simpa using hx)
  | [], [], _, _, _, hx => by simp at hx
  | [], _ :: _, _, _, hr, _ => hr.elim
  | _ :: _, [], _, _, hr, _ => hr.elim
theorem L2.take : ∀ {xs : List α} {ys : List β} (n : Nat), L2 R xs ys → L2 R (xs.take n) (ys.take n)
  | [], [], n, _ => by simp [L2]
  | _ :: _, _ :: _, 0, _ => by simp [L2]
  | _ :: _, _ :: _, n + 1, hr => ⟨hr.1, L2.take n hr.2⟩
  | [], _ :: _, _, hr => hr.elim
  | _ :: _, [], _, hr => hr.elim
theorem L2.drop : ∀ {xs : List α} {ys : List β} (n : Nat), L2 R xs ys → L2 R (xs.drop n) (ys.drop n)
  | [], [], n, _ => by simp [L2]
  | _ :: _, _ :: _, 0, hr => hr
  | _ :: _, _ :: _, n + 1, hr => by simpa using L2.drop n hr.2
  | [], _ :: _, _, hr => hr.elim
  | _ :: _, [], _, hr => hr.elim
theorem L2.app : ∀ {xs xs' : List α} {ys ys' : List β}, L2 R xs ys → L2 R xs' ys' → L2 R (xs ++ xs') (ys ++ ys')
  | [], _, [], _, _, h => h
  | _ :: _, _, _ :: _, _, hr, h => ⟨hr.1, L2.app hr.2 h⟩
  | [], _, _ :: _, _, hr, _ => hr.elim
  | _ :: _, _, [], _, hr, _ => hr.elim
theorem L2.set : ∀ {xs : List α} {ys : List β} (i : Nat) {x : α} {y : β}, L2 R xs ys → R x y → L2 R (xs.set i x) (ys.set i y)
  | [], [], _, _, _, _, _ => trivial
  | _ :: _, _ :: _, 0, _, _, hr, h => ⟨h, hr.2⟩
  | _ :: _, _ :: _, i + 1, _, _, hr, h => ⟨hr.1, L2.set i hr.2 h⟩
  | [], _ :: _, _, _, _, hr, _ => hr.elim
  | _ :: _, [], _, _, _, hr, _ => hr.elim
end

/-- Where the abstract rows and boxes lie; the blocks that nobody writes. -/
structure Mem where
  μ : Nat → Value
  I : Nat → Prop
  /-- 'J 0': the data that was there at the start; 'J 1': the blocks that are none of the call's: they stay. -/
  J : Nat → Nat → Prop
def blkOf : Value → Option Nat
  | .pointer (some a) => some a.block
  | .slice (some a) _ _ => some a.block
  | .map (some b) => some b
  | _ => none
abbrev Hp := Nat → Option Blk
def HasBox (h : Hp) (id : Nat) : Prop := ∃ B cs, h id = some B ∧ B.bx = some cs
def CellRep (w : World) (G : Mem) (h : Hp) : CV → Value → Prop
  | .i k x, v => v = .int k x
  | .b x, v => v = .bool x
  | .p _ d, v => v = .bool (@decide _ d)
  | .q _ d, v => v = .bool (!(@decide _ d))
  | .s x, v => v = .string x
  | .l t xs, v => K w G.I (.list t) xs [v]
  | .nl, v => v = .slice none 0 0
  | .own id ver, v => v.oneCell' = true ∧ ∃ cur fro e t xs, h id = some (.row cur fro e t xs) ∧ ver ≤ cur ∧ (ver = cur → v = G.μ id)
  | .ptr id off, v => ∃ b, HasBox h id ∧ G.μ id = .pointer (some ⟨b, 0, none⟩) ∧ v = .pointer (some ⟨b, off, none⟩)
  | .rptr id ver ix off, v => v.oneCell' = true ∧ ∃ cur fro e t xs, h id = some (.row cur fro e t xs) ∧ ver ≤ cur ∧ (ver = cur → ∃ b n c, G.μ id = .slice (some ⟨b, 0, none⟩) n c ∧ 0 ≤ ix ∧ ix < (List.length xs : Int) ∧ v = .pointer (some ⟨b, ix.toNat * t.sz + off, none⟩))
  | .eptr t x off, v => ∃ a d, v = .pointer (some (a.add off)) ∧ G.I a.block ∧ K w G.I t x d ∧ CellsAt w a d
  | .tptr t xs, v => ∃ a, v = .pointer (some a) ∧ (xs = [] ∨ ((G.I a.block ∧ a.spot = none) ∧ ∀ (j : Nat) (x : t.den), xs[j]? = some x → ∃ d, K w G.I t x d ∧ CellsAt w (a.add (j * t.sz)) d))
  | .np, v => v = .pointer none
  | .nf, v => v = .nilFunc
  | .nm, v => v = .map none
  | .u p _, v => ∃ b : Bool, v = .bool b ∧ (¬ p → b = false)
  | .sq T id, v => ∃ b, HasBox h id ∧ G.μ id = .pointer (some ⟨b, 0, none⟩) ∧ (v = .pointer none ∨ v = .pointer (some ⟨b, 0, none⟩))
  | .fn f caps, v => v = .func (.func f) #[] #[] ∧ caps = []
  | .d t x, v => K w G.I t x [v]
  | .mp id, v => v = G.μ id ∧ (∃ b, v = .map (some b)) ∧ ∃ ks, h id = some (.set ks)
def PartRep (w : World) (G : Mem) (h : Hp) (agg : Bool) (cs : List CV) (v : Value) : Prop :=
  match agg with
  | true => ∃ l : List Value, v = .agg l.toArray ∧ L2 (CellRep w G h) cs l
  | false => ∃ c, cs = [c] ∧ CellRep w G h c v
def SVRep (w : World) (G : Mem) (h : Hp) : SV → Value → Prop
  | .one c, v => CellRep w G h c v
  | .agg cs, v => ∃ l : List Value, v = .agg l.toArray ∧ L2 (CellRep w G h) cs l
  | .tup vs, v => ∃ l : List Value, v = .tuple l.toArray ∧ L2 (fun (p : Bool × List CV) u => PartRep w G h p.1 p.2 u) vs l
  | .undef, v => v = undef
  | .any, _ => True
def Blk.fro : Blk → Bool | .row _ f _ _ _ => f | .fbox _ => true | _ => false
/-- The type of a builder's box is known. -/
def boxTy : List CV → TypeId → Prop
  | .sq T _ :: _, e => e = T
  | _, _ => True
def BlkRep (w : World) (G : Mem) (h : Hp) (id : Nat) : Blk → Prop
  | .box cs => ∃ b e l, G.μ id = .pointer (some ⟨b, 0, none⟩) ∧ w.heap[b]? = some (.cells (List.toArray l) e (0, 0)) ∧ L2 (CellRep w G h) cs l ∧ boxTy cs e
  | .fbox cs => ∃ b e l, G.μ id = .pointer (some ⟨b, 0, none⟩) ∧ w.heap[b]? = some (.cells (List.toArray l) e (0, 0)) ∧ L2 (CellRep w G h) cs l ∧ boxTy cs e
  | .set ks => ∃ b, G.μ id = .map (some b) ∧ SetAt w b ks
  | .row _ _ e t xs => ∃ inner, w.ownsRow 0 e t.sz (G.μ id) (List.length xs) inner ∧ Reps (K w G.I t) xs inner
/-- Globals that are read: what they hold. -/
def GVRep (w : World) (J : Nat → Prop) (g : Nat) : GV → Prop
  | .one t x => J g ∧ ∃ d, K w J t x d ∧ CellsAt w ⟨g, 0, none⟩ d
  | .arr k zs => J g ∧ ∃ e fz, w.heap[g]? = some (.cells (List.toArray (zs.map (Value.int k))) e fz)
  | .tab t xs => J g ∧ ∀ (j : Nat) (x : t.den), xs[j]? = some x → ∃ d, K w J t x d ∧ CellsAt w (Addr.add ⟨g, 0, none⟩ (j * t.sz)) d
theorem GVRep.step {w w' : World} {I J : Nat → Prop} {g : Nat} {x : GV} (hIJ : ∀ b, I b → J b) (hk : ∀ b, I b → w'.heap[b]? = w.heap[b]?) (h : GVRep w I g x) : GVRep w' J g x := by
  cases x with
  | one t x => obtain ⟨h1, d, h2, h3⟩ := h; exact ⟨hIJ _ h1, d, K_step hIJ hk h2, h3.step (hk _ h1)⟩
  | arr k zs => obtain ⟨h1, e, fz, h2⟩ := h; exact ⟨hIJ _ h1, e, fz, (hk _ h1).trans h2⟩
  | tab t xs =>
    obtain ⟨h1, h2⟩ := h
    refine ⟨hIJ _ h1, fun j x hx => ?_⟩
    obtain ⟨d, h3, h4⟩ := h2 j x hx
    exact ⟨d, K_step hIJ hk h3, h4.step (by rw [add_block]; exact hk _ h1)⟩
/-- The number of the box that a caller hands in. -/
def IOid : Nat := 6400000
structure MemOK (gl : GT) (n0 : Nat) (w : World) (G : Mem) (h : Hp) : Prop where
  bound : ∀ b, G.I b → b < w.heap.size
  rep : ∀ id B, h id = some B → BlkRep w G h id B
  own : ∀ id B b, h id = some B → blkOf (G.μ id) = some b → n0 ≤ b ∧ b < w.heap.size ∧ (B.fro = false → ¬ G.I b) ∧ (B.fro = true → G.I b)
  inj : ∀ id id' B B' b, h id = some B → h id' = some B' → blkOf (G.μ id) = some b → blkOf (G.μ id') = some b → id = id'
  glob : ∀ g x, gl g = some x → GVRep w G.I g x
  le : n0 ≤ w.heap.size
  new : ∀ b, G.I b → G.J 0 b ∨ (n0 ≤ b ∧ ¬ G.J 1 b)
  fb : ∀ b, G.J 1 b → b < w.heap.size
  foe : ∀ id B b, h id = some B → blkOf (G.μ id) = some b → ¬ G.J 1 b
  anc : ∀ k, G.J 2 k → HasBox h IOid ∧ blkOf (G.μ IOid) = some k
structure Rel (gl : GT) (n0 : Nat) (σ : AS) (a : Act) (w : World) (G : Mem) : Prop where
  mem : MemOK gl n0 w G σ.heap
  slots : ∀ t, SVRep w G σ.heap (σ.slots t) (a.tmps.getD t undef)
  defers : a.defers = []

theorem CellRep.oneCell {w : World} {G : Mem} {h : Hp} {c : CV} {v : Value} (hc : CellRep w G h c v) : v.oneCell' = true := by
  cases c <;> simp only [CellRep] at hc
  case l => exact K_one hc v (by simp)
  case own => exact hc.1
  case ptr => obtain ⟨_, _, _, rfl⟩ := hc; rfl
  case rptr => exact hc.1
  case eptr => obtain ⟨_, _, rfl, _⟩ := hc; rfl
  case tptr => obtain ⟨_, rfl, _⟩ := hc; rfl
  case fn => obtain ⟨rfl, _⟩ := hc; rfl
  case d => exact K_one hc v (by simp)
  case mp => obtain ⟨_, ⟨b, rfl⟩, _⟩ := hc; rfl
  case sq => obtain ⟨b, _, _, h | h⟩ := hc <;> rw [h] <;> rfl
  case u => obtain ⟨b, rfl, _⟩ := hc; rfl
  all_goals subst hc; rfl

/-- How memory may go on: what was known stays known. -/
structure Evo (w w' : World) (G G' : Mem) (h h' : Hp) : Prop where
  I : ∀ b, G.I b → G'.I b
  keep : ∀ b, G.I b → w'.heap[b]? = w.heap[b]?
  box : ∀ id, HasBox h id → HasBox h' id ∧ G'.μ id = G.μ id
  row : ∀ id v f e t xs, h id = some (.row v f e t xs) → ∃ v' f' e' xs', h' id = some (.row v' f' e' t xs') ∧ v ≤ v' ∧ (v = v' → G'.μ id = G.μ id ∧ xs'.length = xs.length)
  J : G'.J = G.J
  set : ∀ id ks, h id = some (.set ks) → (∃ ks', h' id = some (.set ks')) ∧ G'.μ id = G.μ id
  keepF : ∀ b, G.J 1 b → w'.heap[b]? = w.heap[b]?
theorem Evo.refl (w : World) (G : Mem) (h : Hp) : Evo w w G G h h := ⟨fun _ h => h, fun _ _ => rfl, fun _ h => ⟨h, rfl⟩, fun _ v f e _ xs h => ⟨v, f, e, xs, h, Nat.le_refl _, fun _ => ⟨rfl, rfl⟩⟩, rfl, fun _ ks h => ⟨⟨ks, h⟩, rfl⟩, fun _ _ => rfl⟩
theorem anc_evo {w w' : World} {G G' : Mem} {h h' : Hp} (E : Evo w w' G G' h h') (ha : ∀ k, G.J 2 k → HasBox h IOid ∧ blkOf (G.μ IOid) = some k) : ∀ k, G'.J 2 k → HasBox h' IOid ∧ blkOf (G'.μ IOid) = some k := fun k hk => by
  rw [E.J] at hk
  obtain ⟨h1, h2⟩ := ha k hk
  obtain ⟨h3, h4⟩ := E.box _ h1
  exact ⟨h3, by rw [h4]; exact h2⟩
theorem Evo.trans {w w1 w2 : World} {G G1 G2 : Mem} {h h1 h2 : Hp} (a : Evo w w1 G G1 h h1) (b : Evo w1 w2 G1 G2 h1 h2) : Evo w w2 G G2 h h2 where
  J := b.J.trans a.J
  keepF := fun k hk => (b.keepF k (by rw [a.J]; exact hk)).trans (a.keepF k hk)
  set := fun id ks hh => by
    obtain ⟨⟨ks1, h1⟩, e1⟩ := a.set id ks hh
    obtain ⟨h2, e2⟩ := b.set id ks1 h1
    exact ⟨h2, e2.trans e1⟩
  I := fun k hk => b.I k (a.I k hk)
  keep := fun k hk => (b.keep k (a.I k hk)).trans (a.keep k hk)
  box := fun id hh => by
    obtain ⟨h1, e1⟩ := a.box id hh
    obtain ⟨h2, e2⟩ := b.box id h1
    exact ⟨h2, e2.trans e1⟩
  row := fun id v f e t xs hh => by
    obtain ⟨v1, f1, e1, xs1, h1, hv1, hm1⟩ := a.row id v f e t xs hh
    obtain ⟨v2, f2, e2, xs2, h2, hv2, hm2⟩ := b.row id v1 f1 e1 t xs1 h1
    refine ⟨v2, f2, e2, xs2, h2, Nat.le_trans hv1 hv2, fun hv => ?_⟩
    have hv1' : v = v1 := by omega
    have hv2' : v1 = v2 := by omega
    exact ⟨(hm2 hv2').1.trans (hm1 hv1').1, (hm2 hv2').2.trans (hm1 hv1').2⟩
theorem CellRep.evo {w w' : World} {G G' : Mem} {h h' : Hp} (E : Evo w w' G G' h h') {c : CV} {v : Value} (hc : CellRep w G h c v) : CellRep w' G' h' c v := by
  cases c <;> simp only [CellRep] at hc ⊢
  case l => exact K_step E.I E.keep hc
  case d => exact K_step E.I E.keep hc
  case mp id =>
    obtain ⟨h1, h2, ks, h3⟩ := hc
    obtain ⟨h4, e⟩ := E.set id ks h3
    exact ⟨h1.trans e.symm, h2, h4⟩
  case own id ver =>
    obtain ⟨h1, cur, fro, e, t, xs, hh, hle, hm⟩ := hc
    obtain ⟨v1, f1, e1, xs1, h1', hv1, hm1⟩ := E.row id cur fro e t xs hh
    refine ⟨h1, v1, f1, e1, t, xs1, h1', Nat.le_trans hle hv1, fun hv => ?_⟩
    have e1 : ver = cur := by omega
    have e2 : cur = v1 := by omega
    rw [hm e1, (hm1 e2).1]
  case ptr id off =>
    obtain ⟨b, hh, hm, hv⟩ := hc
    obtain ⟨h1, e1⟩ := E.box id hh
    exact ⟨b, h1, e1.trans hm, hv⟩
  case rptr id ver ix off =>
    obtain ⟨h1, cur, fro, e, t, xs, hh, hle, hm⟩ := hc
    obtain ⟨v1, f1, e1, xs1, h1', hv1, hm1⟩ := E.row id cur fro e t xs hh
    refine ⟨h1, v1, f1, e1, t, xs1, h1', Nat.le_trans hle hv1, fun hv => ?_⟩
    have e1 : ver = cur := by omega
    have e2 : cur = v1 := by omega
    rw [(hm1 e2).1, (hm1 e2).2]
    exact hm e1
  case eptr t x off =>
    obtain ⟨a, d, hv, hI, hK, hA⟩ := hc
    exact ⟨a, d, hv, E.I _ hI, K_step E.I E.keep hK, hA.step (E.keep _ hI)⟩
  case tptr t xs =>
    obtain ⟨a, hv, hr⟩ := hc
    refine ⟨a, hv, hr.imp id ?_⟩
    rintro ⟨hI, hall⟩
    refine ⟨⟨E.I _ hI.1, hI.2⟩, fun j x hx => ?_⟩
    obtain ⟨d, hK, hA⟩ := hall j x hx
    exact ⟨d, K_step E.I E.keep hK, hA.step (by rw [add_block]; exact E.keep _ hI.1)⟩
  case fn f caps =>
    exact hc
  case sq T id =>
    obtain ⟨b, hh, hm, hv⟩ := hc
    obtain ⟨h1, e1⟩ := E.box id hh
    exact ⟨b, h1, e1.trans hm, hv⟩
  all_goals exact hc
theorem PartRep.evo {w w' : World} {G G' : Mem} {h h' : Hp} (E : Evo w w' G G' h h') {agg : Bool} {cs : List CV} {v : Value} (hc : PartRep w G h agg cs v) : PartRep w' G' h' agg cs v := by
  cases agg
  · obtain ⟨c, hcs, hr⟩ := hc; exact ⟨c, hcs, hr.evo E⟩
  · obtain ⟨l, hv, hr⟩ := hc; exact ⟨l, hv, hr.imp fun _ _ h => h.evo E⟩
theorem SVRep.evo {w w' : World} {G G' : Mem} {h h' : Hp} (E : Evo w w' G G' h h') {s : SV} {v : Value} (hs : SVRep w G h s v) : SVRep w' G' h' s v := by
  cases s <;> simp only [SVRep] at hs ⊢
  case one => exact hs.evo E
  case agg => obtain ⟨l, hv, hr⟩ := hs; exact ⟨l, hv, hr.imp fun _ _ h => h.evo E⟩
  case tup => obtain ⟨l, hv, hr⟩ := hs; exact ⟨l, hv, hr.imp fun _ _ h => h.evo E⟩
  all_goals exact hs
end Go.Den
