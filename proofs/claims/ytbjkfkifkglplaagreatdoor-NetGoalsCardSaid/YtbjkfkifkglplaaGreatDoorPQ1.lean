/-
  Networks and goals that are the same: the program's answer and the document's are equality.
-/
import Derived.Test.YtbjkfkifkglplaaGreatDoorP3
import Derived.Test.YtbjkfkifkglplaaGreatDoorLV
import Derived.Test.YtbjkfkifkglplaaGreatDoorMO
set_option linter.unusedSectionVars false
set_option linter.unusedVariables false
set_option linter.unusedSimpArgs false
set_option maxRecDepth 100000
namespace Go.Proofs.YtbjkfkifkglplaaGreatDoor.Q
open Go Go.Den Go.Proofs
instance iS43 : DecidableEq S43 := inferInstance
instance iL43 : DecidableEq (List S43) := inferInstance
instance iS151 : DecidableEq S151 := inferInstance
instance iL151 : DecidableEq (List S151) := inferInstance
instance iS81 : DecidableEq S81 := inferInstance
instance iL81 : DecidableEq (List S81) := inferInstance
instance iS84 : DecidableEq S84 := inferInstance
instance iL84 : DecidableEq (List S84) := inferInstance
instance iS79 : DecidableEq S79 := @instDecidableEqProd _ _ inferInstance (@instDecidableEqProd _ _ inferInstance (@instDecidableEqProd _ _ inferInstance (@instDecidableEqProd _ _ inferInstance inferInstance)))
instance iL79 : DecidableEq (List S79) := inferInstance
instance iS76 : DecidableEq S76 := inferInstance
instance iL76 : DecidableEq (List S76) := inferInstance
instance iS72 : DecidableEq S72 := inferInstance
theorem live_le : Le (some true) (fun k => gnomonlaw10_live.f k) := fun r h => ⟨400, fun k hk => by
  cases h
  obtain ⟨j, rfl⟩ := Nat.exists_eq_add_of_le hk
  exact mo_all gnomonlaw10_live.mo live_is j⟩
theorem eq_loop {α : Type} [DecidableEq α] (L : List α → Nat → Option Bool) (x1 : List α) (P : α → Prop) (r : Option Bool) (h0 : ∀ i, L [] i = r) (hs : ∀ y u i z w, x1.drop i = z :: w → P y → L (y :: u) i = if y = z then L u (i + 1) else some false) :
    ∀ (l : List α) (i : Nat), (∀ y ∈ l, P y) → l.length = (x1.drop i).length → L l i = if l = x1.drop i then r else some false
  | [], i, _, h => by
    have : x1.drop i = [] := List.eq_nil_of_length_eq_zero h.symm
    rw [this, if_pos rfl]; exact h0 i
  | y :: u, i, hP, h => by
    obtain ⟨z, w, hd⟩ : ∃ z w, x1.drop i = z :: w := by
      cases hd : x1.drop i with
      | nil => rw [hd] at h; cases h
      | cons z w => exact ⟨z, w, rfl⟩
    have ht := (drop_cons hd).2.2
    rw [hs y u i z w hd (hP y List.mem_cons_self)]
    rw [hd] at h ⊢
    have ih := eq_loop L x1 P r h0 hs u (i + 1) (fun q hq => hP q (List.mem_cons_of_mem _ hq)) (by rw [ht]; simpa using h)
    by_cases hy : y = z
    · subst hy
      rw [if_pos rfl, ih, ht]
      simp
    · rw [if_neg hy, if_neg (fun e => hy (List.cons.inj e).1)]
theorem len_eq {α : Type} [DecidableEq α] {a b : List α} {X : Option Bool} (h : a.length ≤ 9223372036854775807) (hX : X = if a = b.drop 0 then some true else some false) : (if (a.length : Int) = (b.length : Int) then (if a.length ≤ 9223372036854775807 then X else none) else some false) = some (decide (a = b)) := by
  by_cases hl : a.length = b.length
  · rw [if_pos (by omega), if_pos h, hX, List.drop_zero]
    by_cases e : a = b <;> simp [e]
  · rw [if_neg (by omega)]
    have : a ≠ b := fun e => hl (by rw [e])
    simp [this]
theorem len_eq' {α : Type} [DecidableEq α] {a b : List α} {L : List α → Nat → Option Bool} (h : a.length ≤ 9223372036854775807) (P : α → Prop) (hP : ∀ y ∈ a, P y) (h0 : ∀ i, L [] i = some true) (hs : ∀ y u i z w, b.drop i = z :: w → P y → L (y :: u) i = if y = z then L u (i + 1) else some false) :
    (if (a.length : Int) = (b.length : Int) then (if a.length ≤ 9223372036854775807 then L a 0 else none) else some false) = some (decide (a = b)) := by
  by_cases hl : a.length = b.length
  · exact len_eq h (eq_loop L b P _ h0 hs a 0 hP (by simpa using hl))
  · rw [if_neg (by omega)]
    have : a ≠ b := fun e => hl (by rw [e])
    simp [this]
theorem dr {t : Ty} {b : List t.den} {i : Nat} {z : t.den} {w : List t.den} (h : b.drop i = z :: w) : (i : Int) < (b.length : Int) ∧ rdT t b (i : Int) = z := by
  have hx := drop_cons h
  exact ⟨by have := hx.1; omega, rdT_head (t := t) h⟩
theorem cap_le {n : Nat} (h : n ≤ cap) : n ≤ 9223372036854775807 := Nat.le_trans h (by decide)
theorem rstrs_is {a b : List ByteArray} (h : a.length ≤ cap) : gm_SameTexts.g a b = some (decide (a = b)) :=
  len_eq' (cap_le h) (fun _ => True) (fun _ _ => trivial) (fun _ => rfl) fun y u i z w hd _ => by
    rw [gm_SameTexts.L0, if_pos (dr (t := .str) hd).1, (dr (t := .str) hd).2]
theorem rguards_is {a b : List S43} (h : a.length ≤ cap) : gm_SameGuards.g a b = some (decide (a = b)) :=
  len_eq' (cap_le h) (fun _ => True) (fun _ _ => trivial) (fun _ => rfl) fun y u i z w hd _ => by
    rw [gm_SameGuards.L0, if_pos (dr (t := T43) hd).1]; rw [show rd_T43 _ (i : Int) = z from (dr (t := T43) hd).2]
theorem rnodes_is {a b : List S151} (h : a.length ≤ cap) : gm_SameNodes.g a b = some (decide (a = b)) :=
  len_eq' (cap_le h) (fun _ => True) (fun _ _ => trivial) (fun _ => rfl) fun y u i z w hd _ => by
    rw [gm_SameNodes.L0, if_pos (dr (t := T151) hd).1]; rw [show rd_T151 _ (i : Int) = z from (dr (t := T151) hd).2]
theorem rats_is {a b : List S133} (h : a.length ≤ cap) : gm_SameAts.g a b = some (decide (a = b)) :=
  len_eq' (cap_le h) (fun _ => True) (fun _ _ => trivial) (fun _ => rfl) fun y u i z w hd _ => by
    rw [gm_SameAts.L0, if_pos (dr (t := T133) hd).1]; rw [show rd_T133 _ (i : Int) = z from (dr (t := T133) hd).2]
theorem bind_go {p : Prop} [Decidable p] {X : Option Bool} : (some (decide p)).bind (fun t => if (!t) = true then some false else X) = if p then X else some false := by
  by_cases h : p <;> simp [h]
theorem rsets_is {a b : List S81} (h : a.length ≤ cap) (hs : ∀ s ∈ a, okS s) : gm_sameSets.g a b = some (decide (a = b)) :=
  len_eq' (cap_le h) okS hs (fun _ => rfl) fun y u i z w hd hy => by
    rw [gm_sameSets.L0]; simp only [if_pos (dr (t := T81) hd).1]; rw [show rd_T81 _ (i : Int) = z from (dr (t := T81) hd).2, rnodes_is hy.1, bind_go]
    obtain ⟨a, b, c, d⟩ := y; obtain ⟨a', b', c', d'⟩ := z
    by_cases h1 : a = a' <;> by_cases h2 : b = b' <;> by_cases h3 : c = c' <;> simp [h1, h2, h3, S81.f0, S81.f1, S81.f2, S81.f3]
theorem redges_L {a b : List S79} (h : a.length ≤ cap) (hl : a.length = b.length) (hs : ∀ s ∈ a, okE s) : gm_sameAuto.L2 b a 0 = if a = b then some true else some false := by
  have := eq_loop (gm_sameAuto.L2 b) b okE (some true) (fun _ => rfl) (fun y u i z w hd hy => by
    rw [gm_sameAuto.L2]; simp only [if_pos (dr (t := T79) hd).1]; rw [show rd_T79 _ (i : Int) = z from (dr (t := T79) hd).2, rguards_is hy.1, bind_go, rnodes_is hy.2.1.1, bind_go, rsets_is hy.2.2.1 hy.2.2.2, bind_go]
    obtain ⟨a, b, c, d, e, f, g⟩ := y; obtain ⟨a', b', c', d', e', f', g'⟩ := z
    by_cases h1 : a = a' <;> by_cases h2 : b = b' <;> by_cases h3 : c = c' <;> by_cases h4 : d = d' <;> by_cases h5 : e = e' <;> by_cases h6 : f = f' <;> simp [h1, h2, h3, h4, h5, h6, S79.f0, S79.f1, S79.f2, S79.f3, S79.f4, S79.f5, S79.f6]) a 0 hs (by simpa using hl)
  simpa using this
theorem rauto_is {y z : S76} (h : okA y) : gm_sameAuto.g y.f0 y.f1 y.f2 z.f0 z.f1 z.f2 = some (decide (y = z)) := by
  obtain ⟨a, b, c⟩ := y; obtain ⟨a', b', c'⟩ := z
  unfold gm_sameAuto.g
  simp only [S76.f0, S76.f1, S76.f2]
  by_cases h1 : a = a'
  rotate_left
  · simp [h1]
  by_cases h2 : b.length = b'.length
  rotate_left
  · have : b ≠ b' := fun e => h2 (by rw [e])
    rw [if_pos h1, if_neg (by omega)]; simp [this]
  by_cases h3 : c.length = c'.length
  rotate_left
  · have : c ≠ c' := fun e => h3 (by rw [e])
    rw [if_pos h1, if_pos (by omega), if_neg (by omega)]; simp [this]
  rw [if_pos h1, if_pos (by omega), if_pos (by omega), if_pos (cap_le h.2.1.1)]
  have hL := eq_loop (gm_sameAuto.L1 c b' c') b' okL (if c = c' then some true else some false) (fun i => by rw [gm_sameAuto.L1, if_pos (cap_le h.2.2.1)]; exact redges_L h.2.2.1 h3 h.2.2.2) (fun y u i z w hd hy => by
    rw [gm_sameAuto.L1]; simp only [if_pos (dr (t := T84) hd).1]; rw [show rd_T84 _ (i : Int) = z from (dr (t := T84) hd).2, rguards_is hy.2, bind_go]
    obtain ⟨a, b, c⟩ := y; obtain ⟨a', b', c'⟩ := z
    by_cases h1 : a = a' <;> by_cases h2 : b = b' <;> simp [h1, h2, S84.f0, S84.f1, S84.f2]) b 0 h.2.1.2 (by simpa using h2)
  rw [hL, List.drop_zero]
  by_cases h4 : b = b' <;> by_cases h5 : c = c' <;> simp [h1, h4, h5]
theorem rnet_is {x y : S26} (h : OkN x.f0 x.f1 x.f2 x.f3) : gm_SameNet.g x.f0 x.f1 x.f2 x.f3 y.f0 y.f1 y.f2 y.f3 = some (decide (x = y)) := by
  obtain ⟨a, b, c, d⟩ := x; obtain ⟨a', b', c', d'⟩ := y
  unfold gm_SameNet.g
  simp only [S26.f0, S26.f1, S26.f2, S26.f3] at h ⊢
  rw [rstrs_is h.al, bind_go, rstrs_is h.cl, bind_go]
  by_cases h1 : a = a'
  rotate_left
  · simp [h1]
  by_cases h2 : c = c'
  rotate_left
  · simp [h2]
  rw [if_pos h1, if_pos h2]
  by_cases h3 : b.length = b'.length
  rotate_left
  · have : b ≠ b' := fun e => h3 (by rw [e])
    rw [if_neg (by omega)]; simp [this]
  by_cases h4 : d.length = d'.length
  rotate_left
  · have : d ≠ d' := fun e => h4 (by rw [e])
    rw [if_pos (by omega), if_neg (by omega)]; simp [this]
  rw [if_pos (by omega), if_pos (by omega), if_pos (cap_le h.bl)]
  have hD := eq_loop (gm_SameNet.L2 d') d' okA (some true) (fun _ => rfl) (fun y u i z w hd hy => by
    rw [gm_SameNet.L2, if_pos (dr (t := T76) hd).1]; rw [show rd_T76 _ (i : Int) = z from (dr (t := T76) hd).2, rauto_is hy, bind_go]) d 0 h.ds (by simpa using h4)
  have hL := eq_loop (gm_SameNet.L1 d b' d') b' (fun _ => True) (if d = d' then some true else some false) (fun i => by rw [gm_SameNet.L1, if_pos (cap_le h.dl)]; simpa using hD) (fun y u i z w hd _ => by
    rw [gm_SameNet.L1, if_pos (dr (t := T86) hd).1]; rw [show rd_T86 _ (i : Int) = z from (dr (t := T86) hd).2]) b 0 (fun _ _ => trivial) (by simpa using h3)
  rw [hL, List.drop_zero]
  by_cases h5 : b = b' <;> by_cases h6 : d = d' <;> simp [h1, h2, h5, h6]
/-! Goals. -/
def okP (p : S72) : Prop := p.f0.length ≤ cap ∧ p.f1.length ≤ cap ∧ p.f2.length ≤ cap ∧ opsOk p.f2
def okG (g : List S72) : Prop := g.length ≤ cap ∧ ∀ p ∈ g, okP p
theorem okG_of {g : List S72} (h : okT (.list T72) g) : okG g :=
  ⟨Nat.le_trans h.2.1 (by decide), fun p hp => by
    obtain ⟨g0, g1, g2⟩ := h.1 p hp
    exact ⟨Nat.le_trans g0.2.1 (by decide), Nat.le_trans g1.2.1 (by decide), Nat.le_trans g2.2.1 (by decide), fun z hz => u8_of (g2.1 z hz).1⟩⟩
end Go.Proofs.YtbjkfkifkglplaaGreatDoor.Q
