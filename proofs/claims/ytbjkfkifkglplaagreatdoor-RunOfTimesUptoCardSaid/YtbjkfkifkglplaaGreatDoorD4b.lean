/- Part of the proof: D4c, D4b. -/
import Derived.Test.YtbjkfkifkglplaaGreatDoorD4k
set_option linter.unusedSectionVars false
/-
  A body of the abstract machine is right.
-/
set_option linter.unusedVariables false
set_option linter.unusedSimpArgs false
namespace Go.Den
open Go Go.RowKit
theorem least {p : Nat → Prop} (h : ∃ j, p j) : ∃ j, p j ∧ ∀ i, p i → j ≤ i := by
  obtain ⟨n, hn⟩ := h
  induction n using Nat.strongRecOn with
  | _ n ih =>
    by_cases hm : ∃ m, m < n ∧ p m
    · obtain ⟨m, hlt, hp⟩ := hm
      exact ih m hlt hp
    · exact ⟨n, hn, fun i hi => by
        rcases Nat.lt_or_ge i n with h | h
        · exact absurd ⟨i, h, hi⟩ hm
        · exact h⟩
open Classical in
noncomputable def leastOf (p : Nat → Prop) : Nat := if h : ∃ j, p j then Classical.choose (least h) else 0
theorem leastOf_spec {p : Nat → Prop} (h : ∃ j, p j) : p (leastOf p) ∧ ∀ i, p i → leastOf p ≤ i := by
  unfold leastOf
  rw [dif_pos h]
  exact Classical.choose_spec (least h)
/-- What the machine's way of ending a piece is called there. -/
def exOf : Exit → Option Ex
  | .normal => some .normal
  | .exit id => some (.exit id)
  | .ret => some .ret
  | _ => none
/-- Where a region's order is drawn, it may be; every slot is there. -/
def codeOk (N : Nat) : Code → Bool
  | .region _ ops draw => (match draw with | true => drawOk ops.toList | false => true) && ops.toList.all (dstOK N)
  | .seq a b => codeOk N a && codeOk N b
  | .cond _ x y => codeOk N x && codeOk N y
  | .block _ b => codeOk N b
  | .loop b => codeOk N b
  | _ => true
def AbsOK (gl : GT) (sh : Shape) : Prop := ∀ (N n0 : Nat) (w0 : World) (J : Nat → Nat → Prop) (σ : AS) (s : sh.S) (a : Act) (w : World) (G : Mem), ((∀ k, ¬ J 2 k) ∨ IOid ∈ sh.boxes.map (·.1)) → sh.abs σ = some s → At gl N n0 w0 J σ a w G → ∃ G', At gl N n0 w0 J (sh.inv s) a w G'
section
variable {P : Program} {gl : GT} {N n0 : Nat} {w0 : World} {J : Nat → Nat → Prop} {R : Type} {r : R} {F : Fam R}
/-- What holds behind a piece. -/
def Post (gl : GT) (N n0 : Nat) (w0 : World) (J : Nat → Nat → Prop) {R : Type} (r : R) (K : Nat → Ex → AS → Option R) (n : Nat) : Exit → Act → World → Prop :=
  fun e a' w' => ∃ m, m ≤ n ∧ ∃ x σ' G', exOf e = some x ∧ At gl N n0 w0 J σ' a' w' G' ∧ K m x σ' = some r
theorem Post.le {K : Nat → Ex → AS → Option R} {m n : Nat} (h : m ≤ n) {e : Exit} {a : Act} {w : World} (hp : Post gl N n0 w0 J r K m e a w) : Post gl N n0 w0 J r K n e a w := by
  obtain ⟨k, hk, rest⟩ := hp
  exact ⟨k, Nat.le_trans hk h, rest⟩
theorem go_some {c : CutE R} {n : Nat} {σ : AS} (h : c.go n σ = some r) : ∃ s, c.sh.abs σ = some s ∧ c.l n s = some r := Option.bind_eq_some_iff.1 h
theorem ways_some {c : CV} {x y : Option R} {w : World} {G : Mem} {h : Hp} {v : Value} (hr : CellRep w G h c v) (hb : ways c x y = some r) : ∃ t : Bool, v = .bool t ∧ (if t then x else y) = some r := by
  cases c <;> try exact both_some hr hb
  rename_i p d
  obtain ⟨t, hv, ht⟩ := hr
  refine ⟨t, hv, ?_⟩
  simp only [ways] at hb
  by_cases hp : p
  · rw [if_pos hp] at hb
    unfold agree at hb
    split at hb
    · rename_i he
      cases t
      · simpa [← he] using hb
      · simpa using hb
    · cases hb
  · rw [if_neg hp] at hb
    rw [ht hp]
    simpa using hb
theorem den_ok (hmo : P.follows .mixedOrders = true) {B : Nat} (hE : ∀ n, n ≤ B → EnvOK P gl (F.c n)) (hcut : ∀ k c, findCut F.cuts k = some c → AbsOK gl c.sh ∧ ((∀ k, ¬ J 2 k) ∨ IOid ∈ c.sh.boxes.map (·.1))) :
    ∀ (c : Code) (K : Nat → Ex → AS → Option R), codeOk N c = true → Obl F c K → ∀ (n : Nat), n ≤ B → ∀ (σ : AS) (a : Act) (w : World) (G : Mem), At gl N n0 w0 J σ a w G → den F n c σ (K n) = some r →
      c.wp P (Post gl N n0 w0 J r K n) a w
  | .skip, K, _, _, n, hn, σ, a, w, G, hA, h => wp_skip ⟨n, Nat.le_refl _, .normal, σ, G, rfl, hA, h⟩
  | .exit id, K, _, _, n, hn, σ, a, w, G, hA, h => wp_exit ⟨n, Nat.le_refl _, .exit id, σ, G, rfl, hA, h⟩
  | .ret, K, _, _, n, hn, σ, a, w, G, hA, h => wp_ret ⟨n, Nat.le_refl _, .ret, σ, G, rfl, hA, h⟩
  | .region id ops draw, K, hc, _, n, hn, σ, a, w, G, hA, h => by
    simp only [codeOk, Bool.and_eq_true] at hc
    obtain ⟨hd, hc⟩ := hc
    cases draw with
    | false => exact wp_region_list (runOps_ok (hE n hn) (fun σ' a' w' G' hA' h' => ⟨n, Nat.le_refl _, .normal, σ', G', rfl, hA', h'⟩) ops.toList 0 hc hA h)
    | true => exact region_draw_ok hmo (hE n hn) hd hc hA h (fun σ' a' w' G' hA' h' => ⟨n, Nat.le_refl _, .normal, σ', G', rfl, hA', h'⟩)
  | .cond c x y, K, hc, ho, n, hn, σ, a, w, G, hA, h => by
    simp only [codeOk, Bool.and_eq_true] at hc
    simp only [den] at h
    split at h
    · rename_i cv hcv
      have hr : CellRep w G σ.heap cv (a.eval c) := by
        have := evO_ok (hE n hn) hA.rel.mem hA.rel.slots c
        rw [hcv] at this; exact this
      obtain ⟨t, hv, hb⟩ := ways_some hr h
      refine wp_cond hv ?_
      cases t
      · exact den_ok hmo hE hcut y K hc.2 ho.2 n hn σ a w G hA (by simpa using hb)
      · exact den_ok hmo hE hcut x K hc.1 ho.1 n hn σ a w G hA (by simpa using hb)
    · cases h
  | .block id b, K, hc, ho, n, hn, σ, a, w, G, hA, h => by
    refine wp_block (wp_mono (den_ok hmo hE hcut b (fun n => Kblock id (K n)) hc ho n hn σ a w G hA h) ?_)
    rintro e a' w' ⟨m, hm, x, σ', G', he, hA', hk⟩
    cases e with
    | exit i =>
      cases he
      simp only [Kblock] at hk
      show (if i = id then _ else _)
      by_cases hi : i = id
      · rw [if_pos hi]
        subst hi
        rw [Nat.beq_refl] at hk
        exact ⟨m, hm, .normal, σ', G', rfl, hA', hk⟩
      · rw [if_neg hi]
        have : Nat.beq i id = false := by
          cases hb : Nat.beq i id with
          | false => rfl
          | true => exact absurd (nbeq hb) hi
        rw [this] at hk
        exact ⟨m, hm, .exit i, σ', G', rfl, hA', hk⟩
    | normal => cases he; exact ⟨m, hm, .normal, σ', G', rfl, hA', hk⟩
    | ret => cases he; exact ⟨m, hm, .ret, σ', G', rfl, hA', hk⟩
    | goto => cases he
    | panic => cases he
    | outgrown => cases he
  | .seq x y, K, hc, ho, n, hn, σ, a, w, G, hA, h => by
    simp only [codeOk, Bool.and_eq_true] at hc
    obtain ⟨ho1, ho2, ho3⟩ := ho
    refine wp_seq (wp_mono (den_ok hmo hE hcut x _ hc.1 ho1 n hn σ a w G hA h) ?_)
    rintro e a' w' ⟨m, hm, z, σ', G', he, hA', hk⟩
    cases e with
    | normal =>
      cases he
      show y.wp P _ a' w'
      simp only [Kseq] at hk
      split at hk
      · rename_i c hf
        rw [hf] at ho3
        obtain ⟨s, hs, hl⟩ := go_some hk
        cases m with
        | zero => rw [ho3.1] at hl; cases hl
        | succ m =>
          rw [ho3.2] at hl
          obtain ⟨G2, hA2⟩ := (hcut _ c hf).1 N n0 w0 J σ' s a' w' G' (hcut _ c hf).2 hs hA'
          exact wp_mono (den_ok hmo hE hcut y K hc.2 ho2 m (by omega) _ a' w' G2 hA2 hl) fun _ _ _ => Post.le (by omega)
      · exact wp_mono (den_ok hmo hE hcut y K hc.2 ho2 m (by omega) _ a' w' G' hA' hk) fun _ _ _ => Post.le hm
    | exit i => cases he; exact ⟨m, hm, .exit i, σ', G', rfl, hA', hk⟩
    | ret => cases he; exact ⟨m, hm, .ret, σ', G', rfl, hA', hk⟩
    | goto => cases he
    | panic => cases he
    | outgrown => cases he
  | .loop b, K, hc, ho, n, hn, σ, a, w, G, hA, h => by
    simp only [den] at h
    simp only [Obl] at ho
    split at h
    · rename_i c hf
      rw [hf] at ho
      obtain ⟨ho1, ho2, ho3⟩ := ho
      let p : Act → World → Nat → Prop := fun a w j => j ≤ n ∧ ∃ s G, c.l j s = some r ∧ At gl N n0 w0 J (c.sh.inv s) a w G
      have enter : ∀ {m σ a w G}, m ≤ n → At gl N n0 w0 J σ a w G → c.go m σ = some r → p a w m := fun {m σ a w G} hm hA h => by
        obtain ⟨s, hs, hl⟩ := go_some h
        obtain ⟨G2, hA2⟩ := (hcut _ c hf).1 N n0 w0 J σ s a w G (hcut _ c hf).2 hs hA
        exact ⟨hm, s, G2, hl, hA2⟩
      refine wp_loop (fun a w => ∃ j, p a w j) (fun a w => leastOf (p a w)) ⟨n, enter (Nat.le_refl _) hA h⟩ fun a w hI => ?_
      obtain ⟨⟨hle, s, G, hl, hA⟩, hmin⟩ := leastOf_spec hI
      generalize hj : leastOf (p a w) = j at hle hl
      cases j with
      | zero => rw [ho2] at hl; cases hl
      | succ j =>
        rw [ho3] at hl
        refine wp_mono (den_ok hmo hE hcut b (fun n => Kseq (c.go n) (K n)) hc ho1 j (by omega) _ a w G hA hl) ?_
        rintro e a' w' ⟨m, hm, z, σ', G', he, hA', hk⟩
        cases e with
        | normal =>
          cases he
          have hp := enter (m := m) (by omega) hA' hk
          have h1 := (leastOf_spec (p := p a' w') ⟨m, hp⟩).2 m hp
          exact ⟨⟨m, hp⟩, by show leastOf (p a' w') < _; omega⟩
        | exit i => cases he; exact ⟨m, by omega, .exit i, σ', G', rfl, hA', hk⟩
        | ret => cases he; exact ⟨m, by omega, .ret, σ', G', rfl, hA', hk⟩
        | goto => cases he
        | panic => cases he
        | outgrown => cases he
    · cases h
  | .scope b, K, _, _, n, hn, σ, a, w, G, hA, h => by simp [den] at h
  | .label l, K, _, _, n, hn, σ, a, w, G, hA, h => by simp [den] at h
  | .goto l, K, _, _, n, hn, σ, a, w, G, hA, h => by simp [den] at h
end
end Go.Den

/-
  What is let go and what is kept at a cut.
-/
set_option linter.unusedVariables false
set_option linter.unusedSimpArgs false
namespace Go.Den
open Go Go.RowKit
def entS : (l : List (Nat × SlotSh)) → slotsDen l → (Nat → Value) → List (Nat × Blk × Value)
  | [], _, _ => []
  | (_, .v _ _) :: r, s, f => entS r s.2 f
  | (m, .o e t) :: r, s, f => (slotId m, .row 0 false e t s.1, f m) :: entS r s.2 f
  | (_, .k _) :: r, s, f => entS r s f
  | (_, .un) :: r, s, f => entS r s f
  | (m, .m) :: r, s, f => (slotId m, .set s.1, f m) :: entS r s.2 f
  | (_, .al _) :: r, s, f => entS r s f
def entC (id : Nat) : (j : Nat) → (l : List CellSh) → cellsDen l → List Value → List (Nat × Blk × Value)
  | _, [], _, _ => []
  | j, .v t :: r, s, vs => entC id (j + 1) r s.2 (vs.drop t.sz)
  | j, .o e t :: r, s, vs => (cellId id j, .row 0 false e t s.1, vs.headD undef) :: entC id (j + 1) r s.2 (vs.drop 1)
  | j, .k _ :: r, s, vs => entC id (j + 1) r s (vs.drop 1)
def entB : (l : List (Nat × BoxSh)) → boxesDen l → (Nat → List Value) → (Nat → Value) → List (Nat × Blk × Value)
  | [], _, _, _ => []
  | (id, cs) :: r, s, g, μ => (id, .box (invCells id 0 cs s.1), μ id) :: (entC id 0 cs s.1 (g id) ++ entB r s.2 g μ)
def lookE : List (Nat × Blk × Value) → Nat → Option (Blk × Value)
  | [], _ => none
  | (k, b) :: r, n => bif Nat.beq n k then some b else lookE r n
theorem lookE_app : ∀ (a b : List (Nat × Blk × Value)) (n : Nat), lookE (a ++ b) n = match lookE a n with | some x => some x | none => lookE b n
  | [], _, _ => rfl
  | (k, c) :: r, b, n => by
    simp only [List.cons_append, lookE]
    cases Nat.beq n k with
    | true => rfl
    | false => exact lookE_app r b n
theorem lookE_mem : ∀ {l : List (Nat × Blk × Value)} {n : Nat} {B : Blk} {v : Value}, lookE l n = some (B, v) → (n, B, v) ∈ l
  | (k, c) :: r, n, B, v, h => by
    simp only [lookE] at h
    cases hb : Nat.beq n k with
    | true => rw [hb] at h; cases h; rw [nbeq hb]; simp
    | false => rw [hb] at h; exact List.mem_cons_of_mem _ (lookE_mem h)
theorem mem_lookE : ∀ {l : List (Nat × Blk × Value)} {n : Nat} {B : Blk} {v : Value}, (l.map (·.1)).Nodup → (n, B, v) ∈ l → lookE l n = some (B, v)
  | (k, c) :: r, n, B, v, hn, h => by
    simp only [List.map_cons, List.nodup_cons] at hn
    simp only [lookE]
    rcases List.mem_cons.1 h with h | h
    · cases h; rw [Nat.beq_refl]; rfl
    · have : n ≠ k := fun e => hn.1 (e ▸ List.mem_map.2 ⟨_, h, rfl⟩)
      rw [nbeq_ne this]
      exact mem_lookE hn.2 h
theorem inv_rows : ∀ (l : List (Nat × SlotSh)) (s : slotsDen l) (f : Nat → Value) (n : Nat), invRows l s n = (lookE (entS l s f) n).map (·.1)
  | [], _, _, _ => rfl
  | (_, .v _ _) :: r, s, f, n => inv_rows r s.2 f n
  | (m, .o e t) :: r, s, f, n => by
    simp only [invRows, entS, lookE]
    cases Nat.beq n (slotId m) with
    | true => rfl
    | false => exact inv_rows r s.2 f n
  | (_, .k _) :: r, s, f, n => inv_rows r s f n
  | (_, .un) :: r, s, f, n => inv_rows r s f n
  | (m, .m) :: r, s, f, n => by
    simp only [invRows, entS, lookE]
    cases Nat.beq n (slotId m) with
    | true => rfl
    | false => exact inv_rows r s.2 f n
  | (_, .al _) :: r, s, f, n => inv_rows r s f n
theorem inv_cells (id : Nat) : ∀ (j : Nat) (l : List CellSh) (s : cellsDen l) (vs : List Value) (n : Nat), invCellRows id j l s n = (lookE (entC id j l s vs) n).map (·.1)
  | _, [], _, _, _ => rfl
  | j, .v t :: r, s, vs, n => inv_cells id (j + 1) r s.2 _ n
  | j, .o e t :: r, s, vs, n => by
    simp only [invCellRows, entC, lookE]
    cases Nat.beq n (cellId id j) with
    | true => rfl
    | false => exact inv_cells id (j + 1) r s.2 _ n
  | j, .k _ :: r, s, vs, n => inv_cells id (j + 1) r s _ n
theorem inv_boxes : ∀ (l : List (Nat × BoxSh)) (s : boxesDen l) (g : Nat → List Value) (μ : Nat → Value) (n : Nat), invBoxes l s n = (lookE (entB l s g μ) n).map (·.1)
  | [], _, _, _, _ => rfl
  | (id, cs) :: r, s, g, μ, n => by
    simp only [invBoxes, entB, lookE]
    cases Nat.beq n id with
    | true => rfl
    | false =>
      simp only [cond_false, lookE_app]
      rw [inv_cells id 0 cs s.1 (g id) n]
      cases lookE (entC id 0 cs s.1 (g id)) n with
      | some x => rfl
      | none => exact inv_boxes r s.2 g μ n
theorem inv_heap (sh : Shape) (s : sh.S) (f : Nat → Value) (g : Nat → List Value) (μ : Nat → Value) (n : Nat) : (sh.inv s).heap n = (lookE (entS sh.slots s.1 f ++ entB sh.boxes s.2 g μ) n).map (·.1) := by
  show (match invRows sh.slots s.1 n with | some b => some b | none => invBoxes sh.boxes s.2 n) = _
  rw [lookE_app, inv_rows _ _ f, inv_boxes _ _ g μ]
  cases lookE (entS sh.slots s.1 f) n <;> rfl
/-! The numbers. -/
def keysS : List (Nat × SlotSh) → List Nat
  | [] => []
  | (m, .o _ _) :: r => slotId m :: keysS r
  | (_, .v _ _) :: r => keysS r
  | (_, .k _) :: r => keysS r
  | (_, .un) :: r => keysS r
  | (m, .m) :: r => slotId m :: keysS r
  | (_, .al _) :: r => keysS r
def keysC (id : Nat) : Nat → List CellSh → List Nat
  | _, [] => []
  | j, .v _ :: r => keysC id (j + 1) r
  | j, .o _ _ :: r => cellId id j :: keysC id (j + 1) r
  | j, .k _ :: r => keysC id (j + 1) r
def keysB : List (Nat × BoxSh) → List Nat
  | [] => []
  | (id, cs) :: r => id :: (keysC id 0 cs ++ keysB r)
theorem keys_S : ∀ (l : List (Nat × SlotSh)) (s : slotsDen l) (f : Nat → Value), (entS l s f).map (·.1) = keysS l
  | [], _, _ => rfl
  | (_, .v _ _) :: r, s, f => keys_S r s.2 f
  | (m, .o e t) :: r, s, f => by simp only [entS, keysS, List.map_cons, keys_S r]
  | (_, .k _) :: r, s, f => keys_S r s f
  | (_, .un) :: r, s, f => keys_S r s f
  | (m, .m) :: r, s, f => by simp only [entS, keysS, List.map_cons, keys_S r]
  | (_, .al _) :: r, s, f => keys_S r s f
theorem keys_C (id : Nat) : ∀ (j : Nat) (l : List CellSh) (s : cellsDen l) (vs : List Value), (entC id j l s vs).map (·.1) = keysC id j l
  | _, [], _, _ => rfl
  | j, .v t :: r, s, vs => keys_C id (j + 1) r s.2 _
  | j, .o e t :: r, s, vs => by simp only [entC, keysC, List.map_cons, keys_C id (j + 1) r]
  | j, .k _ :: r, s, vs => keys_C id (j + 1) r s _
theorem keys_B : ∀ (l : List (Nat × BoxSh)) (s : boxesDen l) (g : Nat → List Value) (μ : Nat → Value), (entB l s g μ).map (·.1) = keysB l
  | [], _, _, _ => rfl
  | (id, cs) :: r, s, g, μ => by simp only [entB, keysB, List.map_cons, List.map_append, keys_C, keys_B r]
def refs : CV → List Nat
  | .ptr id _ => [id]
  | .fn _ caps => caps.map (·.1)
  | .sq _ id => [id]
  | _ => []
def inIds (ids : List Nat) (c : CV) : Bool := (refs c).all fun i => ids.any (Nat.beq i)
def oslots : List (Nat × SlotSh) → List Nat
  | [] => []
  | (m, .o _ _) :: r => m :: oslots r
  | _ :: r => oslots r
def slotChk (ids os : List Nat) (p : Nat × SlotSh) : Bool := match p.2 with | .k c => inIds ids c | .al m => memN m os | _ => true
def shapeOk (sh : Shape) : Bool :=
  nodup (keysS sh.slots ++ keysB sh.boxes) &&
  (sh.slots.all (slotChk (sh.boxes.map (·.1)) (oslots sh.slots)) &&
  sh.boxes.all (fun p => p.2.all fun q => match q with | .k c => inIds (sh.boxes.map (·.1)) c | _ => true))
section
variable {gl : GT} {n0 : Nat} {w : World} {G : Mem} {h : Hp}
/-- A block of the cut, and where it comes from. -/
def Ent (w : World) (G : Mem) (h : Hp) (e : Nat × Blk × Value) (g : List Nat) : Prop := match e.2.1 with
  | .row _ fro e' t xs => fro = false ∧ (∃ inner, w.ownsRow 0 e' t.sz e.2.2 (List.length xs) inner ∧ Reps (K w G.I t) xs inner) ∧
      (blkOf e.2.2 = none ∨ ∃ i, g = [i] ∧ G.μ i = e.2.2 ∧ ∃ v e t xs, h i = some (.row v false e t xs))
  | .box _ => g = [] ∧ e.2.2 = G.μ e.1 ∧ ∃ cs0, h e.1 = some (.box cs0)
  | .fbox _ => False
  | .set ks => ∃ i b, g = [i] ∧ G.μ i = e.2.2 ∧ h i = some (.set ks) ∧ e.2.2 = .map (some b) ∧ SetAt w b ks
def Ents (w : World) (G : Mem) (h : Hp) : List (Nat × Blk × Value) → List Nat → Prop
  | [], go => go = []
  | e :: r, go => ∃ g1 g2, go = g1 ++ g2 ∧ Ent w G h e g1 ∧ Ents w G h r g2
theorem Ents.app : ∀ {a b : List (Nat × Blk × Value)} {x y : List Nat}, Ents w G h a x → Ents w G h b y → Ents w G h (a ++ b) (x ++ y)
  | [], b, x, y, ha, hb => by rw [show x = [] from ha]; exact hb
  | e :: r, b, x, y, ⟨g1, g2, hg, h1, h2⟩, hb => ⟨g1, g2 ++ y, by rw [hg, List.append_assoc], h1, Ents.app h2 hb⟩
theorem Ents.get : ∀ {a : List (Nat × Blk × Value)} {x : List Nat} {e : Nat × Blk × Value}, Ents w G h a x → e ∈ a → ∃ g, (∀ i ∈ g, i ∈ x) ∧ Ent w G h e g
  | e' :: r, x, e, ⟨g1, g2, hg, h1, h2⟩, he => by
    rcases List.mem_cons.1 he with rfl | he
    · exact ⟨g1, fun i hi => by rw [hg]; exact List.mem_append_left _ hi, h1⟩
    · obtain ⟨g, hs, hg'⟩ := Ents.get h2 he
      exact ⟨g, fun i hi => by rw [hg]; exact List.mem_append_right _ (hs i hi), hg'⟩
/-- Where an entry's block comes from in the old memory. -/
theorem Ent.src {e : Nat × Blk × Value} {g : List Nat} {b : Nat} (he : Ent w G h e g) (hb : blkOf e.2.2 = some b) :
    ∃ i C, h i = some C ∧ blkOf (G.μ i) = some b ∧ C.fro = false ∧ (g = [i] ∧ (∀ cs, C ≠ .box cs) ∧ (∀ v f e t xs, f ≠ false → C ≠ .row v f e t xs) ∨ (∃ cs, C = .box cs ∧ i = e.1 ∧ g = [])) := by
  obtain ⟨k, B, v⟩ := e
  cases B with
  | row ver fro e' t xs =>
    obtain ⟨rfl, _, hb' | ⟨i, hg, hμ, v', e2, t2, xs2, hi⟩⟩ := he
    · rw [hb'] at hb; cases hb
    · exact ⟨i, _, hi, by rw [hμ]; exact hb, rfl, .inl ⟨hg, (fun _ h => by cases h), (fun _ _ _ _ _ hf h => by cases h; exact hf rfl)⟩⟩
  | fbox cs => exact he.elim
  | set ks =>
    obtain ⟨i, b', hg, hμ, hi, _⟩ := he
    exact ⟨i, _, hi, by rw [hμ]; exact hb, rfl, .inl ⟨hg, (fun _ h => by cases h), (fun _ _ _ _ _ _ h => by cases h)⟩⟩
  | box cs =>
    obtain ⟨hg, hμ, cs0, hc⟩ := he
    exact ⟨k, _, hc, by rw [← hμ]; exact hb, rfl, .inr ⟨cs0, rfl, rfl, hg⟩⟩
theorem Ents.inj (hm : MemOK gl n0 w G h) : ∀ {a : List (Nat × Blk × Value)} {x : List Nat}, Ents w G h a x → x.Nodup → ∀ e1 ∈ a, ∀ e2 ∈ a, ∀ b, blkOf e1.2.2 = some b → blkOf e2.2.2 = some b → e1.1 = e2.1
  | e :: r, x, ⟨g1, g2, hg, h1, h2⟩, hn, e1, m1, e2, m2, b, hb1, hb2 => by
    rw [hg] at hn
    have hn' := List.nodup_append.1 hn
    have cross : ∀ e', e' ∈ r → blkOf e.2.2 = some b → blkOf e'.2.2 = some b → e.1 = e'.1 := fun e' m' hx hy => by
      obtain ⟨g, hs, hE⟩ := Ents.get h2 m'
      obtain ⟨i, C, hi, hbi, _, ci⟩ := h1.src hx
      obtain ⟨j, D, hj, hbj, _, cj⟩ := hE.src hy
      obtain rfl := hm.inj i j C D b hi hj hbi hbj
      rw [hi] at hj; cases hj
      rcases ci with ⟨hg1, hC, _⟩ | ⟨cs, hC, hk, _⟩ <;> rcases cj with ⟨hg', hC', _⟩ | ⟨cs', hC', hk', _⟩
      · exact absurd rfl (hn'.2.2 i (by rw [hg1]; simp) i (hs i (by rw [hg']; simp)))
      · exact absurd hC' (hC _)
      · exact absurd hC (hC' _)
      · exact hk.symm.trans hk'
    rcases List.mem_cons.1 m1 with q1 | p1
    · rcases List.mem_cons.1 m2 with q2 | p2
      · rw [q1, q2]
      · rw [q1] at hb1 ⊢; exact cross e2 p2 hb1 hb2
    · rcases List.mem_cons.1 m2 with q2 | p2
      · rw [q2] at hb2 ⊢; exact (cross e1 p1 hb2 hb1).symm
      · exact Ents.inj hm h2 hn'.2.1 e1 p1 e2 p2 b hb1 hb2
theorem rowGet_ok (hm : MemOK gl n0 w G h) {e : TypeId} {t : Ty} {c : CV} {v : Value} {y : List t.den} {g : List Nat} (hc : CellRep w G h c v) (hg : rowGet h e t c = some (y, g)) (k : Nat) : Ent w G h (k, .row 0 false e t y, v) g ∧ v.oneCell' = true := by
  refine ⟨?_, hc.oneCell⟩
  unfold rowGet at hg
  split at hg
  · cases hg
    simp only [CellRep] at hc
    subst hc
    exact ⟨rfl, ⟨[], World.ownsRow_nil _ _ _ _, by trivial⟩, .inl rfl⟩
  · rename_i id ver
    split at hg
    · rename_i v' e' u xs hi
      cases hb : (Nat.beq v' ver && Nat.beq e e') with
      | false => rw [hb] at hg; cases hg
      | true =>
        rw [hb] at hg
        simp only [cond_true] at hg
        obtain ⟨y', hy, hg⟩ := Option.bind_eq_some_iff.1 hg
        simp only [Bool.and_eq_true] at hb
        cases hg
        have he := nbeq hb.2
        have hv := nbeq hb.1
        obtain ⟨ht, hx⟩ := castTo_eq hy
        cases ht
        cases hx
        subst he
        obtain ⟨_, cur, fro, e2, t2, xs2, hi2, _, hmu⟩ := hc
        rw [hi] at hi2; cases hi2
        have hmu := hmu hv.symm
        subst hmu
        exact ⟨rfl, hm.rep id _ hi, .inr ⟨id, rfl, rfl, _, _, _, _, hi⟩⟩
    · cases hg
  · cases hg
theorem absSlots_ents {σ : AS} (hm : MemOK gl n0 w G σ.heap) {f : Nat → Value} (hs : ∀ t, SVRep w G σ.heap (σ.slots t) (f t)) : ∀ {l : List (Nat × SlotSh)} {s : slotsDen l} {go lb : List Nat}, absSlots σ l = some (s, go, lb) → Ents w G σ.heap (entS l s f) go
  | [], s, go, lb, ha => by cases ha; rfl
  | (n, .v agg t) :: r, s, go, lb, ha => by
    simp only [absSlots] at ha
    split at ha
    · obtain ⟨q, hq, ha⟩ := Option.bind_eq_some_iff.1 ha
      split at ha
      · obtain ⟨s', hs', ha⟩ := Option.bind_eq_some_iff.1 ha
        cases ha
        exact absSlots_ents hm hs (l := r) (lb := s'.2.2) hs'
      · cases ha
    · obtain ⟨q, hq, ha⟩ := Option.bind_eq_some_iff.1 ha
      split at ha
      · obtain ⟨s', hs', ha⟩ := Option.bind_eq_some_iff.1 ha
        cases ha
        exact absSlots_ents hm hs (l := r) (lb := s'.2.2) hs'
      · cases ha
    · cases ha
  | (n, .o e t) :: r, s, go, lb, ha => by
    simp only [absSlots] at ha
    split at ha
    · rename_i c hc
      obtain ⟨q, hq, ha⟩ := Option.bind_eq_some_iff.1 ha
      obtain ⟨s', hs', ha⟩ := Option.bind_eq_some_iff.1 ha
      cases ha
      have hr := hs n
      rw [hc] at hr
      exact ⟨q.2, s'.2.1, rfl, (rowGet_ok hm hr hq _).1, absSlots_ents hm hs (l := r) (lb := s'.2.2) hs'⟩
    · cases ha
  | (n, .k c) :: r, s, go, lb, ha => by
    simp only [absSlots] at ha
    split at ha
    · obtain ⟨_, ha⟩ := bifs ha
      exact absSlots_ents hm hs (l := r) ha
    · cases ha
  | (n, .un) :: r, s, go, lb, ha => by
    simp only [absSlots] at ha
    cases hc : σ.slots n with
    | undef => rw [hc] at ha; exact absSlots_ents hm hs (l := r) ha
    | one => rw [hc] at ha; cases ha
    | agg => rw [hc] at ha; cases ha
    | tup => rw [hc] at ha; cases ha
    | any => rw [hc] at ha; cases ha
  | (n, .m) :: r, s, go, lb, ha => by
    simp only [absSlots] at ha
    split at ha
    · rename_i id hc
      split at ha
      · rename_i ks hi
        obtain ⟨s', hs', ha⟩ := Option.bind_eq_some_iff.1 ha
        cases ha
        have hr := hs n
        rw [hc] at hr
        obtain ⟨h1, _, _⟩ := hr
        obtain ⟨b, hb, hS⟩ := hm.rep _ _ hi
        exact ⟨[id], s'.2.1, rfl, ⟨id, b, rfl, h1.symm, hi, h1.trans hb, hS⟩, absSlots_ents hm hs (l := r) (lb := s'.2.2) hs'⟩
      · cases ha
    · cases ha
  | (n, .al m) :: r, s, go, lb, ha => by
    simp only [absSlots] at ha
    obtain ⟨_, ha⟩ := bifs ha
    exact absSlots_ents hm hs (l := r) ha
theorem absCells_ents (hm : MemOK gl n0 w G h) (id : Nat) : ∀ {l : List CellSh} {j : Nat} {cs : List CV} {vs : List Value} {s : cellsDen l} {go lb : List Nat}, L2 (CellRep w G h) cs vs → absCells h l cs = some (s, go, lb) → Ents w G h (entC id j l s vs) go
  | [], j, [], vs, s, go, lb, hL, ha => by cases ha; rfl
  | [], j, _ :: _, vs, s, go, lb, hL, ha => by simp [absCells] at ha
  | .v t :: r, j, cs, vs, s, go, lb, hL, ha => by
    simp only [absCells] at ha
    obtain ⟨q, hq, ha⟩ := Option.bind_eq_some_iff.1 ha
    obtain ⟨s', hs', ha⟩ := Option.bind_eq_some_iff.1 ha
    cases ha
    obtain ⟨c1, v1, v2, hc1, hv1, hL1, hL2, hK⟩ := toTy_ok hm hL (by rw [show q = (q.1, q.2) from rfl] at hq; exact hq)
    have : vs.drop t.sz = v2 := by rw [hv1, ← K_len hK, List.drop_left]
    show Ents w G h (entC id (j + 1) r s'.1 (vs.drop t.sz)) _
    rw [this]
    exact absCells_ents hm id (l := r) hL2 (lb := s'.2.2) hs'
  | .o e t :: r, j, [], vs, s, go, lb, hL, ha => by simp [absCells] at ha
  | .o e t :: r, j, c :: cs, v :: vs, s, go, lb, hL, ha => by
    simp only [absCells] at ha
    obtain ⟨q, hq, ha⟩ := Option.bind_eq_some_iff.1 ha
    obtain ⟨s', hs', ha⟩ := Option.bind_eq_some_iff.1 ha
    cases ha
    exact ⟨q.2, s'.2.1, rfl, (rowGet_ok hm hL.1 hq _).1, absCells_ents hm id (l := r) hL.2 (lb := s'.2.2) hs'⟩
  | .k c :: r, j, [], vs, s, go, lb, hL, ha => by simp [absCells] at ha
  | .k c :: r, j, c' :: cs, v :: vs, s, go, lb, hL, ha => by
    simp only [absCells] at ha
    obtain ⟨_, ha⟩ := bifs ha
    exact absCells_ents hm id (l := r) hL.2 ha
/-- The cells of the boxes. -/
theorem boxVals (hm : MemOK gl n0 w G h) : ∃ g : Nat → List Value, ∀ id cs, h id = some (.box cs) → ∃ b e, G.μ id = .pointer (some ⟨b, 0, none⟩) ∧ w.heap[b]? = some (.cells (g id).toArray e (0, 0)) ∧ L2 (CellRep w G h) cs (g id) ∧ boxTy cs e := by
  refine ⟨fun id => Classical.epsilon fun l => ∀ cs, h id = some (.box cs) → ∃ b e, G.μ id = .pointer (some ⟨b, 0, none⟩) ∧ w.heap[b]? = some (.cells l.toArray e (0, 0)) ∧ L2 (CellRep w G h) cs l ∧ boxTy cs e, fun id cs hi => ?_⟩
  refine Classical.epsilon_spec (p := fun l => ∀ cs, h id = some (.box cs) → ∃ b e, G.μ id = .pointer (some ⟨b, 0, none⟩) ∧ w.heap[b]? = some (.cells (List.toArray l) e (0, 0)) ∧ L2 (CellRep w G h) cs l ∧ boxTy cs e) ?_ cs hi
  obtain ⟨b, e, l, h1, h2, h3, h4⟩ := hm.rep id _ hi
  exact ⟨l, fun cs' hi' => by rw [hi] at hi'; cases hi'; exact ⟨b, e, h1, h2, h3, h4⟩⟩
theorem absBoxes_ents {σ : AS} (hm : MemOK gl n0 w G σ.heap) {g : Nat → List Value} (hg : ∀ id cs, σ.heap id = some (.box cs) → ∃ b e, G.μ id = .pointer (some ⟨b, 0, none⟩) ∧ w.heap[b]? = some (.cells (g id).toArray e (0, 0)) ∧ L2 (CellRep w G σ.heap) cs (g id) ∧ boxTy cs e) :
    ∀ {l : List (Nat × BoxSh)} {s : boxesDen l} {go lb : List Nat}, absBoxes σ l = some (s, go, lb) → Ents w G σ.heap (entB l s g G.μ) go
  | [], s, go, lb, ha => by cases ha; rfl
  | (id, sh) :: r, s, go, lb, ha => by
    simp only [absBoxes] at ha
    split at ha
    · rename_i cs hi
      obtain ⟨q, hq, ha⟩ := Option.bind_eq_some_iff.1 ha
      obtain ⟨s', hs', ha⟩ := Option.bind_eq_some_iff.1 ha
      cases ha
      obtain ⟨b, e, h1, h2, h3, _⟩ := hg id cs hi
      exact ⟨[], q.2.1 ++ s'.2.1, rfl, ⟨rfl, rfl, cs, hi⟩, (absCells_ents hm id h3 (lb := q.2.2) hq).app (absBoxes_ents hm hg (l := r) (lb := s'.2.2) hs')⟩
    · cases ha
/-! The new memory. -/
structure New (w : World) (G : Mem) (h : Hp) (es : List (Nat × Blk × Value)) (lb ids : List Nat) (G' : Mem) (h' : Hp) : Prop where
  ent : ∀ e ∈ es, h' e.1 = some e.2.1 ∧ G'.μ e.1 = e.2.2
  I : ∀ b, G.I b → G'.I b
  O : ∀ b, OB G lb b → G'.I b
  ref : ∀ i ∈ ids, (∃ cs, h' i = some (.box cs)) ∧ G'.μ i = G.μ i
theorem inIds_ok {ids : List Nat} {c : CV} (h : inIds ids c = true) : ∀ i ∈ refs c, i ∈ ids := fun i hi => by
  have := List.all_eq_true.1 h i hi
  obtain ⟨x, hx, he⟩ := List.any_eq_true.1 this
  rw [nbeq he]; exact hx
theorem sameCV_ok {G' : Mem} {h' : Hp} {ids : List Nat} {c c' : CV} {v : Value} (hs : sameCV c c' = true) (hin : inIds ids c = true) (hr : ∀ i ∈ ids, (∃ cs, h' i = some (.box cs)) ∧ G'.μ i = G.μ i) (hc : CellRep w G h c' v) : CellRep w G' h' c v := by
  have hj := inIds_ok hin
  clear hin
  unfold sameCV at hs
  split at hs
  · simp only [Bool.and_eq_true] at hs
    have h1 := nbeq hs.1; have h2 := nbeq hs.2
    subst h1; subst h2
    obtain ⟨b, hi, hm, hv⟩ := hc
    obtain ⟨⟨cs', hi'⟩, hm'⟩ := hr _ (hj _ (List.mem_singleton.2 rfl))
    exact ⟨b, ⟨_, cs', hi', rfl⟩, hm'.trans hm, hv⟩
  · have h1 := nbeq hs
    subst h1
    exact hc
  · rename_i f p q f' p' q'
    simp only [Bool.and_eq_true] at hs
    have h1 := nbeq hs.1.1; have h2 := nbeq hs.1.2; have h3 := nbeq hs.2
    subst h1; subst h2; subst h3
    exact absurd hc.2 (by simp)
  · exact hc
  · simp only [Bool.and_eq_true] at hs
    have h1 := nbeq hs.1; have h2 := nbeq hs.2
    subst h1; subst h2
    obtain ⟨b, hi, hm, hv⟩ := hc
    obtain ⟨⟨cs', hi'⟩, hm'⟩ := hr _ (hj _ (List.mem_singleton.2 rfl))
    exact ⟨b, ⟨_, cs', hi', rfl⟩, hm'.trans hm, hv⟩
  · exact hc
  · exact hc
  · cases hs
theorem oslots_ent : ∀ {l : List (Nat × SlotSh)} {s : slotsDen l} {f : Nat → Value} {m : Nat}, m ∈ oslots l → ∃ e t xs, (slotId m, Blk.row 0 false e t xs, f m) ∈ entS l s f
  | (_, .v _ _) :: r, s, f, m, h => oslots_ent (l := r) (s := s.2) h
  | (k, .o e t) :: r, s, f, m, h => by
    rcases List.mem_cons.1 h with rfl | h
    · exact ⟨e, t, s.1, List.mem_cons_self⟩
    · obtain ⟨e', t', xs, h'⟩ := oslots_ent (l := r) (s := s.2) (f := f) h
      exact ⟨e', t', xs, List.mem_cons_of_mem _ h'⟩
  | (_, .k _) :: r, s, f, m, h => oslots_ent (l := r) (s := s) h
  | (_, .un) :: r, s, f, m, h => oslots_ent (l := r) (s := s) h
  | (_, .m) :: r, s, f, m, h => by
    obtain ⟨e', t', xs, h'⟩ := oslots_ent (l := r) (s := s.2) (f := f) h
    exact ⟨e', t', xs, List.mem_cons_of_mem _ h'⟩
  | (_, .al _) :: r, s, f, m, h => oslots_ent (l := r) (s := s) h
theorem slots_rep {σ : AS} (hm : MemOK gl n0 w G σ.heap) {f : Nat → Value} (hs : ∀ t, SVRep w G σ.heap (σ.slots t) (f t)) {ids os : List Nat} {G' : Mem} {h' : Hp} (hI : ∀ b, G.I b → G'.I b) (hr : ∀ i ∈ ids, (∃ cs, h' i = some (.box cs)) ∧ G'.μ i = G.μ i) (hos : ∀ m ∈ os, ∃ e t xs, h' (slotId m) = some (.row 0 false e t xs) ∧ G'.μ (slotId m) = f m) :
    ∀ {l : List (Nat × SlotSh)} {s : slotsDen l} {go lb : List Nat}, (∀ e ∈ entS l s f, h' e.1 = some e.2.1 ∧ G'.μ e.1 = e.2.2) → (∀ b, OB G lb b → G'.I b) → l.all (slotChk ids os) = true → absSlots σ l = some (s, go, lb) →
      (∀ t, SVRep w G' h' (invSlot l s t) (f t)) ∧ ∀ i ∈ lb, ∃ v f e t xs, σ.heap i = some (.row v f e t xs)
  | [], s, go, lb, _, _, _, ha => by cases ha; exact ⟨fun _ => trivial, by simp⟩
  | (n, .v agg t) :: r, s, go, lb, he, hO, hk, ha => by
    simp only [absSlots] at ha
    simp only [List.all_cons, Bool.and_eq_true] at hk
    have hsn := hs n
    split at ha
    · rename_i c hc
      obtain ⟨q, hq, ha⟩ := Option.bind_eq_some_iff.1 ha
      split at ha
      · rename_i hq2
        obtain ⟨s', hs', ha⟩ := Option.bind_eq_some_iff.1 ha
        cases ha
        rw [hc] at hsn
        have hL : L2 (CellRep w G σ.heap) [c] [f n] := ⟨hsn, trivial⟩
        have hK : K w G'.I t q.1 [f n] := toTy_all hm hL hq hq2 hI (fun b hb => hO b (OB_mono (fun i hi => List.mem_append_left _ hi) hb))
        obtain ⟨h1, h2⟩ := slots_rep hm hs hI hr hos (lb := s'.2.2) (l := r) he (fun b hb => hO b (OB_mono (fun i hi => List.mem_append_right _ hi) hb)) hk.2 hs'
        refine ⟨fun u => ?_, fun i hi => ?_⟩
        · simp only [invSlot]
          cases hu : Nat.beq u n with
          | false => exact h1 u
          | true =>
            rw [nbeq hu]
            have hL' := ofTy_ok (G := G') (h := h') (fun _ h => h) hK
            simp only [cond_true, argSV]
            generalize ofTy t q.1 = z at hL'
            match z, hL' with
            | [c'], hL' => exact hL'.1
        · rcases List.mem_append.1 hi with hi | hi
          · exact ownsMem hL hi
          · exact h2 i hi
      · cases ha
    · rename_i cs hc
      obtain ⟨q, hq, ha⟩ := Option.bind_eq_some_iff.1 ha
      split at ha
      · rename_i hq2
        obtain ⟨s', hs', ha⟩ := Option.bind_eq_some_iff.1 ha
        cases ha
        rw [hc] at hsn
        obtain ⟨vs, hv, hL⟩ := hsn
        have hK : K w G'.I t q.1 vs := toTy_all hm hL hq hq2 hI (fun b hb => hO b (OB_mono (fun i hi => List.mem_append_left _ hi) hb))
        obtain ⟨h1, h2⟩ := slots_rep hm hs hI hr hos (lb := s'.2.2) (l := r) he (fun b hb => hO b (OB_mono (fun i hi => List.mem_append_right _ hi) hb)) hk.2 hs'
        refine ⟨fun u => ?_, fun i hi => ?_⟩
        · simp only [invSlot]
          cases hu : Nat.beq u n with
          | false => exact h1 u
          | true =>
            rw [nbeq hu]
            exact ⟨vs, hv, ofTy_ok (G := G') (h := h') (fun _ h => h) hK⟩
        · rcases List.mem_append.1 hi with hi | hi
          · exact ownsMem hL hi
          · exact h2 i hi
      · cases ha
    · cases ha
  | (n, .o e t) :: r, s, go, lb, he, hO, hk, ha => by
    simp only [absSlots] at ha
    simp only [List.all_cons, Bool.and_eq_true] at hk
    have hsn := hs n
    split at ha
    · rename_i c hc
      obtain ⟨q, hq, ha⟩ := Option.bind_eq_some_iff.1 ha
      obtain ⟨s', hs', ha⟩ := Option.bind_eq_some_iff.1 ha
      cases ha
      rw [hc] at hsn
      obtain ⟨h1, h2⟩ := slots_rep hm hs hI hr hos (lb := s'.2.2) (l := r) (fun e' h' => he e' (List.mem_cons_of_mem _ h')) hO hk.2 hs'
      refine ⟨fun u => ?_, h2⟩
      simp only [invSlot]
      cases hu : Nat.beq u n with
      | false => exact h1 u
      | true =>
        rw [nbeq hu]
        obtain ⟨e1, e2⟩ := he _ (List.mem_cons_self ..)
        exact ⟨hsn.oneCell, 0, false, e, t, _, e1, Nat.le_refl _, fun _ => e2.symm⟩
    · cases ha
  | (n, .k c) :: r, s, go, lb, he, hO, hk, ha => by
    simp only [absSlots] at ha
    simp only [List.all_cons, Bool.and_eq_true] at hk
    have hsn := hs n
    split at ha
    · rename_i c' hc
      obtain ⟨hsame, ha⟩ := bifs ha
      rw [hc] at hsn
      obtain ⟨h1, h2⟩ := slots_rep hm hs hI hr hos (l := r) he hO hk.2 ha
      refine ⟨fun u => ?_, h2⟩
      simp only [invSlot]
      cases hu : Nat.beq u n with
      | false => exact h1 u
      | true => rw [nbeq hu]; exact sameCV_ok hsame hk.1 hr hsn
    · cases ha
  | (n, .un) :: r, s, go, lb, he, hO, hk, ha => by
    simp only [absSlots] at ha
    simp only [List.all_cons, Bool.and_eq_true] at hk
    have hsn := hs n
    cases hc : σ.slots n with
    | undef =>
      rw [hc] at hsn ha
      obtain ⟨h1, h2⟩ := slots_rep hm hs hI hr hos (l := r) he hO hk.2 ha
      refine ⟨fun u => ?_, h2⟩
      simp only [invSlot]
      cases hu : Nat.beq u n with
      | false => exact h1 u
      | true => rw [nbeq hu]; exact hsn
    | one => rw [hc] at ha; cases ha
    | agg => rw [hc] at ha; cases ha
    | tup => rw [hc] at ha; cases ha
    | any => rw [hc] at ha; cases ha
  | (n, .m) :: r, s, go, lb, he, hO, hk, ha => by
    simp only [absSlots] at ha
    simp only [List.all_cons, Bool.and_eq_true] at hk
    have hsn := hs n
    split at ha
    · rename_i id hc
      split at ha
      · rename_i ks hi
        obtain ⟨s', hs', ha⟩ := Option.bind_eq_some_iff.1 ha
        cases ha
        rw [hc] at hsn
        obtain ⟨h1, h2⟩ := slots_rep hm hs hI hr hos (lb := s'.2.2) (l := r) (fun e' h' => he e' (List.mem_cons_of_mem _ h')) hO hk.2 hs'
        refine ⟨fun u => ?_, h2⟩
        simp only [invSlot]
        cases hu : Nat.beq u n with
        | false => exact h1 u
        | true =>
          rw [nbeq hu]
          obtain ⟨e1, e2⟩ := he _ (List.mem_cons_self ..)
          obtain ⟨g1, g2, g3⟩ := hsn
          exact ⟨e2.symm, g2, ks, e1⟩
      · cases ha
    · cases ha
  | (n, .al m) :: r, s, go, lb, he, hO, hk, ha => by
    simp only [absSlots] at ha
    simp only [List.all_cons, Bool.and_eq_true] at hk
    have hsn := hs n
    have hsm := hs m
    obtain ⟨hrow, ha⟩ := bifs ha
    obtain ⟨h1, h2⟩ := slots_rep hm hs hI hr hos (l := r) he hO hk.2 ha
    refine ⟨fun u => ?_, h2⟩
    simp only [invSlot]
    cases hu : Nat.beq u n with
    | false => exact h1 u
    | true =>
      rw [nbeq hu]
      have hmo : memN m os = true := hk.1
      have hm' : m ∈ os := by
        unfold memN at hmo
        obtain ⟨x, hx, hb⟩ := List.any_eq_true.1 hmo
        rw [nbeq hb]; exact hx
      obtain ⟨e, t, xs, g1, g2⟩ := hos m hm'
      have hone : ∀ {z : SV}, SVRep w G σ.heap z (f n) → (∀ cs, z ≠ .agg cs) → (∀ vs, z ≠ .tup vs) → z ≠ .undef → z ≠ .any → (f n).oneCell' = true := fun {z} hz z1 z2 z3 z4 => by
        cases z with
        | one c => exact hz.oneCell
        | agg cs => exact absurd rfl (z1 cs)
        | tup vs => exact absurd rfl (z2 vs)
        | undef => exact absurd rfl z3
        | any => exact absurd rfl z4
      have fin : (f n).oneCell' = true → f n = f m → CellRep w G' h' (.own (slotId m) 0) (f n) := fun q1 q2 => ⟨q1, 0, false, e, t, xs, g1, Nat.le_refl _, fun _ => by rw [g2, q2]⟩
      show CellRep w G' h' (.own (slotId m) 0) (f n)
      unfold sameRow at hrow
      split at hrow
      · rename_i i v j u' hn hmm
        simp only [Bool.and_eq_true] at hrow
        obtain ⟨b1, b2, b3⟩ := hrow
        have b1 := nbeq b1; have b2 := nbeq b2
        subst b1; subst b2
        rw [hn] at hsn; rw [hmm] at hsm
        obtain ⟨c1, cur, fro, e1, t1, xs1, c2, _, c3⟩ := hsn
        obtain ⟨_, cur', fro', e1', t1', xs1', c2', _, c3'⟩ := hsm
        rw [c2] at c2'
        cases c2'
        rw [c2] at b3
        have b3 := nbeq b3
        exact fin c1 ((c3 b3.symm).trans (c3' b3.symm).symm)
      · rename_i hn hmm
        rw [hn] at hsn; rw [hmm] at hsm
        have hsn : f n = .slice none 0 0 := hsn
        have hsm : f m = .slice none 0 0 := hsm
        exact fin (by rw [hsn]; rfl) (hsn.trans hsm.symm)
      · cases hrow
theorem cells_rep (hm : MemOK gl n0 w G h) (id : Nat) {ids : List Nat} {G' : Mem} {h' : Hp} (hI : ∀ b, G.I b → G'.I b) (hr : ∀ i ∈ ids, (∃ cs, h' i = some (.box cs)) ∧ G'.μ i = G.μ i) :
    ∀ {l : List CellSh} {j : Nat} {cs : List CV} {vs : List Value} {s : cellsDen l} {go lb : List Nat}, L2 (CellRep w G h) cs vs → (∀ e ∈ entC id j l s vs, h' e.1 = some e.2.1 ∧ G'.μ e.1 = e.2.2) → (∀ b, OB G lb b → G'.I b) → l.all (fun q => match q with | .k c => inIds ids c | _ => true) = true → absCells h l cs = some (s, go, lb) →
      L2 (CellRep w G' h') (invCells id j l s) vs ∧ ∀ i ∈ lb, ∃ v f e t xs, h i = some (.row v f e t xs)
  | [], j, [], [], s, go, lb, hL, he, hO, hk, ha => by cases ha; exact ⟨trivial, by simp⟩
  | [], j, _ :: _, vs, s, go, lb, hL, he, hO, hk, ha => by simp [absCells] at ha
  | .v t :: r, j, cs, vs, s, go, lb, hL, he, hO, hk, ha => by
    simp only [absCells] at ha
    simp only [List.all_cons, Bool.and_eq_true] at hk
    obtain ⟨q, hq, ha⟩ := Option.bind_eq_some_iff.1 ha
    obtain ⟨s', hs', ha⟩ := Option.bind_eq_some_iff.1 ha
    cases ha
    obtain ⟨c1, v1, v2, hc1, hv1, hL1, hL2, hK⟩ := toTy_ok hm hL (by rw [show q = (q.1, q.2) from rfl] at hq; exact hq)
    have hd : vs.drop t.sz = v2 := by rw [hv1, ← K_len hK, List.drop_left]
    have ht : cs.take t.sz = c1 := by rw [hc1, ← K_len hK, ← hL1.len, List.take_left]
    rw [ht] at hO ⊢
    have hK' : K w G'.I t q.1 v1 := K_step (fun b hb => hb.elim (hI b) (fun hb => hO b (OB_mono (fun i hi => List.mem_append_left _ hi) hb))) (fun _ _ => rfl) hK
    obtain ⟨h1, h2⟩ := cells_rep hm id hI hr (l := r) (j := j + 1) (lb := s'.2.2) hL2 (by rw [← hd]; exact he) (fun b hb => hO b (OB_mono (fun i hi => List.mem_append_right _ hi) hb)) hk.2 hs'
    refine ⟨?_, fun i hi => ?_⟩
    · rw [hv1]
      exact (ofTy_ok (G := G') (h := h') (fun _ h => h) hK').app h1
    · rcases List.mem_append.1 hi with hi | hi
      · exact ownsMem hL1 hi
      · exact h2 i hi
  | .o e t :: r, j, [], vs, s, go, lb, hL, he, hO, hk, ha => by simp [absCells] at ha
  | .o e t :: r, j, c :: cs, v :: vs, s, go, lb, hL, he, hO, hk, ha => by
    simp only [absCells] at ha
    simp only [List.all_cons, Bool.and_eq_true] at hk
    obtain ⟨q, hq, ha⟩ := Option.bind_eq_some_iff.1 ha
    obtain ⟨s', hs', ha⟩ := Option.bind_eq_some_iff.1 ha
    cases ha
    obtain ⟨h1, h2⟩ := cells_rep hm id hI hr (l := r) (j := j + 1) (lb := s'.2.2) hL.2 (fun e' h' => he e' (List.mem_cons_of_mem _ h')) hO hk.2 hs'
    obtain ⟨e1, e2⟩ := he _ (List.mem_cons_self ..)
    exact ⟨⟨⟨hL.1.oneCell, 0, false, e, t, _, e1, Nat.le_refl _, fun _ => e2.symm⟩, h1⟩, h2⟩
  | .k c :: r, j, [], vs, s, go, lb, hL, he, hO, hk, ha => by simp [absCells] at ha
  | .k c :: r, j, c' :: cs, v :: vs, s, go, lb, hL, he, hO, hk, ha => by
    simp only [absCells] at ha
    simp only [List.all_cons, Bool.and_eq_true] at hk
    obtain ⟨hsame, ha⟩ := bifs ha
    obtain ⟨h1, h2⟩ := cells_rep hm id hI hr (l := r) (j := j + 1) hL.2 he hO hk.2 ha
    exact ⟨⟨sameCV_ok hsame hk.1 hr hL.1, h1⟩, h2⟩
theorem Ent.row {e : Nat × Blk × Value} {g : List Nat} {G' : Mem} {h' : Hp} (hI : ∀ b, G.I b → G'.I b) (hμ : G'.μ e.1 = e.2.2) (he : Ent w G h e g) {v : Nat} {f : Bool} {e' : TypeId} {t : Ty} {xs : List t.den} (hB : e.2.1 = .row v f e' t xs) : BlkRep w G' h' e.1 e.2.1 := by
  obtain ⟨k, B, u⟩ := e
  cases hB
  obtain ⟨_, ⟨inner, h1, h2⟩, _⟩ := he
  exact ⟨inner, by rw [hμ]; exact h1, h2.imp fun _ _ hK => K_step hI (fun _ _ => rfl) hK⟩
theorem entC_row (id : Nat) : ∀ {l : List CellSh} {j : Nat} {s : cellsDen l} {vs : List Value} {e : Nat × Blk × Value}, e ∈ entC id j l s vs → ∃ v f e' t xs, e.2.1 = .row v f e' t xs
  | .v t :: r, j, s, vs, e, h => entC_row id (l := r) h
  | .o e' t :: r, j, s, vs, e, h => by
    rcases List.mem_cons.1 h with rfl | h
    · exact ⟨_, _, _, _, _, rfl⟩
    · exact entC_row id (l := r) h
  | .k _ :: r, j, s, vs, e, h => entC_row id (l := r) h
theorem entS_row : ∀ {l : List (Nat × SlotSh)} {s : slotsDen l} {f : Nat → Value} {e : Nat × Blk × Value}, e ∈ entS l s f → (∃ v f e' t xs, e.2.1 = .row v f e' t xs) ∨ ∃ ks, e.2.1 = .set ks
  | (_, .v _ _) :: r, s, f, e, h => entS_row (l := r) h
  | (_, .o e' t) :: r, s, f, e, h => by
    rcases List.mem_cons.1 h with rfl | h
    · exact .inl ⟨_, _, _, _, _, rfl⟩
    · exact entS_row (l := r) h
  | (_, .k _) :: r, s, f, e, h => entS_row (l := r) h
  | (_, .un) :: r, s, f, e, h => entS_row (l := r) h
  | (m, .m) :: r, s, f, e, h => by
    rcases List.mem_cons.1 h with rfl | h
    · exact .inr ⟨_, rfl⟩
    · exact entS_row (l := r) h
  | (_, .al _) :: r, s, f, e, h => entS_row (l := r) h
theorem absTy {h : Hp} {l : List CellSh} {cs : List CV} {q : cellsDen l × List Nat × List Nat} {id j : Nat} {e : TypeId} (ha : absCells h l cs = some q) (ht : boxTy cs e) : boxTy (invCells id j l q.1) e := by
  cases l with
  | nil => trivial
  | cons c r =>
    cases c with
    | v t => exact ofTy_ty
    | o e' t => trivial
    | k c =>
      cases cs with
      | nil => simp [absCells] at ha
      | cons c' cs =>
        simp only [absCells] at ha
        obtain ⟨hs, _⟩ := bifs ha
        cases c <;> try trivial
        cases c' <;> simp only [sameCV] at hs <;> try cases hs
        simp only [Bool.and_eq_true] at hs
        have := nbeq hs.1
        subst this
        exact ht
theorem boxes_rep {σ : AS} (hm : MemOK gl n0 w G σ.heap) {g : Nat → List Value} (hg : ∀ id cs, σ.heap id = some (.box cs) → ∃ b e, G.μ id = .pointer (some ⟨b, 0, none⟩) ∧ w.heap[b]? = some (.cells (g id).toArray e (0, 0)) ∧ L2 (CellRep w G σ.heap) cs (g id) ∧ boxTy cs e)
    {ids : List Nat} {G' : Mem} {h' : Hp} (hI : ∀ b, G.I b → G'.I b) (hr : ∀ i ∈ ids, (∃ cs, h' i = some (.box cs)) ∧ G'.μ i = G.μ i) :
    ∀ {l : List (Nat × BoxSh)} {s : boxesDen l} {go lb : List Nat}, Ents w G σ.heap (entB l s g G.μ) go → (∀ e ∈ entB l s g G.μ, h' e.1 = some e.2.1 ∧ G'.μ e.1 = e.2.2) → (∀ b, OB G lb b → G'.I b) → l.all (fun p => p.2.all fun q => match q with | .k c => inIds ids c | _ => true) = true → absBoxes σ l = some (s, go, lb) →
      (∀ e ∈ entB l s g G.μ, BlkRep w G' h' e.1 e.2.1) ∧ ∀ i ∈ lb, ∃ v f e t xs, σ.heap i = some (.row v f e t xs)
  | [], s, go, lb, hE, he, hO, hk, ha => by cases ha; exact ⟨by simp [entB], by simp⟩
  | (id, sh) :: r, s, go, lb, hE, he, hO, hk, ha => by
    simp only [absBoxes] at ha
    simp only [List.all_cons, Bool.and_eq_true] at hk
    split at ha
    · rename_i cs hi
      obtain ⟨q, hq, ha⟩ := Option.bind_eq_some_iff.1 ha
      obtain ⟨s', hs', ha⟩ := Option.bind_eq_some_iff.1 ha
      cases ha
      obtain ⟨b, e, h1, h2, h3, h4⟩ := hg id cs hi
      obtain ⟨c1, c2⟩ := cells_rep hm id hI hr (lb := q.2.2) h3 (fun e' h' => he e' (List.mem_cons_of_mem _ (List.mem_append_left _ h'))) (fun b hb => hO b (OB_mono (fun i hi => List.mem_append_left _ hi) hb)) hk.1 hq
      obtain ⟨d1, d2⟩ := boxes_rep hm hg hI hr (l := r) (lb := s'.2.2) (absBoxes_ents hm hg (l := r) (lb := s'.2.2) hs') (fun e' h' => he e' (List.mem_cons_of_mem _ (List.mem_append_right _ h'))) (fun b hb => hO b (OB_mono (fun i hi => List.mem_append_right _ hi) hb)) hk.2 hs'
      refine ⟨fun e' he' => ?_, fun i hi => ?_⟩
      · have hall := he e' he'
        obtain ⟨gg, _, hEnt⟩ := Ents.get hE he'
        rcases List.mem_cons.1 he' with rfl | hm'
        · exact ⟨b, e, g id, hall.2.trans h1, h2, c1, absTy hq h4⟩
        · rcases List.mem_append.1 hm' with hm' | hm'
          · obtain ⟨v, f, e2, t, xs, hB⟩ := entC_row id hm'
            exact hEnt.row hI hall.2 hB
          · exact d1 e' hm'
      · rcases List.mem_append.1 hi with hi | hi
        · exact c2 i hi
        · exact d2 i hi
    · cases ha
theorem entB_id : ∀ {l : List (Nat × BoxSh)} {s : boxesDen l} {g : Nat → List Value} {μ : Nat → Value} {i : Nat}, i ∈ l.map (·.1) → ∃ cs, (i, .box cs, μ i) ∈ entB l s g μ
  | (id, sh) :: r, s, g, μ, i, h => by
    simp only [List.map_cons, List.mem_cons] at h
    rcases h with rfl | h
    · exact ⟨_, List.mem_cons_self ..⟩
    · obtain ⟨cs, hc⟩ := entB_id (s := s.2) (g := g) (μ := μ) h
      exact ⟨cs, List.mem_cons_of_mem _ (List.mem_append_right _ hc)⟩
end
theorem abs0_ok (gl : GT) {sh : Shape} (hok : shapeOk sh = true) (N n0 : Nat) (w0 : World) (J : Nat → Nat → Prop) (σ : AS) (s : sh.S) (a : Act) (w : World) (G : Mem) (hio : (∀ k, ¬ J 2 k) ∨ IOid ∈ sh.boxes.map (·.1)) (hs : sh.abs0 σ = some s) (hA : At gl N n0 w0 J σ a w G) : ∃ G', At gl N n0 w0 J (sh.inv s) a w G' := by
  simp only [shapeOk, Bool.and_eq_true] at hok
  obtain ⟨hkeys, hk1, hk2⟩ := hok
  have hm := hA.rel.mem
  unfold Shape.abs0 at hs
  obtain ⟨⟨sa, goa, lba⟩, ha, hs⟩ := Option.bind_eq_some_iff.1 hs
  obtain ⟨⟨sb, gob, lbb⟩, hb, hs⟩ := Option.bind_eq_some_iff.1 hs
  obtain ⟨hgo, hs⟩ := bifs hs
  cases hs
  simp only [Bool.and_eq_true] at hgo
  obtain ⟨hnd, hdis⟩ := hgo
  have hnd := nodup_ok hnd
  have hdis : ∀ i ∈ goa ++ gob, i ∉ lba ++ lbb := fun i hi hi' => by
    have := List.all_eq_true.1 hdis i hi
    simp only [Bool.not_eq_true'] at this
    have := List.any_eq_false.1 this i hi'
    simp [Nat.beq_refl] at this
  obtain ⟨g, hg⟩ := boxVals hm
  let f : Nat → Value := fun m => a.tmps.getD m undef
  let es := entS sh.slots sa f ++ entB sh.boxes sb g G.μ
  have hES := absSlots_ents hm hA.rel.slots ha
  have hEB := absBoxes_ents hm hg hb
  have hE : Ents w G σ.heap es (goa ++ gob) := hES.app hEB
  have hkn : (es.map (·.1)).Nodup := by
    show ((entS sh.slots sa f ++ entB sh.boxes sb g G.μ).map (·.1)).Nodup
    rw [List.map_append, keys_S, keys_B]
    exact nodup_ok hkeys
  let G' : Mem := ⟨fun n => match lookE es n with | some (_, v) => v | none => undef, fun b => G.I b ∨ OB G (lba ++ lbb) b, G.J⟩
  let h' : Hp := (sh.inv (sa, sb)).heap
  have hheap : ∀ n, h' n = (lookE es n).map (·.1) := fun n => inv_heap sh (sa, sb) f g G.μ n
  have hent : ∀ e ∈ es, h' e.1 = some e.2.1 ∧ G'.μ e.1 = e.2.2 := fun e he => by
    have hl := mem_lookE hkn (n := e.1) (B := e.2.1) (v := e.2.2) he
    exact ⟨by rw [hheap, hl]; rfl, by show (match lookE es e.1 with | some (_, v) => v | none => undef) = _; rw [hl]⟩
  have hback : ∀ {id B}, h' id = some B → (id, B, G'.μ id) ∈ es := fun {id B} hi => by
    rw [hheap] at hi
    cases hl : lookE es id with
    | none => rw [hl] at hi; cases hi
    | some x =>
      obtain ⟨B', v⟩ := x
      rw [hl] at hi; cases hi
      have : G'.μ id = v := by show (match lookE es id with | some (_, v) => v | none => undef) = _; rw [hl]
      rw [this]
      exact lookE_mem hl
  have hI : ∀ b, G.I b → G'.I b := fun b hb => .inl hb
  have hr : ∀ i ∈ sh.boxes.map (·.1), (∃ cs, h' i = some (.box cs)) ∧ G'.μ i = G.μ i := fun i hi => by
    obtain ⟨cs, hc⟩ := entB_id (s := sb) (g := g) (μ := G.μ) hi
    obtain ⟨h1, h2⟩ := hent _ (List.mem_append_right _ hc)
    exact ⟨⟨cs, h1⟩, h2⟩
  have hos : ∀ m ∈ oslots sh.slots, ∃ e t xs, h' (slotId m) = some (.row 0 false e t xs) ∧ G'.μ (slotId m) = f m := fun m hm => by
    obtain ⟨e, t, xs, he⟩ := oslots_ent (s := sa) (f := f) hm
    obtain ⟨q1, q2⟩ := hent _ (List.mem_append_left _ he)
    exact ⟨e, t, xs, q1, q2⟩
  obtain ⟨hslots, hlb1⟩ := slots_rep hm hA.rel.slots (G' := G') (h' := h') hI hr hos (fun e he => hent e (List.mem_append_left _ he)) (fun b hb => .inr (OB_mono (fun i hi => List.mem_append_left _ hi) hb)) hk1 ha
  obtain ⟨hboxes, hlb2⟩ := boxes_rep hm hg (G' := G') (h' := h') hI hr hEB (fun e he => hent e (List.mem_append_right _ he)) (fun b hb => .inr (OB_mono (fun i hi => List.mem_append_right _ hi) hb)) hk2 hb
  have hlb : ∀ i ∈ lba ++ lbb, ∃ v f e t xs, σ.heap i = some (.row v f e t xs) := fun i hi => by
    rcases List.mem_append.1 hi with hi | hi
    · exact hlb1 i hi
    · exact hlb2 i hi
  refine ⟨G', ⟨⟨⟨?_, ?_, ?_, ?_, ?_, hm.le, ?_, hm.fb, ?_, ?_⟩, hslots, hA.rel.defers⟩, hA.size, hA.below, hA.J, hA.kept⟩⟩
  · rintro b (hb | ⟨i, hi, hb⟩)
    · exact hm.bound b hb
    · obtain ⟨v, f, e, t, xs, hh⟩ := hlb i hi
      exact (hm.own i _ b hh hb).2.1
  · intro id B hi
    have hmem := hback hi
    rcases List.mem_append.1 hmem with hmem' | hmem'
    · obtain ⟨gg, _, hEnt⟩ := Ents.get hE hmem
      rcases entS_row hmem' with ⟨v, f, e2, t, xs, hB⟩ | ⟨ks, hB⟩
      · exact hEnt.row hI rfl hB
      · simp only at hB
        subst hB
        obtain ⟨i, b, _, _, _, h4, h5⟩ := hEnt
        exact ⟨b, h4, h5⟩
    · exact hboxes _ hmem'
  · intro id B b hi hbb
    have hmem := hback hi
    obtain ⟨gg, hgg, hEnt⟩ := Ents.get hE hmem
    obtain ⟨i, C, hC, hbi, hfro, hcase⟩ := hEnt.src hbb
    obtain ⟨o1, o2, o3, o4⟩ := hm.own i C b hC hbi
    have hnI : ¬ G'.I b := by
      rintro (hb | ⟨k, hk, hb⟩)
      · exact o3 hfro hb
      · obtain ⟨v, f, e, t, xs, hh⟩ := hlb k hk
        obtain rfl := hm.inj i k _ _ b hC hh hbi hb
        rcases hcase with ⟨hg1, _⟩ | ⟨cs, rfl, _, _⟩
        · exact hdis i (hgg i (by rw [hg1]; simp)) hk
        · rw [hC] at hh; cases hh
    refine ⟨o1, o2, fun _ => hnI, fun hf => ?_⟩
    cases B with
    | box => cases hf
    | fbox => exact hEnt.elim
    | set => cases hf
    | row v fr e t xs =>
      have hf : fr = true := hf
      have : fr = false := hEnt.1
      rw [hf] at this; cases this
  · intro id id' B B' b hi hi' hb hb'
    exact Ents.inj hm hE hnd _ (hback hi) _ (hback hi') b hb hb'
  · intro g' x hx
    exact (hm.glob g' x hx).step hI (fun _ _ => rfl)
  · rintro b (hb | ⟨k, hk, hb⟩)
    · exact hm.new b hb
    · obtain ⟨v, f, e, t, xs, hh⟩ := hlb k hk
      exact .inr ⟨(hm.own k _ b hh hb).1, hm.foe k _ b hh hb⟩
  · intro id B b hi hbb
    obtain ⟨gg, hgg, hEnt⟩ := Ents.get hE (hback hi)
    obtain ⟨i, C, hC, hbi, _, _⟩ := hEnt.src hbb
    exact hm.foe i C b hC hbi
  · intro k hk
    have hk' : J 2 k := by rw [← hA.J]; exact hk
    rcases hio with hio | hio
    · exact absurd hk' (hio k)
    · obtain ⟨⟨cs, h1⟩, h2⟩ := hr IOid hio
      exact ⟨⟨_, cs, h1, rfl⟩, by rw [h2]; exact (hm.anc k hk).2⟩
theorem abs_ok (gl : GT) {sh : Shape} (hok : shapeOk sh = true) : AbsOK gl sh := by
  intro N n0 w0 J σ s a w G hio hs hA
  obtain ⟨G1, m1, E1, hμ⟩ := mem_frzRest hA.rel.mem (sh.boxes.map fun p : Nat × BoxSh => p.1)
  have hs : sh.abs0 ⟨σ.slots, frzRest (sh.boxes.map fun p : Nat × BoxSh => p.1) σ.heap⟩ = some s := hs
  exact abs0_ok gl hok N n0 w0 J ⟨σ.slots, frzRest (sh.boxes.map fun p : Nat × BoxSh => p.1) σ.heap⟩ s a w G1 hio hs
    ⟨⟨m1, fun t => (hA.rel.slots t).evo E1, hA.rel.defers⟩, hA.size, hA.below, E1.J.trans hA.J, fun b hb => by rw [E1.J] at hb; exact hA.kept b hb⟩
end Go.Den
