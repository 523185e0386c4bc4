/-
  A body of the abstract machine is right.
-/
import Derived.Test.YtkmleeeekbdomaaGreatDoorD4k
set_option linter.unusedSectionVars false
set_option linter.unusedVariables false
set_option linter.unusedSimpArgs false
namespace Go.Den
open Go Go.RowKit
theorem least {p : Nat → Prop} (h : ∃ j, p j) : ∃ j, p j ∧ ∀ i, p i → j ≤ i := by
  obtain ⟨n, hn⟩ := h
  induction n using Nat.strongRecOn with
  | _ n ih =>
    by_cases hm : ∃ m, m < n ∧ p m
    · obtain ⟨m, hlt, hp⟩ := hm
      exact ih m hlt hp
    · exact ⟨n, hn, fun i hi => by
        rcases Nat.lt_or_ge i n with h | h
        · exact absurd ⟨i, h, hi⟩ hm
        · exact h⟩
open Classical in
noncomputable def leastOf (p : Nat → Prop) : Nat := if h : ∃ j, p j then Classical.choose (least h) else 0
theorem leastOf_spec {p : Nat → Prop} (h : ∃ j, p j) : p (leastOf p) ∧ ∀ i, p i → leastOf p ≤ i := by
  unfold leastOf
  rw [dif_pos h]
  exact Classical.choose_spec (least h)
/-- What the machine's way of ending a piece is called there. -/
def exOf : Exit → Option Ex
  | .normal => some .normal
  | .exit id => some (.exit id)
  | .ret => some .ret
  | _ => none
/-- Where a region's order is drawn, it may be; every slot is there. -/
def codeOk (N : Nat) : Code → Bool
  | .region _ ops draw => (match draw with | true => drawOk ops.toList | false => true) && ops.toList.all (dstOK N)
  | .seq a b => codeOk N a && codeOk N b
  | .cond _ x y => codeOk N x && codeOk N y
  | .block _ b => codeOk N b
  | .loop b => codeOk N b
  | _ => true
def AbsOK (gl : GT) (sh : Shape) : Prop := ∀ (N n0 : Nat) (w0 : World) (J : Nat → Prop) (σ : AS) (s : sh.S) (a : Act) (w : World) (G : Mem), sh.abs σ = some s → At gl N n0 w0 J σ a w G → ∃ G', At gl N n0 w0 J (sh.inv s) a w G'
section
variable {P : Program} {gl : GT} {N n0 : Nat} {w0 : World} {J : Nat → Prop} {R : Type} {r : R} {F : Fam R}
/-- What holds behind a piece. -/
def Post (gl : GT) (N n0 : Nat) (w0 : World) (J : Nat → Prop) {R : Type} (r : R) (K : Nat → Ex → AS → Option R) (n : Nat) : Exit → Act → World → Prop :=
  fun e a' w' => ∃ m, m ≤ n ∧ ∃ x σ' G', exOf e = some x ∧ At gl N n0 w0 J σ' a' w' G' ∧ K m x σ' = some r
theorem Post.le {K : Nat → Ex → AS → Option R} {m n : Nat} (h : m ≤ n) {e : Exit} {a : Act} {w : World} (hp : Post gl N n0 w0 J r K m e a w) : Post gl N n0 w0 J r K n e a w := by
  obtain ⟨k, hk, rest⟩ := hp
  exact ⟨k, Nat.le_trans hk h, rest⟩
theorem go_some {c : CutE R} {n : Nat} {σ : AS} (h : c.go n σ = some r) : ∃ s, c.sh.abs σ = some s ∧ c.l n s = some r := Option.bind_eq_some_iff.1 h
theorem ways_some {c : CV} {x y : Option R} {w : World} {G : Mem} {h : Hp} {v : Value} (hr : CellRep w G h c v) (hb : ways c x y = some r) : ∃ t : Bool, v = .bool t ∧ (if t then x else y) = some r := by
  cases c <;> try exact both_some hr hb
  rename_i p d
  obtain ⟨t, hv, ht⟩ := hr
  refine ⟨t, hv, ?_⟩
  simp only [ways] at hb
  by_cases hp : p
  · rw [if_pos hp] at hb
    unfold agree at hb
    split at hb
    · rename_i he
      cases t
      · simpa [← he] using hb
      · simpa using hb
    · cases hb
  · rw [if_neg hp] at hb
    rw [ht hp]
    simpa using hb
theorem den_ok (hmo : P.follows .mixedOrders = true) {B : Nat} (hE : ∀ n, n ≤ B → EnvOK P gl (F.c n)) (hcut : ∀ k c, findCut F.cuts k = some c → AbsOK gl c.sh) :
    ∀ (c : Code) (K : Nat → Ex → AS → Option R), codeOk N c = true → Obl F c K → ∀ (n : Nat), n ≤ B → ∀ (σ : AS) (a : Act) (w : World) (G : Mem), At gl N n0 w0 J σ a w G → den F n c σ (K n) = some r →
      c.wp P (Post gl N n0 w0 J r K n) a w
  | .skip, K, _, _, n, hn, σ, a, w, G, hA, h => wp_skip ⟨n, Nat.le_refl _, .normal, σ, G, rfl, hA, h⟩
  | .exit id, K, _, _, n, hn, σ, a, w, G, hA, h => wp_exit ⟨n, Nat.le_refl _, .exit id, σ, G, rfl, hA, h⟩
  | .ret, K, _, _, n, hn, σ, a, w, G, hA, h => wp_ret ⟨n, Nat.le_refl _, .ret, σ, G, rfl, hA, h⟩
  | .region id ops draw, K, hc, _, n, hn, σ, a, w, G, hA, h => by
    simp only [codeOk, Bool.and_eq_true] at hc
    obtain ⟨hd, hc⟩ := hc
    cases draw with
    | false => exact wp_region_list (runOps_ok (hE n hn) (fun σ' a' w' G' hA' h' => ⟨n, Nat.le_refl _, .normal, σ', G', rfl, hA', h'⟩) ops.toList 0 hc hA h)
    | true => exact region_draw_ok hmo (hE n hn) hd hc hA h (fun σ' a' w' G' hA' h' => ⟨n, Nat.le_refl _, .normal, σ', G', rfl, hA', h'⟩)
  | .cond c x y, K, hc, ho, n, hn, σ, a, w, G, hA, h => by
    simp only [codeOk, Bool.and_eq_true] at hc
    simp only [den] at h
    split at h
    · rename_i cv hcv
      have hr : CellRep w G σ.heap cv (a.eval c) := by
        have := evO_ok (hE n hn) hA.rel.mem hA.rel.slots c
        rw [hcv] at this; exact this
      obtain ⟨t, hv, hb⟩ := ways_some hr h
      refine wp_cond hv ?_
      cases t
      · exact den_ok hmo hE hcut y K hc.2 ho.2 n hn σ a w G hA (by simpa using hb)
      · exact den_ok hmo hE hcut x K hc.1 ho.1 n hn σ a w G hA (by simpa using hb)
    · cases h
  | .block id b, K, hc, ho, n, hn, σ, a, w, G, hA, h => by
    refine wp_block (wp_mono (den_ok hmo hE hcut b (fun n => Kblock id (K n)) hc ho n hn σ a w G hA h) ?_)
    rintro e a' w' ⟨m, hm, x, σ', G', he, hA', hk⟩
    cases e with
    | exit i =>
      cases he
      simp only [Kblock] at hk
      show (if i = id then _ else _)
      by_cases hi : i = id
      · rw [if_pos hi]
        subst hi
        rw [Nat.beq_refl] at hk
        exact ⟨m, hm, .normal, σ', G', rfl, hA', hk⟩
      · rw [if_neg hi]
        have : Nat.beq i id = false := by
          cases hb : Nat.beq i id with
          | false => rfl
          | true => exact absurd (nbeq hb) hi
        rw [this] at hk
        exact ⟨m, hm, .exit i, σ', G', rfl, hA', hk⟩
    | normal => cases he; exact ⟨m, hm, .normal, σ', G', rfl, hA', hk⟩
    | ret => cases he; exact ⟨m, hm, .ret, σ', G', rfl, hA', hk⟩
    | goto => cases he
    | panic => cases he
    | outgrown => cases he
  | .seq x y, K, hc, ho, n, hn, σ, a, w, G, hA, h => by
    simp only [codeOk, Bool.and_eq_true] at hc
    obtain ⟨ho1, ho2, ho3⟩ := ho
    refine wp_seq (wp_mono (den_ok hmo hE hcut x _ hc.1 ho1 n hn σ a w G hA h) ?_)
    rintro e a' w' ⟨m, hm, z, σ', G', he, hA', hk⟩
    cases e with
    | normal =>
      cases he
      show y.wp P _ a' w'
      simp only [Kseq] at hk
      split at hk
      · rename_i c hf
        rw [hf] at ho3
        obtain ⟨s, hs, hl⟩ := go_some hk
        cases m with
        | zero => rw [ho3.1] at hl; cases hl
        | succ m =>
          rw [ho3.2] at hl
          obtain ⟨G2, hA2⟩ := hcut _ c hf N n0 w0 J σ' s a' w' G' hs hA'
          exact wp_mono (den_ok hmo hE hcut y K hc.2 ho2 m (by omega) _ a' w' G2 hA2 hl) fun _ _ _ => Post.le (by omega)
      · exact wp_mono (den_ok hmo hE hcut y K hc.2 ho2 m (by omega) _ a' w' G' hA' hk) fun _ _ _ => Post.le hm
    | exit i => cases he; exact ⟨m, hm, .exit i, σ', G', rfl, hA', hk⟩
    | ret => cases he; exact ⟨m, hm, .ret, σ', G', rfl, hA', hk⟩
    | goto => cases he
    | panic => cases he
    | outgrown => cases he
  | .loop b, K, hc, ho, n, hn, σ, a, w, G, hA, h => by
    simp only [den] at h
    simp only [Obl] at ho
    split at h
    · rename_i c hf
      rw [hf] at ho
      obtain ⟨ho1, ho2, ho3⟩ := ho
      let p : Act → World → Nat → Prop := fun a w j => j ≤ n ∧ ∃ s G, c.l j s = some r ∧ At gl N n0 w0 J (c.sh.inv s) a w G
      have enter : ∀ {m σ a w G}, m ≤ n → At gl N n0 w0 J σ a w G → c.go m σ = some r → p a w m := fun {m σ a w G} hm hA h => by
        obtain ⟨s, hs, hl⟩ := go_some h
        obtain ⟨G2, hA2⟩ := hcut _ c hf N n0 w0 J σ s a w G hs hA
        exact ⟨hm, s, G2, hl, hA2⟩
      refine wp_loop (fun a w => ∃ j, p a w j) (fun a w => leastOf (p a w)) ⟨n, enter (Nat.le_refl _) hA h⟩ fun a w hI => ?_
      obtain ⟨⟨hle, s, G, hl, hA⟩, hmin⟩ := leastOf_spec hI
      generalize hj : leastOf (p a w) = j at hle hl
      cases j with
      | zero => rw [ho2] at hl; cases hl
      | succ j =>
        rw [ho3] at hl
        refine wp_mono (den_ok hmo hE hcut b (fun n => Kseq (c.go n) (K n)) hc ho1 j (by omega) _ a w G hA hl) ?_
        rintro e a' w' ⟨m, hm, z, σ', G', he, hA', hk⟩
        cases e with
        | normal =>
          cases he
          have hp := enter (m := m) (by omega) hA' hk
          have h1 := (leastOf_spec (p := p a' w') ⟨m, hp⟩).2 m hp
          exact ⟨⟨m, hp⟩, by show leastOf (p a' w') < _; omega⟩
        | exit i => cases he; exact ⟨m, by omega, .exit i, σ', G', rfl, hA', hk⟩
        | ret => cases he; exact ⟨m, by omega, .ret, σ', G', rfl, hA', hk⟩
        | goto => cases he
        | panic => cases he
        | outgrown => cases he
    · cases h
  | .scope b, K, _, _, n, hn, σ, a, w, G, hA, h => by simp [den] at h
  | .label l, K, _, _, n, hn, σ, a, w, G, hA, h => by simp [den] at h
  | .goto l, K, _, _, n, hn, σ, a, w, G, hA, h => by simp [den] at h
end
end Go.Den
