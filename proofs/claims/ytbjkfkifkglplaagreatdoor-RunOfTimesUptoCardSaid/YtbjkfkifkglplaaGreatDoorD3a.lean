/-
  How the call's own memory goes on: a block set, rows frozen, cells read as data.
-/
import Derived.Test.YtbjkfkifkglplaaGreatDoorD1c
set_option linter.unusedSectionVars false
set_option linter.unusedVariables false
set_option linter.unusedSimpArgs false
namespace Go.Den
open Go Go.RowKit

theorem hset_same (h : Hp) (id : Nat) (B : Blk) : hset h id B id = some B := by simp [hset, Nat.beq_refl]
theorem hset_ne (h : Hp) {id n : Nat} (B : Blk) (hn : n ≠ id) : hset h id B n = h n := by
  have : Nat.beq n id = false := by cases hb : Nat.beq n id with
    | false => rfl
    | true => exact absurd (Nat.eq_of_beq_eq_true hb) hn
  simp [hset, this]
theorem nbeq {a b : Nat} (h : Nat.beq a b = true) : a = b := Nat.eq_of_beq_eq_true h
theorem AS.eff_slots : ∀ (l : List (Nat × Blk)) (σ : AS), (σ.eff l).slots = σ.slots
  | [], _ => rfl
  | (id, b) :: r, σ => by simp only [AS.eff]; rw [AS.eff_slots r]; rfl
theorem AS.eff_heap : ∀ (l : List (Nat × Blk)) (σ : AS), (σ.eff l).heap = effs σ.heap l
  | [], _ => rfl
  | (id, b) :: r, σ => by simp only [AS.eff, effs]; rw [AS.eff_heap r]; rfl
theorem AS.put_heap (σ : AS) (d : Option Tmp) (v : SV) : (σ.put d v).heap = σ.heap := by cases d <;> rfl
theorem effs_app : ∀ (a b : List (Nat × Blk)) (h : Hp), effs h (a ++ b) = effs (effs h a) b
  | [], _, _ => rfl
  | (id, c) :: r, b, h => by simp only [List.cons_append, effs]; exact effs_app r b _
def Mem.set (G : Mem) (id : Nat) (v : Value) : Mem := ⟨fun n => if n = id then v else G.μ n, G.I, G.J⟩
theorem Mem.set_same (G : Mem) (id : Nat) (v : Value) : (G.set id v).μ id = v := by simp [Mem.set]
theorem Mem.set_ne (G : Mem) {id n : Nat} (v : Value) (h : n ≠ id) : (G.set id v).μ n = G.μ n := by simp [Mem.set, h]

theorem own_keep {w w' : World} {base : Nat} {e : TypeId} {size n : Nat} {v : Value} {xs : List Value} (h : w.ownsRow base e size v n xs) (hm : ∀ k, blkOf v = some k → w'.heap[k]? = w.heap[k]?) : w'.ownsRow base e size v n xs := by
  obtain ⟨h1, h2⟩ := h
  refine ⟨h1, ?_⟩
  rcases h2 with h2 | ⟨g, cap, cur, rfl, hg, hh, r⟩
  · exact .inl h2
  · exact .inr ⟨g, cap, cur, rfl, hg, (hm g (by simp [blkOf])).trans hh, r⟩
/-- A block goes on holding what it held, if nobody wrote it. -/
theorem BlkRep.keep {w w' : World} {G G' : Mem} {h h' : Hp} {id : Nat} {B : Blk} (E : Evo w w' G G' h h') (hμ : G'.μ id = G.μ id) (hk : ∀ b, blkOf (G.μ id) = some b → w'.heap[b]? = w.heap[b]?) (hr : BlkRep w G h id B) : BlkRep w' G' h' id B := by
  cases B with
  | box cs =>
    obtain ⟨b, e, l, hm, hb, hl, ht⟩ := hr
    exact ⟨b, e, l, hμ.trans hm, (hk b (by rw [hm]; rfl)).trans hb, hl.imp fun _ _ hc => hc.evo E, ht⟩
  | fbox cs =>
    obtain ⟨b, e, l, hm, hb, hl, ht⟩ := hr
    exact ⟨b, e, l, hμ.trans hm, (hk b (by rw [hm]; rfl)).trans hb, hl.imp fun _ _ hc => hc.evo E, ht⟩
  | set ks =>
    obtain ⟨b, hm, hs⟩ := hr
    exact ⟨b, hμ.trans hm, hs.same (hk b (by rw [hm]; rfl))⟩
  | row ver fro e t xs =>
    obtain ⟨inner, ho, hre⟩ := hr
    exact ⟨inner, by rw [hμ]; exact own_keep ho hk, hre.imp fun _ _ hK => K_step E.I E.keep hK⟩
/-- May B stand where C stood? -/
def Follows (C B : Blk) (u v : Value) : Prop := match C, B with
  | .box _, .box _ => v = u
  | .box _, .fbox _ => v = u
  | .set _, .set _ => v = u
  | .row a _ _ t xs, .row b _ _ t' ys => t = t' ∧ a ≤ b ∧ (a = b → v = u ∧ List.length ys = List.length xs)
  | _, _ => False
theorem evo_set {w w' : World} {G : Mem} {h : Hp} {id : Nat} {B : Blk} {v0 : Value} (hI : ∀ b, G.I b → w'.heap[b]? = w.heap[b]?) (hF : ∀ b, G.J 1 b → w'.heap[b]? = w.heap[b]?) (hf : ∀ C, h id = some C → Follows C B (G.μ id) v0) :
    Evo w w' G (G.set id v0) h (hset h id B) where
  J := rfl
  I := fun _ hb => hb
  keep := hI
  keepF := hF
  box := fun i hi => by
    by_cases he : i = id
    · subst he
      obtain ⟨C, cs, hC, hcs⟩ := hi
      have hff := hf _ hC
      cases C <;> simp only [Blk.bx] at hcs <;> try (cases hcs; done)
      all_goals cases B with
      | box ds => first | exact ⟨⟨_, ds, hset_same _ _ _, rfl⟩, by rw [Mem.set_same]; exact hff⟩ | exact hff.elim
      | fbox ds => first | exact ⟨⟨_, ds, hset_same _ _ _, rfl⟩, by rw [Mem.set_same]; exact hff⟩ | exact hff.elim
      | row => exact hff.elim
      | set => exact hff.elim
    · obtain ⟨C, cs, hC, hcs⟩ := hi
      exact ⟨⟨C, cs, by rw [hset_ne _ _ he]; exact hC, hcs⟩, Mem.set_ne _ _ he⟩
  row := fun i v f e t xs hi => by
    by_cases he : i = id
    · subst he
      have hff := hf _ hi
      cases B with
      | box ds => exact hff.elim
      | fbox ds => exact hff.elim
      | set => exact hff.elim
      | row b f' e' t' ys =>
        obtain ⟨rfl, hab, heq⟩ := hff
        refine ⟨b, f', e', ys, hset_same _ _ _, hab, fun hv => ?_⟩
        obtain ⟨h1, h2⟩ := heq hv
        exact ⟨by rw [Mem.set_same]; exact h1, h2⟩
    · exact ⟨v, f, e, xs, by rw [hset_ne _ _ he]; exact hi, Nat.le_refl _, fun _ => ⟨Mem.set_ne _ _ he, rfl⟩⟩
  set := fun i ks hi => by
    by_cases he : i = id
    · subst he
      have hff := hf _ hi
      cases B with
      | set ls => exact ⟨⟨ls, hset_same _ _ _⟩, by rw [Mem.set_same]; exact hff⟩
      | _ => exact hff.elim
    · exact ⟨⟨ks, by rw [hset_ne _ _ he]; exact hi⟩, Mem.set_ne _ _ he⟩
theorem mem_set {gl : GT} {n0 : Nat} {w w' : World} {G : Mem} {h : Hp} (hm : MemOK gl n0 w G h) {id : Nat} {B : Blk} {v0 : Value}
    (hI : ∀ b, G.I b → w'.heap[b]? = w.heap[b]?) (hF : ∀ b, G.J 1 b → w'.heap[b]? = w.heap[b]? ∧ blkOf v0 ≠ some b) (hold : ∀ i C b, i ≠ id → h i = some C → blkOf (G.μ i) = some b → w'.heap[b]? = w.heap[b]?) (hsz : w.heap.size ≤ w'.heap.size)
    (hf : ∀ C, h id = some C → Follows C B (G.μ id) v0) (hrep : BlkRep w' (G.set id v0) (hset h id B) id B)
    (hblk : ∀ b, blkOf v0 = some b → n0 ≤ b ∧ b < w'.heap.size ∧ (B.fro = false → ¬ G.I b) ∧ (B.fro = true → G.I b) ∧ ∀ i C, i ≠ id → h i = some C → blkOf (G.μ i) ≠ some b) :
    MemOK gl n0 w' (G.set id v0) (hset h id B) ∧ Evo w w' G (G.set id v0) h (hset h id B) := by
  have E := evo_set (B := B) hI (fun b hb => (hF b hb).1) hf
  refine ⟨⟨fun b hb => Nat.lt_of_lt_of_le (hm.bound b hb) hsz, fun i C hi => ?_, fun i C b hi hb => ?_, fun i j C D b hi hj hb hb' => ?_, fun g x hg => ?_, ?_, hm.new, fun b hb => Nat.lt_of_lt_of_le (hm.fb b hb) hsz, fun i C b hi hb hF' => ?_, anc_evo E hm.anc⟩, E⟩
  · by_cases he : i = id
    · subst he; rw [hset_same] at hi; cases hi; exact hrep
    · rw [hset_ne _ _ he] at hi
      exact BlkRep.keep E (Mem.set_ne _ _ he) (fun b hb => hold i C b he hi hb) (hm.rep i C hi)
  · by_cases he : i = id
    · subst he; rw [hset_same] at hi; cases hi
      rw [Mem.set_same] at hb
      obtain ⟨h1, h2, h3, h4, _⟩ := hblk b hb
      exact ⟨h1, h2, h3, h4⟩
    · rw [hset_ne _ _ he] at hi
      rw [Mem.set_ne _ _ he] at hb
      obtain ⟨h1, h2, h3, h4⟩ := hm.own i C b hi hb
      exact ⟨h1, Nat.lt_of_lt_of_le h2 hsz, h3, h4⟩
  · by_cases he : i = id
    · subst he
      by_cases he' : j = i
      · exact he'.symm
      · rw [hset_ne _ _ he'] at hj
        rw [Mem.set_ne _ _ he'] at hb'
        rw [Mem.set_same] at hb
        exact absurd hb' ((hblk b hb).2.2.2.2 j D he' hj)
    · rw [hset_ne _ _ he] at hi
      rw [Mem.set_ne _ _ he] at hb
      by_cases he' : j = id
      · subst he'
        rw [Mem.set_same] at hb'
        exact absurd hb ((hblk b hb').2.2.2.2 i C he hi)
      · rw [hset_ne _ _ he'] at hj
        rw [Mem.set_ne _ _ he'] at hb'
        exact hm.inj i j C D b hi hj hb hb'
  · exact (hm.glob g x hg).step (fun _ h => h) hI
  · exact Nat.le_trans hm.le hsz
  · by_cases he : i = id
    · subst he; rw [Mem.set_same] at hb; exact (hF b hF').2 hb
    · rw [hset_ne _ _ he] at hi; rw [Mem.set_ne _ _ he] at hb; exact hm.foe i C b hi hb hF'
/-- The world goes on and leaves all that is known alone. -/
theorem mem_world {gl : GT} {n0 : Nat} {w w' : World} {G : Mem} {h : Hp} (hm : MemOK gl n0 w G h) (hk : ∀ b, b < w.heap.size → w'.heap[b]? = w.heap[b]?) (hsz : w.heap.size ≤ w'.heap.size) :
    MemOK gl n0 w' G h ∧ Evo w w' G G h h := by
  have E : Evo w w' G G h h := ⟨fun _ h => h, fun b hb => hk b (hm.bound b hb), fun id hi => ⟨hi, rfl⟩, fun id v f e t xs hi => ⟨v, f, e, xs, hi, Nat.le_refl _, fun _ => ⟨rfl, rfl⟩⟩, rfl, fun _ ks h => ⟨⟨ks, h⟩, rfl⟩, fun b hb => hk b (hm.fb b hb)⟩
  refine ⟨⟨fun b hb => Nat.lt_of_lt_of_le (hm.bound b hb) hsz, fun i C hi => BlkRep.keep E rfl (fun b hb => hk b (hm.own i C b hi hb).2.1) (hm.rep i C hi), fun i C b hi hb => ?_, hm.inj, fun g x hg => ?_, ?_, hm.new, fun b hb => Nat.lt_of_lt_of_le (hm.fb b hb) hsz, hm.foe, hm.anc⟩, E⟩
  · obtain ⟨h1, h2, h3, h4⟩ := hm.own i C b hi hb
    exact ⟨h1, Nat.lt_of_lt_of_le h2 hsz, h3, h4⟩
  · exact (hm.glob g x hg).step (fun _ h => h) (fun b hb => hk b (hm.bound b hb))
  · exact Nat.le_trans hm.le hsz
/-- More blocks that nobody writes. -/
theorem mem_more {gl : GT} {n0 : Nat} {w : World} {G : Mem} {h : Hp} (hm : MemOK gl n0 w G h) (J : Nat → Prop) (hIJ : ∀ b, G.I b → J b) (hb : ∀ b, J b → b < w.heap.size) (hn : ∀ i C b, h i = some C → C.fro = false → blkOf (G.μ i) = some b → ¬ J b) (hnew : ∀ b, J b → G.J 0 b ∨ (n0 ≤ b ∧ ¬ G.J 1 b)) :
    MemOK gl n0 w ⟨G.μ, J, G.J⟩ h ∧ Evo w w G ⟨G.μ, J, G.J⟩ h h := by
  have E : Evo w w G ⟨G.μ, J, G.J⟩ h h := ⟨hIJ, fun _ _ => rfl, fun id hi => ⟨hi, rfl⟩, fun id v f e t xs hi => ⟨v, f, e, xs, hi, Nat.le_refl _, fun _ => ⟨rfl, rfl⟩⟩, rfl, fun _ ks h => ⟨⟨ks, h⟩, rfl⟩, fun _ _ => rfl⟩
  refine ⟨⟨hb, fun i C hi => BlkRep.keep E rfl (fun _ _ => rfl) (hm.rep i C hi), fun i C b hi hbb => ?_, hm.inj, fun g x hg => ?_, ?_, hnew, hm.fb, hm.foe, hm.anc⟩, E⟩
  · obtain ⟨h1, h2, h3, h4⟩ := hm.own i C b hi hbb
    exact ⟨h1, h2, fun hf => hn i C b hi hf hbb, fun hf => hIJ _ (h4 hf)⟩
  · exact (hm.glob g x hg).step hIJ (fun _ _ => rfl)
  · exact hm.le
/-- A row that nobody writes any more. -/
theorem mem_freeze1 {gl : GT} {n0 : Nat} {w : World} {G : Mem} {h : Hp} (hm : MemOK gl n0 w G h) {id ver : Nat} {fro : Bool} {e : TypeId} {t : Ty} {xs : List t.den} (hi : h id = some (.row ver fro e t xs)) :
    ∃ G', MemOK gl n0 w G' (hset h id (.row ver true e t xs)) ∧ Evo w w G G' h (hset h id (.row ver true e t xs)) ∧ G'.μ = G.μ ∧ (∀ b, G'.I b ↔ G.I b ∨ blkOf (G.μ id) = some b) := by
  refine ⟨⟨G.μ, fun b => G.I b ∨ blkOf (G.μ id) = some b, G.J⟩, ?_, ?_, rfl, fun b => Iff.rfl⟩
  rotate_left
  · refine ⟨fun b hb => .inl hb, fun _ _ => rfl, fun i hc => ?_, fun i v f e' t' ys hr => ?_, rfl, fun i ks hk => ?_, fun _ _ => rfl⟩
    · obtain ⟨C, cs, hC, hcs⟩ := hc
      by_cases he : i = id
      · subst he; rw [hi] at hC; cases hC; cases hcs
      · exact ⟨⟨C, cs, by rw [hset_ne _ _ he]; exact hC, hcs⟩, rfl⟩
    · by_cases he : i = id
      · subst he; rw [hi] at hr; cases hr; exact ⟨_, _, _, _, hset_same _ _ _, Nat.le_refl _, fun _ => ⟨rfl, rfl⟩⟩
      · exact ⟨v, f, e', ys, by rw [hset_ne _ _ he]; exact hr, Nat.le_refl _, fun _ => ⟨rfl, rfl⟩⟩
    · by_cases he : i = id
      · subst he; rw [hi] at hk; cases hk
      · exact ⟨⟨ks, by rw [hset_ne _ _ he]; exact hk⟩, rfl⟩
  · have E : Evo w w G ⟨G.μ, fun b => G.I b ∨ blkOf (G.μ id) = some b, G.J⟩ h (hset h id (.row ver true e t xs)) := by
      refine ⟨fun b hb => .inl hb, fun _ _ => rfl, fun i hc => ?_, fun i v f e' t' ys hr => ?_, rfl, fun i ks hk => ?_, fun _ _ => rfl⟩
      · obtain ⟨C, cs, hC, hcs⟩ := hc
        by_cases he : i = id
        · subst he; rw [hi] at hC; cases hC; cases hcs
        · exact ⟨⟨C, cs, by rw [hset_ne _ _ he]; exact hC, hcs⟩, rfl⟩
      · by_cases he : i = id
        · subst he; rw [hi] at hr; cases hr; exact ⟨_, _, _, _, hset_same _ _ _, Nat.le_refl _, fun _ => ⟨rfl, rfl⟩⟩
        · exact ⟨v, f, e', ys, by rw [hset_ne _ _ he]; exact hr, Nat.le_refl _, fun _ => ⟨rfl, rfl⟩⟩
      · by_cases he : i = id
        · subst he; rw [hi] at hk; cases hk
        · exact ⟨⟨ks, by rw [hset_ne _ _ he]; exact hk⟩, rfl⟩
    have old : ∀ i C, hset h id (.row ver true e t xs) i = some C → ∃ D, h i = some D ∧ (i ≠ id → D = C) := fun i C hc => by
      by_cases he : i = id
      · subst he; exact ⟨_, hi, fun hne => absurd rfl hne⟩
      · rw [hset_ne _ _ he] at hc; exact ⟨C, hc, fun _ => rfl⟩
    refine ⟨fun b hb => ?_, fun i C hc => ?_, fun i C b hc hb => ?_, fun i j C D b hc hd hb hb' => ?_, fun g x hg => ?_, ?_, fun b hb => hb.elim (hm.new b) fun hb => .inr ⟨(hm.own _ _ b hi hb).1, hm.foe _ _ b hi hb⟩, hm.fb, fun i C b hc hb => by obtain ⟨D, hD, _⟩ := old i C hc; exact hm.foe i D b hD hb, anc_evo E hm.anc⟩
    · rcases hb with hb | hb
      · exact hm.bound b hb
      · exact (hm.own id _ b hi hb).2.1
    · by_cases he : i = id
      · subst he
        rw [hset_same] at hc; cases hc
        obtain ⟨inner, ho, hr⟩ := hm.rep _ _ hi
        exact ⟨inner, ho, hr.imp fun _ _ hK => K_step E.I E.keep hK⟩
      · rw [hset_ne _ _ he] at hc
        exact BlkRep.keep E rfl (fun _ _ => rfl) (hm.rep i C hc)
    · obtain ⟨D, hD, hDC⟩ := old i C hc
      obtain ⟨h1, h2, h3, h4⟩ := hm.own i D b hD hb
      refine ⟨h1, h2, fun hf hI => ?_, fun hf => ?_⟩
      · by_cases he : i = id
        · subst he; rw [hset_same] at hc; cases hc; simp [Blk.fro] at hf
        · have := hDC he; subst this
          rcases hI with hI | hI
          · exact h3 hf hI
          · exact he (hm.inj i id _ _ b hD hi hb hI)
      · by_cases he : i = id
        · subst he; exact .inr hb
        · have := hDC he; subst this; exact .inl (h4 hf)
    · obtain ⟨C', hC', _⟩ := old i C hc
      obtain ⟨D', hD', _⟩ := old j D hd
      exact hm.inj i j _ _ b hC' hD' hb hb'
    · exact (hm.glob g x hg).step (fun _ h => .inl h) (fun _ _ => rfl)
    · exact hm.le
/-- A variable that nobody writes any more. -/
theorem mem_frzbox {gl : GT} {n0 : Nat} {w : World} {G : Mem} {h : Hp} (hm : MemOK gl n0 w G h) {id : Nat} {cs : List CV} (hi : h id = some (.box cs)) :
    ∃ G', MemOK gl n0 w G' (hset h id (.fbox cs)) ∧ Evo w w G G' h (hset h id (.fbox cs)) ∧ G'.μ = G.μ := by
  have E : Evo w w G ⟨G.μ, fun b => G.I b ∨ blkOf (G.μ id) = some b, G.J⟩ h (hset h id (.fbox cs)) := by
    refine ⟨fun b hb => .inl hb, fun _ _ => rfl, fun i hc => ?_, fun i v f e' t' ys hr => ?_, rfl, fun i ks hk => ?_, fun _ _ => rfl⟩
    · obtain ⟨C, ds, hC, hcs⟩ := hc
      by_cases he : i = id
      · subst he; exact ⟨⟨_, cs, hset_same _ _ _, rfl⟩, rfl⟩
      · exact ⟨⟨C, ds, by rw [hset_ne _ _ he]; exact hC, hcs⟩, rfl⟩
    · by_cases he : i = id
      · subst he; rw [hi] at hr; cases hr
      · exact ⟨v, f, e', ys, by rw [hset_ne _ _ he]; exact hr, Nat.le_refl _, fun _ => ⟨rfl, rfl⟩⟩
    · by_cases he : i = id
      · subst he; rw [hi] at hk; cases hk
      · exact ⟨⟨ks, by rw [hset_ne _ _ he]; exact hk⟩, rfl⟩
  refine ⟨⟨G.μ, fun b => G.I b ∨ blkOf (G.μ id) = some b, G.J⟩, ?_, E, rfl⟩
  have old : ∀ i C, hset h id (.fbox cs) i = some C → ∃ D, h i = some D ∧ (i ≠ id → D = C) := fun i C hc => by
    by_cases he : i = id
    · subst he; exact ⟨_, hi, fun hne => absurd rfl hne⟩
    · rw [hset_ne _ _ he] at hc; exact ⟨C, hc, fun _ => rfl⟩
  refine ⟨fun b hb => ?_, fun i C hc => ?_, fun i C b hc hb => ?_, fun i j C D b hc hd hb hb' => ?_, fun g x hg => ?_, ?_, fun b hb => hb.elim (hm.new b) fun hb => .inr ⟨(hm.own _ _ b hi hb).1, hm.foe _ _ b hi hb⟩, hm.fb, fun i C b hc hb => by obtain ⟨D, hD, _⟩ := old i C hc; exact hm.foe i D b hD hb, anc_evo E hm.anc⟩
  · rcases hb with hb | hb
    · exact hm.bound b hb
    · exact (hm.own id _ b hi hb).2.1
  · by_cases he : i = id
    · subst he
      rw [hset_same] at hc; cases hc
      obtain ⟨b, e, l, h1, h2, h3, h4⟩ := hm.rep _ _ hi
      exact ⟨b, e, l, h1, h2, h3.imp fun _ _ hc => hc.evo E, h4⟩
    · rw [hset_ne _ _ he] at hc
      exact BlkRep.keep E rfl (fun _ _ => rfl) (hm.rep i C hc)
  · obtain ⟨D, hD, hDC⟩ := old i C hc
    obtain ⟨h1, h2, h3, h4⟩ := hm.own i D b hD hb
    refine ⟨h1, h2, fun hf hI => ?_, fun hf => ?_⟩
    · by_cases he : i = id
      · subst he; rw [hset_same] at hc; cases hc; simp [Blk.fro] at hf
      · have := hDC he; subst this
        rcases hI with hI | hI
        · exact h3 hf hI
        · exact he (hm.inj i id _ _ b hD hi hb hI)
    · by_cases he : i = id
      · subst he; exact .inr hb
      · have := hDC he; subst this; exact .inl (h4 hf)
  · obtain ⟨C', hC', _⟩ := old i C hc
    obtain ⟨D', hD', _⟩ := old j D hd
    exact hm.inj i j _ _ b hC' hD' hb hb'
  · exact (hm.glob g x hg).step (fun _ h => .inl h) (fun _ _ => rfl)
  · exact hm.le
/-- Many variables that nobody writes any more. -/
theorem mem_frzRest {gl : GT} {n0 : Nat} {w : World} {G : Mem} {h : Hp} (hm : MemOK gl n0 w G h) (ids : List Nat) :
    ∃ G', MemOK gl n0 w G' (frzRest ids h) ∧ Evo w w G G' h (frzRest ids h) ∧ G'.μ = G.μ := by
  let I' : Nat → Prop := fun b => G.I b ∨ ∃ id cs, h id = some (.box cs) ∧ frzRest ids h id = some (.fbox cs) ∧ blkOf (G.μ id) = some b
  have cases1 : ∀ i, (frzRest ids h i = h i) ∨ ∃ cs, h i = some (.box cs) ∧ frzRest ids h i = some (.fbox cs) := fun i => by
    unfold frzRest
    cases hi : h i with
    | none => exact .inl rfl
    | some B =>
      cases B with
      | box cs => cases hb : ids.any (Nat.beq i) with
        | true => exact .inl (by simp [hb])
        | false => exact .inr ⟨cs, rfl, by simp [hb]⟩
      | fbox => exact .inl rfl
      | row => exact .inl rfl
      | set => exact .inl rfl
  have E : Evo w w G ⟨G.μ, I', G.J⟩ h (frzRest ids h) := by
    refine ⟨fun b hb => .inl hb, fun _ _ => rfl, fun i hc => ?_, fun i v f e' t' ys hr => ?_, rfl, fun i ks hk => ?_, fun _ _ => rfl⟩
    · obtain ⟨C, ds, hC, hcs⟩ := hc
      rcases cases1 i with he | ⟨cs, h1, h2⟩
      · exact ⟨⟨C, ds, by rw [he]; exact hC, hcs⟩, rfl⟩
      · exact ⟨⟨_, cs, h2, rfl⟩, rfl⟩
    · rcases cases1 i with he | ⟨cs, h1, h2⟩
      · exact ⟨v, f, e', ys, by rw [he]; exact hr, Nat.le_refl _, fun _ => ⟨rfl, rfl⟩⟩
      · rw [h1] at hr; cases hr
    · rcases cases1 i with he | ⟨cs, h1, h2⟩
      · exact ⟨⟨ks, by rw [he]; exact hk⟩, rfl⟩
      · rw [h1] at hk; cases hk
  refine ⟨⟨G.μ, I', G.J⟩, ?_, E, rfl⟩
  have old : ∀ i C, frzRest ids h i = some C → ∃ D, h i = some D ∧ (D = C ∨ ∃ cs, D = .box cs ∧ C = .fbox cs) := fun i C hc => by
    rcases cases1 i with he | ⟨cs, h1, h2⟩
    · exact ⟨C, by rw [← he]; exact hc, .inl rfl⟩
    · rw [h2] at hc; cases hc; exact ⟨_, h1, .inr ⟨cs, rfl, rfl⟩⟩
  refine ⟨fun b hb => ?_, fun i C hc => ?_, fun i C b hc hb => ?_, fun i j C D b hc hd hb hb' => ?_, fun g x hg => ?_, ?_, fun b hb => hb.elim (hm.new b) fun ⟨i, cs, h1, _, h2⟩ => .inr ⟨(hm.own _ _ b h1 h2).1, hm.foe _ _ b h1 h2⟩, hm.fb, fun i C b hc hb => by obtain ⟨D, hD, _⟩ := old i C hc; exact hm.foe i D b hD hb, anc_evo E hm.anc⟩
  · rcases hb with hb | ⟨i, cs, h1, _, h2⟩
    · exact hm.bound b hb
    · exact (hm.own i _ b h1 h2).2.1
  · obtain ⟨D, hD, hDC⟩ := old i C hc
    rcases hDC with rfl | ⟨cs, rfl, rfl⟩
    · exact BlkRep.keep E rfl (fun _ _ => rfl) (hm.rep i D hD)
    · obtain ⟨b, e, l, h1, h2, h3, h4⟩ := hm.rep _ _ hD
      exact ⟨b, e, l, h1, h2, h3.imp fun _ _ hc => hc.evo E, h4⟩
  · obtain ⟨D, hD, hDC⟩ := old i C hc
    obtain ⟨h1, h2, h3, h4⟩ := hm.own i D b hD hb
    refine ⟨h1, h2, fun hf hI => ?_, fun hf => ?_⟩
    · rcases hDC with rfl | ⟨cs, rfl, rfl⟩
      · rcases hI with hI | ⟨j, cs, g1, g2, g3⟩
        · exact h3 hf hI
        · obtain rfl := hm.inj i j _ _ b hD g1 hb g3
          rw [hc] at g2; cases g2; cases hf
      · cases hf
    · rcases hDC with rfl | ⟨cs, rfl, rfl⟩
      · exact .inl (h4 hf)
      · exact .inr ⟨i, cs, hD, hc, hb⟩
  · obtain ⟨C', hC', _⟩ := old i C hc
    obtain ⟨D', hD', _⟩ := old j D hd
    exact hm.inj i j _ _ b hC' hD' hb hb'
  · exact (hm.glob g x hg).step (fun _ h => .inl h) (fun _ _ => rfl)
  · exact hm.le
theorem mem_frzBs {gl : GT} {n0 : Nat} {w : World} : ∀ (l : List CV) {G : Mem} {h : Hp}, MemOK gl n0 w G h → ∃ G', MemOK gl n0 w G' (effs h (frzB h l)) ∧ Evo w w G G' h (effs h (frzB h l)) ∧ G'.μ = G.μ
  | [], G, h, hm => ⟨G, hm, Evo.refl _ _ _, rfl⟩
  | c :: r, G, h, hm => by
    have skip : frzB h (c :: r) = frzB h r → ∃ G', MemOK gl n0 w G' (effs h (frzB h (c :: r))) ∧ Evo w w G G' h (effs h (frzB h (c :: r))) ∧ G'.μ = G.μ := fun he => by
      rw [he]; exact mem_frzBs r hm
    cases c <;> try exact skip rfl
    rename_i id off
    cases hi : h id with
    | none => exact skip (by simp only [frzB, hi])
    | some B =>
      cases B with
      | box cs =>
        obtain ⟨G1, m1, E1, e1⟩ := mem_frzbox hm hi
        obtain ⟨G2, m2, E2, e2⟩ := mem_frzBs r m1
        simp only [frzB, hi, effs]
        exact ⟨G2, m2, E1.trans E2, e2.trans e1⟩
      | fbox => exact skip (by simp only [frzB, hi])
      | set => exact skip (by simp only [frzB, hi])
      | row => exact skip (by simp only [frzB, hi])
/-- The blocks of some rows. -/
def OB (G : Mem) (ids : List Nat) (b : Nat) : Prop := ∃ i ∈ ids, blkOf (G.μ i) = some b
theorem effs_other : ∀ (l : List (Nat × Blk)) (h : Hp) (n : Nat), (∀ p ∈ l, p.1 ≠ n) → effs h l n = h n
  | [], _, _, _ => rfl
  | (id, b) :: r, h, n, hn => by
    simp only [effs]
    rw [effs_other r _ n (fun p hp => hn p (List.mem_cons_of_mem _ hp)), hset_ne _ _ (fun e => hn (id, b) List.mem_cons_self e.symm)]
theorem mem_freeze {gl : GT} {n0 : Nat} {w : World} {h0 : Hp} : ∀ (ids : List Nat) {G : Mem} {h : Hp}, MemOK gl n0 w G h →
    (∀ i, match h0 i, h i with | some (.row v _ e t xs), some (.row v' _ e' t' ys) => Blk.row v true e t xs = .row v' true e' t' ys | some (.row ..), _ => False | _, _ => True) →
    (∀ i C, h0 i = some C → (match C with | .row .. => ∃ D, h i = some D | _ => True)) →
    ∃ G', MemOK gl n0 w G' (effs h (freeze h0 ids)) ∧ Evo w w G G' h (effs h (freeze h0 ids)) ∧ G'.μ = G.μ ∧ (∀ b, G.I b → G'.I b) ∧ (∀ b, G'.I b → G.I b ∨ OB G ids b) ∧
      (∀ i ∈ ids, ∀ v f e t xs b, h0 i = some (.row v f e t xs) → blkOf (G.μ i) = some b → G'.I b)
  | [], G, h, hm, _, _ => ⟨G, hm, Evo.refl _ _ _, rfl, fun _ h => h, fun _ h => .inl h, fun _ h => by cases h⟩
  | i :: r, G, h, hm, hh, hh2 => by
    simp only [freeze]
    cases hi : h0 i with
    | none =>
      obtain ⟨G', a, b, c, d, e, f⟩ := mem_freeze r hm hh hh2
      refine ⟨G', a, b, c, d, fun k hk => (e k hk).imp id ?_, fun j hj v f' e' t xs k hr hk => ?_⟩
      · rintro ⟨j, hj, hk⟩; exact ⟨j, List.mem_cons_of_mem _ hj, hk⟩
      · rcases List.mem_cons.1 hj with rfl | hj
        · rw [hi] at hr; cases hr
        · exact f j hj v f' e' t xs k hr hk
    | some B =>
      cases B with
      | box cs =>
        obtain ⟨G', a, b, c, d, e, f⟩ := mem_freeze r hm hh hh2
        refine ⟨G', a, b, c, d, fun k hk => (e k hk).imp id ?_, fun j hj v f' e' t xs k hr hk => ?_⟩
        · rintro ⟨j, hj, hk⟩; exact ⟨j, List.mem_cons_of_mem _ hj, hk⟩
        · rcases List.mem_cons.1 hj with rfl | hj
          · rw [hi] at hr; cases hr
          · exact f j hj v f' e' t xs k hr hk
      | set cs =>
        obtain ⟨G', a, b, c, d, e, f⟩ := mem_freeze r hm hh hh2
        refine ⟨G', a, b, c, d, fun k hk => (e k hk).imp id ?_, fun j hj v f' e' t xs k hr hk => ?_⟩
        · rintro ⟨j, hj, hk⟩; exact ⟨j, List.mem_cons_of_mem _ hj, hk⟩
        · rcases List.mem_cons.1 hj with rfl | hj
          · rw [hi] at hr; cases hr
          · exact f j hj v f' e' t xs k hr hk
      | fbox cs =>
        obtain ⟨G', a, b, c, d, e, f⟩ := mem_freeze r hm hh hh2
        refine ⟨G', a, b, c, d, fun k hk => (e k hk).imp id ?_, fun j hj v f' e' t xs k hr hk => ?_⟩
        · rintro ⟨j, hj, hk⟩; exact ⟨j, List.mem_cons_of_mem _ hj, hk⟩
        · rcases List.mem_cons.1 hj with rfl | hj
          · rw [hi] at hr; cases hr
          · exact f j hj v f' e' t xs k hr hk
      | row v fro e t xs =>
        have h1 := hh i
        have h2 := hh2 i _ hi
        obtain ⟨D, hD⟩ := h2
        rw [hi, hD] at h1
        cases D with
        | box => exact h1.elim
        | fbox => exact h1.elim
        | set => exact h1.elim
        | row v' fro' e' t' ys =>
          simp only [Blk.row.injEq] at h1
          obtain ⟨rfl, _, rfl, rfl, h1⟩ := h1
          obtain rfl := eq_of_heq h1
          obtain ⟨G1, m1, E1, hμ, hI⟩ := mem_freeze1 hm hD
          have key : ∀ j, hset h i (.row v true e t xs) j = h j ∨ (j = i ∧ hset h i (.row v true e t xs) j = some (.row v true e t xs)) := fun j => by
            by_cases he : j = i
            · exact .inr ⟨he, by rw [he, hset_same]⟩
            · exact .inl (hset_ne _ _ he)
          obtain ⟨G', a, b, c, d, e2, f⟩ := mem_freeze r m1 (fun j => by
            rcases key j with hk | ⟨rfl, hk⟩
            · rw [hk]; exact hh j
            · rw [hk, hi]) (fun j C hj => by
            rcases key j with hk | ⟨rfl, hk⟩
            · rw [hk]; exact hh2 j C hj
            · rw [hk]; cases C <;> first | trivial | exact ⟨_, rfl⟩)
          refine ⟨G', a, E1.trans b, c.trans hμ, fun k hk => d k ((hI k).2 (.inl hk)), fun k hk => ?_, fun j hj v' f' e' t' zs k hr hk => ?_⟩
          · rcases e2 k hk with hk | ⟨j, hj, hk⟩
            · rcases (hI k).1 hk with hk | hk
              · exact .inl hk
              · exact .inr ⟨i, List.mem_cons_self, hk⟩
            · rw [hμ] at hk; exact .inr ⟨j, List.mem_cons_of_mem _ hj, hk⟩
          · rcases List.mem_cons.1 hj with rfl | hj
            · exact d k ((hI k).2 (.inr hk))
            · exact f j hj v' f' e' t' zs k hr (by rw [hμ]; exact hk)
/-- A row of the call's own, read as data. -/
theorem row_K {w : World} {J : Nat → Prop} {e : TypeId} {t : Ty} {v : Value} {xs : List t.den} {inner : List Value} (ho : w.ownsRow 0 e t.sz v (List.length xs) inner) (hr : Reps (K w J t) xs inner) (hJ : ∀ b, blkOf v = some b → J b) : K w J (.list t) xs [v] := by
  rcases ho.2 with ⟨rfl, hn⟩ | ⟨g, cap, cur, rfl, _, hg, hle, hcm, hcs, htake⟩
  · have : xs = [] := List.eq_nil_of_length_eq_zero hn
    subst this
    exact ⟨none, 0, rfl, Nat.le_refl _, by simp, .inl rfl⟩
  · refine ⟨some ⟨g, 0, none⟩, cap, rfl, hle, hcm, .inr ⟨_, rfl, ⟨hJ g rfl, rfl⟩, fun j x hx => ?_⟩⟩
    obtain ⟨p, c, q, hc, hp, hK, _⟩ := Reps.get (fun _ _ h => K_len h) hr hx
    refine ⟨c, hK, fun i u hu => ?_⟩
    rw [add_add, add_mk]
    have hlt := (List.getElem?_eq_some_iff.1 hu).1
    have hcl := K_len hK
    have e1 : inner[j * t.sz + i]? = some u := by
      rw [hc, List.append_assoc, List.getElem?_append_right (by omega), hp, Nat.add_sub_cancel_left, List.getElem?_append_left hlt]; exact hu
    rw [cell_of_row w g _ cur e (0, 0) hg]
    rw [← htake, List.getElem?_take] at e1
    split at e1
    · simpa using e1
    · cases e1
theorem castTo_ok {a b : Ty} {x : a.den} {y : b.den} (h : castTo b x = some y) : ∃ e : a = b, e ▸ x = y := by
  unfold castTo at h
  split at h
  · rename_i hb; exact ⟨Ty.beq_eq hb, Option.some.inj h⟩
  · cases h
theorem castTo_eq {a : Ty} {b : Ty} {x : a.den} {y : b.den} (h : castTo b x = some y) : a = b ∧ HEq x y := by
  obtain ⟨e, h⟩ := castTo_ok h
  subst e
  exact ⟨rfl, heq_of_eq h⟩
theorem owns_mono {cs : List CV} {c : CV} {i : Nat} (h : i ∈ owns cs) : i ∈ owns (c :: cs) := by
  cases c <;> simp [owns, h]
theorem fnGet_ok {w : World} {G : Mem} {h : Hp} {f : Nat} {gs : List (Bool × Nat)} {t : Ty} {c : CV} {v : Value} {y : t.den} (hc : CellRep w G h c v) (hy : fnGet f gs t c = some y) : K w G.I (.fn f gs t) y [v] := by
  unfold fnGet at hy
  split at hy
  · obtain ⟨e, hxy⟩ := castTo_eq hy
    cases e
    obtain rfl := eq_of_heq hxy
    exact hc
  · split at hy
    · rename_i g _
      cases hb : Nat.beq f g with
      | false => rw [hb] at hy; cases hy
      | true =>
        obtain rfl := nbeq hb
        refine ⟨[], [], ?_, ⟨rfl, rfl⟩, .inl rfl⟩
        rw [hc.1]
    · cases hy
  · cases hy
/-- Cells read as data: they are. -/
theorem toTy_ok {gl : GT} {n0 : Nat} {w : World} {G : Mem} {h : Hp} (hm : MemOK gl n0 w G h) : ∀ {t : Ty} {cs : List CV} {vs : List Value} {x : t.den} {r : List CV}, L2 (CellRep w G h) cs vs → toTy h t cs = some (x, r) →
    ∃ c1 v1 v2, cs = c1 ++ r ∧ vs = v1 ++ v2 ∧ L2 (CellRep w G h) c1 v1 ∧ L2 (CellRep w G h) r v2 ∧ K w (fun b => G.I b ∨ OB G (owns c1) b) t x v1
  | .int k, .i j y :: r', v :: vs, x, r, hl, ht => by
    simp only [toTy] at ht
    split at ht
    · rename_i hk
      cases ht
      obtain rfl := kbeq_eq hk
      exact ⟨[_], [v], vs, rfl, rfl, ⟨hl.1, trivial⟩, hl.2, by have := hl.1; simp only [CellRep] at this; simp [K, this]⟩
    · cases ht
  | .bool, .b y :: r', v :: vs, x, r, hl, ht => by
    simp only [toTy] at ht; cases ht
    exact ⟨[_], [v], vs, rfl, rfl, ⟨hl.1, trivial⟩, hl.2, by have := hl.1; simp only [CellRep] at this; simp [K, this]⟩
  | .bool, .p y d :: r', v :: vs, x, r, hl, ht => by
    simp only [toTy] at ht; cases ht
    exact ⟨[_], [v], vs, rfl, rfl, ⟨hl.1, trivial⟩, hl.2, by have := hl.1; simp only [CellRep] at this; simp [K, this]⟩
  | .bool, .q y d :: r', v :: vs, x, r, hl, ht => by
    simp only [toTy] at ht; cases ht
    exact ⟨[_], [v], vs, rfl, rfl, ⟨hl.1, trivial⟩, hl.2, by have := hl.1; simp only [CellRep] at this; simp [K, this]⟩
  | .str, .s y :: r', v :: vs, x, r, hl, ht => by
    simp only [toTy] at ht; cases ht
    exact ⟨[_], [v], vs, rfl, rfl, ⟨hl.1, trivial⟩, hl.2, by have := hl.1; simp only [CellRep] at this; simp [K, this]⟩
  | .list t, .l u xs :: r', v :: vs, x, r, hl, ht => by
    simp only [toTy] at ht
    obtain ⟨y, hy, ht⟩ := Option.bind_eq_some_iff.1 ht
    cases ht
    exact ⟨[_], [v], vs, rfl, rfl, ⟨hl.1, trivial⟩, hl.2, K_step (fun _ hb => .inl hb) (fun _ _ => rfl) (listTo_K hy hl.1)⟩
  | .list t, .nl :: r', v :: vs, x, r, hl, ht => by
    simp only [toTy] at ht; cases ht
    refine ⟨[_], [v], vs, rfl, rfl, ⟨hl.1, trivial⟩, hl.2, ?_⟩
    have := hl.1; simp only [CellRep] at this; subst this
    exact ⟨none, 0, rfl, Nat.le_refl _, by simp, .inl rfl⟩
  | .list t, .own id ver :: r', v :: vs, x, r, hl, ht => by
    simp only [toTy] at ht
    split at ht
    · rename_i vv f e u xs hi
      cases hb : Nat.beq vv ver with
      | false => rw [hb] at ht; simp at ht
      | true =>
        rw [hb] at ht
        simp only [cond_true] at ht
        obtain ⟨y, hy, ht⟩ := Option.bind_eq_some_iff.1 ht
        cases ht
        obtain ⟨e', hxy⟩ := castTo_eq hy
        cases e'
        obtain rfl := eq_of_heq hxy
        refine ⟨[_], [v], vs, rfl, rfl, ⟨hl.1, trivial⟩, hl.2, ?_⟩
        obtain ⟨_, cur, fro, e2, t2, xs2, hh, hle, hv⟩ := hl.1
        rw [hi] at hh
        cases hh
        have hvv := nbeq hb
        rw [hv hvv.symm]
        obtain ⟨inner, ho, hr⟩ := hm.rep _ _ hi
        exact row_K ho (hr.imp fun _ _ hK => K_step (fun _ hb => .inl hb) (fun _ _ => rfl) hK) (fun b hb => .inr ⟨id, by simp [owns], hb⟩)
    · cases ht
  | .prod a b, cs, vs, x, r, hl, ht => by
    simp only [toTy] at ht
    obtain ⟨p, hp, ht⟩ := Option.bind_eq_some_iff.1 ht
    obtain ⟨q, hq, ht⟩ := Option.bind_eq_some_iff.1 ht
    cases ht
    obtain ⟨c1, v1, v2, hc, hv, hL, hL2, hK⟩ := toTy_ok hm hl hp
    obtain ⟨c3, v3, v4, hc', hv', hL', hL2', hK'⟩ := toTy_ok hm hL2 hq
    have sub1 : ∀ i, i ∈ owns c1 → i ∈ owns (c1 ++ c3) := fun i hi => by
      clear hc hL hK hL2 hc' hv hp hl
      induction c1 with
      | nil => cases hi
      | cons c c1 ih => cases c <;> simp only [owns, List.cons_append, List.mem_cons] at hi ⊢ <;> first | exact ih hi | (rcases hi with hi | hi; exact .inl hi; exact .inr (ih hi))
    have sub2 : ∀ i, i ∈ owns c3 → i ∈ owns (c1 ++ c3) := fun i hi => by
      clear hc hL hK hL2 hc' hv hp hl sub1
      induction c1 with
      | nil => exact hi
      | cons c c1 ih => exact owns_mono ih
    refine ⟨c1 ++ c3, v1 ++ v3, v4, by rw [hc, hc', List.append_assoc], by rw [hv, hv', List.append_assoc], hL.app hL', hL2', v1, v3, rfl, ?_, ?_⟩
    · exact K_step (fun _ hb => hb.imp id fun ⟨i, hi, h⟩ => ⟨i, sub1 i hi, h⟩) (fun _ _ => rfl) hK
    · exact K_step (fun _ hb => hb.imp id fun ⟨i, hi, h⟩ => ⟨i, sub2 i hi, h⟩) (fun _ _ => rfl) hK'
  | .fn f gs t, c :: r', v :: vs, x, r, hl, ht => by
    simp only [toTy] at ht
    obtain ⟨y, hy, ht⟩ := Option.bind_eq_some_iff.1 ht
    cases ht
    exact ⟨[_], [v], vs, rfl, rfl, ⟨hl.1, trivial⟩, hl.2, K_step (fun _ hb => .inl hb) (fun _ _ => rfl) (fnGet_ok hl.1 hy)⟩
  | .fz, .nf :: r', v :: vs, x, r, hl, ht => by
    simp only [toTy] at ht; cases ht
    exact ⟨[_], [v], vs, rfl, rfl, ⟨hl.1, trivial⟩, hl.2, by have := hl.1; simp only [CellRep] at this; simp [K, this]⟩
  | .nl, .nl :: r', v :: vs, x, r, hl, ht => by
    simp only [toTy] at ht; cases ht
    exact ⟨[_], [v], vs, rfl, rfl, ⟨hl.1, trivial⟩, hl.2, by have := hl.1; simp only [CellRep] at this; simp [K, this]⟩
  | .list t, .d u y :: r', v :: vs, x, r, hl, ht => by
    simp only [toTy] at ht
    obtain ⟨y, hy, ht⟩ := Option.bind_eq_some_iff.1 ht
    cases ht
    obtain ⟨e, hxy⟩ := castTo_eq hy
    cases e
    obtain rfl := eq_of_heq hxy
    exact ⟨[_], [v], vs, rfl, rfl, ⟨hl.1, trivial⟩, hl.2, K_step (fun _ hb => .inl hb) (fun _ _ => rfl) (K_rl_list hl.1)⟩
  | .rl t, .d u y :: r', v :: vs, x, r, hl, ht => by
    simp only [toTy] at ht
    obtain ⟨y, hy, ht⟩ := Option.bind_eq_some_iff.1 ht
    cases ht
    obtain ⟨e, hxy⟩ := castTo_eq hy
    cases e
    obtain rfl := eq_of_heq hxy
    exact ⟨[_], [v], vs, rfl, rfl, ⟨hl.1, trivial⟩, hl.2, K_step (fun _ hb => .inl hb) (fun _ _ => rfl) hl.1⟩
  | .ref t, .eptr u y off :: r', v :: vs, x, r, hl, ht => by
    simp only [toTy] at ht
    cases hb : Nat.beq off 0 with
    | false => rw [hb] at ht; cases ht
    | true =>
      rw [hb] at ht
      obtain rfl := nbeq hb
      obtain ⟨y, hy, ht⟩ := Option.bind_eq_some_iff.1 ht
      cases ht
      obtain ⟨e, hxy⟩ := castTo_eq hy
      cases e
      obtain rfl := eq_of_heq hxy
      refine ⟨[_], [v], vs, rfl, rfl, ⟨hl.1, trivial⟩, hl.2, ?_⟩
      obtain ⟨a, d, hv, hI, hK, hA⟩ := hl.1
      exact ⟨a, d, by rw [hv, add_zero], .inl hI, K_step (fun _ hb => .inl hb) (fun _ _ => rfl) hK, hA⟩
  | .ref t, .ptr id off :: r', v :: vs, x, r, hl, ht => by
    simp only [toTy] at ht
    cases hb : Nat.beq off 0 with
    | false => rw [hb] at ht; cases ht
    | true =>
      rw [hb] at ht
      obtain rfl := nbeq hb
      simp only [cond_true] at ht
      split at ht
      · rename_i cs hi
        cases ho : calm cs with
        | false => rw [ho] at ht; cases ht
        | true =>
          rw [ho] at ht
          obtain ⟨q, hq, ht⟩ := Option.bind_eq_some_iff.1 ht
          split at ht
          · rename_i hq2
            cases ht
            refine ⟨[_], [v], vs, rfl, rfl, ⟨hl.1, trivial⟩, hl.2, ?_⟩
            obtain ⟨b, hB, hμ, hv⟩ := hl.1
            obtain ⟨b', e, l, hμ', hg, hL, _⟩ := hm.rep _ _ hi
            rw [hμ] at hμ'
            simp only [Value.pointer.injEq, Option.some.injEq, Addr.mk.injEq, and_true] at hμ'
            subst hμ'
            obtain ⟨c1, v1, v2, e1, e2, h1, h2, hK⟩ := toTy_ok hm hL (by rw [show q = (q.1, q.2) from rfl] at hq; exact hq)
            rw [hq2] at e1 h2
            have hv2 : v2 = [] := by cases v2 with | nil => rfl | cons => exact h2.elim
            subst hv2
            simp only [List.append_nil] at e1 e2
            subst e1; subst e2
            refine ⟨⟨b, 0, none⟩, l, by rw [hv], .inl ((hm.own _ _ b hi (by rw [hμ]; rfl)).2.2.2 rfl), K_step (fun k hk => ?_) (fun _ _ => rfl) hK, fun i u hu => ?_⟩
            · rcases hk with hk | ⟨i, hi', _⟩
              · exact .inl hk
              · rw [calm_owns ho] at hi'; cases hi'
            · rw [add_mk, cell_of_row w b (0 + i) l.toArray e (0, 0) hg]
              simpa using hu
          · cases ht
      · cases ht
  | .alt (.fn f gs t) b, c :: r', v :: vs, x, r, hl, ht => by
    simp only [toTy] at ht
    split at ht
    · rename_i y hy
      cases ht
      refine ⟨[_], [v], vs, rfl, rfl, ⟨hl.1, trivial⟩, hl.2, ?_⟩
      unfold altGet at hy
      split at hy
      · obtain ⟨e, hxy⟩ := castTo_eq hy
        cases e
        obtain rfl := eq_of_heq hxy
        exact K_step (fun _ hb => .inl hb) (fun _ _ => rfl) hl.1
      · cases hy
    · split at ht
      · rename_i y hy
        cases ht
        exact ⟨[c], [v], vs, rfl, rfl, ⟨hl.1, trivial⟩, hl.2, ⟨v, rfl⟩, K_step (fun _ hb => .inl hb) (fun _ _ => rfl) (fnGet_ok hl.1 hy)⟩
      · obtain ⟨q, hq, ht⟩ := Option.bind_eq_some_iff.1 ht
        split at ht
        · rename_i hq2
          cases ht
          obtain ⟨c1, v1, v2, e1, e2, h1, h2, hK⟩ := toTy_ok hm (cs := [c]) (vs := [v]) ⟨hl.1, trivial⟩ (by rw [show q = (q.1, q.2) from rfl] at hq; exact hq)
          rw [hq2] at e1 h2
          have hv2 : v2 = [] := by cases v2 with | nil => rfl | cons => exact h2.elim
          subst hv2
          simp only [List.append_nil] at e1 e2
          refine ⟨[c], [v], vs, rfl, rfl, ⟨hl.1, trivial⟩, hl.2, ⟨v, rfl⟩, ?_⟩
          rw [e1, e2]; exact hK
        · cases ht
  | .int _, .b _ :: _, _, _, _, _, ht => by simp [toTy] at ht
  | .int _, .p _ _ :: _, _, _, _, _, ht => by simp [toTy] at ht
  | .int _, .q _ _ :: _, _, _, _, _, ht => by simp [toTy] at ht
end Go.Den
