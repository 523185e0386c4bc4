/-
  strings.Builder: WriteString and String, at a box of the call's own.
-/
import Derived.Test.YtbjkfkifkglplaaGreatDoorD3j
import Derived.Test.YtbjkfkifkglplaaGreatDoorD3n
set_option linter.unusedSectionVars false
set_option linter.unusedVariables false
set_option linter.unusedSimpArgs false
namespace Go.Den
open Go Go.RowKit
section
variable {P : Program} {gl : GT} {n0 : Nat} {w : World} {G : Mem} {h : Hp}
theorem bldWrite_val {q : BldC} {d : Nat} {args : List SV} {cs : List Cnd} {v : SV} {e : List (Nat × Blk)} (hx : bldWrite q h d args = some (.val cs v e)) : False := by
  unfold bldWrite at hx
  split at hx
  · split at hx
    · replace hx := (bifs hx).2
      split at hx
      · replace hx := (bifs hx).2
        cases hx
      · split at hx
        · replace hx := (bifs hx).2
          cases hx
        · cases hx
      · cases hx
    · cases hx
  · cases hx
theorem bldString_val {q : BldC} {args : List SV} {cs : List Cnd} {v : SV} {e : List (Nat × Blk)} (hx : bldString q h args = some (.val cs v e)) : False := by
  unfold bldString at hx
  split at hx
  · split at hx
    · replace hx := (bifs hx).2
      split at hx
      · cases hx
      · split at hx
        · replace hx := (bifs hx).2
          cases hx
        · cases hx
      · cases hx
    · cases hx
  · cases hx
theorem K_bytes (w : World) (I : Nat → Prop) : ∀ l : List Int, Reps (K w I (.int .u8)) l (l.map (Value.int .u8))
  | [] => rfl
  | x :: t => ⟨[.int .u8 x], _, rfl, rfl, K_bytes w I t⟩
theorem bytes_of_K {w : World} {I : Nat → Prop} : ∀ {l : List Int} {cs : List Value}, Reps (K w I (.int .u8)) l cs → cs = l.map (Value.int .u8)
  | [], _, h => h
  | x :: t, _, ⟨c, d, h, h1, h2⟩ => by
    have h1 : c = [.int .u8 x] := h1
    rw [h, h1, bytes_of_K h2]; rfl
/-- A world with one block as it was. -/
def asWas (w w' : World) (b : Nat) : World := match w.heap[b]? with | some o => { w' with heap := w'.heap.setIfInBounds b o } | none => w'
theorem asWas_get {w w' : World} {b : Nat} {o : Obj} (hb : w.heap[b]? = some o) (hs : w.heap.size ≤ w'.heap.size) (k : Nat) : (asWas w w' b).heap[k]? = if k = b then w.heap[b]? else w'.heap[k]? := by
  have hlt := (Array.getElem?_eq_some_iff.1 hb).1
  unfold asWas
  rw [hb]
  simp only [Array.getElem?_setIfInBounds]
  by_cases e : b = k
  · subst e
    rw [if_pos rfl, if_pos rfl, if_pos (by omega)]
  · rw [if_neg e, if_neg fun h => e h.symm]
theorem asWas_size {w w' : World} {b : Nat} : (asWas w w' b).heap.size = w'.heap.size := by
  unfold asWas
  split <;> simp
theorem ownsRow_block {w w' : World} {e : TypeId} {sz n : Nat} {v : Value} {inner : List Value} (h : w.ownsRow 0 e sz v n inner) (hk : ∀ b, blkOf v = some b → w'.heap[b]? = w.heap[b]?) : w'.ownsRow 0 e sz v n inner := by
  refine ⟨h.1, h.2.imp id ?_⟩
  rintro ⟨g, cap, cur, h1, h2, h3, r⟩
  exact ⟨g, cap, cur, h1, h2, (hk g (by rw [h1]; rfl)).trans h3, r⟩
theorem ownsRow_lt {w : World} {e : TypeId} {sz n : Nat} {v : Value} {inner : List Value} (h : w.ownsRow 0 e sz v n inner) : ∀ b, blkOf v = some b → b < w.heap.size := fun b hb => by
  rcases h.2 with ⟨rfl, _⟩ | ⟨g, cap, cur, rfl, _, h3, _⟩
  · cases hb
  · simp only [blkOf, Option.some.injEq] at hb; subst hb; exact (Array.getElem?_eq_some_iff.1 h3).1
/-- The row and the box behind a write. -/
theorem mem_write (hm : MemOK gl n0 w G h) {id rid : Nat} {q : BldC} {T : TypeId} {c : CV} {rest : List CV} {lr : List Value} (hrest : L2 (CellRep w G h) rest lr) {ver : Nat} {xs : List Int} {w' : World} {b : Nat} {v v' : Value}
    (hid : h id = some (.box (.sq T id :: c :: rest))) (hμ : G.μ id = .pointer (some ⟨b, 0, none⟩)) (hne : id ≠ rid)
    (hrow : (h rid = none ∧ blkOf v = none) ∨ ∃ old ys, h rid = some (.row old false q.e (.int .u8) ys) ∧ old < ver ∧ v = G.μ rid)
    (hb' : w'.heap[b]? = some (.cells (.pointer (some ⟨b, 0, none⟩) :: v' :: lr).toArray T (0, 0))) (ho : w'.ownsRow 0 q.e 1 v' xs.length (xs.map (Value.int .u8)))
    (hv' : blkOf v' = none ∨ blkOf v' = blkOf v ∨ ∃ g, blkOf v' = some g ∧ w.heap.size ≤ g) (hk : ∀ k, k < w.heap.size → k ≠ b → blkOf v ≠ some k → w'.heap[k]? = w.heap[k]?) (B : Below 0 w w') :
    ∃ G', MemOK gl n0 w' G' (hset (hset h rid (.row ver false q.e (.int .u8) xs)) id (.box (.sq T id :: .own rid ver :: rest))) ∧ Evo w w' G G' h (hset (hset h rid (.row ver false q.e (.int .u8) xs)) id (.box (.sq T id :: .own rid ver :: rest))) ∧ Below n0 w w' := by
  obtain ⟨b0, e0, l0, p1, p2, p3, p4⟩ := hm.rep _ _ hid
  rw [hμ] at p1
  simp only [Value.pointer.injEq, Option.some.injEq, Addr.mk.injEq, and_true] at p1
  subst p1
  have hblk : blkOf (G.μ id) = some b := by rw [hμ]; rfl
  obtain ⟨o1, o2, o3, _⟩ := hm.own id _ b hid hblk
  have hsz := B.size
  -- what v's block is
  have hvb : ∀ k, blkOf v = some k → ∃ old ys, h rid = some (.row old false q.e (.int .u8) ys) ∧ blkOf (G.μ rid) = some k := fun k hk => by
    rcases hrow with ⟨_, h2⟩ | ⟨old, ys, h1, _, h3⟩
    · rw [h2] at hk; cases hk
    · exact ⟨old, ys, h1, by rw [← h3]; exact hk⟩
  have hvne : ∀ i C k, i ≠ rid → h i = some C → blkOf (G.μ i) = some k → blkOf v ≠ some k := fun i C k hne hi hb hv => by
    obtain ⟨old, ys, h1, h2⟩ := hvb k hv
    exact hne (hm.inj i rid _ _ k hi h1 hb h2)
  have hvI : ∀ k, G.I k → blkOf v ≠ some k := fun k hI hv => by
    obtain ⟨old, ys, h1, h2⟩ := hvb k hv
    exact (hm.own rid _ k h1 h2).2.2.1 rfl hI
  have hIb : ∀ k, G.I k → k ≠ b := fun k hI e => o3 rfl (e ▸ hI)
  have hkeep : ∀ k, k < w.heap.size → blkOf v ≠ some k → (asWas w w' b).heap[k]? = w.heap[k]? := fun k hlt hv => by
    rw [asWas_get p2 hsz]
    by_cases e : k = b
    · rw [if_pos e, e]
    · rw [if_neg e]; exact hk k hlt e hv
  have hvbne : blkOf v' ≠ some b := fun he => by
    rcases hv' with h1 | h1 | ⟨g, h1, h2⟩
    · rw [h1] at he; cases he
    · rw [h1] at he; exact hvne id _ b hne hid hblk he
    · rw [h1] at he; cases he; omega
  have ho1 : (asWas w w' b).ownsRow 0 q.e 1 v' xs.length (xs.map (Value.int .u8)) := ownsRow_block ho fun k hkb => by
    rw [asWas_get p2 hsz, if_neg (fun e => hvbne (by rw [hkb, e]))]
  have hI1 : ∀ k, G.I k → (asWas w w' b).heap[k]? = w.heap[k]? := fun k hI => hkeep k (hm.bound k hI) (hvI k hI)
  have hfol : ∀ C, h rid = some C → Follows C (.row ver false q.e (.int .u8) xs) (G.μ rid) v' := fun C hC => by
    rcases hrow with ⟨h1, _⟩ | ⟨old, ys, h1, h2, _⟩
    · rw [h1] at hC; cases hC
    · rw [h1] at hC; cases hC; exact ⟨rfl, Nat.le_of_lt h2, fun e => by omega⟩
  obtain ⟨m1, E1⟩ := mem_set hm (id := rid) (B := .row ver false q.e (.int .u8) xs) (v0 := v') hI1 (fun k hF => ⟨hkeep k (hm.fb k hF) (fun hv => by
      obtain ⟨old, ys, g1, g2⟩ := hvb k hv
      exact hm.foe rid _ k g1 g2 hF), fun he => by
      rcases hv' with h1 | h1 | ⟨g, h1, h2⟩
      · rw [h1] at he; cases he
      · rw [h1] at he
        obtain ⟨old, ys, g1, g2⟩ := hvb k he
        exact hm.foe rid _ k g1 g2 hF
      · rw [h1] at he; cases he; have := hm.fb _ hF; omega⟩) (fun i C k hne hi hb => hkeep k (hm.own i C k hi hb).2.1 (hvne i C k hne hi hb)) (by rw [asWas_size]; exact hsz) hfol
    ⟨_, by rw [Mem.set_same]; exact ho1, K_bytes _ _ xs⟩
    (fun k hkb => by
      have hlt := ownsRow_lt ho1 k hkb
      rcases hv' with h1 | h1 | ⟨g, h1, h2⟩
      · rw [h1] at hkb; cases hkb
      · rw [h1] at hkb
        obtain ⟨old, ys, g1, g2⟩ := hvb k hkb
        obtain ⟨q1, q2, q3, _⟩ := hm.own rid _ k g1 g2
        exact ⟨q1, hlt, fun _ => q3 rfl, fun hf => by simp [Blk.fro] at hf, fun i C hne hi hb => hvne i C k hne hi hb hkb⟩
      · rw [h1] at hkb; cases hkb
        exact ⟨Nat.le_trans hm.le h2, hlt, fun _ hI => by have := hm.bound _ hI; omega, fun hf => by simp [Blk.fro] at hf, fun i C _ hi hb => by have := (hm.own i C _ hi hb).2.1; omega⟩)
  have hid1 : hset h rid (.row ver false q.e (.int .u8) xs) id = some (.box (.sq T id :: c :: rest)) := by rw [hset_ne _ _ hne]; exact hid
  have hμ1 : (G.set rid v').μ id = .pointer (some ⟨b, 0, none⟩) := by rw [Mem.set_ne _ _ hne]; exact hμ
  have hk2 : ∀ k, k ≠ b → w'.heap[k]? = (asWas w w' b).heap[k]? := fun k hkb => by rw [asWas_get p2 hsz, if_neg hkb]
  have hI2 : ∀ k, (G.set rid v').I k → w'.heap[k]? = (asWas w w' b).heap[k]? := fun k hI => hk2 k (hIb k hI)
  have hF2 : ∀ k, (G.set rid v').J 1 k → w'.heap[k]? = (asWas w w' b).heap[k]? := fun k hF => hk2 k (fun e => hm.foe id _ b hid (by rw [hμ]; rfl) (e ▸ hF))
  have hE2 := evo_set (h := hset h rid (.row ver false q.e (.int .u8) xs)) (id := id) (B := .box (.sq T id :: .own rid ver :: rest)) (v0 := (G.set rid v').μ id) hI2 hF2 (fun C hC => by rw [hid1] at hC; cases hC; rfl)
  have hrid : hset (hset h rid (.row ver false q.e (.int .u8) xs)) id (.box (.sq T id :: .own rid ver :: rest)) rid = some (.row ver false q.e (.int .u8) xs) := by rw [hset_ne _ _ (fun e => hne e.symm), hset_same]
  obtain ⟨m2, E2⟩ := mem_set m1 (id := id) (B := .box (.sq T id :: .own rid ver :: rest)) (v0 := (G.set rid v').μ id) hI2 (fun k hF => ⟨hF2 k hF, fun he => by rw [hμ1] at he; cases he; exact hm.foe id _ b hid (by rw [hμ]; rfl) hF⟩)
    (fun i C k hne' hi hb => hk2 k fun e => by
      subst e
      exact hne' (m1.inj i id _ _ k hi hid1 hb (by rw [hμ1]; rfl))) (by rw [asWas_size]; exact Nat.le_refl _) (fun C hC => by rw [hid1] at hC; cases hC; rfl)
    ⟨b, T, .pointer (some ⟨b, 0, none⟩) :: v' :: lr, by rw [Mem.set_same]; exact hμ1, hb', ⟨⟨b, ⟨_, _, hset_same _ _ _, rfl⟩, by rw [Mem.set_same]; exact hμ1, .inr rfl⟩, ⟨by
        rcases ho.2 with ⟨rfl, _⟩ | ⟨g, cap, cur, rfl, _⟩ <;> rfl, ver, false, q.e, .int .u8, xs, hrid, Nat.le_refl _, fun _ => by rw [Mem.set_ne _ _ (fun e => hne e.symm), Mem.set_same]⟩, hrest.imp fun _ _ hc => hc.evo (E1.trans hE2)⟩, rfl⟩
    (fun k hkb => by
      rw [hμ1] at hkb
      cases hkb
      exact ⟨o1, Nat.lt_of_lt_of_le o2 hsz, fun _ => o3 rfl, fun hf => by simp [Blk.fro] at hf, fun i C hne' hi hb => hne' (m1.inj i id _ _ b hi hid1 hb (by rw [hμ1]; rfl))⟩)
  exact ⟨_, m2, E1.trans E2, ⟨B.os, B.tape, B.output, B.size, fun k hk0 => hk k (Nat.lt_of_lt_of_le hk0 hm.le) (fun e => by omega) fun hv => by
    obtain ⟨old, ys, g1, g2⟩ := hvb k hv
    have := (hm.own rid _ k g1 g2).1
    omega⟩⟩
/-- The row behind a reading: it is gone. -/
theorem mem_read (hm : MemOK gl n0 w G h) {rid : Nat} {e : TypeId} {ver : Nat} {xs : List Int} {w' : World} (hr : h rid = some (.row ver false e (.int .u8) xs))
    (hk : ∀ k, k < w.heap.size → blkOf (G.μ rid) ≠ some k → w'.heap[k]? = w.heap[k]?) (B : Below 0 w w') :
    ∃ G', MemOK gl n0 w' G' (hset h rid (.row (ver + 1) false e (.int .u8) [])) ∧ Evo w w' G G' h (hset h rid (.row (ver + 1) false e (.int .u8) [])) ∧ Below n0 w w' := by
  have hne : ∀ i C k, i ≠ rid → h i = some C → blkOf (G.μ i) = some k → blkOf (G.μ rid) ≠ some k := fun i C k hne hi hb hv => hne (hm.inj i rid _ _ k hi hr hb hv)
  obtain ⟨m1, E1⟩ := mem_set hm (id := rid) (B := .row (ver + 1) false e (.int .u8) []) (v0 := .slice none 0 0) (fun k hI => hk k (hm.bound k hI) fun hv => (hm.own rid _ k hr hv).2.2.1 rfl hI) (fun k hF => ⟨hk k (hm.fb k hF) (fun hv => hm.foe rid _ k hr hv hF), fun he => by cases he⟩)
    (fun i C k hn hi hb => hk k (hm.own i C k hi hb).2.1 (hne i C k hn hi hb)) B.size (fun C hC => by rw [hr] at hC; cases hC; exact ⟨rfl, Nat.le_succ _, fun e => by omega⟩)
    ⟨[], by rw [Mem.set_same]; exact ⟨rfl, .inl ⟨rfl, rfl⟩⟩, rfl⟩ (fun k hkb => by cases hkb)
  exact ⟨_, m1, E1, ⟨B.os, B.tape, B.output, B.size, fun k hk0 => hk k (Nat.lt_of_lt_of_le hk0 hm.le) fun hv => by have := (hm.own rid _ k hr hv).1; omega⟩⟩
end
end Go.Den
