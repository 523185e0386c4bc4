/-
  What one operation does in the model: blocks made and written.
-/
import Derived.Test.YtkmleeeekbdomaaGreatDoorD3d
set_option linter.unusedSectionVars false
set_option linter.unusedVariables false
set_option linter.unusedSimpArgs false
namespace Go.Den
open Go Go.RowKit
section
variable {P : Program} {gl : GT} {n0 : Nat} {o : Oper} {a : Act} {w : World} {G : Mem} {h : Hp}
theorem cells_one {u : Value} (hu : u.oneCell' = true) : u.cells = #[u] := by cases u <;> simp_all [Value.cells, Value.oneCell']
theorem cells_ok {sv : SV} {u : Value} {cs : List CV} (hs : SVRep w G h sv u) (hc : sv.cells = some cs) : ∃ l : List Value, u.cells = l.toArray ∧ L2 (CellRep w G h) cs l := by
  cases sv <;> simp only [SV.cells] at hc <;> cases hc
  · exact ⟨[u], by rw [cells_one (CellRep.oneCell hs)], hs, trivial⟩
  · obtain ⟨l, rfl, hl⟩ := hs; exact ⟨l, by simp [Value.cells], hl⟩
theorem L2_one {cs : List CV} {l : List Value} (hl : L2 (CellRep w G h) cs l) : ∀ v ∈ l, v.oneCell' = true := by
  induction l generalizing cs with
  | nil => intro v hv; cases hv
  | cons u l ih =>
    cases cs with
    | nil => exact hl.elim
    | cons c cs =>
      intro v hv
      rcases List.mem_cons.1 hv with rfl | hv
      · exact hl.1.oneCell
      · exact ih hl.2 v hv
theorem below_alloc0 (hm : MemOK gl n0 w G h) (ob : Obj) : Below n0 w (w.alloc ob) := (Below.refl n0 w).alloc hm.le ob
theorem fresh_ok {id : Nat} (hf : isFresh h id = true) : h id = none := by
  unfold isFresh at hf
  split at hf
  · assumption
  · cases hf
theorem noSq_ty {cs : List CV} (hn : noSq cs = true) (e : TypeId) : boxTy cs e := by
  cases cs with
  | nil => trivial
  | cons c r => cases c <;> first | trivial | (simp [noSq] at hn; done)
/-- A new box. -/
theorem mem_box (hm : MemOK gl n0 w G h) {id : Nat} (hf : h id = none) {cs : List CV} {l : List Value} (hl : L2 (CellRep w G h) cs l) (e : TypeId) (hty : boxTy cs e) :
    MemOK gl n0 (w.alloc (.cells l.toArray e)) (G.set id (.pointer (some ⟨w.heap.size, 0, none⟩))) (hset h id (.box cs)) ∧
    Evo w (w.alloc (.cells l.toArray e)) G (G.set id (.pointer (some ⟨w.heap.size, 0, none⟩))) h (hset h id (.box cs)) ∧
    SVRep (w.alloc (.cells l.toArray e)) (G.set id (.pointer (some ⟨w.heap.size, 0, none⟩))) (hset h id (.box cs)) (.one (.ptr id 0)) (.pointer (some ⟨w.heap.size, 0, none⟩)) := by
  have hold : ∀ b, b < w.heap.size → (w.alloc (.cells l.toArray e)).heap[b]? = w.heap[b]? := fun b hb => Below.heap_alloc _ _ _ hb
  have hsz : (w.alloc (.cells l.toArray e)).heap.size = w.heap.size + 1 := by show (w.heap.push _).size = _; simp
  have hI : ∀ b, G.I b → (w.alloc (.cells l.toArray e)).heap[b]? = w.heap[b]? := fun b hb => hold b (hm.bound b hb)
  have E := evo_set (h := h) (id := id) (B := .box cs) (v0 := .pointer (some ⟨w.heap.size, 0, none⟩)) hI (fun C hC => by rw [hf] at hC; cases hC)
  obtain ⟨m1, E1⟩ := mem_set hm (id := id) (B := .box cs) (v0 := .pointer (some ⟨w.heap.size, 0, none⟩)) hI (fun i C b _ hi hb => hold b (hm.own i C b hi hb).2.1) (by omega) (fun C hC => by rw [hf] at hC; cases hC)
    ⟨w.heap.size, e, l, Mem.set_same _ _ _, heap_alloc_new w _, hl.imp fun _ _ hc => hc.evo E, hty⟩
    (fun b hb => by
      simp only [blkOf, Option.some.injEq] at hb
      subst hb
      exact ⟨hm.le, by omega, fun _ hI => Nat.lt_irrefl _ (hm.bound _ hI), fun hfr => by simp [Blk.fro] at hfr, fun i C _ hi hb => Nat.lt_irrefl _ (hm.own i C _ hi hb).2.1⟩)
  exact ⟨m1, E1, w.heap.size, ⟨_, cs, hset_same _ _ _, rfl⟩, Mem.set_same _ _ _, rfl⟩
/-- A row that is new, or that has gone on. -/
theorem mem_row (hm : MemOK gl n0 w G h) {id ver : Nat} {e : TypeId} {t : Ty} {xs : List t.den} {w' : World} {v' : Value} {inner : List Value} {row : Option Nat}
    (hf : ∀ C, h id = some C → ∃ cur e0 ys, C = .row cur false e0 t ys ∧ cur < ver ∧ row = blkOf (G.μ id)) (hn : h id = none → row = none)
    (hg : w.grownBy w' row) (ho : w'.ownsRow w.heap.size e t.sz v' (List.length xs) inner ∨ (∃ C, h id = some C) ∧ w'.ownsRow 0 e t.sz v' (List.length xs) inner ∧ (blkOf v' = row ∨ ∃ b, blkOf v' = some b ∧ w.heap.size ≤ b))
    (hr : Reps (K w G.I t) xs inner) :
    MemOK gl n0 w' (G.set id v') (hset h id (.row ver false e t xs)) ∧ Evo w w' G (G.set id v') h (hset h id (.row ver false e t xs)) ∧ Below n0 w w' ∧ SVRep w' (G.set id v') (hset h id (.row ver false e t xs)) (.one (.own id ver)) v' := by
  have hrow : ∀ k, row = some k → ∃ C, h id = some C ∧ blkOf (G.μ id) = some k := fun k hk => by
    cases hi : h id with
    | none => rw [hn hi] at hk; cases hk
    | some C => obtain ⟨_, _, _, _, _, hr⟩ := hf C hi; exact ⟨C, rfl, by rw [← hr]; exact hk⟩
  have hrI : ∀ b, G.I b → some b ≠ row := fun b hb he => by
    obtain ⟨C, hC, hk⟩ := hrow b he.symm
    obtain ⟨cur, e0, ys, rfl, _, _⟩ := hf C hC
    exact (hm.own id _ b hC hk).2.2.1 rfl hb
  have hI : ∀ b, G.I b → w'.heap[b]? = w.heap[b]? := fun b hb => hg.block b (hm.bound b hb) (hrI b hb)
  have hfol : ∀ C, h id = some C → Follows C (.row ver false e t xs) (G.μ id) v' := fun C hC => by
    obtain ⟨cur, e0, ys, rfl, hlt, _⟩ := hf C hC
    exact ⟨rfl, Nat.le_of_lt hlt, fun he => by omega⟩
  have ho0 : w'.ownsRow 0 e t.sz v' (List.length xs) inner := by
    rcases ho with ho | ⟨_, ho, _⟩
    · refine ⟨ho.1, ho.2.imp (fun h => h) ?_⟩
      rintro ⟨g, cap, cur, h1, _, h3⟩
      exact ⟨g, cap, cur, h1, Nat.zero_le _, h3⟩
    · exact ho
  have hlt : ∀ b, blkOf v' = some b → b < w'.heap.size := fun b hb => by
    rcases ho0.2 with ⟨rfl, _⟩ | ⟨g, cap, cur, rfl, _, hg', _⟩
    · cases hb
    · simp only [blkOf, Option.some.injEq] at hb; subst hb; exact (Array.getElem?_eq_some_iff.1 hg').1
  have hnew : ∀ b, blkOf v' = some b → w.heap.size ≤ b ∨ row = some b := fun b hb => by
    rcases ho with ho | ⟨_, _, h1 | ⟨b', h1, h2⟩⟩
    · left
      rcases ho.2 with ⟨rfl, _⟩ | ⟨g, cap, cur, rfl, h2, _⟩
      · cases hb
      · simp only [blkOf, Option.some.injEq] at hb; subst hb; exact h2
    · right; rw [← h1]; exact hb
    · left; rw [h1] at hb; cases hb; exact h2
  have E := evo_set (B := .row ver false e t xs) (v0 := v') hI hfol
  obtain ⟨m1, E1⟩ := mem_set hm (id := id) (B := .row ver false e t xs) (v0 := v') hI
    (fun i C b hne hi hb => hg.block b (hm.own i C b hi hb).2.1 (fun he => by
      obtain ⟨D, hD, hk⟩ := hrow b he.symm
      exact hne (hm.inj i id C D b hi hD hb hk))) hg.size hfol
    ⟨inner, by rw [Mem.set_same]; exact ho0, hr.imp fun _ _ hK => K_step (fun _ h => h) hI hK⟩
    (fun b hb => by
      rcases hnew b hb with h1 | h1
      · exact ⟨Nat.le_trans hm.le h1, hlt b hb, fun _ hI => by have := hm.bound _ hI; omega, fun hfr => by simp [Blk.fro] at hfr, fun i C _ hi hb => by have := (hm.own i C _ hi hb).2.1; omega⟩
      · obtain ⟨C, hC, hk⟩ := hrow b h1
        obtain ⟨cur, e0, ys, rfl, _, _⟩ := hf C hC
        obtain ⟨p1, p2, p3, _⟩ := hm.own id _ b hC hk
        exact ⟨p1, hlt b hb, fun _ => p3 rfl, fun hfr => by simp [Blk.fro] at hfr, fun i D hne hi hb => hne (hm.inj i id _ _ b hi hC hb hk)⟩)
  refine ⟨m1, E1, ?_, ?_, ver, false, e, t, xs, hset_same _ _ _, Nat.le_refl _, fun _ => (Mem.set_same _ _ _).symm⟩
  · exact (Below.refl n0 w).grown hg hm.le (fun k hk => by obtain ⟨C, hC, hkk⟩ := hrow k hk; exact (hm.own id C k hC hkk).1)
  · rcases ho0.2 with ⟨rfl, _⟩ | ⟨g, cap, cur, rfl, _⟩ <;> rfl
end
end Go.Den
