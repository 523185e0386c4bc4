/- Part of the proof: D3e, D3f. -/
import Derived.Test.YtbjkfkifkglplaaGreatDoorD3d
set_option linter.unusedSectionVars false
/-
  What one operation does in the model: blocks made and written.
-/
set_option linter.unusedVariables false
set_option linter.unusedSimpArgs false
namespace Go.Den
open Go Go.RowKit
section
variable {P : Program} {gl : GT} {n0 : Nat} {o : Oper} {a : Act} {w : World} {G : Mem} {h : Hp}
theorem cells_one {u : Value} (hu : u.oneCell' = true) : u.cells = #[u] := by cases u <;> simp_all [Value.cells, Value.oneCell']
theorem cells_ok {sv : SV} {u : Value} {cs : List CV} (hs : SVRep w G h sv u) (hc : sv.cells = some cs) : ∃ l : List Value, u.cells = l.toArray ∧ L2 (CellRep w G h) cs l := by
  cases sv <;> simp only [SV.cells] at hc <;> cases hc
  · exact ⟨[u], by rw [cells_one (CellRep.oneCell hs)], hs, trivial⟩
  · obtain ⟨l, rfl, hl⟩ := hs; exact ⟨l, by simp [Value.cells], hl⟩
theorem L2_one {cs : List CV} {l : List Value} (hl : L2 (CellRep w G h) cs l) : ∀ v ∈ l, v.oneCell' = true := by
  induction l generalizing cs with
  | nil => intro v hv; cases hv
  | cons u l ih =>
    cases cs with
    | nil => exact hl.elim
    | cons c cs =>
      intro v hv
      rcases List.mem_cons.1 hv with rfl | hv
      · exact hl.1.oneCell
      · exact ih hl.2 v hv
theorem below_alloc0 (hm : MemOK gl n0 w G h) (ob : Obj) : Below n0 w (w.alloc ob) := (Below.refl n0 w).alloc hm.le ob
theorem fresh_ok {id : Nat} (hf : isFresh h id = true) : h id = none := by
  unfold isFresh at hf
  split at hf
  · assumption
  · cases hf
theorem noSq_ty {cs : List CV} (hn : noSq cs = true) (e : TypeId) : boxTy cs e := by
  cases cs with
  | nil => trivial
  | cons c r => cases c <;> first | trivial | (simp [noSq] at hn; done)
/-- A new box. -/
theorem mem_box (hm : MemOK gl n0 w G h) {id : Nat} (hf : h id = none) {cs : List CV} {l : List Value} (hl : L2 (CellRep w G h) cs l) (e : TypeId) (hty : boxTy cs e) :
    MemOK gl n0 (w.alloc (.cells l.toArray e)) (G.set id (.pointer (some ⟨w.heap.size, 0, none⟩))) (hset h id (.box cs)) ∧
    Evo w (w.alloc (.cells l.toArray e)) G (G.set id (.pointer (some ⟨w.heap.size, 0, none⟩))) h (hset h id (.box cs)) ∧
    SVRep (w.alloc (.cells l.toArray e)) (G.set id (.pointer (some ⟨w.heap.size, 0, none⟩))) (hset h id (.box cs)) (.one (.ptr id 0)) (.pointer (some ⟨w.heap.size, 0, none⟩)) := by
  have hold : ∀ b, b < w.heap.size → (w.alloc (.cells l.toArray e)).heap[b]? = w.heap[b]? := fun b hb => Below.heap_alloc _ _ _ hb
  have hsz : (w.alloc (.cells l.toArray e)).heap.size = w.heap.size + 1 := by show (w.heap.push _).size = _; simp
  have hI : ∀ b, G.I b → (w.alloc (.cells l.toArray e)).heap[b]? = w.heap[b]? := fun b hb => hold b (hm.bound b hb)
  have E := evo_set (h := h) (id := id) (B := .box cs) (v0 := .pointer (some ⟨w.heap.size, 0, none⟩)) hI (fun b hb => hold b (hm.fb b hb)) (fun C hC => by rw [hf] at hC; cases hC)
  obtain ⟨m1, E1⟩ := mem_set hm (id := id) (B := .box cs) (v0 := .pointer (some ⟨w.heap.size, 0, none⟩)) hI (fun b hb => ⟨hold b (hm.fb b hb), fun he => by simp only [blkOf, Option.some.injEq] at he; have := hm.fb b hb; omega⟩) (fun i C b _ hi hb => hold b (hm.own i C b hi hb).2.1) (by omega) (fun C hC => by rw [hf] at hC; cases hC)
    ⟨w.heap.size, e, l, Mem.set_same _ _ _, heap_alloc_new w _, hl.imp fun _ _ hc => hc.evo E, hty⟩
    (fun b hb => by
      simp only [blkOf, Option.some.injEq] at hb
      subst hb
      exact ⟨hm.le, by omega, fun _ hI => Nat.lt_irrefl _ (hm.bound _ hI), fun hfr => by simp [Blk.fro] at hfr, fun i C _ hi hb => Nat.lt_irrefl _ (hm.own i C _ hi hb).2.1⟩)
  exact ⟨m1, E1, w.heap.size, ⟨_, cs, hset_same _ _ _, rfl⟩, Mem.set_same _ _ _, rfl⟩
/-- A row that is new, or that has gone on. -/
theorem mem_row (hm : MemOK gl n0 w G h) {id ver : Nat} {e : TypeId} {t : Ty} {xs : List t.den} {w' : World} {v' : Value} {inner : List Value} {row : Option Nat}
    (hf : ∀ C, h id = some C → ∃ cur e0 ys, C = .row cur false e0 t ys ∧ cur < ver ∧ row = blkOf (G.μ id)) (hn : h id = none → row = none)
    (hg : w.grownBy w' row) (ho : w'.ownsRow w.heap.size e t.sz v' (List.length xs) inner ∨ (∃ C, h id = some C) ∧ w'.ownsRow 0 e t.sz v' (List.length xs) inner ∧ (blkOf v' = row ∨ ∃ b, blkOf v' = some b ∧ w.heap.size ≤ b))
    (hr : Reps (K w G.I t) xs inner) :
    MemOK gl n0 w' (G.set id v') (hset h id (.row ver false e t xs)) ∧ Evo w w' G (G.set id v') h (hset h id (.row ver false e t xs)) ∧ Below n0 w w' ∧ SVRep w' (G.set id v') (hset h id (.row ver false e t xs)) (.one (.own id ver)) v' := by
  have hrow : ∀ k, row = some k → ∃ C, h id = some C ∧ blkOf (G.μ id) = some k := fun k hk => by
    cases hi : h id with
    | none => rw [hn hi] at hk; cases hk
    | some C => obtain ⟨_, _, _, _, _, hr⟩ := hf C hi; exact ⟨C, rfl, by rw [← hr]; exact hk⟩
  have hrI : ∀ b, G.I b → some b ≠ row := fun b hb he => by
    obtain ⟨C, hC, hk⟩ := hrow b he.symm
    obtain ⟨cur, e0, ys, rfl, _, _⟩ := hf C hC
    exact (hm.own id _ b hC hk).2.2.1 rfl hb
  have hI : ∀ b, G.I b → w'.heap[b]? = w.heap[b]? := fun b hb => hg.block b (hm.bound b hb) (hrI b hb)
  have hfol : ∀ C, h id = some C → Follows C (.row ver false e t xs) (G.μ id) v' := fun C hC => by
    obtain ⟨cur, e0, ys, rfl, hlt, _⟩ := hf C hC
    exact ⟨rfl, Nat.le_of_lt hlt, fun he => by omega⟩
  have ho0 : w'.ownsRow 0 e t.sz v' (List.length xs) inner := by
    rcases ho with ho | ⟨_, ho, _⟩
    · refine ⟨ho.1, ho.2.imp (fun h => h) ?_⟩
      rintro ⟨g, cap, cur, h1, _, h3⟩
      exact ⟨g, cap, cur, h1, Nat.zero_le _, h3⟩
    · exact ho
  have hlt : ∀ b, blkOf v' = some b → b < w'.heap.size := fun b hb => by
    rcases ho0.2 with ⟨rfl, _⟩ | ⟨g, cap, cur, rfl, _, hg', _⟩
    · cases hb
    · simp only [blkOf, Option.some.injEq] at hb; subst hb; exact (Array.getElem?_eq_some_iff.1 hg').1
  have hnew : ∀ b, blkOf v' = some b → w.heap.size ≤ b ∨ row = some b := fun b hb => by
    rcases ho with ho | ⟨_, _, h1 | ⟨b', h1, h2⟩⟩
    · left
      rcases ho.2 with ⟨rfl, _⟩ | ⟨g, cap, cur, rfl, h2, _⟩
      · cases hb
      · simp only [blkOf, Option.some.injEq] at hb; subst hb; exact h2
    · right; rw [← h1]; exact hb
    · left; rw [h1] at hb; cases hb; exact h2
  have hF : ∀ b, G.J 1 b → w'.heap[b]? = w.heap[b]? ∧ blkOf v' ≠ some b := fun b hb => ⟨hg.block b (hm.fb b hb) (fun he => by
      obtain ⟨C, hC, hk⟩ := hrow b he.symm
      exact hm.foe _ C b hC hk hb), fun hv => by
      rcases hnew b hv with h1 | h1
      · have := hm.fb b hb; omega
      · obtain ⟨C, hC, hk⟩ := hrow b h1
        exact hm.foe _ C b hC hk hb⟩
  have E := evo_set (B := .row ver false e t xs) (v0 := v') hI (fun b hb => (hF b hb).1) hfol
  obtain ⟨m1, E1⟩ := mem_set hm (id := id) (B := .row ver false e t xs) (v0 := v') hI hF
    (fun i C b hne hi hb => hg.block b (hm.own i C b hi hb).2.1 (fun he => by
      obtain ⟨D, hD, hk⟩ := hrow b he.symm
      exact hne (hm.inj i id C D b hi hD hb hk))) hg.size hfol
    ⟨inner, by rw [Mem.set_same]; exact ho0, hr.imp fun _ _ hK => K_step (fun _ h => h) hI hK⟩
    (fun b hb => by
      rcases hnew b hb with h1 | h1
      · exact ⟨Nat.le_trans hm.le h1, hlt b hb, fun _ hI => by have := hm.bound _ hI; omega, fun hfr => by simp [Blk.fro] at hfr, fun i C _ hi hb => by have := (hm.own i C _ hi hb).2.1; omega⟩
      · obtain ⟨C, hC, hk⟩ := hrow b h1
        obtain ⟨cur, e0, ys, rfl, _, _⟩ := hf C hC
        obtain ⟨p1, p2, p3, _⟩ := hm.own id _ b hC hk
        exact ⟨p1, hlt b hb, fun _ => p3 rfl, fun hfr => by simp [Blk.fro] at hfr, fun i D hne hi hb => hne (hm.inj i id _ _ b hi hC hb hk)⟩)
  refine ⟨m1, E1, ?_, ?_, ver, false, e, t, xs, hset_same _ _ _, Nat.le_refl _, fun _ => (Mem.set_same _ _ _).symm⟩
  · exact (Below.refl n0 w).grown hg hm.le (fun k hk => by obtain ⟨C, hC, hkk⟩ := hrow k hk; exact (hm.own id C k hC hkk).1)
  · rcases ho0.2 with ⟨rfl, _⟩ | ⟨g, cap, cur, rfl, _⟩ <;> rfl
end
end Go.Den

/-
  One operation of the abstract machine is right.
-/
set_option linter.unusedVariables false
set_option linter.unusedSimpArgs false
namespace Go.Den
open Go Go.RowKit
section
variable {P : Program} {gl : GT} {n0 : Nat} {o : Oper} {a : Act} {w : World} {G : Mem} {h : Hp} {E : EnvC}
theorem sliceOf_ok (hE : EnvOK P gl E) {T : TypeId} {n : Nat} (hs : sliceOf E.tt T n = true) : ∃ e ei, P.underlying T = some (.slice e) ∧ E.tt.find e = some ei ∧ ei.sz = n := by
  unfold sliceOf at hs
  split at hs
  · rename_i e hk
    split at hs
    · rename_i ei he
      rcases kdAt_ok hE T with ⟨_, h2⟩ | h2
      · rw [hk] at h2; exact ⟨e, ei, h2, he, nbeq hs⟩
      · rw [hk] at h2; cases h2
    · cases hs
  · cases hs
theorem arrOf_ok (hE : EnvOK P gl E) {T : TypeId} {m n : Nat} (hs : arrOf E.tt T m n = true) : ∃ e ei, P.underlying T = some (.array m e) ∧ E.tt.find e = some ei ∧ ei.sz = n := by
  unfold arrOf at hs
  split at hs
  · rename_i k e hk
    simp only [Bool.and_eq_true] at hs
    obtain ⟨h1, hs⟩ := hs
    split at hs
    · rename_i ei he
      rcases kdAt_ok hE T with ⟨_, h2⟩ | h2
      · rw [hk] at h2; obtain rfl := nbeq h1; exact ⟨e, ei, h2, he, nbeq hs⟩
      · rw [hk] at h2; cases h2
    · cases hs
  · cases hs
theorem isStr_ok (hE : EnvOK P gl E) {T : TypeId} (hs : isStr E.tt T = true) : P.underlying T = some .string := by
  unfold isStr at hs
  split at hs
  · rename_i hk
    rcases kdAt_ok hE T with ⟨_, h2⟩ | h2
    · rw [hk] at h2; exact h2
    · rw [hk] at h2; cases h2
  · cases hs
theorem isSlice_ok (hE : EnvOK P gl E) {T : TypeId} (hs : isSlice E.tt T = true) : ∃ e, P.underlying T = some (.slice e) := by
  unfold isSlice at hs
  split at hs
  · rename_i e hk
    rcases kdAt_ok hE T with ⟨_, h2⟩ | h2
    · rw [hk] at h2; exact ⟨e, h2⟩
    · rw [hk] at h2; cases h2
  · cases hs
theorem bifs.{u} {α : Type u} {b : Bool} {x : Option α} {z : α} (hb : (bif b then x else none) = some z) : b = true ∧ x = some z := by
  cases b
  · cases hb
  · exact ⟨rfl, hb⟩
/-- A row, from its slice. -/
theorem row_slice {e : TypeId} {t : Ty} {v : Value} {xs : List t.den} {inner : List Value} (ho : w.ownsRow 0 e t.sz v (List.length xs) inner) : ∃ A c, v = .slice A (List.length xs) c ∧ List.length xs ≤ c ∧ (0 < List.length xs → ∃ b, A = some ⟨b, 0, none⟩) := by
  rcases ho.2 with ⟨rfl, hn⟩ | ⟨g, cap, cur, rfl, _, hg, hle, _⟩
  · exact ⟨none, 0, by rw [hn], by omega, fun h => by omega⟩
  · exact ⟨_, cap, rfl, hle, fun _ => ⟨g, rfl⟩⟩
theorem run_indexAt {T e : TypeId} {ei : TI} (hT : P.underlying T = some (.slice e)) (he : TIOK P e ei) {A : Addr} {n c : Nat} {k : IntKind} {i : Int} (h0 : 0 ≤ i) (h1 : i < (n : Int)) :
    (Instr.indexAt T (.slice (some A) n c) (.int k i)).run P w = .ok (.pointer (some (A.add (i.toNat * ei.sz)))) w := by
  simp [Instr.indexAt, asIntOf, run_underlying hT, h0, h1, he.run_size, Result.andThen]
theorem idx1_ok (hE : EnvOK P gl E) (hm : MemOK gl n0 w G h) {T : TypeId} {n : Int} {k : IntKind} {c : CV} {u : Value} {cs : List Cnd} {sv : SV} {e : List (Nat × Blk)} (hb : idx1 E.tt T h n c = some (.val cs sv e)) (hc : ∀ c ∈ cs, c.p) (hx : CellRep w G h c u) :
    e = [] ∧ ∃ r, (Instr.indexAt T u (.int k n)).run P w = .ok r w ∧ SVRep w G h sv r := by
  unfold idx1 at hb
  split at hb
  · rename_i t xs
    obtain ⟨hs, hb⟩ := bifs hb
    cases hb
    obtain ⟨e, ei, hT, he, hsz⟩ := sliceOf_ok hE hs
    have h0 := hc _ List.mem_cons_self
    have h1 := hc _ (List.mem_cons_of_mem _ List.mem_cons_self)
    simp only at h0 h1
    obtain ⟨A, cp, hv, hle, hcm, hr⟩ := hx
    simp only [List.cons.injEq, and_true] at hv
    subst hv
    have hg := rdT_get h0 h1
    rcases hr with hr | ⟨B, rfl, hI, hall⟩
    · subst hr; simp at hg
    · obtain ⟨d, hK, hA⟩ := hall _ _ hg
      refine ⟨rfl, _, run_indexAt hT (hE.tt _ _ he) h0 h1, B.add (n.toNat * ei.sz), d, by rw [add_zero], by rw [add_block]; exact hI.1, hK, by rw [hsz]; exact hA⟩
  · rename_i t xs
    obtain ⟨hs, hb⟩ := bifs hb
    cases hb
    obtain ⟨e, ei, hT, he, hsz⟩ := arrOf_ok hE hs
    have h0 := hc _ List.mem_cons_self
    have h1 := hc _ (List.mem_cons_of_mem _ List.mem_cons_self)
    simp only at h0 h1
    obtain ⟨B, rfl, hr⟩ := hx
    have hg := rdT_get h0 h1
    rcases hr with hr | ⟨hI, hall⟩
    · subst hr; simp at hg
    · obtain ⟨d, hK, hA⟩ := hall _ _ hg
      refine ⟨rfl, .pointer (some (B.add (n.toNat * ei.sz))), ?_, B.add (n.toNat * ei.sz), d, by rw [add_zero], by rw [add_block]; exact hI.1, hK, by rw [hsz]; exact hA⟩
      simp [Instr.indexAt, asIntOf, run_underlying hT, h0, h1, (hE.tt _ _ he).run_size, Result.andThen, Instr.sureAddr]
  · rename_i id ver
    split at hb
    · rename_i v f e t xs hi
      obtain ⟨hs, hb⟩ := bifs hb
      cases hb
      simp only [Bool.and_eq_true] at hs
      obtain ⟨hv, hs⟩ := hs
      obtain ⟨e', ei, hT, he, hsz⟩ := sliceOf_ok hE hs
      have h0 := hc _ List.mem_cons_self
      have h1 := hc _ (List.mem_cons_of_mem _ List.mem_cons_self)
      simp only at h0 h1
      obtain ⟨hone, cur, fro, e2, t2, xs2, hh, hle, hu⟩ := hx
      rw [hi] at hh; cases hh
      have hu := hu (nbeq hv).symm
      obtain ⟨inner, ho, hre⟩ := hm.rep _ _ hi
      obtain ⟨A, cp, hsl, hle2, hpos⟩ := row_slice ho
      obtain ⟨b, rfl⟩ := hpos (by omega)
      refine ⟨rfl, .pointer (some (Addr.add ⟨b, 0, none⟩ (n.toNat * ei.sz))), ?_, rfl, v, f, e, t, xs, hi, hle, fun _ => ⟨b, _, cp, hsl, h0, h1, ?_⟩⟩
      · rw [hu, hsl]; exact run_indexAt hT (hE.tt _ _ he) h0 h1
      · rw [add_mk, hsz]; simp
    · cases hb
  · cases hb
/-! Pieces of slices -/
theorem K_take {I : Nat → Prop} {t : Ty} {xs : List t.den} {A : Option Addr} {c : Nat} (hK : K w I (.list t) xs [.slice A (List.length xs) c]) (m : Nat) (hm : m ≤ List.length xs) : K w I (.list t) (xs.take m) [.slice A m c] := by
  obtain ⟨A', c', hv, h1, h2, h3⟩ := hK
  simp only [List.cons.injEq, Value.slice.injEq, true_and, and_true] at hv
  obtain ⟨rfl, rfl⟩ := hv
  refine ⟨A, c, by rw [List.length_take, Nat.min_eq_left hm], by rw [List.length_take]; omega, h2, ?_⟩
  rcases h3 with h3 | ⟨a, ha, hI, hall⟩
  · left; subst h3; simp
  · refine .inr ⟨a, ha, hI, fun j x hx => hall j x ?_⟩
    rw [List.getElem?_take] at hx
    split at hx
    · exact hx
    · cases hx
theorem K_drop {I : Nat → Prop} {t : Ty} {xs : List t.den} {A : Option Addr} {n c : Nat} (hn : n = List.length xs) (hK : K w I (.list t) xs [.slice A n c]) (l : Nat) (hl : l ≤ n) : K w I (.list t) (xs.drop l) [.slice (if c = l then A else A.map (·.add (l * t.sz))) (n - l) (c - l)] := by
  subst hn
  obtain ⟨A', c', hv, h1, h2, h3⟩ := hK
  simp only [List.cons.injEq, Value.slice.injEq, true_and, and_true] at hv
  obtain ⟨rfl, rfl⟩ := hv
  refine ⟨_, _, by rw [List.length_drop], by rw [List.length_drop]; omega, by omega, ?_⟩
  by_cases he : xs.drop l = []
  · exact .inl he
  · have hlt : l < List.length xs := by
      rcases Nat.lt_or_ge l (List.length xs) with h | h
      · exact h
      · exact absurd (List.drop_eq_nil_of_le h) he
    rcases h3 with h3 | ⟨a, ha, hI, hall⟩
    · subst h3; simp at hlt
    · refine .inr ⟨a.add (l * t.sz), by rw [if_neg (by omega), ha]; rfl, ⟨by rw [add_block]; exact hI.1, add_spot hI.2⟩, fun j x hx => ?_⟩
      rw [List.getElem?_drop] at hx
      obtain ⟨d, hd, hA⟩ := hall _ _ hx
      refine ⟨d, hd, ?_⟩
      rw [add_add, ← Nat.add_mul]
      exact hA
theorem run_sl {T e : TypeId} {ei : TI} (hT : P.underlying T = some (.slice e)) (he : TIOK P e ei) (A : Option Addr) (n c : Nat) (lo hi : Option Value) (l h : Nat)
    (hb : (Instr.sliceBounds true n c lo hi none).run P w = .ok (l, h, c) w) :
    (Instr.sliceAt T (.slice A n c) lo hi none).run P w = .ok (.slice (if c = l then A else A.map (·.add (l * ei.sz))) (h - l) (c - l)) w := by
  simp [Instr.sliceAt, run_underlying hT, Instr.slice, hb, Result.andThen, he.run_size]
theorem sliceL_ok {T e : TypeId} {ei : TI} (hT : P.underlying T = some (.slice e)) (he : TIOK P e ei) {t : Ty} {xs : List t.den} (hsz : ei.sz = t.sz) {A : Option Addr} {c : Nat} {I : Nat → Prop} (hK : K w I (.list t) xs [.slice A (List.length xs) c])
    {lo hi : Option Int} {klo khi : IntKind} {cs : List Cnd} {sv : SV} {ef : List (Nat × Blk)} (hb : sliceL t xs lo hi = some (.val cs sv ef)) (hc : ∀ c ∈ cs, c.p) :
    ef = [] ∧ ∃ ys v, sv = .one (.l t ys) ∧ (Instr.sliceAt T (.slice A (List.length xs) c) (lo.map (.int klo)) (hi.map (.int khi)) none).run P w = .ok v w ∧ K w I (.list t) ys [v] := by
  have hle : List.length xs ≤ c := by obtain ⟨_, _, hv, h1, _⟩ := hK; simp only [List.cons.injEq, Value.slice.injEq, true_and, and_true] at hv; obtain ⟨_, rfl⟩ := hv; exact h1
  unfold sliceL at hb
  split at hb <;> cases hb
  · refine ⟨rfl, xs, _, rfl, run_sl hT he A _ _ _ _ 0 (List.length xs) ?_, ?_⟩
    · simp [Instr.sliceBounds]
    · have := K_drop rfl hK 0 (Nat.zero_le _)
      rw [hsz]; simpa using this
  · rename_i hh
    have h0 := hc _ List.mem_cons_self
    have h1 := hc _ (List.mem_cons_of_mem _ List.mem_cons_self)
    simp only at h0 h1
    refine ⟨rfl, xs.take hh.toNat, _, rfl, run_sl hT he A _ _ _ _ 0 hh.toNat ?_, ?_⟩
    · simp [Instr.sliceBounds, Instr.sliceBound, asIntOf, h0, (by omega : hh ≤ (c : Int))]
    · have h2 := K_take hK hh.toNat (by omega)
      have := K_drop (by rw [List.length_take]; omega) h2 0 (Nat.zero_le _)
      rw [hsz]; simpa using this
  · rename_i l
    have h0 := hc _ List.mem_cons_self
    have h1 := hc _ (List.mem_cons_of_mem _ List.mem_cons_self)
    simp only at h0 h1
    refine ⟨rfl, xs.drop l.toNat, _, rfl, run_sl hT he A _ _ _ _ l.toNat (List.length xs) ?_, ?_⟩
    · simp [Instr.sliceBounds, Instr.sliceBound, asIntOf, h0, h1]
    · have := K_drop rfl hK l.toNat (by omega)
      rw [hsz]; exact this
  · rename_i l hh
    have h0 := hc _ List.mem_cons_self
    have h1 := hc _ (List.mem_cons_of_mem _ List.mem_cons_self)
    have h2 := hc _ (List.mem_cons_of_mem _ (List.mem_cons_of_mem _ List.mem_cons_self))
    have h3 := hc _ (List.mem_cons_of_mem _ (List.mem_cons_of_mem _ (List.mem_cons_of_mem _ List.mem_cons_self)))
    simp only at h0 h1 h2 h3
    refine ⟨rfl, (xs.take hh.toNat).drop l.toNat, _, rfl, run_sl hT he A _ _ _ _ l.toNat hh.toNat ?_, ?_⟩
    · simp [Instr.sliceBounds, Instr.sliceBound, asIntOf, h0, h2, (by omega : hh ≤ (c : Int)), (by omega : l ≤ (hh.toNat : Int))]
      intro hx; omega
    · have h4 := K_take hK hh.toNat (by omega)
      have := K_drop (by rw [List.length_take]; omega) h4 l.toNat (by omega)
      rw [hsz]; exact this
theorem sliceS_ok {T : TypeId} (hT : P.underlying T = some .string) {s : ByteArray} {lo hi : Option Int} {klo khi : IntKind} {cs : List Cnd} {sv : SV} {ef : List (Nat × Blk)} (hb : sliceS s lo hi = some (.val cs sv ef)) (hc : ∀ c ∈ cs, c.p) :
    ef = [] ∧ ∃ r, sv = .one (.s r) ∧ (Instr.sliceAt T (.string s) (lo.map (.int klo)) (hi.map (.int khi)) none).run P w = .ok (.string r) w := by
  unfold sliceS at hb
  split at hb <;> cases hb
  · exact ⟨rfl, _, rfl, by simp [Instr.sliceAt, run_underlying hT, Instr.slice, Instr.sliceBounds]⟩
  · rename_i hh
    have h0 := hc _ List.mem_cons_self
    have h1 := hc _ (List.mem_cons_of_mem _ List.mem_cons_self)
    simp only at h0 h1
    exact ⟨rfl, _, rfl, by simp [Instr.sliceAt, run_underlying hT, Instr.slice, Instr.sliceBounds, Instr.sliceBound, asIntOf, h0, h1]⟩
  · rename_i l
    have h0 := hc _ List.mem_cons_self
    have h1 := hc _ (List.mem_cons_of_mem _ List.mem_cons_self)
    simp only at h0 h1
    exact ⟨rfl, _, rfl, by simp [Instr.sliceAt, run_underlying hT, Instr.slice, Instr.sliceBounds, Instr.sliceBound, asIntOf, h0, h1]⟩
  · rename_i l hh
    have h0 := hc _ List.mem_cons_self
    have h1 := hc _ (List.mem_cons_of_mem _ List.mem_cons_self)
    have h2 := hc _ (List.mem_cons_of_mem _ (List.mem_cons_of_mem _ List.mem_cons_self))
    have h3 := hc _ (List.mem_cons_of_mem _ (List.mem_cons_of_mem _ (List.mem_cons_of_mem _ List.mem_cons_self)))
    simp only at h0 h1 h2 h3
    exact ⟨rfl, _, rfl, by simp [Instr.sliceAt, run_underlying hT, Instr.slice, Instr.sliceBounds, Instr.sliceBound, asIntOf, h0, h1, h2, (by omega : l ≤ (hh.toNat : Int))]; intro hx; omega⟩
/-! The operation -/
theorem outOf {v v' : SV} {e e' : List (Nat × Blk)} {cs : List Cnd} (hb : Out.of v e = some (.val cs v' e')) : cs = [] ∧ v' = v ∧ e' = e := by cases hb; exact ⟨rfl, rfl, rfl⟩
theorem partsOf_ok {ev : Operand → SV} (hev : ∀ x, SVRep w G h (ev x) (a.eval x)) : ∀ {ps : List (Nat × Operand)} {l : List (Nat × List CV)}, partsOf ev ps = some l →
    L2 (fun (p : Nat × List CV) (q : Nat × Value) => p.1 = q.1 ∧ ∃ d : List Value, q.2.cells = d.toArray ∧ L2 (CellRep w G h) p.2 d) l (ps.map fun p => (p.1, a.eval p.2))
  | [], l, hp => by simp only [partsOf] at hp; cases hp; trivial
  | (i, x) :: r, l, hp => by
    simp only [partsOf] at hp
    obtain ⟨cs, hcs, hp⟩ := Option.bind_eq_some_iff.1 hp
    obtain ⟨l', hl', hp⟩ := Option.bind_eq_some_iff.1 hp
    cases hp
    exact ⟨⟨rfl, cells_ok (hev x) hcs⟩, partsOf_ok hev hl'⟩
theorem splice_ok {cs new r : List CV} {o : Nat} (hs : splice cs o new = some r) : o + new.length ≤ cs.length ∧ r = cs.take o ++ new ++ cs.drop (o + new.length) := by
  unfold splice at hs
  obtain ⟨h1, h2⟩ := bifs hs
  cases h2
  exact ⟨Nat.le_of_ble_eq_true h1, rfl⟩
theorem foldl_set (d : List Value) : ∀ (l : List Value) (k o : Nat), o + k + d.length ≤ l.length → (d.zipIdx k).foldl (fun cs (p : Value × Nat) => cs.setIfInBounds (o + p.2) p.1) l.toArray = (l.take (o + k) ++ d ++ l.drop (o + k + d.length)).toArray := by
  induction d with
  | nil => intro l k o _; simp
  | cons v d ih =>
    intro l k o hle
    simp only [List.zipIdx_cons, List.foldl_cons, List.length_cons] at hle ⊢
    have e1 : l.toArray.setIfInBounds (o + k) v = (l.set (o + k) v).toArray := by simp
    rw [e1, ih (l.set (o + k) v) (k + 1) o (by rw [List.length_set]; omega)]
    congr 1
    have hlt : o + k < l.length := by omega
    rw [List.take_set, List.drop_set_of_lt (by omega)]
    rw [show o + (k + 1) = o + k + 1 from rfl, List.take_succ_eq_append_getElem hlt]
    have e2 : (List.take (o + k) l ++ [l[o + k]]).set (o + k) v = List.take (o + k) l ++ [v] := by
      rw [List.set_append, if_neg (by rw [List.length_take]; omega)]
      simp [Nat.min_eq_left (Nat.le_of_lt hlt)]
    rw [e2, show o + k + 1 + d.length = o + k + (d.length + 1) by omega]
    simp
theorem fillC_ok {places : Nat → Option (Nat × Nat)} {ps : List (Nat × Nat)} (hpl : ∀ i p, ps[i]? = some p → places i = some p) : ∀ {l : List (Nat × List CV)} {vs : List (Nat × Value)} {cs r : List CV} {d : List Value}, L2 (fun (p : Nat × List CV) (q : Nat × Value) => p.1 = q.1 ∧ ∃ d : List Value, q.2.cells = d.toArray ∧ L2 (CellRep w G h) p.2 d) l vs →
    L2 (CellRep w G h) cs d → fillC ps cs l = some r → ∃ d', Instr.fill places d.toArray vs = some d'.toArray ∧ L2 (CellRep w G h) r d'
  | [], [], cs, r, d, _, hl, hf => by simp only [fillC] at hf; cases hf; exact ⟨d, rfl, hl⟩
  | (i, new) :: l, (j, v) :: vs, cs, r, d, hL, hl, hf => by
    obtain ⟨⟨hij, dv, hv, hld⟩, hL⟩ := hL
    simp only at hij
    subst hij
    simp only [fillC] at hf
    split at hf
    · rename_i o n hp
      obtain ⟨hn, hf⟩ := bifs hf
      obtain ⟨cs', hs, hf⟩ := Option.bind_eq_some_iff.1 hf
      have hn := nbeq hn
      obtain ⟨hle, rfl⟩ := splice_ok hs
      have hlen : new.length = dv.length := hld.len
      have hcd : cs.length = d.length := hl.len
      obtain ⟨d', h1, h2⟩ := fillC_ok hpl hL (cs := cs.take o ++ new ++ cs.drop (o + new.length)) (d := d.take o ++ dv ++ d.drop (o + dv.length)) (((hl.take o).app hld).app (by rw [← hlen]; exact hl.drop _)) hf
      refine ⟨d', ?_, h2⟩
      simp only [Instr.fill, hpl _ _ hp, hv]
      have hsz : ¬ ((dv.toArray.size ≠ n || decide (o + dv.toArray.size > d.toArray.size)) = true) := by simp; omega
      simp only [bne_iff_ne, ne_eq] at hsz ⊢
      rw [if_neg (by simpa using hsz)]
      rw [← h1]
      congr 1
      have := foldl_set dv d 0 o (by omega)
      simp only [Nat.add_zero] at this
      rw [← this, ← Array.foldl_toList]
      simp [Array.toList_zipIdx]
    · cases hf
  | [], _ :: _, _, _, _, hL, _, _ => hL.elim
  | _ :: _, [], _, _, _, hL, _, _ => hL.elim
end
end Go.Den
