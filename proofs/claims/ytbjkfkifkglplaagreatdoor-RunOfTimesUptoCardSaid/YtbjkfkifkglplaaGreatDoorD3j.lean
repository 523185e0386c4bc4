/-
  One operation of the abstract machine is right: makes, literals, stores.
-/
import Derived.Test.YtbjkfkifkglplaaGreatDoorD3i
set_option linter.unusedSectionVars false
set_option linter.unusedVariables false
set_option linter.unusedSimpArgs false
namespace Go.Den
open Go Go.RowKit
section
variable {P : Program} {gl : GT} {n0 : Nat} {o : Oper} {a : Act} {w : World} {G : Mem} {h : Hp} {E : EnvC} {s : Nat → SV} {d : Nat} {cs : List Cnd} {v : SV} {e : List (Nat × Blk)}
theorem sameOp_ok {x y : Operand} (hs : sameOp x y = true) (k : IntKind) (n : Int) (hx : a.eval x = .int k n) : ∃ k', a.eval y = .int k' n := by
  unfold sameOp at hs
  split at hs
  · obtain rfl := nbeq hs; exact ⟨k, hx⟩
  · have := of_decide_eq_true hs
    simp only [Act.eval, Value.int.injEq] at hx
    exact ⟨_, by simp only [Act.eval]; rw [← this, hx.2]⟩
  · cases hs
theorem op_make (hE : EnvOK P gl E) (hm : MemOK gl n0 w G h) (hs : ∀ t, SVRep w G h (s t) (a.tmps.getD t undef)) {T : TypeId} {l c : Operand} (ho : o.op = .makeSlice T l c) (h1 : op1 E d (evO E s) h (.makeSlice T l c) = some (.val cs v e)) (hc : ∀ c ∈ cs, c.p) : OpOK P gl n0 o a w G h v (effs h e) := by
  simp only [op1] at h1
  have hev := evO_ok hE hm hs
  obtain ⟨i, hi, h1⟩ := Option.bind_eq_some_iff.1 h1
  have hx := hev l
  split at h1
  · rename_i el k n k' n' hk hl hcc
    rw [hl] at hx
    simp only [SVRep, CellRep] at hx
    obtain ⟨ei, hei, h1⟩ := Option.bind_eq_some_iff.1 h1
    obtain ⟨t, hty, h1⟩ := Option.bind_eq_some_iff.1 h1
    obtain ⟨hb, h1⟩ := bifs h1
    cases h1
    simp only [Bool.and_eq_true] at hb
    obtain ⟨k2, hx2⟩ := sameOp_ok hb.2 _ _ hx
    have h2 := hc _ List.mem_cons_self
    have h3 := hc _ (List.mem_cons_of_mem _ List.mem_cons_self)
    simp only at h2 h3
    obtain ⟨m, rfl⟩ := Int.eq_ofNat_of_zero_le h2
    have hkd := (hE.tt _ _ hi).kd
    rw [hk] at hkd
    obtain ⟨x, z, hxi, hsz, hby, hz, hzc, hzs, _⟩ := zero_cells hE hei hty
    have hm1 : m ≤ maxEl ei.bytes := by omega
    have hmb := maxEl_ok hm1
    obtain ⟨w', hr, hown, hg⟩ := run_make_full (P := P) w w.heap.size T el x z t.sz hkd hxi hz hsz k k2 m (by rw [hby, Nat.mul_comm]; omega) (maxEl_len hm1) (Nat.le_refl _)
    have hR : Reps (K w G.I t) (List.replicate m t.dflt) (madeCells z.cells (m * t.sz)).toList := by
      rw [← hzs, made_flat, hzc]
      exact reps_replicate (zcells_K w G.I t ((hE.tt _ _ hei).ty t hty).2.2) m
    have hf := fresh_ok hb.1
    obtain ⟨m1, E1, B1, S1⟩ := mem_row (row := none) (ver := 0) (id := newId d 0) (xs := List.replicate m t.dflt) hm (fun C hC => by rw [hf] at hC; cases hC) (fun _ => rfl) hg (.inl (by rw [List.length_replicate]; exact hown)) hR
    refine opOK_at (v := .slice (some ⟨w.heap.size, 0, none⟩) m m) ?_ m1 E1 B1 S1
    simp only [execOp, ho, Sem.run_bind, hx, hx2, hr, Result.andThen]
    rfl
  · cases h1
theorem owns_append : ∀ (a b : List CV), owns (a ++ b) = owns a ++ owns b
  | [], _ => rfl
  | c :: a, b => by
    have := owns_append a b
    cases c <;> simp [owns, this]
theorem lits_ok (hm : MemOK gl n0 w G h) {t : Ty} {J : Nat → Prop} (hJ : ∀ b, G.I b → J b) : ∀ {l : List (Nat × List CV)} {vs : List (Nat × Value)} {xs ys : List t.den} {cells : List Value},
    (∀ i ∈ owns (l.flatMap (·.2)), ∀ b, blkOf (G.μ i) = some b → J b) →
    L2 (fun (p : Nat × List CV) (q : Nat × Value) => p.1 = q.1 ∧ ∃ d : List Value, q.2.cells = d.toArray ∧ L2 (CellRep w G h) p.2 d) l vs →
    Reps (K w J t) xs cells → lits h t xs l = some ys → ∃ cells', Instr.fill (fun i => some (i * t.sz, t.sz)) cells.toArray vs = some cells'.toArray ∧ Reps (K w J t) ys cells' ∧ ys.length = xs.length
  | [], [], xs, ys, cells, _, _, hR, hl => by simp only [lits] at hl; cases hl; exact ⟨cells, rfl, hR, rfl⟩
  | (j, cs) :: l, (j', v) :: vs, xs, ys, cells, hO, hL, hR, hl => by
    obtain ⟨⟨hj, dv, hv, hld⟩, hL⟩ := hL
    simp only at hj
    subst hj
    simp only [lits] at hl
    obtain ⟨hlt, hl⟩ := bifs hl
    have hlt := Nat.le_of_ble_eq_true hlt
    obtain ⟨q, hq, hl⟩ := Option.bind_eq_some_iff.1 hl
    split at hl
    · rename_i hq2
      obtain ⟨c1, v1, v2, hc1, hv1, hL1, hL2, hK⟩ := toTy_ok hm hld (by rw [show q = (q.1, q.2) from rfl] at hq; exact hq)
      rw [hq2] at hc1 hL2
      have hv2 : v2 = [] := by cases v2 with | nil => rfl | cons => exact hL2.elim
      subst hv2
      simp only [List.append_nil] at hc1 hv1
      subst hc1
      subst hv1
      have hK' : K w J t q.1 dv := K_step (fun b hb => hb.elim (hJ b) (fun ⟨i, hi, hb⟩ => hO i (by simp only [List.flatMap_cons]; rw [owns_append]; exact List.mem_append_left _ hi) b hb)) (fun _ _ => rfl) hK
      have hx : xs[j]? = some xs[j] := List.getElem?_eq_getElem (by omega)
      obtain ⟨p, c, r, hc, hp, hKc, hset⟩ := Reps.get (fun _ _ h => K_len h) hR hx
      have hcl : c.length = t.sz := K_len hKc
      obtain ⟨cells', h1, h2, h3⟩ := lits_ok hm hJ (xs := xs.set j q.1) (cells := p ++ dv ++ r) (fun i hi => hO i (by simp only [List.flatMap_cons]; rw [owns_append]; exact List.mem_append_right _ hi)) hL (hset _ _ hK') hl
      refine ⟨cells', ?_, h2, by rw [h3, List.length_set]⟩
      have hdl := K_len hK'
      simp only [Instr.fill, hv]
      have hsz : ¬ ((decide (dv.toArray.size ≠ t.sz) || decide (j * t.sz + dv.toArray.size > cells.toArray.size)) = true) := by
        simp only [List.size_toArray, hc, List.length_append, Bool.or_eq_true, decide_eq_true_eq]; omega
      rw [if_neg (by simpa using hsz)]
      rw [← h1]
      congr 1
      have := foldl_set dv cells 0 (j * t.sz) (by rw [hc]; simp only [List.length_append]; omega)
      simp only [Nat.add_zero] at this
      have e1 : cells.take (j * t.sz) = p := by rw [hc, List.append_assoc, ← hp, List.take_left]
      have e2 : cells.drop (j * t.sz + dv.length) = r := by rw [hc, ← hp, hdl, ← hcl, ← List.length_append, List.drop_left]
      rw [e1, e2] at this
      rw [← this, ← Array.foldl_toList]
      simp [Array.toList_zipIdx]
    · cases hl
  | [], _ :: _, _, _, _, _, hL, _, _ => hL.elim
  | _ :: _, [], _, _, _, _, hL, _, _ => hL.elim
theorem owns_row {cs : List CV} {l : List Value} (hl : L2 (CellRep w G h) cs l) : ∀ i ∈ owns cs, ∃ v f e t xs, h i = some (.row v f e t xs) := by
  induction cs generalizing l with
  | nil => intro i hi; cases hi
  | cons c cs ih =>
    cases l with
    | nil => exact hl.elim
    | cons u l =>
      intro i hi
      have key : i ∈ owns cs → ∃ v f e t xs, h i = some (.row v f e t xs) := ih hl.2 i
      cases c <;> simp only [owns] at hi <;> try exact key hi
      rcases List.mem_cons.1 hi with rfl | hi
      · obtain ⟨_, cur, fro, e, t, xs, hh, _⟩ := hl.1
        exact ⟨cur, fro, e, t, xs, hh⟩
      · exact key hi
theorem freeze_ids : ∀ (ids : List Nat) (p : Nat × Blk), p ∈ freeze h ids → h p.1 ≠ none ∧ p.1 ∈ ids
  | [], p, hp => by cases hp
  | i :: r, p, hp => by
    simp only [freeze] at hp
    split at hp
    · rename_i hi
      rcases List.mem_cons.1 hp with rfl | hp
      · exact ⟨by simp [hi], List.mem_cons_self⟩
      · exact ⟨(freeze_ids r p hp).1, List.mem_cons_of_mem _ (freeze_ids r p hp).2⟩
    · exact ⟨(freeze_ids r p hp).1, List.mem_cons_of_mem _ (freeze_ids r p hp).2⟩
/-- Rows frozen, from where they stand. -/
theorem mem_frz (hm : MemOK gl n0 w G h) (ids : List Nat) : ∃ G', MemOK gl n0 w G' (effs h (freeze h ids)) ∧ Evo w w G G' h (effs h (freeze h ids)) ∧ G'.μ = G.μ ∧ (∀ b, G.I b → G'.I b) ∧ (∀ b, G'.I b → G.I b ∨ OB G ids b) ∧
      (∀ i ∈ ids, ∀ v f e t xs b, h i = some (.row v f e t xs) → blkOf (G.μ i) = some b → G'.I b) := by
  refine mem_freeze ids hm (fun i => ?_) (fun i C hi => ?_)
  · cases h i with
    | none => trivial
    | some B => cases B <;> trivial
  · cases C
    · trivial
    · trivial
    · exact ⟨_, hi⟩
    · trivial
theorem mem_frzU (hm : MemOK gl n0 w G h) (ids : List Nat) : ∃ G', MemOK gl n0 w G' (effs h (freeze h (unf h ids))) ∧ Evo w w G G' h (effs h (freeze h (unf h ids))) ∧ G'.μ = G.μ ∧ (∀ b, G.I b → G'.I b) ∧ (∀ b, G'.I b → G.I b ∨ OB G ids b) ∧
      (∀ i ∈ ids, ∀ v f e t xs b, h i = some (.row v f e t xs) → blkOf (G.μ i) = some b → G'.I b) := by
  obtain ⟨G', m1, E1, hμ, h1, h2, h3⟩ := mem_frz hm (unf h ids)
  refine ⟨G', m1, E1, hμ, h1, fun b hb => (h2 b hb).imp id ?_, fun i hi v f e t xs b hr hb => ?_⟩
  · rintro ⟨i, hi, hb⟩
    exact ⟨i, (List.mem_filter.1 hi).1, hb⟩
  · cases f with
    | true => exact h1 b ((hm.own i _ b hr hb).2.2.2 rfl)
    | false => exact h3 i (List.mem_filter.2 ⟨hi, by unfold isFrz; rw [hr]; rfl⟩) v false e t xs b hr hb
theorem hset_twice (h : Hp) (id : Nat) (B C : Blk) : hset (hset h id B) id C = hset h id C := by
  funext n
  by_cases e : n = id
  · subst e; rw [hset_same, hset_same]
  · rw [hset_ne _ _ e, hset_ne _ _ e, hset_ne _ _ e]
theorem parts_row {l : List (Nat × List CV)} {vs : List (Nat × Value)} (hL : L2 (fun (p : Nat × List CV) (q : Nat × Value) => p.1 = q.1 ∧ ∃ d : List Value, q.2.cells = d.toArray ∧ L2 (CellRep w G h) p.2 d) l vs) :
    ∀ i ∈ owns (l.flatMap (·.2)), ∃ v f e t xs, h i = some (.row v f e t xs) := by
  induction l generalizing vs with
  | nil => intro i hi; cases hi
  | cons p l ih =>
    cases vs with
    | nil => exact hL.elim
    | cons q vs =>
      intro i hi
      simp only [List.flatMap_cons] at hi
      rw [owns_append] at hi
      rcases List.mem_append.1 hi with hi | hi
      · obtain ⟨_, d, _, hd⟩ := hL.1
        exact owns_row hd i hi
      · exact ih hL.2 i hi
theorem op_buildSlice (hE : EnvOK P gl E) (hm : MemOK gl n0 w G h) (hs : ∀ t, SVRep w G h (s t) (a.tmps.getD t undef)) {T : TypeId} {n : Nat} {parts : Array (Nat × Operand)} (ho : o.op = .buildSlice T n parts) (h1 : op1 E d (evO E s) h (.buildSlice T n parts) = some (.val cs v e)) : OpOK P gl n0 o a w G h v (effs h e) := by
  simp only [op1] at h1
  have hev := evO_ok hE hm hs
  obtain ⟨i, hi, h1⟩ := Option.bind_eq_some_iff.1 h1
  split at h1
  · rename_i el hk
    obtain ⟨ei, hei, h1⟩ := Option.bind_eq_some_iff.1 h1
    obtain ⟨hbig, h1⟩ := bifs h1
    obtain ⟨l, hl, h1⟩ := Option.bind_eq_some_iff.1 h1
    obtain ⟨t, hty, h1⟩ := Option.bind_eq_some_iff.1 h1
    obtain ⟨xs, hxs, h1⟩ := Option.bind_eq_some_iff.1 h1
    obtain ⟨hf, h1⟩ := bifs h1
    obtain ⟨rfl, rfl, rfl⟩ := outOf h1
    have hfr := fresh_ok hf
    have hkd := (hE.tt _ _ hi).kd
    rw [hk] at hkd
    obtain ⟨⟨x, z, hx, hsz, hby, hz, hzc, hzs, hesz⟩, hdf⟩ := fnrow_cells hE hei hty
    have hL := partsOf_ok hev hl
    have hparts : (parts.map fun p => (p.1, a.eval p.2)).toList = parts.toList.map fun p => (p.1, a.eval p.2) := by simp
    obtain ⟨G1, m1, E1, hμ, hI1, hI2, hI3⟩ := mem_frz hm (owns (l.flatMap (·.2)))
    have hR0 : Reps (K w G1.I t) (List.replicate n t.dflt) (madeCells z.cells (n * t.sz)).toList := by
      rw [← hzs, made_flat, hzc]
      exact reps_replicate (hdf w G1.I) n
    obtain ⟨cells, hfill, hR, hlen⟩ := lits_ok hm (J := G1.I) hI1 (fun i hi b hb => by
      obtain ⟨v, f, e, t', ys, hh⟩ := parts_row hL i hi
      exact hI3 i hi v f e t' ys b hh hb) hL hR0 hxs
    rw [List.length_replicate] at hlen
    have hcl : cells.length = n * t.sz := by rw [Reps.len (fun _ _ h => K_len h) hR, hlen]
    have hbig' := Nat.le_of_ble_eq_true hbig
    have hrun : (Instr.buildSlice T n (parts.map fun p => (p.1, a.eval p.2))).run P w = .ok (.slice (some ⟨w.heap.size, 0, none⟩) n n) (w.alloc (.cells cells.toArray el)) := by
      by_cases hn : n = 0
      · subst hn
        have hc0 : cells = [] := List.eq_nil_of_length_eq_zero (by rw [hcl]; simp)
        subst hc0
        have hl0 : l = [] := by
          cases l with
          | nil => rfl
          | cons p l =>
            obtain ⟨j, pc⟩ := p
            simp [lits, Nat.ble] at hxs
        subst hl0
        have hp0 : parts = #[] := by
          have := hL.len
          simp only [List.length_nil, List.length_map] at this
          exact Array.eq_empty_of_size_eq_zero (by simpa using this.symm)
        subst hp0
        simp [Instr.buildSlice, run_underlying (show P.underlying T = some (.slice el) from hkd), sizeOf, typeInfo, hx, newRow, hsz, Instr.fill, Result.andThen]
        rw [show (Array.map (fun x => (default : Value)) (Array.range 0)) = #[] from Array.eq_empty_of_size_eq_zero (by simp)]
      · refine run_buildSlice w T el n _ cells.toArray x z hkd hx hz ?_ ?_ ?_
        · rw [hsz, ← hesz]; omega
        · rw [hsz]; have := Ty.sz_pos t; exact Nat.mul_ne_zero hn (by omega)
        · rw [hsz, hparts]
          rw [show ((Array.range (n * t.sz)).map fun x => z.cells[x % z.cells.size]!) = (madeCells z.cells (n * t.sz)).toList.toArray by rw [Array.toArray_toList]; rfl]
          exact hfill
    have hfr1 : effs h (freeze h (owns (l.flatMap (·.2)))) (newId d 0) = none := by
      rw [effs_other _ _ _ (fun p hp he => (freeze_ids _ p hp).1 (by rw [he]; exact hfr))]
      exact hfr
    have hml : n ≤ maxLen := by
      have : n ≤ n * ei.sz := Nat.le_mul_of_pos_right _ (by rw [hesz]; exact Ty.sz_pos t)
      unfold maxLen; omega
    have hown := World.ownsRow_lit (base := w.heap.size) (e := el) (size := t.sz) w cells.toArray n (Nat.le_refl _) hml (by simpa using hcl)
    obtain ⟨m2, E2, B2, S2⟩ := mem_row (row := none) (ver := 0) (id := newId d 0) (xs := xs) m1 (fun C hC => by rw [hfr1] at hC; cases hC) (fun _ => rfl) (World.grownBy_alloc w (.cells cells.toArray el) none)
      (.inl (by rw [hlen]; simpa using hown)) hR
    rw [effs_app]
    cases hfl : E.pre.any (Nat.beq (2000000 + d)) with
    | false =>
      refine opOK_at (v := .slice (some ⟨w.heap.size, 0, none⟩) n n) ?_ m2 (E1.trans E2) B2 S2
      simp only [execOp, ho, Sem.run_bind, hrun, Result.andThen]
      rfl
    | true =>
      obtain ⟨G3, m3, E3, _, _⟩ := mem_freeze1 m2 (hset_same _ _ _)
      rw [hset_twice] at m3 E3
      refine opOK_at (v := .slice (some ⟨w.heap.size, 0, none⟩) n n) ?_ m3 ((E1.trans E2).trans E3) B2 (S2.evo E3)
      simp only [execOp, ho, Sem.run_bind, hrun, Result.andThen]
      rfl
  · cases h1
/-! Stores -/
theorem splice_take {α : Type} (l vs : List α) (o m : Nat) (h1 : o + vs.length ≤ m) (h2 : m ≤ l.length) : (l.take o ++ vs ++ l.drop (o + vs.length)).take m = (l.take m).take o ++ vs ++ (l.take m).drop (o + vs.length) := by
  rw [List.take_append, List.take_append]
  simp only [List.length_append, List.length_take, List.take_take]
  rw [Nat.min_eq_left (by omega : o ≤ l.length)]
  rw [List.take_of_length_le (by omega : vs.length ≤ m - o)]
  rw [Nat.min_eq_right (by omega : o ≤ m), Nat.min_eq_left (by omega : o ≤ m)]
  congr 1
  rw [List.drop_take]
  try (congr 1; omega)
theorem run_storeAt {T : TypeId} {i : TI} (hT : TIOK P T i) {b off : Nat} {cur : Array Value} {el : TypeId} (hg : w.heap[b]? = some (.cells cur el (0, 0))) {u : Value} {vs : List Value} (hu : u.cells = vs.toArray) (hl : vs.length = i.sz) (hfit : off + vs.length ≤ cur.size) (h1 : ∀ v ∈ vs, v.oneCell' = true) :
    (Instr.storeAt T (.pointer (some ⟨b, off, none⟩)) u).run P w = .ok () (w.setRow b (cur.toList.take off ++ vs ++ cur.toList.drop (off + vs.length)).toArray) := by
  have hst := run_storeCells_at P b off el vs 0 cur w hg (by simpa using hfit) h1
  simp only [Nat.add_zero] at hst
  simp [Instr.storeAt, Instr.sureAddr, storeVar, hT.run_size, Result.andThen, hu, hl, hst]
theorem below_setRow (hm : MemOK gl n0 w G h) {b : Nat} (hb : n0 ≤ b) (cs : Array Value) : Below n0 w (w.setRow b cs) :=
  ⟨rfl, rfl, rfl, by simp [World.setRow], fun k hk => setRow_other w b k cs (by omega)⟩
theorem updTy_ok (hm : MemOK gl n0 w G h) {t : Ty} {x y : t.den} {off : Nat} {new : List CV} {I : Nat → Prop} {dx vs : List Value} (hI : ∀ b, I b → G.I b) (hK : K w I t x dx) (hn : L2 (CellRep w G h) new vs) (hu : updTy h t x off new = some y) :
    off + vs.length ≤ dx.length ∧ ∃ J : Nat → Prop, (∀ b, J b → G.I b ∨ OB G (owns new) b) ∧ K w J t y (dx.take off ++ vs ++ dx.drop (off + vs.length)) := by
  unfold updTy at hu
  obtain ⟨cs, hcs, hu1⟩ := Option.bind_eq_some_iff.1 hu
  obtain ⟨q, hq, hu2⟩ := Option.bind_eq_some_iff.1 hu1
  clear hu hu1
  obtain ⟨hle, rfl⟩ := splice_ok hcs
  have hL := ofTy_ok (G := G) (h := h) hI hK
  have hlen : new.length = vs.length := hn.len
  have hdl : (ofTy t x).length = dx.length := hL.len
  split at hu2
  · rename_i hq2
    cases hu2
    obtain ⟨c1, v1, v2, hc1, hv1, hL1, hL2, hK'⟩ := toTy_ok hm (vs := dx.take off ++ vs ++ dx.drop (off + vs.length)) (((hL.take off).app hn).app (by rw [← hlen]; exact hL.drop _)) (by rw [show q = (q.1, q.2) from rfl] at hq; exact hq)
    rw [hq2] at hc1 hL2
    have hv2 : v2 = [] := by cases v2 with | nil => rfl | cons => exact hL2.elim
    subst hv2
    simp only [List.append_nil] at hc1 hv1
    refine ⟨by omega, _, fun b hb => ?_, by rw [hv1]; exact hK'⟩
    rcases hb with hb | ⟨i, hi, hb⟩
    · exact .inl hb
    · rw [← hc1, owns_append, owns_append] at hi
      have no : ∀ (t : Ty) (x : t.den) (i : Nat), i ∉ owns (ofTy t x) := by
        intro t
        induction t with
        | prod a b iha ihb => intro x i hi; simp only [ofTy, owns_append] at hi; rcases List.mem_append.1 hi with h | h; exact iha _ _ h; exact ihb _ _ h
        | _ => intro x i hi; simp [ofTy, owns] at hi
      have sub : ∀ (l : List CV) (n i : Nat), i ∈ owns (l.take n) → i ∈ owns l := fun l n i hi => by
        rw [← List.take_append_drop n l, owns_append]; exact List.mem_append_left _ hi
      have sub2 : ∀ (l : List CV) (n i : Nat), i ∈ owns (l.drop n) → i ∈ owns l := fun l n i hi => by
        rw [← List.take_append_drop n l, owns_append]; exact List.mem_append_right _ hi
      rcases List.mem_append.1 hi with hi | hi
      · rcases List.mem_append.1 hi with hi | hi
        · exact absurd (sub _ _ _ hi) (no t x i)
        · exact .inr ⟨i, hi, hb⟩
      · exact absurd (sub2 _ _ _ hi) (no t x i)
  · cases hu2
theorem splice_ty {bs new : List CV} {off : Nat} {e : TypeId} (hn : noSq new = true) (ht : boxTy bs e) : boxTy (bs.take off ++ new ++ bs.drop (off + new.length)) e := by
  cases off with
  | zero =>
    cases new with
    | nil => simpa using ht
    | cons c r => cases c <;> first | trivial | (simp [noSq] at hn; done)
  | succ n =>
    cases bs with
    | nil => simp only [List.take_nil, List.nil_append, List.drop_nil, List.append_nil]; exact noSq_ty hn e
    | cons c r => cases c <;> first | trivial | exact ht
theorem op_store (hE : EnvOK P gl E) (hm : MemOK gl n0 w G h) (hs : ∀ t, SVRep w G h (s t) (a.tmps.getD t undef)) {T : TypeId} {x y : Operand} (ho : o.op = .store T x y) (h1 : op1 E d (evO E s) h (.store T x y) = some (.val cs v e)) : OpOK P gl n0 o a w G h v (effs h e) := by
  simp only [op1] at h1
  have hev := evO_ok hE hm hs
  obtain ⟨i, hi, h1⟩ := Option.bind_eq_some_iff.1 h1
  obtain ⟨new, hnew, h1⟩ := Option.bind_eq_some_iff.1 h1
  obtain ⟨hlen, h1⟩ := bifs h1
  have hlen := nbeq hlen
  obtain ⟨vs, hvs, hL⟩ := cells_ok (hev y) hnew
  have hvl : new.length = vs.length := hL.len
  have hone := L2_one hL
  have hx := hev x
  split at h1
  · rename_i id off hex
    rw [hex] at hx
    split at h1
    · rename_i bs hid
      obtain ⟨hnsq, h1⟩ := bifs h1
      obtain ⟨cs', hcs', h1⟩ := Option.bind_eq_some_iff.1 h1
      obtain ⟨rfl, rfl, rfl⟩ := outOf h1
      obtain ⟨hle, rfl⟩ := splice_ok hcs'
      obtain ⟨b, _, hμ, hxv⟩ := hx
      obtain ⟨b', el, l, hμ', hg, hl, hty⟩ := hm.rep _ _ hid
      rw [hμ] at hμ'
      simp only [Value.pointer.injEq, Option.some.injEq, Addr.mk.injEq, and_true] at hμ'
      subst hμ'
      have hbl : bs.length = l.length := hl.len
      have hrun := run_storeAt (P := P) (hE.tt _ _ hi) hg hvs (by omega) (by simp; omega) hone (off := off)
      have hbk : blkOf (G.μ id) = some b := by rw [hμ]; rfl
      obtain ⟨p1, p2, p3, _⟩ := hm.own id _ b hid hbk
      have hI : ∀ k, G.I k → (w.setRow b (l.toArray.toList.take off ++ vs ++ l.toArray.toList.drop (off + vs.length)).toArray).heap[k]? = w.heap[k]? := fun k hk => setRow_other w b k _ (fun he => p3 rfl (he ▸ hk))
      have hE1 := evo_set (h := h) (id := id) (B := .box (bs.take off ++ new ++ bs.drop (off + new.length))) (v0 := G.μ id) hI (fun k hk => setRow_other w b k _ (fun he => hm.foe id _ b hid hbk (he ▸ hk))) (fun C hC => by rw [hid] at hC; cases hC; rfl)
      obtain ⟨m1, E1⟩ := mem_set hm (id := id) (B := .box (bs.take off ++ new ++ bs.drop (off + new.length))) (v0 := G.μ id) hI (fun k hk => ⟨setRow_other w b k _ (fun he => hm.foe id _ b hid hbk (he ▸ hk)), fun he => hm.foe id _ k hid he hk⟩)
        (fun j C k hne hj hk => setRow_other w b k _ (fun he => hne (hm.inj j id C _ b hj hid (he ▸ hk) hbk))) (by simp [World.setRow]) (fun C hC => by rw [hid] at hC; cases hC; rfl)
        ⟨b, el, _, by rw [Mem.set_same]; exact hμ, setRow_heap w b _ _ el _ hg, by
          have h6 : L2 (CellRep w G h) (bs.take off ++ new ++ bs.drop (off + new.length)) (l.toArray.toList.take off ++ vs ++ l.toArray.toList.drop (off + vs.length)) := by
            rw [← hvl]; exact ((hl.take off).app hL).app (hl.drop (off + new.length))
          exact ⟨h6.imp fun _ _ hc => hc.evo hE1, splice_ty hnsq hty⟩⟩
        (fun k hk => by
          rw [hbk] at hk; cases hk
          exact ⟨p1, by simpa [World.setRow] using p2, fun _ => p3 rfl, fun hf => by simp [Blk.fro] at hf, fun j C hne hj hb => hne (hm.inj j id C _ b hj hid hb hbk)⟩)
      have hrun2 : (execOp a.eval o).run P w = .ok .skip (w.setRow b (l.toArray.toList.take off ++ vs ++ l.toArray.toList.drop (off + vs.length)).toArray) := by
        simp only [execOp, ho, Sem.run_bind, hxv, hrun, Result.andThen]
        rfl
      cases E.pre.any (Nat.beq (3000000 + id)) with
      | false => exact opOK_skip hrun2 m1 E1 (below_setRow hm p1 _)
      | true =>
        obtain ⟨G2, m2, E2, _⟩ := mem_frzbox m1 (hset_same _ _ _)
        have e2 : ∀ B C : Blk, hset (hset h id B) id C = hset h id C := fun B C => hset_twice h id B C
        rw [e2] at m2 E2
        exact opOK_skip hrun2 m2 (E1.trans E2) (below_setRow hm p1 _)
    · cases h1
  · rename_i id ver ix off hex
    rw [hex] at hx
    split at h1
    · rename_i vv el t xs hid
      obtain ⟨hvv, h1⟩ := bifs h1
      cases hno : (owns new).any (Nat.beq id) with
      | true => rw [hno] at h1; cases h1
      | false =>
        rw [hno] at h1
        simp only [cond_false] at h1
        obtain ⟨y', hy', h1⟩ := Option.bind_eq_some_iff.1 h1
        obtain ⟨rfl, rfl, rfl⟩ := outOf h1
        obtain ⟨_, cur, fro, e2, t2, xs2, hh, hle, hxv⟩ := hx
        rw [hid] at hh; cases hh
        obtain ⟨b, nn, cc, hμ, hi0, hi1, hxv⟩ := hxv (nbeq hvv).symm
        obtain ⟨inner, hown, hre⟩ := hm.rep _ _ hid
        obtain ⟨p, dx, q, hin, hpl, hKx, hset⟩ := Reps.get (fun _ _ h => K_len h) hre (rdT_get hi0 hi1)
        obtain ⟨hfit, J, hJ, hKy⟩ := updTy_ok hm (fun _ h => h) hKx hL hy'
        have hdl := K_len hKx
        obtain ⟨G1, m1, E1, hμ1, hI1, hI2, hI3⟩ := mem_frz hm (owns new)
        have hnid : id ∉ owns new := fun hm' => by
          have := List.any_eq_false.1 hno id hm'
          simp [Nat.beq_refl] at this
        have hid1 : effs h (freeze h (owns new)) id = some (.row vv false el t xs) := by
          rw [effs_other _ _ _ (fun p hp he => hnid (by have h7 := (freeze_ids _ p hp).2; rw [he] at h7; exact h7))]; exact hid
        have hbk : blkOf (G.μ id) = some b := by rw [hμ]; rfl
        obtain ⟨p1, p2, p3, _⟩ := m1.own id _ b hid1 (by rw [hμ1]; exact hbk)
        rcases hown.2 with ⟨hn, _⟩ | ⟨g, cap, cur, hv, _, hg, hle2, hcm, hcs, htake⟩
        · rw [hμ] at hn; cases hn
        · rw [hμ] at hv
          simp only [Value.slice.injEq, Option.some.injEq, Addr.mk.injEq, and_true] at hv
          obtain ⟨rfl, rfl, rfl⟩ := hv
          have hinl : inner.length = List.length xs * t.sz := hown.1
          have hin2 : inner.length = p.length + dx.length + q.length := by rw [hin]; simp [Nat.add_assoc]
          have hcl : List.length xs * t.sz ≤ cur.size := by rw [hcs]; exact Nat.mul_le_mul_right _ hle2
          have hrun := run_storeAt (P := P) (hE.tt _ _ hi) hg hvs (by omega) (by omega) hone (off := ix.toNat * t.sz + off)
          have e3 : ((cur.toList.take (ix.toNat * t.sz + off) ++ vs ++ cur.toList.drop (ix.toNat * t.sz + off + vs.length))).take (List.length xs * t.sz) = p ++ (dx.take off ++ vs ++ dx.drop (off + vs.length)) ++ q := by
            rw [splice_take _ _ _ _ (by omega) (by simpa using hcl), htake, hin, ← hpl]
            rw [List.append_assoc p dx q, List.take_length_add_append, List.take_append_of_le_length (by omega)]
            rw [Nat.add_assoc p.length, List.drop_length_add_append, List.drop_append_of_le_length (by omega)]
            simp
          have hI : ∀ k, G1.I k → (w.setRow b (cur.toList.take (ix.toNat * t.sz + off) ++ vs ++ cur.toList.drop (ix.toNat * t.sz + off + vs.length)).toArray).heap[k]? = w.heap[k]? := fun k hk => setRow_other w b k _ (fun he => p3 rfl (he ▸ hk))
          have hJ1 : ∀ k, J k → G1.I k := fun k hk => by
            rcases hJ k hk with hk | ⟨j, hj, hk⟩
            · exact hI1 k hk
            · obtain ⟨v, f, e, t', ys, hh⟩ := owns_row hL j hj
              exact hI3 j hj v f e t' ys k hh hk
          have hfol : ∀ C, effs h (freeze h (owns new)) id = some C → Follows C (.row vv false el t (List.set xs ix.toNat y')) (G1.μ id) (G1.μ id) := fun C hC => by
            rw [hid1] at hC; cases hC; exact ⟨rfl, Nat.le_refl _, fun _ => ⟨rfl, by simp⟩⟩
          obtain ⟨m2, E2⟩ := mem_set m1 (id := id) (B := .row vv false el t (List.set xs ix.toNat y')) (v0 := G1.μ id) hI (fun k hk => ⟨setRow_other w b k _ (fun he => m1.foe id _ b hid1 (by rw [hμ1]; exact hbk) (he ▸ hk)), fun he => m1.foe id _ k hid1 he hk⟩)
            (fun j C k hne hj hk => setRow_other w b k _ (fun he => hne (m1.inj j id C _ b hj hid1 (he ▸ hk) (by rw [hμ1]; exact hbk)))) (by simp [World.setRow]) hfol
            ⟨p ++ (dx.take off ++ vs ++ dx.drop (off + vs.length)) ++ q, by
              rw [Mem.set_same, hμ1, hμ]
              refine ⟨by rw [← e3, List.length_take, List.length_set]; simp; omega, .inr ⟨b, cc, _, by rw [List.length_set], Nat.zero_le _, setRow_heap w b _ _ el _ hg, by rw [List.length_set]; exact hle2, hcm, by simp; omega, by rw [List.length_set]; exact e3⟩⟩, by
              have hR := Reps.imp (fun _ _ h => K_step hI1 (fun _ _ => rfl) h) hre
              rw [hin] at hR
              obtain ⟨p', dx', q', hin', hpl', hKx', hset'⟩ := Reps.get (fun _ _ h => K_len h) hR (rdT_get hi0 hi1)
              have hdl' := K_len hKx'
              have ea : p = p' := by
                have := congrArg (List.take p.length) hin'
                rw [List.append_assoc, List.append_assoc, List.take_left, hpl, ← hpl', List.take_left] at this
                exact this
              subst ea
              rw [List.append_assoc, List.append_assoc] at hin'
              have eb := List.append_cancel_left hin'
              have ec : dx = dx' ∧ q = q' := List.append_inj eb (by omega)
              obtain ⟨rfl, rfl⟩ := ec
              exact (hset' _ _ (K_step hJ1 (fun _ _ => rfl) hKy)).imp fun _ _ hK => K_step (fun _ h => h) hI hK⟩
            (fun k hk => by
              rw [hμ1, hbk] at hk; cases hk
              exact ⟨p1, by simpa [World.setRow] using p2, fun _ => p3 rfl, fun hf => by simp [Blk.fro] at hf, fun j C hne hj hb => hne (m1.inj j id C _ b hj hid1 hb (by rw [hμ1]; exact hbk))⟩)
          rw [effs_app]
          refine opOK_skip ?_ m2 (E1.trans E2) (below_setRow hm p1 _)
          simp only [execOp, ho, Sem.run_bind, hxv, hrun, Result.andThen]
          rfl
    · cases h1
  · cases h1
end
end Go.Den
