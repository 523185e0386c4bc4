/-
  One operation of the abstract machine is right: those that yield a value at once.
-/
import Derived.Test.YtbjkfkifkglplaaGreatDoorD3f
import Derived.Test.YtbjkfkifkglplaaGreatDoorD3m
import Derived.Laws.Tables
set_option linter.unusedSectionVars false
set_option linter.unusedVariables false
set_option linter.unusedSimpArgs false
namespace Go.Den
open Go Go.RowKit
section
variable {P : Program} {gl : GT} {n0 : Nat} {o : Oper} {a : Act} {w : World} {G : Mem} {h : Hp} {E : EnvC} {s : Nat → SV} {d : Nat} {cs : List Cnd} {v : SV} {e : List (Nat × Blk)}
theorem op_move (hE : EnvOK P gl E) (hm : MemOK gl n0 w G h) (hs : ∀ t, SVRep w G h (s t) (a.tmps.getD t undef)) {x : Operand} (ho : o.op = .move x ∨ o.op = .assign x) (h1 : Out.of (evO E s x) = some (.val cs v e)) : OpOK P gl n0 o a w G h v (effs h e) := by
  obtain ⟨rfl, rfl, rfl⟩ := outOf h1
  refine opOK_pure (v := a.eval x) ?_ hm (evO_ok hE hm hs x)
  rcases ho with ho | ho <;> simp [execOp, ho]
theorem cvsOf_ty : ∀ {vs : List Value} {cs : List CV}, cvsOf vs = some cs → ∀ e, boxTy cs e
  | [], _, h, _ => by simp only [cvsOf] at h; cases h; trivial
  | v :: vs, _, h, e => by
    simp only [cvsOf] at h
    obtain ⟨c, hc, h⟩ := Option.bind_eq_some_iff.1 h
    obtain ⟨cs, hcs, h⟩ := Option.bind_eq_some_iff.1 h
    cases h
    unfold cvOf at hc
    split at hc <;> first | (cases hc; trivial) | cases hc
theorem op_alloc (hE : EnvOK P gl E) (hm : MemOK gl n0 w G h) {t : TypeId} (ho : o.op = .alloc t) (h1 : op1 E d (evO E s) h (.alloc t) = some (.val cs v e)) : OpOK P gl n0 o a w G h v (effs h e) := by
  simp only [op1] at h1
  obtain ⟨i, hi, h1⟩ := Option.bind_eq_some_iff.1 h1
  obtain ⟨hf, h1⟩ := bifs h1
  obtain ⟨x, z, hx, hs', hb', hz, hcv⟩ := (hE.tt _ _ hi).info
  have hrun : (execOp a.eval o).run P w = .ok (.value (.pointer (some ⟨w.heap.size, 0, none⟩))) (w.alloc (.cells z.cells.toList.toArray t)) := by
    simp [execOp, ho, Instr.alloc, zeroValue, typeInfo, hx, hz, Result.andThen, newVar, newRow]
  cases hbt : bldT E t with
  | false =>
    rw [hbt] at h1
    obtain ⟨rfl, rfl, rfl⟩ := outOf h1
    obtain ⟨m1, E1, S1⟩ := mem_box hm (fresh_ok hf) (cvsOf_ok hcv w G h) t (cvsOf_ty hcv t)
    exact opOK_at hrun m1 E1 (below_alloc0 hm _) S1
  | true =>
    rw [hbt] at h1
    simp only [cond_true] at h1
    split at h1
    · rename_i rest hzz
      replace h1 := (bifs h1).2
      obtain ⟨rfl, rfl, rfl⟩ := outOf h1
      rw [hzz] at hcv
      obtain ⟨m1, E1, S1⟩ := mem_box hm (fresh_ok hf) (cvsOf_ok hcv w G h) t trivial
      obtain ⟨b, e', l, g1, g2, g3, _⟩ := m1.rep _ _ (hset_same _ _ _)
      rw [Mem.set_same] at g1
      simp only [Value.pointer.injEq, Option.some.injEq, Addr.mk.injEq, and_true] at g1
      subst g1
      rw [heap_alloc_new] at g2
      cases g2
      have hbx : HasBox (hset h (newId d 0) (.box (.np :: .nl :: rest))) (newId d 0) := ⟨_, _, hset_same _ _ _, rfl⟩
      obtain ⟨m2, E2⟩ := mem_set m1 (id := newId d 0) (B := .box (.sq t (newId d 0) :: .nl :: rest)) (v0 := .pointer (some ⟨w.heap.size, 0, none⟩)) (fun _ _ => rfl) (fun k hk => ⟨rfl, fun he => m1.foe _ _ k (hset_same _ _ _) (by rw [Mem.set_same]; exact he) hk⟩) (fun _ _ _ _ _ _ => rfl) (Nat.le_refl _) (fun C hC => by rw [hset_same] at hC; cases hC; exact (Mem.set_same _ _ _).symm)
        ⟨_, t, z.cells.toList, Mem.set_same _ _ _, heap_alloc_new w _, by
          match hl : z.cells.toList, hcv with
          | [], hcv => exact absurd hcv (by simp [cvsOf])
          | [_], hcv =>
            simp only [cvsOf] at hcv
            obtain ⟨_, _, hcv⟩ := Option.bind_eq_some_iff.1 hcv
            cases hcv
          | u :: u' :: ur, hcv =>
            have hq := cvsOf_ok hcv (w.alloc (.cells z.cells.toList.toArray t)) ((G.set (newId d 0) (.pointer (some ⟨w.heap.size, 0, none⟩))).set (newId d 0) (.pointer (some ⟨w.heap.size, 0, none⟩))) (hset (hset h (newId d 0) (.box (.np :: .nl :: rest))) (newId d 0) (.box (.sq t (newId d 0) :: .nl :: rest)))
            rw [hl] at hq
            exact ⟨⟨w.heap.size, ⟨_, _, hset_same _ _ _, rfl⟩, Mem.set_same _ _ _, .inl hq.1⟩, hq.2.1, hq.2.2⟩, rfl⟩
        (fun k hk => by
          obtain ⟨p1, p2, p3, p4⟩ := m1.own _ _ k (hset_same _ _ _) (by rw [Mem.set_same]; exact hk)
          exact ⟨p1, p2, fun _ => p3 rfl, fun hf => by simp [Blk.fro] at hf, fun i C hne hi hb => hne (m1.inj i _ _ _ k hi (hset_same _ _ _) hb (by rw [Mem.set_same]; exact hk))⟩)
      have e1 : (G.set (newId d 0) (.pointer (some ⟨w.heap.size, 0, none⟩))).set (newId d 0) (.pointer (some ⟨w.heap.size, 0, none⟩)) = G.set (newId d 0) (.pointer (some ⟨w.heap.size, 0, none⟩)) := by
        simp only [Mem.set]; congr 1; funext k; split <;> rfl
      have e2 : hset (hset h (newId d 0) (.box (.np :: .nl :: rest))) (newId d 0) (.box (.sq t (newId d 0) :: .nl :: rest)) = hset h (newId d 0) (.box (.sq t (newId d 0) :: .nl :: rest)) := by
        funext k; unfold hset; cases Nat.beq k (newId d 0) <;> rfl
      rw [e1, e2] at m2 E2
      exact opOK_at hrun m2 (E1.trans E2) (below_alloc0 hm _) ⟨w.heap.size, ⟨_, _, hset_same _ _ _, rfl⟩, Mem.set_same _ _ _, rfl⟩
    · cases h1
theorem mem_sq (hm : MemOK gl n0 w G h) {id b : Nat} {t : TypeId} {rest : List CV} {l : List Value} (hi : h id = some (.box (.np :: .nl :: rest))) (hμ : G.μ id = .pointer (some ⟨b, 0, none⟩)) (hb : w.heap[b]? = some (.cells l.toArray t (0, 0))) (hL : L2 (CellRep w G h) (.np :: .nl :: rest) l) :
    ∃ G', MemOK gl n0 w G' (hset h id (.box (.sq t id :: .nl :: rest))) ∧ Evo w w G G' h (hset h id (.box (.sq t id :: .nl :: rest))) ∧ G'.μ id = .pointer (some ⟨b, 0, none⟩) := by
  have hfol : ∀ C, h id = some C → Follows C (.box (.sq t id :: .nl :: rest)) (G.μ id) (.pointer (some ⟨b, 0, none⟩)) := fun C hC => by rw [hi] at hC; cases hC; exact hμ.symm
  have E := evo_set (w := w) (w' := w) (B := .box (.sq t id :: .nl :: rest)) (fun _ _ => rfl) (fun _ _ => rfl) hfol
  match l, hL with
  | c0 :: l', ⟨h0, h1⟩ =>
  have h0 : c0 = .pointer none := h0
  obtain ⟨m, E'⟩ := mem_set hm (id := id) (B := .box (.sq t id :: .nl :: rest)) (v0 := .pointer (some ⟨b, 0, none⟩)) (fun _ _ => rfl) (fun k hk => ⟨rfl, fun he => hm.foe _ _ k hi (by rw [hμ]; exact he) hk⟩) (fun _ _ _ _ _ _ => rfl) (Nat.le_refl _) hfol
    ⟨b, t, c0 :: l', Mem.set_same _ _ _, hb, ⟨⟨b, ⟨_, _, hset_same _ _ _, rfl⟩, Mem.set_same _ _ _, .inl h0⟩, h1.imp fun _ _ hc => hc.evo E⟩, rfl⟩
    (fun k hk => by
      obtain ⟨p1, p2, p3, p4⟩ := hm.own _ _ k hi (by rw [hμ]; exact hk)
      exact ⟨p1, p2, fun _ => p3 rfl, fun hf => by simp [Blk.fro] at hf, fun i C hne hi' hb' => hne (hm.inj i _ _ _ k hi' hi hb' (by rw [hμ]; exact hk))⟩)
  exact ⟨_, m, E', Mem.set_same _ _ _⟩
theorem op_box (hE : EnvOK P gl E) (hm : MemOK gl n0 w G h) (hs : ∀ t, SVRep w G h (s t) (a.tmps.getD t undef)) {t : TypeId} {x : Operand} (ho : o.op = .box t x) (h1 : op1 E d (evO E s) h (.box t x) = some (.val cs v e)) : OpOK P gl n0 o a w G h v (effs h e) := by
  simp only [op1] at h1
  obtain ⟨c, hc, h1⟩ := Option.bind_eq_some_iff.1 h1
  obtain ⟨hf, h1⟩ := bifs h1
  simp only [Bool.and_eq_true] at hf
  obtain ⟨l, hl, hL⟩ := cells_ok (evO_ok hE hm hs x) hc
  obtain ⟨m1, E1, S1⟩ := mem_box hm (fresh_ok hf.1) hL t (noSq_ty hf.2 t)
  have hrun : (execOp a.eval o).run P w = .ok (.value (.pointer (some ⟨w.heap.size, 0, none⟩))) (w.alloc (.cells l.toArray t)) := by
    simp [execOp, ho, Instr.box, newVar, newRow, hl]
  cases hbt : bldT E t with
  | false =>
    rw [hbt] at h1
    obtain ⟨rfl, rfl, rfl⟩ := outOf h1
    exact opOK_at hrun m1 E1 (below_alloc0 hm _) S1
  | true =>
    rw [hbt] at h1
    simp only [cond_true] at h1
    split at h1
    · rename_i rest _
      obtain ⟨rfl, rfl, rfl⟩ := outOf h1
      obtain ⟨b, e', l', g1, g2, g3, _⟩ := m1.rep _ _ (hset_same _ _ _)
      rw [Mem.set_same] at g1
      simp only [Value.pointer.injEq, Option.some.injEq, Addr.mk.injEq, and_true] at g1
      subst g1
      have g2' := g2
      rw [heap_alloc_new] at g2'
      simp only [Option.some.injEq, Obj.cells.injEq] at g2'
      obtain ⟨_, rfl, _⟩ := g2'
      obtain ⟨G2, m2, E2, hμ2⟩ := mem_sq m1 (hset_same _ _ _) (Mem.set_same _ _ _) g2 g3
      have e2 : hset (hset h (newId d 0) (.box (.np :: .nl :: rest))) (newId d 0) (.box (.sq t (newId d 0) :: .nl :: rest)) = hset h (newId d 0) (.box (.sq t (newId d 0) :: .nl :: rest)) := by
        funext k; unfold hset; cases Nat.beq k (newId d 0) <;> rfl
      rw [e2] at m2 E2
      exact opOK_at hrun m2 (E1.trans E2) (below_alloc0 hm _) ⟨w.heap.size, ⟨_, _, hset_same _ _ _, rfl⟩, hμ2, rfl⟩
    · cases h1
theorem op_load (hE : EnvOK P gl E) (hm : MemOK gl n0 w G h) (hs : ∀ t, SVRep w G h (s t) (a.tmps.getD t undef)) {t : TypeId} {x : Operand} (ho : o.op = .load t x) (h1 : op1 E d (evO E s) h (.load t x) = some (.val cs v e)) : OpOK P gl n0 o a w G h v (effs h e) := by
  simp only [op1] at h1
  obtain ⟨i, hi, h1⟩ := Option.bind_eq_some_iff.1 h1
  have hx := evO_ok hE hm hs x
  split at h1
  · rename_i c hev
    rw [hev] at hx
    obtain ⟨r, hr, h1⟩ := Option.bind_eq_some_iff.1 h1
    obtain ⟨sv, hsv, h1⟩ := Option.bind_eq_some_iff.1 h1
    obtain ⟨rfl, rfl, rfl⟩ := outOf h1
    obtain ⟨A, l, hA, hL, hlen, hC⟩ := readAt_ok hm hx hr
    obtain ⟨u, hu, hS⟩ := aggSV_ok hL hsv
    refine opOK_pure ?_ hm hS
    simp [execOp, ho, hA, run_loadAt (hE.tt _ _ hi) hC hlen hu, Result.andThen]
  · cases h1
theorem nevNil_isFn : ∀ {t : Ty} {x : t.den}, nevNil t = true → isFn t x = true
  | .fn _ _ _, _, _ => rfl
  | .alt a b, .inl y, h => by simp only [nevNil, Bool.and_eq_true] at h; exact nevNil_isFn (t := a) h.1
  | .alt a b, .inr y, h => by simp only [nevNil, Bool.and_eq_true] at h; exact nevNil_isFn (t := b) h.2
theorem K_isFn {I : Nat → Prop} : ∀ {t : Ty} {x : t.den} {l : List Value}, K w I t x l → isFn t x = true → ∃ f caps, l = [.func (.func f) #[] caps]
  | .fn f gs t, x, l, hK, _ => by obtain ⟨_, caps, h, _⟩ := hK; exact ⟨f, _, h⟩
  | .alt a b, .inl y, l, hK, h => K_isFn hK.2 h
  | .alt a b, .inr y, l, hK, h => K_isFn hK.2 h
theorem op_nil (hE : EnvOK P gl E) (hm : MemOK gl n0 w G h) (hs : ∀ t, SVRep w G h (s t) (a.tmps.getD t undef)) {x : Operand} (ho : o.op = .nilCheck x) (h1 : op1 E d (evO E s) h (.nilCheck x) = some (.val cs v e)) (hc : ∀ c ∈ cs, c.p) : OpOK P gl n0 o a w G h v (effs h e) := by
  simp only [op1] at h1
  have hx := evO_ok hE hm hs x
  split at h1
  · rename_i id off hev
    rw [hev] at hx
    obtain ⟨rfl, rfl, rfl⟩ := outOf h1
    refine opOK_pure ?_ hm hx
    obtain ⟨b, _, _, hv⟩ := hx
    simp [execOp, ho, hv]
  · rename_i f c hev
    rw [hev] at hx
    obtain ⟨rfl, rfl, rfl⟩ := outOf h1
    refine opOK_pure ?_ hm hx
    obtain ⟨hv, _⟩ := hx
    simp [execOp, ho, hv]
  · rename_i t y hev
    rw [hev] at hx
    have fin : isFn t y = true → OpOK P gl n0 o a w G h (.one (.d t y)) h := fun hf => by
      refine opOK_pure (v := a.eval x) ?_ hm hx
      obtain ⟨f, caps, hv⟩ := K_isFn hx hf
      simp only [List.cons.injEq, and_true] at hv
      simp [execOp, ho, hv]
    cases hb : nevNil t with
    | true =>
      rw [hb] at h1
      obtain ⟨rfl, rfl, rfl⟩ := outOf h1
      exact fin (nevNil_isFn hb)
    | false =>
      rw [hb] at h1
      simp only [cond_false, Out.when, Option.some.injEq, Out.val.injEq] at h1
      obtain ⟨rfl, rfl, rfl⟩ := h1
      exact fin (hc _ List.mem_cons_self)
  · cases h1
theorem op_bin (hE : EnvOK P gl E) (hm : MemOK gl n0 w G h) (hs : ∀ t, SVRep w G h (s t) (a.tmps.getD t undef)) {op : BinOp} {T T' : TypeId} {x y : Operand} (ho : o.op = .binOp op T x y T') (h1 : op1 E d (evO E s) h (.binOp op T x y T') = some (.val cs v e)) (hc : ∀ c ∈ cs, c.p) : OpOK P gl n0 o a w G h v (effs h e) := by
  simp only [op1] at h1
  have hx := evO_ok hE hm hs x
  have hy := evO_ok hE hm hs y
  split at h1
  · rename_i p q hp hq
    rw [hp] at hx; rw [hq] at hy
    obtain ⟨rfl, r, hr, hS⟩ := bin1_ok (xo := x) hE h1 hc hx hy rfl
    refine opOK_pure (v := r) ?_ hm hS
    simp only [execOp, ho, Sem.run_bind, hr, Result.andThen]
    rfl
  · rename_i p q hp hq
    rw [hp] at hx; rw [hq] at hy
    obtain ⟨t, ht, h1⟩ := Option.bind_eq_some_iff.1 h1
    obtain ⟨u, hu, h1⟩ := Option.bind_eq_some_iff.1 h1
    obtain ⟨z, hz, h1⟩ := Option.bind_eq_some_iff.1 h1
    obtain ⟨lx, hlx, hLx⟩ := hx
    obtain ⟨ly, hly, hLy⟩ := hy
    split at h1
    · rename_i hu2 hz2
      obtain ⟨c1, v1, v2, hc1, hv1, hL1, hL2, hK⟩ := toTy_ok hm hLx (by rw [show u = (u.1, u.2) from rfl] at hu; exact hu)
      obtain ⟨c2, v3, v4, hc2, hv3, hL3, hL4, hK2⟩ := toTy_ok hm hLy (by rw [show z = (z.1, z.2) from rfl] at hz; exact hz)
      have e1 : v2 = [] := by rw [hu2] at hL2; cases v2 with | nil => rfl | cons => exact hL2.elim
      have e2 : v4 = [] := by rw [hz2] at hL4; cases v4 with | nil => rfl | cons => exact hL4.elim
      rw [e1, List.append_nil] at hv1
      rw [e2, List.append_nil] at hv3
      obtain ⟨hrun, hg⟩ := cmp_ok (hE.cmp _ _ ht) (I := fun _ => True) (K_step (fun _ _ => trivial) (fun _ _ => rfl) hK) (K_step (fun _ _ => trivial) (fun _ _ => rfl) hK2)
      rw [← hv1, ← hv3] at hrun
      split at h1
      · obtain ⟨rfl, rfl, rfl⟩ := outOf h1
        refine opOK_pure (v := .bool (@decide (u.1 = z.1) (t.deq u.1 z.1))) ?_ hm rfl
        simp only [execOp, ho, Sem.run_bind, hlx, hly, run_eqGuard_agg w _ _ _ _ _ _ hg, Result.andThen, run_eql_struct, hrun]
        rfl
      · obtain ⟨rfl, rfl, rfl⟩ := outOf h1
        refine opOK_pure (v := .bool (!(@decide (u.1 = z.1) (t.deq u.1 z.1)))) ?_ hm rfl
        simp only [execOp, ho, Sem.run_bind, hlx, hly, run_eqGuard_agg w _ _ _ _ _ _ hg, Result.andThen, run_neq_struct, hrun]
        rfl
      · cases h1
    · cases h1
  · cases h1
theorem op_un (hE : EnvOK P gl E) (hm : MemOK gl n0 w G h) (hs : ∀ t, SVRep w G h (s t) (a.tmps.getD t undef)) {op : UnOp} {T : TypeId} {x : Operand} (ho : o.op = .unOp op T x) (h1 : op1 E d (evO E s) h (.unOp op T x) = some (.val cs v e)) : OpOK P gl n0 o a w G h v (effs h e) := by
  simp only [op1] at h1
  have hx := evO_ok hE hm hs x
  split at h1
  · rename_i p hp
    rw [hp] at hx
    obtain ⟨rfl, r, hr, hS⟩ := un1_ok (P := P) h1 hx
    refine opOK_pure (v := r) ?_ hm hS
    simp only [execOp, ho, Sem.run_bind, hr, Result.andThen]
    rfl
  · cases h1
theorem op_build (hE : EnvOK P gl E) (hm : MemOK gl n0 w G h) (hs : ∀ t, SVRep w G h (s t) (a.tmps.getD t undef)) {t : TypeId} {parts : Array (Nat × Operand)} (ho : o.op = .build t parts) (h1 : op1 E d (evO E s) h (.build t parts) = some (.val cs v e)) : OpOK P gl n0 o a w G h v (effs h e) := by
  simp only [op1] at h1
  obtain ⟨i, hi, h1⟩ := Option.bind_eq_some_iff.1 h1
  obtain ⟨ps, hps, h1⟩ := Option.bind_eq_some_iff.1 h1
  obtain ⟨l, hl, h1⟩ := Option.bind_eq_some_iff.1 h1
  obtain ⟨r, hr, h1⟩ := Option.bind_eq_some_iff.1 h1
  obtain ⟨rfl, rfl, rfl⟩ := outOf h1
  have hT := hE.tt _ _ hi
  obtain ⟨x, z, hx, hsz, hb', hz, hcv⟩ := hT.info
  have hL := partsOf_ok (evO_ok hE hm hs) hl
  have hparts : (parts.map fun p => (p.1, a.eval p.2)).toList = parts.toList.map fun p => (p.1, a.eval p.2) := by simp
  have hz0 := cvsOf_ok hcv w G h
  cases hk : i.kd <;> rw [hk] at hps <;> simp only [placesOf] at hps <;> try cases hps
  · rename_i fs
    have hkd := hT.kd
    rw [hk] at hkd
    obtain ⟨F, hF, hfs⟩ := hkd
    have hplaces : ∀ (L : List Field) (fs' : List (Nat × TypeId)) (ps' : List (Nat × Nat)), L.map (fun f => (f.offset, f.type)) = fs' → fs'.foldr (fun f r => r.bind fun l => (E.tt.find f.2).bind fun i => some ((f.1, i.sz) :: l)) (some []) = some ps' →
        L.mapM (fun f => (P.info? f.type).map fun i => (f.offset, i.size)) = some ps' := by
      intro L
      induction L with
      | nil => intro fs' ps' h1 h2; simp at h1; subst h1; simp at h2; subst h2; simp
      | cons f L ih =>
        intro fs' ps' h1 h2
        cases fs' with
        | nil => simp at h1
        | cons g fs' =>
          simp only [List.map_cons, List.cons.injEq] at h1
          obtain ⟨rfl, h1⟩ := h1
          simp only [List.foldr_cons] at h2
          obtain ⟨l', h3, h2⟩ := Option.bind_eq_some_iff.1 h2
          obtain ⟨fi, hfi, h2⟩ := Option.bind_eq_some_iff.1 h2
          cases h2
          have := ih fs' l' h1 h3
          obtain ⟨y, _, hy, hys, _⟩ := (hE.tt _ _ hfi).info
          simp [List.mapM_cons, this, hy, hys]
    have hpm := hplaces F.toList fs ps hfs hps
    obtain ⟨d', hfill, hL'⟩ := fillC_ok (places := fun i => (ps.toArray)[i]?) (fun i p hp => by simpa using hp) hL hz0 hr
    refine opOK_pure (v := .agg d'.toArray) ?_ hm ⟨d', rfl, hL'⟩
    have hb : P.built t (parts.map fun p => (p.1, a.eval p.2)).toList = some d'.toArray := by
      unfold Program.built
      simp only [hx, hF, hz, hpm, hparts]
      rw [← hfill]
    simp only [execOp, ho, Sem.run_bind, run_build w t _ _ hb, Result.andThen]
    rfl
  · rename_i n el
    have hkd := hT.kd
    rw [hk] at hkd
    obtain ⟨fi, hfi, hps⟩ := Option.bind_eq_some_iff.1 hps
    cases hps
    obtain ⟨y, _, hy, hys, _⟩ := (hE.tt _ _ hfi).info
    obtain ⟨d', hfill, hL'⟩ := fillC_ok (places := fun i => some (i * fi.sz, fi.sz)) (fun i p hp => by
      rw [List.getElem?_map] at hp
      obtain ⟨j, hj, hp⟩ := Option.map_eq_some_iff.1 hp
      obtain ⟨hlt, hj⟩ := List.getElem?_eq_some_iff.1 hj
      simp at hj; subst hj; rw [hp]) hL hz0 hr
    refine opOK_pure (v := .agg d'.toArray) ?_ hm ⟨d', rfl, hL'⟩
    have hb : P.built t (parts.map fun p => (p.1, a.eval p.2)).toList = some d'.toArray := by
      unfold Program.built
      simp only [hx, show P.underlying t = some (.array n el) from hkd, hz, hy, hparts, hys]
      rw [← hfill]
    simp only [execOp, ho, Sem.run_bind, run_build w t _ _ hb, Result.andThen]
    rfl
theorem op_fieldAddr (hE : EnvOK P gl E) (hm : MemOK gl n0 w G h) (hs : ∀ t, SVRep w G h (s t) (a.tmps.getD t undef)) {T : TypeId} {x : Operand} {f : Nat} (ho : o.op = .fieldAddr T x f) (h1 : op1 E d (evO E s) h (.fieldAddr T x f) = some (.val cs v e)) : OpOK P gl n0 o a w G h v (effs h e) := by
  simp only [op1] at h1
  obtain ⟨i, hi, h1⟩ := Option.bind_eq_some_iff.1 h1
  have hx := evO_ok hE hm hs x
  split at h1
  · rename_i fs c hk hev
    rw [hev] at hx
    obtain ⟨p, hp, h1⟩ := Option.bind_eq_some_iff.1 h1
    obtain ⟨fi, hfi, h1⟩ := Option.bind_eq_some_iff.1 h1
    cases hb : Nat.beq fi.sz 0 with
    | true => rw [hb] at h1; cases h1
    | false =>
      rw [hb] at h1
      simp only [cond_false] at h1
      obtain ⟨c', hc', h1⟩ := Option.bind_eq_some_iff.1 h1
      obtain ⟨rfl, rfl, rfl⟩ := outOf h1
      have hkd := (hE.tt _ _ hi).kd
      rw [hk] at hkd
      obtain ⟨F, hF, hfs⟩ := hkd
      obtain ⟨fd, hfd, hoff⟩ : ∃ fd, F[f]? = some fd ∧ (fd.offset, fd.type) = p := by
        rw [← hfs, List.getElem?_map] at hp
        obtain ⟨fd, h2, h3⟩ := Option.map_eq_some_iff.1 hp
        exact ⟨fd, by rw [← Array.getElem?_toList]; exact h2, h3⟩
      subst hoff
      have hsz : ¬ (fi.sz = 0) := fun h0 => by rw [h0] at hb; cases hb
      have hrun : ∀ A : Addr, (Instr.fieldAt T (.pointer (some A)) f).run P w = .ok (.pointer (some (A.add fd.offset))) w := fun A => by
        simp [Instr.fieldAt, run_underlying hF, hfd, Instr.sureAddr, fieldPlace, (hE.tt _ _ hfi).run_size, Result.andThen, hsz]
      have fin : ∀ A u, a.eval x = .pointer (some A) → u = Value.pointer (some (A.add fd.offset)) → SVRep w G h (.one c') u → OpOK P gl n0 o a w G h (.one c') (effs h []) := fun A u hA hu hS => by
        refine opOK_pure (v := u) ?_ hm hS
        simp only [execOp, ho, Sem.run_bind, hA, hrun, Result.andThen, hu]
        rfl
      unfold addOff at hc'
      split at hc'
      · cases hc'
        obtain ⟨b, h2, h3, h4⟩ := hx
        exact fin _ _ h4 rfl ⟨b, h2, h3, by rw [add_mk]⟩
      · cases hc'
        obtain ⟨A, l, h2, h3, h4, h5⟩ := hx
        exact fin _ _ h2 rfl ⟨A, l, by rw [add_add], h3, h4, h5⟩
      · rename_i id ver ix off
        split at hc'
        · rename_i vv f' e' t' xs' hi'
          obtain ⟨hv, hc'⟩ := bifs hc'
          cases hc'
          obtain ⟨h2, cu, fro, e2, t2, xs2, h3, h4, h5⟩ := hx
          rw [hi'] at h3; cases h3
          obtain ⟨b, n, cc, h6, h7, h8, h9⟩ := h5 (nbeq hv).symm
          exact fin _ _ h9 rfl ⟨rfl, vv, f', e', t', xs', hi', h4, fun _ => ⟨b, n, cc, h6, h7, h8, by rw [add_mk, Nat.add_assoc]⟩⟩
        · cases hc'
      · cases hc'
  · cases h1
theorem op_field (hE : EnvOK P gl E) (hm : MemOK gl n0 w G h) (hs : ∀ t, SVRep w G h (s t) (a.tmps.getD t undef)) {T : TypeId} {x : Operand} {f : Nat} (ho : o.op = .field T x f) (h1 : op1 E d (evO E s) h (.field T x f) = some (.val cs v e)) : OpOK P gl n0 o a w G h v (effs h e) := by
  simp only [op1] at h1
  obtain ⟨i, hi, h1⟩ := Option.bind_eq_some_iff.1 h1
  have hx := evO_ok hE hm hs x
  split at h1
  · rename_i fs c hk hev
    rw [hev] at hx
    obtain ⟨p, hp, h1⟩ := Option.bind_eq_some_iff.1 h1
    obtain ⟨fi, hfi, h1⟩ := Option.bind_eq_some_iff.1 h1
    obtain ⟨r, hr, h1⟩ := Option.bind_eq_some_iff.1 h1
    obtain ⟨sv, hsv, h1⟩ := Option.bind_eq_some_iff.1 h1
    obtain ⟨rfl, rfl, rfl⟩ := outOf h1
    have hkd := (hE.tt _ _ hi).kd
    rw [hk] at hkd
    obtain ⟨F, hF, hfs⟩ := hkd
    obtain ⟨fd, hfd, hoff⟩ : ∃ fd, F[f]? = some fd ∧ (fd.offset, fd.type) = p := by
      rw [← hfs, List.getElem?_map] at hp
      obtain ⟨fd, h2, h3⟩ := Option.map_eq_some_iff.1 hp
      exact ⟨fd, by rw [← Array.getElem?_toList]; exact h2, h3⟩
    subst hoff
    obtain ⟨l, hl, hL⟩ := hx
    obtain ⟨rfl, hlen⟩ := cut_ok hr
    have hL2 := (hL.drop fd.offset).take fi.sz
    obtain ⟨u, hu, hS⟩ := aggSV_ok hL2 hsv
    refine opOK_pure (v := u) ?_ hm hS
    have hTf := hE.tt _ _ hfi
    simp only [execOp, ho, Sem.run_bind, Instr.field, run_underlying hF, Result.andThen, hfd, hl, asAgg, part, hTf.run_agg]
    cases hka : fi.kd.agg with
    | true =>
      rw [hka] at hu
      simp only at hu
      simp [hu, hTf.run_size, Result.andThen]
      try (rw [List.drop_take]; congr 2; omega)
    | false =>
      rw [hka] at hu
      simp only at hu
      have h0 : l[fd.offset]? = some u := by
        have : ((l.drop fd.offset).take fi.sz)[0]? = some u := by rw [hu]; rfl
        rw [List.getElem?_take] at this
        split at this
        · rw [List.getElem?_drop] at this; simpa using this
        · cases this
      simp [h0]
  · cases h1
theorem constNat_int {x : Operand} {j : Nat} {k : IntKind} {n : Int} (hj : constNat x = some j) (hx : a.eval x = .int k n) : n = (j : Int) := by
  unfold constNat at hj
  split at hj
  · cases hj
    simp only [Act.eval, Value.int.injEq] at hx
    exact hx.2.symm
  · cases hj
theorem elems_ok (hm : MemOK gl n0 w G h) {t : Ty} : ∀ {m : Nat} {c : List CV} {d : List Value} {xs : List t.den}, calm c = true → L2 (CellRep w G h) c d → elems h t m c = some xs → List.length xs = m ∧ Reps (K w G.I t) xs d
  | 0, [], d, xs, _, hL, he => by
    simp only [elems] at he; cases he
    cases d with
    | nil => exact ⟨rfl, rfl⟩
    | cons => exact hL.elim
  | 0, _ :: _, _, _, _, _, he => by simp [elems] at he
  | m + 1, c, d, xs, hc, hL, he => by
    simp only [elems] at he
    obtain ⟨q, hq, he⟩ := Option.bind_eq_some_iff.1 he
    obtain ⟨ys, hys, he⟩ := Option.bind_eq_some_iff.1 he
    cases he
    obtain ⟨c1, v1, v2, e1, e2, h1, h2, hK⟩ := toTy_ok hm hL (by rw [show q = (q.1, q.2) from rfl] at hq; exact hq)
    rw [e1] at hc
    have hc2 := calm_split hc
    obtain ⟨g1, g2⟩ := elems_ok hm hc2.2 h2 hys
    refine ⟨by rw [List.length_cons, g1], v1, v2, e2, K_step (fun b hb => ?_) (fun _ _ => rfl) hK, g2⟩
    rcases hb with hb | ⟨i, hi, _⟩
    · exact hb
    · rw [calm_owns hc2.1] at hi; cases hi
theorem dynA_ok (hm : MemOK gl n0 w G h) {t : Ty} {n : Int} {m off : Nat} {c : List CV} {ef : List (Nat × Blk)} {l : List Value} {A : Addr} (h1 : dynA h t n m off c ef = some (.val cs v e)) (hc : ∀ c ∈ cs, c.p) (hL : L2 (CellRep w G h) c l)
    (hI : G.I A.block) (hA : ∀ r, cut c off (m * t.sz) = some r → ∃ d, L2 (CellRep w G h) r d ∧ CellsAt w A d) : e = ef ∧ 0 ≤ n ∧ n < (m : Int) ∧ SVRep w G h v (.pointer (some (A.add (n.toNat * t.sz)))) := by
  unfold dynA at h1
  obtain ⟨hcalm, h1⟩ := bifs h1
  obtain ⟨r, hr, h1⟩ := Option.bind_eq_some_iff.1 h1
  obtain ⟨xs, hxs, h1⟩ := Option.bind_eq_some_iff.1 h1
  simp only [Out.when, Option.some.injEq, Out.val.injEq] at h1
  obtain ⟨rfl, rfl, rfl⟩ := h1
  have h0 := hc _ List.mem_cons_self
  have h2 := hc _ (List.mem_cons_of_mem _ List.mem_cons_self)
  simp only at h0 h2
  obtain ⟨d, hd, hAd⟩ := hA r hr
  have hcr : calm r = true := by
    obtain ⟨rfl, _⟩ := cut_ok hr
    rw [← List.take_append_drop off c] at hcalm
    have := (calm_split hcalm).2
    rw [← List.take_append_drop (m * t.sz) (c.drop off)] at this
    exact (calm_split this).1
  obtain ⟨hlen, hR⟩ := elems_ok hm hcr hd hxs
  refine ⟨rfl, h0, h2, ?_⟩
  have hg := rdT_get (xs := xs) h0 (by rw [hlen]; exact h2)
  obtain ⟨p, c', q, hd', hp, hK, _⟩ := Reps.get (fun _ _ h => K_len h) hR hg
  refine ⟨A.add (n.toNat * t.sz), c', by rw [add_zero], by rw [add_block]; exact hI, hK, ?_⟩
  rw [hd'] at hAd
  rw [← hp]
  exact hAd.left.right
theorem idxA_ok (hE : EnvOK P gl E) (hm : MemOK gl n0 w G h) {T : TypeId} {n : Int} {k : IntKind} {j : Option Nat} {c : CV} {u : Value} (hb : idxA E.tt T h n j c = some (.val cs v e)) (hc : ∀ c ∈ cs, c.p) (hx : CellRep w G h c u) (hj : ∀ i, j = some i → n = (i : Int)) :
    ∃ r G', (Instr.indexAt T u (.int k n)).run P w = .ok r w ∧ MemOK gl n0 w G' (effs h e) ∧ Evo w w G G' h (effs h e) ∧ SVRep w G' (effs h e) v r := by
  have arr : ∀ {m el : Nat} {ei : TI} {A : Addr}, kdAt E.tt T = .arr m el → E.tt.find el = some ei → 0 ≤ n → n < (m : Int) → u = .pointer (some A) → (Instr.indexAt T u (.int k n)).run P w = .ok (.pointer (some (A.add (n.toNat * ei.sz)))) w := by
    intro m el ei A hk he h0 h1 hu
    have hT : P.underlying T = some (.array m el) := by
      rcases kdAt_ok hE T with ⟨_, h2⟩ | h2
      · rw [hk] at h2; exact h2
      · rw [hk] at h2; cases h2
    subst hu
    simp [Instr.indexAt, asIntOf, run_underlying hT, h0, h1, (hE.tt _ _ he).run_size, Result.andThen, Instr.sureAddr]
  unfold idxA at hb
  split at hb
  · rename_i id off
    obtain ⟨b, hB, hμ, hu⟩ := hx
    split at hb
    · rename_i m el hk
      obtain ⟨ei, he, hb⟩ := Option.bind_eq_some_iff.1 hb
      split at hb
      · rename_i i
        obtain ⟨hle, hb⟩ := bifs hb
        obtain ⟨rfl, rfl, rfl⟩ := outOf hb
        have hn := hj _ rfl
        have hle := Nat.le_of_ble_eq_true hle
        refine ⟨_, G, arr hk he (by omega) (by omega) hu, hm, Evo.refl _ _ _, b, hB, hμ, ?_⟩
        rw [hn]; simp [add_mk]
      · obtain ⟨t, ht, hb⟩ := Option.bind_eq_some_iff.1 hb
        have hsz := ((hE.tt _ _ he).ty t ht).2.1
        split at hb
        · rename_i bs hi
          obtain ⟨G', m1, E1, hμ1⟩ := mem_frzbox hm hi
          have hcell := hm.rep _ _ hi
          obtain ⟨b', el', l, g1, g2, g3, _⟩ := hcell
          rw [hμ] at g1
          simp only [Value.pointer.injEq, Option.some.injEq, Addr.mk.injEq, and_true] at g1
          subst g1
          have hL' := g3.imp fun _ _ hc => hc.evo E1
          have hI : G'.I b := (m1.own id _ b (hset_same _ _ _) (by rw [hμ1, hμ]; rfl)).2.2.2 rfl
          obtain ⟨rfl, h0, h1, hS⟩ := dynA_ok (A := ⟨b, off, none⟩) m1 hb hc hL' hI (fun r hr => by
            obtain ⟨d, q1, _, q3⟩ := cells_of_L2 g2 hL' hr
            exact ⟨d, q1, q3⟩)
          refine ⟨_, G', arr hk he h0 h1 hu, m1, E1, ?_⟩
          rw [← hsz]; exact hS
        · rename_i bs hi
          have hcell := hm.rep _ _ hi
          obtain ⟨b', el', l, g1, g2, g3, _⟩ := hcell
          rw [hμ] at g1
          simp only [Value.pointer.injEq, Option.some.injEq, Addr.mk.injEq, and_true] at g1
          subst g1
          have hI : G.I b := (hm.own id _ b hi (by rw [hμ]; rfl)).2.2.2 rfl
          obtain ⟨rfl, h0, h1, hS⟩ := dynA_ok (A := ⟨b, off, none⟩) hm hb hc g3 hI (fun r hr => by
            obtain ⟨d, q1, _, q3⟩ := cells_of_L2 g2 g3 hr
            exact ⟨d, q1, q3⟩)
          refine ⟨_, G, arr hk he h0 h1 hu, hm, Evo.refl _ _ _, ?_⟩
          rw [← hsz]; exact hS
        · cases hb
    · cases hb
  · rename_i tu x off
    obtain ⟨A, d, hu, hI, hK, hAd⟩ := hx
    split at hb
    · rename_i m el hk
      obtain ⟨ei, he, hb⟩ := Option.bind_eq_some_iff.1 hb
      split at hb
      · rename_i i
        obtain ⟨hle, hb⟩ := bifs hb
        obtain ⟨rfl, rfl, rfl⟩ := outOf hb
        have hn := hj _ rfl
        have hle := Nat.le_of_ble_eq_true hle
        refine ⟨_, G, arr hk he (by omega) (by omega) hu, hm, Evo.refl _ _ _, A, d, ?_, hI, hK, hAd⟩
        rw [hn, add_add]; simp
      · obtain ⟨t, ht, hb⟩ := Option.bind_eq_some_iff.1 hb
        have hsz := ((hE.tt _ _ he).ty t ht).2.1
        obtain ⟨rfl, h0, h1, hS⟩ := dynA_ok (A := A.add off) hm hb hc (ofTy_ok (fun _ h => h) hK) (by rw [add_block]; exact hI) (fun r hr => by
          obtain ⟨d', q1, _, q3⟩ := cells_of_K (G := G) (h := h) (fun _ h => h) hK hAd hr
          exact ⟨d', q1, q3⟩)
        refine ⟨_, G, arr hk he h0 h1 hu, hm, Evo.refl _ _ _, ?_⟩
        rw [← hsz]; exact hS
    · cases hb
  · obtain ⟨rfl, r, hr, hS⟩ := idx1_ok (k := k) hE hm hb hc hx
    exact ⟨r, G, hr, hm, Evo.refl _ _ _, hS⟩
theorem op_indexAddr (hE : EnvOK P gl E) (hm : MemOK gl n0 w G h) (hs : ∀ t, SVRep w G h (s t) (a.tmps.getD t undef)) {T : TypeId} {x ix : Operand} (ho : o.op = .indexAddr T x ix) (h1 : op1 E d (evO E s) h (.indexAddr T x ix) = some (.val cs v e)) (hc : ∀ c ∈ cs, c.p) : OpOK P gl n0 o a w G h v (effs h e) := by
  simp only [op1] at h1
  have hx := evO_ok hE hm hs x
  have hi := evO_ok hE hm hs ix
  split at h1
  · rename_i c k n hev hei
    rw [hev] at hx; rw [hei] at hi
    simp only [SVRep, CellRep] at hi
    obtain ⟨r, G', hr, m1, E1, hS⟩ := idxA_ok (k := k) hE hm h1 hc hx (fun j hj => constNat_int hj hi)
    refine opOK_at (v := r) ?_ m1 E1 (Below.refl _ _) hS
    simp only [execOp, ho, Sem.run_bind, hi, hr, Result.andThen]
    rfl
  · cases h1
theorem op_index (hE : EnvOK P gl E) (hm : MemOK gl n0 w G h) (hs : ∀ t, SVRep w G h (s t) (a.tmps.getD t undef)) {T : TypeId} {x ix : Operand} (ho : o.op = .index T x ix) (h1 : op1 E d (evO E s) h (.index T x ix) = some (.val cs v e)) (hc : ∀ c ∈ cs, c.p) : OpOK P gl n0 o a w G h v (effs h e) := by
  simp only [op1] at h1
  have hx := evO_ok hE hm hs x
  have hi := evO_ok hE hm hs ix
  split at h1
  · rename_i sb k n hev hei
    rw [hev] at hx; rw [hei] at hi
    simp only [SVRep, CellRep] at hi hx
    obtain ⟨hT, h1⟩ := bifs h1
    cases h1
    have h0 := hc _ List.mem_cons_self
    have h2 := hc _ (List.mem_cons_of_mem _ List.mem_cons_self)
    simp only at h0 h2
    have hlt : n.toNat < sb.size := by omega
    refine opOK_pure (v := .int .u8 (btI sb n)) ?_ hm rfl
    simp only [execOp, ho, Sem.run_bind, hi, hx, run_index_string w _ _ _ _ (isStr_ok hE hT), dif_pos (And.intro h0 h2), Result.andThen, btI, dif_pos hlt]
    rfl
  · cases h1
theorem op_extract (hE : EnvOK P gl E) (hm : MemOK gl n0 w G h) (hs : ∀ t, SVRep w G h (s t) (a.tmps.getD t undef)) {x : Operand} {i : Nat} (ho : o.op = .extract x i) (h1 : op1 E d (evO E s) h (.extract x i) = some (.val cs v e)) : OpOK P gl n0 o a w G h v (effs h e) := by
  simp only [op1] at h1
  have hx := evO_ok hE hm hs x
  split at h1
  · rename_i vs hev
    rw [hev] at hx
    obtain ⟨l, hl, hL⟩ := hx
    split at h1
    · rename_i c hi
      obtain ⟨rfl, rfl, rfl⟩ := outOf h1
      obtain ⟨u, hu, hp⟩ := hL.get hi
      refine opOK_pure (v := u) ?_ hm hp
      simp [execOp, ho, hl, Instr.extract, hu]
    · rename_i c hi
      obtain ⟨rfl, rfl, rfl⟩ := outOf h1
      obtain ⟨u, hu, hp⟩ := hL.get hi
      obtain ⟨c', hc', hp⟩ := hp
      cases hc'
      refine opOK_pure (v := u) ?_ hm hp
      simp [execOp, ho, hl, Instr.extract, hu]
    · cases h1
  · cases h1
end
end Go.Den
