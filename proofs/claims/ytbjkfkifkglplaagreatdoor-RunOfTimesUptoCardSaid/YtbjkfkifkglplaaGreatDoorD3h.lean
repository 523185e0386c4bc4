/-
  One operation of the abstract machine is right: slices, rows, conversions.
-/
import Derived.Test.YtbjkfkifkglplaaGreatDoorD3g
import Derived.Great.BuildSlice
set_option linter.unusedSectionVars false
set_option linter.unusedVariables false
set_option linter.unusedSimpArgs false
namespace Go.Den
open Go Go.RowKit
section
variable {P : Program} {gl : GT} {n0 : Nat} {o : Oper} {a : Act} {w : World} {G : Mem} {h : Hp} {E : EnvC} {s : Nat → SV} {d : Nat} {cs : List Cnd} {v : SV} {e : List (Nat × Blk)}
theorem capGs_ok : ∀ {vs : List SV} {us : List Value} {q : List (Bool × Nat) × List CV}, L2 (SVRep w G h) vs us → capGs vs = some q → ∃ l, L2 (CellRep w G h) q.2 l ∧ Parts q.1 l us
  | [], [], q, _, hq => by simp only [capGs] at hq; cases hq; exact ⟨[], trivial, rfl, rfl⟩
  | [], _ :: _, q, hL, _ => hL.elim
  | _ :: _, [], q, hL, _ => hL.elim
  | .one c :: r, u :: us, q, hL, hq => by
    simp only [capGs] at hq
    obtain ⟨p, hp, hq⟩ := Option.bind_eq_some_iff.1 hq
    cases hq
    obtain ⟨l, h1, h2⟩ := capGs_ok hL.2 hp
    exact ⟨u :: l, ⟨hL.1, h1⟩, [u], l, u, us, rfl, rfl, rfl, rfl, h2⟩
  | .agg cs :: r, u :: us, q, hL, hq => by
    simp only [capGs] at hq
    obtain ⟨p, hp, hq⟩ := Option.bind_eq_some_iff.1 hq
    cases hq
    obtain ⟨d, hu, hd⟩ := hL.1
    obtain ⟨l, h1, h2⟩ := capGs_ok hL.2 hp
    exact ⟨d ++ l, hd.app h1, d, l, u, us, rfl, hd.len.symm, rfl, hu, h2⟩
  | .tup _ :: _, _ :: _, q, _, hq => by simp [capGs] at hq
  | .undef :: _, _ :: _, q, _, hq => by simp [capGs] at hq
  | .any :: _, _ :: _, q, _, hq => by simp [capGs] at hq
theorem op_makeFunc (hE : EnvOK P gl E) (hs : ∀ t, SVRep w G h (s t) (a.tmps.getD t undef)) (hm : MemOK gl n0 w G h) {f : FuncId} {fs caps : Array Operand} (ho : o.op = .makeFunc (.func f) fs caps) (h1 : op1 E d (evO E s) h (.makeFunc (.func f) fs caps) = some (.val cs v e)) : OpOK P gl n0 o a w G h v (effs h e) := by
  simp only [op1] at h1
  obtain ⟨hb, h1⟩ := bifs h1
  have e2 : fs = #[] := Array.eq_empty_of_size_eq_zero (nbeq hb)
  subst e2
  have hrun : (execOp a.eval o).run P w = .ok (.value (.func (.func f) #[] (caps.map a.eval))) w := by simp [execOp, ho, Instr.makeFunc]
  split at h1
  · rename_i hnil
    obtain ⟨rfl, rfl, rfl⟩ := outOf h1
    have e1 : caps = #[] := by
      have := congrArg List.length hnil
      simp only [List.length_map, Array.length_toList, List.length_nil] at this
      exact Array.eq_empty_of_size_eq_zero this
    subst e1
    exact opOK_pure (v := .func (.func f) #[] #[]) (by simpa using hrun) hm ⟨rfl, rfl⟩
  · rename_i v0 vs hcons
    obtain ⟨q, hq, h1⟩ := Option.bind_eq_some_iff.1 h1
    obtain ⟨t, ht, h1⟩ := Option.bind_eq_some_iff.1 h1
    obtain ⟨y, hy, h1⟩ := Option.bind_eq_some_iff.1 h1
    split at h1
    · rename_i hy2 hown
      obtain ⟨rfl, rfl, rfl⟩ := outOf h1
      have hL : L2 (SVRep w G h) (v0 :: vs) (caps.toList.map a.eval) := by
        rw [← hcons]
        have hev := evO_ok hE hm hs
        induction caps.toList with
        | nil => trivial
        | cons z l ih => exact ⟨hev z, ih⟩
      obtain ⟨cells, hc, hp⟩ := capGs_ok hL hq
      obtain ⟨G1, m1, E1, hμ⟩ := mem_frzBs q.2 hm
      obtain ⟨c1, v1, v2, hc1, hv1, hL1, hL2, hK⟩ := toTy_ok m1 (hc.imp fun _ _ hc => hc.evo E1) (by rw [show y = (y.1, y.2) from rfl] at hy; exact hy)
      rw [hy2, List.append_nil] at hc1
      have hv2 : v2 = [] := by rw [hy2] at hL2; cases v2 with | nil => rfl | cons => exact hL2.elim
      rw [hv2, List.append_nil] at hv1
      refine opOK_at (v := .func (.func f) #[] (caps.map a.eval)) hrun m1 E1 (Below.refl _ _) ⟨v1, caps.toList.map a.eval, ?_, by rw [← hv1]; exact hp, .inr (K_step (fun b hb => ?_) (fun _ _ => rfl) hK)⟩
      · rw [← Array.toList_map, Array.toArray_toList]
      · rcases hb with hb | ⟨i, hi, _⟩
        · exact hb
        · rw [← hc1, hown] at hi; cases hi
    · cases h1
theorem bytes_loop (w : World) (f : Value → ByteArray → Sem (ForInStep ByteArray)) (hf : ∀ n r, f (.int .u8 n) r = pure (.yield (r.push (UInt8.ofNat n.toNat)))) : ∀ (xs : List Int) (acc : ByteArray),
    (forIn (xs.map (fun n => Value.int .u8 n)) acc f : Sem ByteArray).run P w = .ok ⟨acc.data ++ (xs.map fun n => UInt8.ofNat n.toNat).toArray⟩ w
  | [], acc => by simp
  | x :: xs, acc => by
    simp only [List.map_cons, List.forIn_cons, hf, pure_bind]
    rw [bytes_loop w f hf xs]
    congr 2
    simp [ByteArray.push]
theorem K_ints {I : Nat → Prop} {xs : List Int} {k : IntKind} {u : Value} (hK : K w I (.list (.int k)) xs [u]) : ∃ A c, u = .slice A xs.length c ∧ (xs = [] ∨ ∃ a, A = some a ∧ ∀ (j : Nat) x, xs[j]? = some x → w.cell? (a.add j) = some (.int k x)) := by
  obtain ⟨A, c, hv, _, _, hr⟩ := hK
  simp only [List.cons.injEq, and_true] at hv
  refine ⟨A, c, hv, hr.imp (fun h => h) ?_⟩
  rintro ⟨a, ha, _, hall⟩
  refine ⟨a, ha, fun j x hx => ?_⟩
  obtain ⟨d, hd, hA⟩ := hall j x hx
  simp only [K] at hd
  subst hd
  have := hA 0 _ rfl
  rw [add_add] at this
  simpa [Ty.sz] using this
theorem run_bytesToString {I : Nat → Prop} {xs : List Int} {u : Value} (hK : K w I (.list (.int .u8)) xs [u]) : (Conv.bytesToString u).run P w = .ok (.string (strOf xs)) w := by
  obtain ⟨A, c, rfl, hr⟩ := K_ints hK
  cases A with
  | none =>
    have : xs = [] := by
      rcases hr with hr | ⟨a, ha, _⟩
      · exact hr
      · cases ha
    subst this
    simp [Conv.bytesToString, strOf]; rfl
  | some A =>
    have hl : (loadCells A xs.length).run P w = .ok (xs.map (fun n => Value.int .u8 n)).toArray w := by
      have := run_loadCells_list (P := P) w A (xs.map (fun n => Value.int .u8 n)) (fun j v hv => by
        rw [List.getElem?_map] at hv
        obtain ⟨x, hx, rfl⟩ := Option.map_eq_some_iff.1 hv
        rcases hr with hr | ⟨a, ha, hall⟩
        · subst hr; cases hx
        · cases ha; exact hall j x hx)
      simpa using this
    simp only [Conv.bytesToString, Sem.run_bind, hl, Result.andThen]
    simp only [List.forIn_toArray]
    rw [bytes_loop (P := P) w _ (fun _ _ => rfl)]
    simp [Result.andThen, strOf]
    try rfl
theorem op_convert (hE : EnvOK P gl E) (hm : MemOK gl n0 w G h) (hs : ∀ t, SVRep w G h (s t) (a.tmps.getD t undef)) {S T : TypeId} {x : Operand} (ho : o.op = .convert S T x) (h1 : op1 E d (evO E s) h (.convert S T x) = some (.val cs v e)) : OpOK P gl n0 o a w G h v (effs h e) := by
  simp only [op1] at h1
  obtain ⟨si, hsi, h1⟩ := Option.bind_eq_some_iff.1 h1
  obtain ⟨ti, hti, h1⟩ := Option.bind_eq_some_iff.1 h1
  have hx := evO_ok hE hm hs x
  have hkT := (hE.tt _ _ hti).kd
  have hkS := (hE.tt _ _ hsi).kd
  obtain ⟨sd, hsd⟩ : ∃ sd, P.underlying S = some sd := by
    have := kdAt_ok hE S
    unfold kdAt at this
    rw [hsi] at this
    cases hk : si.kd <;> rw [hk] at hkS <;> simp only [kdOK] at hkS
    case struct => obtain ⟨F, hF, _⟩ := hkS; exact ⟨_, hF⟩
    case map => obtain ⟨_, _, hF⟩ := hkS; exact ⟨_, hF⟩
    case smap => obtain ⟨_, _, hF, _⟩ := hkS; exact ⟨_, hF⟩
    case func => obtain ⟨_, _, _, hF⟩ := hkS; exact ⟨_, hF⟩
    case other => obtain ⟨_, hF, _⟩ := hkS; exact ⟨_, hF⟩
    all_goals exact ⟨_, hkS⟩
  split at h1
  · rename_i k' n k hev hk
    rw [hev] at hx
    rw [hk] at hkT
    simp only [SVRep, CellRep] at hx
    obtain ⟨rfl, rfl, rfl⟩ := outOf h1
    refine opOK_pure (v := .int k (k.wrap n)) ?_ hm (by simp [SVRep, CellRep, realw])
    simp [execOp, ho, hx, Go.convert, run_underlying hsd, run_underlying (show P.underlying T = some (.int k) from hkT), Result.andThen, Conv.intToInt]
  · rename_i sb hev hk
    rw [hev] at hx
    rw [hk] at hkT
    simp only [SVRep, CellRep] at hx
    obtain ⟨rfl, rfl, rfl⟩ := outOf h1
    refine opOK_pure (v := .string sb) ?_ hm rfl
    simp [execOp, ho, hx, Go.convert, run_underlying hsd, run_underlying (show P.underlying T = some .string from hkT), Result.andThen]
  · rename_i c hne hev hk
    rw [hev] at hx
    rw [hk] at hkT
    split at h1
    · rename_i el hkS'
      rw [hkS'] at hkS
      split at h1
      · rename_i hel
        unfold listOf at h1
        obtain ⟨xs, hxs, h1⟩ := Option.bind_eq_some_iff.1 h1
        obtain ⟨q, hq, hxs⟩ := Option.bind_eq_some_iff.1 hxs
        cases hxs
        obtain ⟨rfl, rfl, rfl⟩ := outOf h1
        obtain ⟨c1, v1, v2, hc1, hv1, hL1, hL2, hK⟩ := toTy_ok hm (cs := [c]) (vs := [a.eval x]) ⟨hx, trivial⟩ hq
        have hlen := K_len hK
        have hv1' : v1 = [a.eval x] := by
          cases v1 with
          | nil => simp [Ty.sz] at hlen
          | cons y v1 =>
            simp only [List.cons_append, List.cons.injEq] at hv1
            obtain ⟨rfl, h3⟩ := hv1
            cases v1 with
            | nil => rfl
            | cons => simp at h3
        subst hv1'
        have hu8 : P.underlying el = some (.int .u8) := by
          rcases kdAt_ok hE el with ⟨_, h2⟩ | h2
          · rw [hel] at h2; exact h2
          · rw [hel] at h2; cases h2
        refine opOK_pure (v := .string (strOf q.1)) ?_ hm rfl
        obtain ⟨A, cp, hA, _⟩ := K_ints hK
        have hrb := run_bytesToString (P := P) hK
        rw [hA] at hrb
        simp only [execOp, ho, Sem.run_bind, Go.convert, run_underlying (show P.underlying S = some (.slice el) from hkS), run_underlying (show P.underlying T = some .string from hkT), Result.andThen, hA, run_underlying hu8, hrb]
        rfl
      · cases h1
    · cases h1
  · cases h1
theorem intOf?_ok (hev : ∀ x, SVRep w G h (evO E s x) (a.eval x)) {x : Option Operand} {r : Option Int} (hi : intOf? (evO E s) x = some r) : ∃ k, x.map a.eval = r.map (.int k) := by
  cases x with
  | none => simp only [intOf?] at hi; cases hi; exact ⟨.i64, rfl⟩
  | some x =>
    simp only [intOf?] at hi
    have hx := hev x
    split at hi
    · rename_i k n hk
      rw [hk] at hx
      simp only [SVRep, CellRep] at hx
      cases hi
      exact ⟨k, by simp [hx]⟩
    · cases hi
theorem sliceIn_ok (hE : EnvOK P gl E) {T : TypeId} (hs : sliceIn E.tt T = true) : ∃ e ei, P.underlying T = some (.slice e) ∧ E.tt.find e = some ei := by
  unfold sliceIn at hs
  split at hs
  · rename_i e hk
    split at hs
    · rename_i ei he
      rcases kdAt_ok hE T with ⟨_, h2⟩ | h2
      · rw [hk] at h2; exact ⟨e, ei, h2, he⟩
      · rw [hk] at h2; cases h2
    · cases hs
  · cases hs
theorem op_slice (hE : EnvOK P gl E) (hm : MemOK gl n0 w G h) (hs : ∀ t, SVRep w G h (s t) (a.tmps.getD t undef)) {T : TypeId} {x : Operand} {lo hi : Option Operand} (ho : o.op = .slice T x lo hi none) (h1 : op1 E d (evO E s) h (.slice T x lo hi none) = some (.val cs v e)) (hc : ∀ c ∈ cs, c.p) : OpOK P gl n0 o a w G h v (effs h e) := by
  simp only [op1] at h1
  obtain ⟨l', hl', h1⟩ := Option.bind_eq_some_iff.1 h1
  obtain ⟨h', hh', h1⟩ := Option.bind_eq_some_iff.1 h1
  have hev := evO_ok hE hm hs
  obtain ⟨kl, hkl⟩ := intOf?_ok hev hl'
  obtain ⟨kh, hkh⟩ := intOf?_ok hev hh'
  have hx := hev x
  split at h1
  · rename_i t xs hex
    rw [hex] at hx
    obtain ⟨hso, h1⟩ := bifs h1
    obtain ⟨el, ei, hT, he, hsz⟩ := sliceOf_ok hE hso
    have hK : K w G.I (.list t) xs [a.eval x] := hx
    obtain ⟨A, c, hv, _⟩ := hx
    simp only [List.cons.injEq, and_true] at hv
    rw [hv] at hK
    obtain ⟨rfl, ys, u, rfl, hr, hK'⟩ := sliceL_ok (klo := kl) (khi := kh) hT (hE.tt _ _ he) hsz hK h1 hc
    refine opOK_pure (v := u) ?_ hm hK'
    simp only [execOp, ho, Sem.run_bind, hkl, hkh, hv, Option.map_none, hr, Result.andThen]
    rfl
  · rename_i hex
    rw [hex] at hx
    simp only [SVRep, CellRep] at hx
    cases l' with
    | some _ => cases h' <;> cases h1
    | none =>
    cases h' with
    | none => cases h1
    | some n =>
      obtain ⟨hb, h1⟩ := bifs h1
      simp only [Out.when, Option.some.injEq, Out.val.injEq] at h1
      obtain ⟨rfl, rfl, rfl⟩ := h1
      have h0 := hc _ List.mem_cons_self
      have h2 := hc _ (List.mem_cons_of_mem _ List.mem_cons_self)
      simp only at h0 h2
      obtain ⟨el, ei, hT, he⟩ := sliceIn_ok hE hb
      obtain rfl : n = 0 := by omega
      refine opOK_pure (v := .slice none 0 0) ?_ hm rfl
      have hr := run_sl (w := w) hT (hE.tt _ _ he) none 0 0 none (some (.int kh 0)) 0 0 (by simp [Instr.sliceBounds, Instr.sliceBound, asIntOf])
      simp only [execOp, ho, Sem.run_bind, hkl, hkh, hx, Option.map_none, Option.map_some, hr, Result.andThen]
      rfl
  · rename_i t xs hex
    rw [hex] at hx
    split at h1
    · obtain ⟨hb, h1⟩ := bifs h1
      simp only [Bool.and_eq_true] at hb
      obtain ⟨rfl, rfl, rfl⟩ := outOf h1
      obtain ⟨el, ei, hT, he, hsz⟩ := arrOf_ok hE hb.1
      obtain ⟨A, hv, hr⟩ := hx
      refine opOK_pure (v := .slice (some A) (List.length xs) (List.length xs)) ?_ hm ⟨some A, _, rfl, Nat.le_refl _, by have := Nat.le_of_ble_eq_true hb.2; unfold maxLen; omega, hr.imp (fun h => h) fun ⟨hI, hall⟩ => ⟨A, rfl, hI, hall⟩⟩
      have hl : lo = none := by cases lo with | none => rfl | some => simp at hkl
      have hh : hi = none := by cases hi with | none => rfl | some => simp at hkh
      subst hl; subst hh
      simp [execOp, ho, hv, Instr.sliceAt, run_underlying hT, Instr.sureAddr, Instr.sliceBounds, (hE.tt _ _ he).run_size, Result.andThen, add_zero]
    · cases h1
  · rename_i sb hex
    rw [hex] at hx
    simp only [SVRep, CellRep] at hx
    obtain ⟨hso, h1⟩ := bifs h1
    obtain ⟨rfl, r, rfl, hr⟩ := sliceS_ok (w := w) (klo := kl) (khi := kh) (isStr_ok hE hso) h1 hc
    refine opOK_pure (v := .string r) ?_ hm rfl
    simp only [execOp, ho, Sem.run_bind, hkl, hkh, hx, Option.map_none, hr, Result.andThen]
    rfl
  · rename_i u y hex
    rw [hex] at hx
    unfold rlS at h1
    split at h1
    · rename_i t y k hq
      obtain ⟨hso, h1⟩ := bifs h1
      obtain ⟨el, ei, hT, he, hsz⟩ := sliceOf_ok hE hso
      simp only [Out.when, Option.some.injEq, Out.val.injEq] at h1
      obtain ⟨rfl, rfl, rfl⟩ := h1
      have h0 := hc _ List.mem_cons_self
      have h2 := hc _ (List.mem_cons_of_mem _ List.mem_cons_self)
      simp only at h0 h2
      have hK : K w G.I (.rl t) y [a.eval x] := hx
      obtain ⟨A, c, hv, _⟩ := hx
      simp only [List.cons.injEq, and_true] at hv
      rw [hv] at hK
      obtain ⟨hn, hA⟩ := K_rl_all hK
      obtain ⟨_, _, hv2, hle, _⟩ := hA
      simp only [List.cons.injEq, Value.slice.injEq, and_true] at hv2
      obtain ⟨rfl, _, rfl⟩ := hv2
      have hT2 := K_take (K_rl_all hK).2 k.toNat (by omega)
      refine opOK_pure (v := .slice A k.toNat c) ?_ hm hT2
      have hr := run_sl (w := w) hT (hE.tt _ _ he) A (List.length y.1) c none (some (.int kh k)) 0 k.toNat (by simp [Instr.sliceBounds, Instr.sliceBound, asIntOf, h0, (by omega : k ≤ (c : Int))])
      simp only [execOp, ho, Sem.run_bind, hkl, hkh, hv, Option.map_none, Option.map_some, hr, Result.andThen]
      have eA : (if c = 0 then A else A.map (·.add (0 * ei.sz))) = A := by cases A <;> simp [add_zero]
      simp only [eA, Nat.sub_zero]
      rfl
    · cases h1
  · rename_i id ver hex
    rw [hex] at hx
    split at h1
    · rename_i vv f el' t xs hid
      obtain ⟨hb, h1⟩ := bifs h1
      simp only [Bool.and_eq_true] at hb
      cases hpre : E.pre.any (Nat.beq d) with
      | true =>
        rw [hpre] at h1
        simp only [cond_true] at h1
        cases f with
        | true => cases l' <;> cases h' <;> cases h1
        | false =>
        cases l' with
        | some _ => cases h' <;> cases h1
        | none =>
        cases h' with
        | none => cases h1
        | some k =>
          simp only [Out.when, Option.some.injEq, Out.val.injEq] at h1
          obtain ⟨rfl, rfl, rfl⟩ := h1
          have h0 := hc _ List.mem_cons_self
          have h2 := hc _ (List.mem_cons_of_mem _ List.mem_cons_self)
          simp only at h0 h2
          obtain ⟨el, ei, hT, he, hsz⟩ := sliceOf_ok hE hb.2
          obtain ⟨_, cur, fro, e2, t2, xs2, hh, hle, hv⟩ := hx
          rw [hid] at hh; cases hh
          have hv := hv (nbeq hb.1).symm
          obtain ⟨inner, hown, hre⟩ := hm.rep _ _ hid
          have hlen : List.length (List.take k.toNat xs) = k.toNat := by rw [List.length_take]; omega
          have hR : Reps (K w G.I t) (xs.take k.toNat) (inner.take (k.toNat * t.sz)) := Reps.take (fun _ _ h => K_len h) _ hre
          have hcut : ∃ v', w.ownsRow 0 el' t.sz v' (List.length (List.take k.toNat xs)) (inner.take (k.toNat * t.sz)) ∧ blkOf v' = blkOf (G.μ id) ∧ (Instr.sliceAt T (G.μ id) none (some (.int kh k)) none).run P w = .ok v' w := by
            have hl : (inner.take (k.toNat * t.sz)).length = k.toNat * t.sz := by
              rw [List.length_take, hown.1]; exact Nat.min_eq_left (Nat.mul_le_mul_right _ (by omega))
            rcases hown.2 with ⟨hs, hn⟩ | ⟨g, cap, cu, hs, hbase, hg, hnc, hcm, hcs, hct⟩
            · have hk0 : k = 0 := by omega
              subst hk0
              refine ⟨.slice none 0 0, ⟨by rw [hlen]; simp, .inl ⟨rfl, by rw [hlen]; rfl⟩⟩, by rw [hs], ?_⟩
              rw [hs]
              exact run_sl hT (hE.tt _ _ he) none 0 0 none (some (.int kh 0)) 0 0 (by simp [Instr.sliceBounds, Instr.sliceBound, asIntOf])
            · refine ⟨.slice (some ⟨g, 0, none⟩) k.toNat cap, ⟨by rw [hlen]; exact hl, .inr ⟨g, cap, cu, by rw [hlen], hbase, hg, by rw [hlen]; omega, hcm, hcs, ?_⟩⟩, by rw [hs]; rfl, ?_⟩
              · rw [hlen, ← hct, List.take_take, Nat.min_eq_left (Nat.mul_le_mul_right _ (by omega))]
              · rw [hs]
                have := run_sl (w := w) hT (hE.tt _ _ he) (some ⟨g, 0, none⟩) (List.length xs) cap none (some (.int kh k)) 0 k.toNat (by
                  simp [Instr.sliceBounds, Instr.sliceBound, asIntOf, h0, (by omega : k ≤ (cap : Int))])
                simpa [add_zero] using this
          obtain ⟨v', ho', hbk, hr⟩ := hcut
          obtain ⟨m1, E1, B1, S1⟩ := mem_row (row := blkOf (G.μ id)) (ver := vv + 1) (id := id) (xs := xs.take k.toNat) (w' := w) hm
            (fun C hC => by rw [hid] at hC; cases hC; exact ⟨vv, el', xs, rfl, Nat.lt_succ_self _, rfl⟩) (fun hn => by rw [hid] at hn; cases hn)
            ⟨rfl, rfl, rfl, Nat.le_refl _, fun _ _ _ => rfl⟩ (.inr ⟨⟨_, hid⟩, ho', .inl hbk⟩) hR
          have hver : ver = vv := (nbeq hb.1).symm
          subst hver
          refine opOK_at (v := v') ?_ m1 E1 B1 S1
          simp only [execOp, ho, Sem.run_bind, hkl, hkh, hv, Option.map_none, Option.map_some, hr, Result.andThen]
          rfl
      | false =>
      rw [hpre] at h1
      simp only [cond_false] at h1
      cases hpre2 : E.pre.any (Nat.beq (1000000 + d)) with
      | true =>
        rw [hpre2] at h1
        simp only [cond_true] at h1
        cases l' with
        | some _ => cases h' <;> cases h1
        | none =>
        cases h' with
        | none => cases h1
        | some k =>
          simp only [Out.when, Option.some.injEq, Out.val.injEq] at h1
          obtain ⟨rfl, rfl, rfl⟩ := h1
          have h0 := hc _ List.mem_cons_self
          have h2 := hc _ (List.mem_cons_of_mem _ List.mem_cons_self)
          simp only at h0 h2
          obtain ⟨el, ei, hT, he, hsz⟩ := sliceOf_ok hE hb.2
          obtain ⟨_, cur, fro, e2, t2, xs2, hh, hle, hv⟩ := hx
          rw [hid] at hh; cases hh
          have hv := hv (nbeq hb.1).symm
          obtain ⟨G', m1, E1, hμ, hI⟩ := mem_freeze1 hm hid
          obtain ⟨inner, hown, hre⟩ := hm.rep _ _ hid
          have hK := row_K (J := G'.I) hown (hre.imp fun _ _ hK => K_step (fun b hb => (hI b).2 (.inl hb)) (fun _ _ => rfl) hK) (fun b hb => (hI b).2 (.inr hb))
          obtain ⟨A, c, hsl, _⟩ := row_slice hown
          rw [hsl] at hK
          have hK2 := K_list_rl hK (k := k.toNat) (by omega)
          obtain ⟨_, _, hv2, hle2, _⟩ := hK
          simp only [List.cons.injEq, Value.slice.injEq, and_true] at hv2
          obtain ⟨rfl, _, rfl⟩ := hv2
          refine opOK_at (v := .slice A k.toNat c) ?_ m1 E1 (Below.refl _ _) hK2
          have hr := run_sl (w := w) hT (hE.tt _ _ he) A (List.length xs) c none (some (.int kh k)) 0 k.toNat (by simp [Instr.sliceBounds, Instr.sliceBound, asIntOf, h0, (by omega : k ≤ (c : Int))])
          simp only [execOp, ho, Sem.run_bind, hkl, hkh, hv, hsl, Option.map_none, Option.map_some, hr, Result.andThen]
          have eA : (if c = 0 then A else A.map (·.add (0 * ei.sz))) = A := by cases A <;> simp [add_zero]
          simp only [eA, Nat.sub_zero]
          rfl
      | false =>
      rw [hpre2] at h1
      simp only [cond_false] at h1
      obtain ⟨out, hout, h1⟩ := Option.bind_eq_some_iff.1 h1
      cases out with
      | call => cases h1
      | val cs0 u0 e0 =>
        simp only [Option.some.injEq, Out.val.injEq] at h1
        obtain ⟨rfl, rfl, rfl⟩ := h1
        obtain ⟨el, ei, hT, he, hsz⟩ := sliceOf_ok hE hb.2
        obtain ⟨_, cur, fro, e2, t2, xs2, hh, hle, hv⟩ := hx
        rw [hid] at hh; cases hh
        have hv := hv (nbeq hb.1).symm
        obtain ⟨G', m1, E1, hμ, hI⟩ := mem_freeze1 hm hid
        obtain ⟨inner, hown, hre⟩ := hm.rep _ _ hid
        have hK := row_K (J := G'.I) hown (hre.imp fun _ _ hK => K_step (fun b hb => (hI b).2 (.inl hb)) (fun _ _ => rfl) hK) (fun b hb => (hI b).2 (.inr hb))
        obtain ⟨A, c, hsl, _⟩ := row_slice hown
        rw [hsl] at hK
        obtain ⟨_, ys, u, rfl, hr, hK'⟩ := sliceL_ok (klo := kl) (khi := kh) hT (hE.tt _ _ he) hsz hK hout hc
        refine opOK_at (v := u) ?_ m1 E1 (Below.refl _ _) hK'
        simp only [execOp, ho, Sem.run_bind, hkl, hkh, hv, hsl, Option.map_none, hr, Result.andThen]
        rfl
    · cases h1
  · cases h1
theorem op_len (hE : EnvOK P gl E) (hm : MemOK gl n0 w G h) (hs : ∀ t, SVRep w G h (s t) (a.tmps.getD t undef)) {as : Array Operand} {tys : Array TypeId} (ho : o.op = .call { callee := .builtin .len, args := as, argTypes := tys }) (h1 : op1 E d (evO E s) h (.call { callee := .builtin .len, args := as, argTypes := tys }) = some (.val cs v e)) : OpOK P gl n0 o a w G h v (effs h e) := by
  simp only [op1] at h1
  have hev := evO_ok hE hm hs
  split at h1
  · rename_i x T hax hat
    have hax' : as = #[x] := by rw [← Array.toArray_toList (xs := as), hax]
    have hat' : tys = #[T] := by rw [← Array.toArray_toList (xs := tys), hat]
    subst hax'; subst hat'
    have hx := hev x
    have fin : ∀ n : Int, (Builtin.len_ #[T] o.type #[a.eval x]).run P w = .ok (goInt n) w → (execOp a.eval o).run P w = .ok (.value (.int .i64 n)) w := fun n hn => by
      obtain ⟨dst, op, ty, pos, af, gd⟩ := o
      simp only at ho hn
      subst ho
      simp only [execOp, resolve, builtin, invoke, pure_bind, List.map_toArray, List.map_cons, List.map_nil, Sem.run_bind]
      simp [hn, goInt, Result.andThen]
    split at h1
    · rename_i t xs hex
      rw [hex] at hx
      obtain ⟨hb, h1⟩ := bifs h1
      obtain ⟨rfl, rfl, rfl⟩ := outOf h1
      obtain ⟨el, hT⟩ := isSlice_ok hE hb
      obtain ⟨A, c, hv, _⟩ := hx
      simp only [List.cons.injEq, and_true] at hv
      exact opOK_pure (fin _ (by rw [hv]; simp [Builtin.len_, run_underlying hT])) hm rfl
    · rename_i sb hex
      rw [hex] at hx
      simp only [SVRep, CellRep] at hx
      obtain ⟨hb, h1⟩ := bifs h1
      obtain ⟨rfl, rfl, rfl⟩ := outOf h1
      exact opOK_pure (fin _ (by rw [hx]; simp [Builtin.len_, run_underlying (isStr_ok hE hb)])) hm rfl
    · rename_i hex
      rw [hex] at hx
      simp only [SVRep, CellRep] at hx
      obtain ⟨hb, h1⟩ := bifs h1
      obtain ⟨rfl, rfl, rfl⟩ := outOf h1
      obtain ⟨el, hT⟩ := isSlice_ok hE hb
      exact opOK_pure (fin _ (by rw [hx]; simp [Builtin.len_, run_underlying hT])) hm rfl
    · rename_i id ver hex
      rw [hex] at hx
      split at h1
      · rename_i vv f el' t xs hid
        obtain ⟨hb, h1⟩ := bifs h1
        obtain ⟨rfl, rfl, rfl⟩ := outOf h1
        simp only [Bool.and_eq_true] at hb
        obtain ⟨el, hT⟩ := isSlice_ok hE hb.2
        obtain ⟨_, cur, fro, e2, t2, xs2, hh, hle, hv⟩ := hx
        rw [hid] at hh; cases hh
        have hv := hv (nbeq hb.1).symm
        obtain ⟨inner, hown, hre⟩ := hm.rep _ _ hid
        obtain ⟨A, c, hsl, _⟩ := row_slice hown
        exact opOK_pure (fin _ (by rw [hv, hsl]; simp [Builtin.len_, run_underlying hT])) hm rfl
      · cases h1
    · cases h1
  · cases h1
theorem op_cap (hE : EnvOK P gl E) (hm : MemOK gl n0 w G h) (hs : ∀ t, SVRep w G h (s t) (a.tmps.getD t undef)) {as : Array Operand} {tys : Array TypeId} (ho : o.op = .call { callee := .builtin .cap, args := as, argTypes := tys }) (h1 : op1 E d (evO E s) h (.call { callee := .builtin .cap, args := as, argTypes := tys }) = some (.val cs v e)) : OpOK P gl n0 o a w G h v (effs h e) := by
  simp only [op1] at h1
  have hev := evO_ok hE hm hs
  split at h1
  · rename_i x T hax hat
    have hax' : as = #[x] := by rw [← Array.toArray_toList (xs := as), hax]
    have hat' : tys = #[T] := by rw [← Array.toArray_toList (xs := tys), hat]
    subst hax'; subst hat'
    have hx := hev x
    split at h1
    · rename_i hex
      rw [hex] at hx
      simp only [SVRep, CellRep] at hx
      obtain ⟨hb, h1⟩ := bifs h1
      obtain ⟨rfl, rfl, rfl⟩ := outOf h1
      obtain ⟨el, hT⟩ := isSlice_ok hE hb
      refine opOK_pure (v := .int .i64 0) ?_ hm rfl
      obtain ⟨dst, op, ty, pos, af, gd⟩ := o
      simp only at ho
      subst ho
      simp only [execOp, resolve, builtin, invoke, pure_bind, List.map_toArray, List.map_cons, List.map_nil, Sem.run_bind, hx]
      simp [Builtin.cap_, run_underlying hT, goInt, Result.andThen]
    · cases h1
  · cases h1
theorem op_max (hE : EnvOK P gl E) (hm : MemOK gl n0 w G h) (hs : ∀ t, SVRep w G h (s t) (a.tmps.getD t undef)) {as : Array Operand} {tys : Array TypeId} (ho : o.op = .call { callee := .builtin .max, args := as, argTypes := tys }) (h1 : op1 E d (evO E s) h (.call { callee := .builtin .max, args := as, argTypes := tys }) = some (.val cs v e)) : OpOK P gl n0 o a w G h v (effs h e) := by
  simp only [op1] at h1
  have hev := evO_ok hE hm hs
  split at h1
  · rename_i x y hax
    have hax' : as = #[x, y] := by rw [← Array.toArray_toList (xs := as), hax]
    subst hax'
    have hx := hev x
    have hy := hev y
    split at h1
    · rename_i j p k q hp hq
      rw [hp] at hx; rw [hq] at hy
      simp only [SVRep, CellRep] at hx hy
      obtain ⟨hb, h1⟩ := bifs h1
      obtain ⟨rfl, rfl, rfl⟩ := outOf h1
      refine opOK_pure (v := .int j (if q > p then q else p)) ?_ hm rfl
      obtain ⟨dst, op, ty, pos, af, gd⟩ := o
      simp only at ho
      subst ho
      simp only [execOp, resolve, builtin, invoke, pure_bind, List.map_toArray, List.map_cons, List.map_nil, Sem.run_bind, hx, hy]
      simp [Builtin.max_, Builtin.max2, Result.andThen]
    · cases h1
  · cases h1
theorem op_min (hE : EnvOK P gl E) (hm : MemOK gl n0 w G h) (hs : ∀ t, SVRep w G h (s t) (a.tmps.getD t undef)) {as : Array Operand} {tys : Array TypeId} (ho : o.op = .call { callee := .builtin .min, args := as, argTypes := tys }) (h1 : op1 E d (evO E s) h (.call { callee := .builtin .min, args := as, argTypes := tys }) = some (.val cs v e)) : OpOK P gl n0 o a w G h v (effs h e) := by
  simp only [op1] at h1
  have hev := evO_ok hE hm hs
  split at h1
  · rename_i x y hax
    have hax' : as = #[x, y] := by rw [← Array.toArray_toList (xs := as), hax]
    subst hax'
    have hx := hev x
    have hy := hev y
    split at h1
    · rename_i j p k q hp hq
      rw [hp] at hx; rw [hq] at hy
      simp only [SVRep, CellRep] at hx hy
      obtain ⟨hb, h1⟩ := bifs h1
      obtain ⟨rfl, rfl, rfl⟩ := outOf h1
      refine opOK_pure (v := .int j (if q < p then q else p)) ?_ hm rfl
      obtain ⟨dst, op, ty, pos, af, gd⟩ := o
      simp only at ho
      subst ho
      simp only [execOp, resolve, builtin, invoke, pure_bind, List.map_toArray, List.map_cons, List.map_nil, Sem.run_bind, hx, hy]
      simp [Builtin.min_, Builtin.min2, Result.andThen]
    · cases h1
  · cases h1
end
end Go.Den
