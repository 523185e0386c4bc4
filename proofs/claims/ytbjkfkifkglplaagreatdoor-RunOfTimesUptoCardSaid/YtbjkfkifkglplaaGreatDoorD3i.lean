/- Part of the proof: D3p, D3i. -/
import Derived.Test.YtbjkfkifkglplaaGreatDoorD3h
import Derived.Laws.MakeOwn
import Derived.Lib.AppendZeros
import Derived.Maps.AppendAt
set_option linter.unusedSectionVars false
/-
  Rows of zero elements.
-/
set_option linter.unusedVariables false
set_option linter.unusedSimpArgs false
namespace Go.Den
open Go Go.RowKit
section
variable {P : Program} {gl : GT} {n0 : Nat} {o : Oper} {a : Act} {w : World} {G : Mem} {h : Hp} {E : EnvC} {s : Nat → SV} {d : Nat} {cs : List Cnd} {v : SV} {e : List (Nat × Blk)}
theorem maxEl_ok {n b : Nat} (hn : n ≤ maxEl b) : n * b ≤ 140737488355328 := Nat.le_trans (Nat.mul_le_mul_right _ hn) (Nat.div_mul_le_self _ _)
theorem maxEl_len {n b : Nat} (hn : n ≤ maxEl b) : n ≤ maxLen := Nat.le_trans hn (Nat.le_trans (Nat.div_le_self _ _) (by unfold maxLen; omega))
theorem made_flat (z : Array Value) (n : Nat) : (madeCells z (n * z.size)).toList = (List.replicate n z.toList).flatten := by
  induction n with
  | zero => simp [madeCells]
  | succ n ih =>
    rw [List.replicate_succ', List.flatten_append, ← ih]
    simp only [madeCells, Array.toList_map, Array.toList_range, List.flatten_cons, List.flatten_nil, List.append_nil]
    rw [Nat.add_mul, Nat.one_mul, List.range_add, List.map_append]
    congr 1
    rw [List.map_map]
    apply List.ext_getElem?
    intro i
    rw [List.getElem?_map]
    by_cases hi : i < z.size
    · rw [List.getElem?_eq_getElem (by simpa using hi)]
      simp [Nat.mul_add_mod, Nat.mod_eq_of_lt hi, hi]
    · rw [List.getElem?_eq_none (by simpa using hi)]
      simp [Array.getElem?_eq_none (Nat.le_of_not_lt hi)]
theorem reps_replicate {α : Type} {R : α → List Value → Prop} {x : α} {c : List Value} (h : R x c) : ∀ n, Reps R (List.replicate n x) (List.replicate n c).flatten
  | 0 => rfl
  | n + 1 => ⟨c, _, by simp [List.replicate_succ], h, reps_replicate h n⟩
theorem zero_cells (hE : EnvOK P gl E) {el : TypeId} {ei : TI} (hei : E.tt.find el = some ei) {t : Ty} (hty : ei.ty = some t) : ∃ x z, P.info? el = some x ∧ x.size = t.sz ∧ x.bytes = ei.bytes ∧ x.zero = some z ∧ z.cells.toList = zcells t ∧ z.cells.size = t.sz ∧ ei.sz = t.sz := by
  have hTe := hE.tt _ _ hei
  obtain ⟨x, z, hx, hsz, hby, hz, _⟩ := hTe.info
  obtain ⟨hzc, htsz, _⟩ := hTe.ty t hty
  rw [hx] at hzc
  simp only [Option.bind_some, hz, Option.map_some, Option.some.injEq] at hzc
  refine ⟨x, z, hx, hsz.trans htsz.symm, hby, hz, hzc, ?_, htsz.symm⟩
  have := congrArg List.length hzc
  rw [zcells_len] at this
  simpa using this
theorem altTy_fun : ∀ {l : List (Nat × List CV)} {t : Ty}, altTy l = some t → t.fun = true
  | [], t, h => by simp only [altTy] at h; cases h; rfl
  | (_, []) :: r, t, h => by simp [altTy] at h
  | (_, [c]) :: r, t, h => by
    simp only [altTy] at h
    obtain ⟨a, _, h⟩ := Option.bind_eq_some_iff.1 h
    obtain ⟨b, hb, h⟩ := Option.bind_eq_some_iff.1 h
    cases h
    exact (altTy_fun hb : b.fun = true)
  | (_, _ :: _ :: _) :: r, t, h => by simp [altTy] at h
theorem fun_z : ∀ {t : Ty}, t.fun = true → zcells t = [.nilFunc] ∧ t.sz = 1
  | .alt _ _, _ => ⟨rfl, rfl⟩
  | .fz, _ => ⟨rfl, rfl⟩
theorem fnrow_cells (hE : EnvOK P gl E) {el : TypeId} {ei : TI} (hei : E.tt.find el = some ei) {l : List (Nat × List CV)} {t : Ty} (hty : rowTy ei l = some t) : (∃ x z, P.info? el = some x ∧ x.size = t.sz ∧ x.bytes = ei.bytes ∧ x.zero = some z ∧ z.cells.toList = zcells t ∧ z.cells.size = t.sz ∧ ei.sz = t.sz) ∧ ∀ w I, K w I t t.dflt (zcells t) := by
  unfold rowTy at hty
  split at hty
  · rename_i t' ht'
    cases hty
    exact ⟨zero_cells hE hei ht', fun w I => zcells_K w I t ((hE.tt _ _ hei).ty t ht').2.2⟩
  · obtain ⟨hb, hty⟩ := bifs hty
    simp only [Bool.and_eq_true] at hb
    have hf := altTy_fun hty
    refine ⟨?_, fun w I => zcells_fun w I t hf⟩
    obtain ⟨x, z, hx, hsz, hby, hz, hc⟩ := (hE.tt _ _ hei).info
    have h1 := nbeq hb.2
    have hzc : z.cells.toList = [.nilFunc] := by
      have hn : ei.zero = [.nf] := by
        have := hb.1
        unfold isNf at this
        split at this
        · assumption
        · cases this
      rw [hn] at hc
      generalize z.cells.toList = l at hc
      cases l with
      | nil => cases hc
      | cons v l =>
        simp only [cvsOf] at hc
        obtain ⟨c, h1, hc⟩ := Option.bind_eq_some_iff.1 hc
        obtain ⟨cs, h2, hc⟩ := Option.bind_eq_some_iff.1 hc
        cases hc
        have hl : l = [] := by
          cases l with
          | nil => rfl
          | cons u l =>
            simp only [cvsOf] at h2
            obtain ⟨c, _, h2⟩ := Option.bind_eq_some_iff.1 h2
            obtain ⟨cs, _, h2⟩ := Option.bind_eq_some_iff.1 h2
            cases h2
        subst hl
        unfold cvOf at h1
        split at h1 <;> first | rfl | cases h1
    obtain ⟨e1, e2⟩ := fun_z hf
    refine ⟨x, z, hx, by rw [hsz, h1, e2], hby, hz, by rw [hzc, e1], ?_, by rw [h1, e2]⟩
    have := congrArg List.length hzc
    rw [e2]; simpa using this
theorem op_appendZ (hE : EnvOK P gl E) (hm : MemOK gl n0 w G h) {tys : Array TypeId} {x0 x1 : Operand} (ho : o.op = .call { callee := .builtin .append, args := #[x0, x1], argTypes := tys }) (hx0 : a.eval x0 = .slice none 0 0) {k : IntKind} {n : Int} (hx1 : a.eval x1 = .int k n)
    (h1 : appendZ E h d tys.toList n = some (.val cs v e)) (hc : ∀ c ∈ cs, c.p) : OpOK P gl n0 o a w G h v (effs h e) := by
  unfold appendZ at h1
  split at h1
  · rename_i T T' hty
    have hat' : tys = #[T, T'] := by rw [← Array.toArray_toList (xs := tys), hty]
    subst hat'
    split at h1
    · rename_i el k' hk hk'
      obtain ⟨ei, hei, h1⟩ := Option.bind_eq_some_iff.1 h1
      obtain ⟨t, hty', h1⟩ := Option.bind_eq_some_iff.1 h1
      obtain ⟨hf, h1⟩ := bifs h1
      simp only [Out.when, Option.some.injEq, Out.val.injEq] at h1
      obtain ⟨rfl, rfl, rfl⟩ := h1
      have h2 := hc _ List.mem_cons_self
      have h3 := hc _ (List.mem_cons_of_mem _ List.mem_cons_self)
      simp only at h2 h3
      obtain ⟨m, rfl⟩ := Int.eq_ofNat_of_zero_le (Int.le_of_lt h2)
      have hT : P.underlying T = some (.slice el) := by
        rcases kdAt_ok hE T with ⟨_, h2⟩ | h2
        · rw [hk] at h2; exact h2
        · rw [hk] at h2; cases h2
      have hT' : P.underlying T' = some (.int k') := by
        rcases kdAt_ok hE T' with ⟨_, h2⟩ | h2
        · rw [hk'] at h2; exact h2
        · rw [hk'] at h2; cases h2
      obtain ⟨x, z, hxi, hsz, hby, hz, hzc, hzs, _⟩ := zero_cells hE hei hty'
      have hm1 : m ≤ maxEl ei.bytes := by omega
      have hmb := maxEl_ok hm1
      have hml := maxEl_len hm1
      have hfr := fresh_ok hf
      have hr := Lib.run_append_nil_zeros (P := P) w T T' o.type el x z k k' hT hT' hxi hz m (by omega) (by rw [hsz]; exact Ty.sz_pos t) (by unfold maxLen at hml; omega) (by rw [hby]; omega)
      have hcell : (Builtin.zeroCells z.cells m).toList = (List.replicate m (zcells t)).flatten := by
        have := made_flat z.cells m
        rw [← hzc]
        exact this
      have hR : Reps (K w G.I t) (List.replicate m t.dflt) (Builtin.zeroCells z.cells m).toList := by
        rw [hcell]
        exact reps_replicate (zcells_K w G.I t ((hE.tt _ _ hei).ty t hty').2.2) m
      have hge := grownCap_ge w m 0 el
      have hown : (w.drew.alloc (.cells (Builtin.zeroCells z.cells m ++ Builtin.zeroCells z.cells (grownCap w m 0 el - m)) el)).ownsRow w.heap.size el t.sz (.slice (some ⟨w.heap.size, 0, none⟩) m (grownCap w m 0 el)) m (Builtin.zeroCells z.cells m).toList := by
        refine ⟨by simp [size_zeroCells, hzs], .inr ⟨w.heap.size, grownCap w m 0 el, _, rfl, Nat.le_refl _, heap_alloc_new w.drew _, hge, grownCap_le_maxLen w m 0 el hml, ?_, ?_⟩⟩
        · simp only [Array.size_append, size_zeroCells, hzs]
          rw [← Nat.add_mul]; congr 1; omega
        · rw [Array.toList_append, List.take_left']
          simp [size_zeroCells, hzs]
      have hg : w.grownBy (w.drew.alloc (.cells (Builtin.zeroCells z.cells m ++ Builtin.zeroCells z.cells (grownCap w m 0 el - m)) el)) none :=
        ⟨rfl, rfl, rfl, by simp, fun k hk _ => heap_alloc_old w.drew _ hk⟩
      obtain ⟨m1, E1, B1, S1⟩ := mem_row (row := none) (ver := 0) (id := newId d 0) (xs := List.replicate m t.dflt) hm (fun C hC => by rw [hfr] at hC; cases hC) (fun _ => rfl) hg (.inl (by rw [List.length_replicate]; exact hown)) hR
      refine opOK_at (v := .slice (some ⟨w.heap.size, 0, none⟩) m (grownCap w m 0 el)) ?_ m1 E1 B1 S1
      obtain ⟨dst, op, ty, pos, af, gd⟩ := o
      simp only at ho hr
      subst ho
      simp only [execOp, resolve, builtin, invoke, pure_bind, List.map_toArray, List.map_cons, List.map_nil, Sem.run_bind, hx0, hx1]
      rw [hr]
      simp [Result.andThen]
    · cases h1
  · cases h1
end
end Go.Den

/-
  One operation of the abstract machine is right: rows made, appended to, written.
-/
set_option linter.unusedVariables false
set_option linter.unusedSimpArgs false
namespace Go.Den
open Go Go.RowKit
section
variable {P : Program} {gl : GT} {n0 : Nat} {o : Oper} {a : Act} {w : World} {G : Mem} {h : Hp} {E : EnvC} {s : Nat → SV} {d : Nat} {cs : List Cnd} {v : SV} {e : List (Nat × Blk)}
theorem reps_at {I : Nat → Prop} {t : Ty} : ∀ {ys : List t.den} {A : Addr}, (∀ (j : Nat) (x : t.den), ys[j]? = some x → ∃ d, K w I t x d ∧ CellsAt w (A.add (j * t.sz)) d) → ∃ news, Reps (K w I t) ys news ∧ CellsAt w A news
  | [], A, _ => ⟨[], rfl, fun i u hu => by cases hu⟩
  | y :: ys, A, hall => by
    obtain ⟨d0, hK, hA⟩ := hall 0 y rfl
    rw [Nat.zero_mul, add_zero] at hA
    obtain ⟨news, hR, hN⟩ := reps_at (ys := ys) (A := A.add t.sz) (fun j x hx => by
      obtain ⟨d, h1, h2⟩ := hall (j + 1) x (by simpa using hx)
      refine ⟨d, h1, ?_⟩
      rw [add_add]
      rw [Nat.add_mul, Nat.one_mul, Nat.add_comm] at h2
      exact h2)
    exact ⟨d0 ++ news, ⟨d0, news, rfl, hK, hR⟩, hA.app (by rw [K_len hK]; exact hN)⟩
theorem listOf_ok (hm : MemOK gl n0 w G h) {t : Ty} {c : CV} {u : Value} {ys : List t.den} (hx : CellRep w G h c u) (hl : listOf h t c = some ys) :
    ∃ A cp news, u = .slice A (List.length ys) cp ∧ List.length ys ≤ maxLen ∧ Reps (K w G.I t) ys news ∧ ((A = none ∧ ys = []) ∨ ∃ B, A = some B ∧ CellsAt w B news) := by
  unfold listOf at hl
  obtain ⟨q, hq, hl⟩ := Option.bind_eq_some_iff.1 hl
  cases hl
  cases c <;> simp only [toTy] at hq <;> try cases hq
  case l t' xs =>
    obtain ⟨y, hy, hq⟩ := Option.bind_eq_some_iff.1 hq
    cases hq
    obtain ⟨A, c, hv, h1, h2, h3⟩ := listTo_K hy (show K w G.I (.list t') xs [u] from hx)
    simp only [List.cons.injEq, and_true] at hv
    rcases h3 with h3 | ⟨B, rfl, hI, hall⟩
    · refine ⟨A, c, [], hv, Nat.le_trans h1 h2, by show Reps _ y []; rw [h3]; rfl, ?_⟩
      cases A with
      | none => exact .inl ⟨rfl, h3⟩
      | some B => exact .inr ⟨B, rfl, fun i u hu => by cases hu⟩
    · obtain ⟨news, hR, hN⟩ := reps_at hall
      exact ⟨_, c, news, hv, Nat.le_trans h1 h2, hR, .inr ⟨B, rfl, hN⟩⟩
  case refl.d t' z =>
    obtain ⟨y, hy, hq⟩ := Option.bind_eq_some_iff.1 hq
    cases hq
    obtain ⟨he, hxy⟩ := castTo_eq hy
    cases he
    obtain rfl := eq_of_heq hxy
    obtain ⟨A, c, hv, h1, h2, h3⟩ := K_rl_list (show K w G.I (.rl t) z [u] from hx)
    simp only [List.cons.injEq, and_true] at hv
    rcases h3 with h3 | ⟨B, rfl, hI, hall⟩
    · refine ⟨A, c, [], hv, Nat.le_trans h1 h2, by show Reps _ z.1 []; rw [h3]; rfl, ?_⟩
      cases A with
      | none => exact .inl ⟨rfl, h3⟩
      | some B => exact .inr ⟨B, rfl, fun i u hu => by cases hu⟩
    · obtain ⟨news, hR, hN⟩ := reps_at hall
      exact ⟨_, c, news, hv, Nat.le_trans h1 h2, hR, .inr ⟨B, rfl, hN⟩⟩
  case refl.nl.refl =>
    simp only [CellRep] at hx
    exact ⟨none, 0, [], hx, by simp, rfl, .inl ⟨rfl, rfl⟩⟩
  case refl.own id ver =>
    split at hq
    · rename_i vv f e u' xs hi
      obtain ⟨hb, hq⟩ := bifs hq
      obtain ⟨y, hy, hq⟩ := Option.bind_eq_some_iff.1 hq
      cases hq
      obtain ⟨he, hxy⟩ := castTo_eq hy
      cases he
      obtain rfl := eq_of_heq hxy
      obtain ⟨_, cur, fro, e2, t2, xs2, hh, hle, hv⟩ := hx
      rw [hi] at hh; cases hh
      have hv := hv (nbeq hb).symm
      obtain ⟨inner, ho, hr⟩ := hm.rep _ _ hi
      have hml : List.length xs ≤ maxLen := by
        rcases ho.2 with ⟨_, hn⟩ | ⟨g, cap, cur, _, _, hg, hle, hcm, _⟩
        · omega
        · omega
      rcases ho.2 with ⟨hvn, hn⟩ | ⟨g, cap, cur, hvs, _, hg, hle2, hcm, hcs, htake⟩
      · have hxs : xs = [] := List.eq_nil_of_length_eq_zero hn
        refine ⟨none, 0, inner, by rw [hv, hvn, hn], hml, hr, .inl ⟨rfl, hxs⟩⟩
      · refine ⟨some ⟨g, 0, none⟩, cap, inner, by rw [hv, hvs], hml, hr, .inr ⟨_, rfl, fun i u hu => ?_⟩⟩
        exact ho.cells (by rw [hvs]; rfl) i u hu
    · cases hq
theorem ownBlk {w : World} {base : Nat} {e : TypeId} {size n : Nat} {v : Value} {xs : List Value} (ho : w.ownsRow base e size v n xs) : v.ownBlock = blkOf v := by
  rcases ho.2 with ⟨rfl, _⟩ | ⟨g, cap, cur, rfl, _⟩ <;> rfl
theorem op_append (hE : EnvOK P gl E) (hm : MemOK gl n0 w G h) (hs : ∀ t, SVRep w G h (s t) (a.tmps.getD t undef)) {as : Array Operand} {tys : Array TypeId} (ho : o.op = .call { callee := .builtin .append, args := as, argTypes := tys }) (h1 : op1 E d (evO E s) h (.call { callee := .builtin .append, args := as, argTypes := tys }) = some (.val cs v e)) (hc : ∀ c ∈ cs, c.p) : OpOK P gl n0 o a w G h v (effs h e) := by
  simp only [op1] at h1
  have hev := evO_ok hE hm hs
  split at h1
  · rename_i x0 x1 hax
    have hax' : as = #[x0, x1] := by rw [← Array.toArray_toList (xs := as), hax]
    subst hax'
    split at h1
    · rename_i k n hc0 hc1
      have hx0 := hev x0
      have hx1 := hev x1
      rw [hc0] at hx0; rw [hc1] at hx1
      exact op_appendZ hE hm ho hx0 hx1 h1 hc
    · rename_i c0 c1 _ hc0 hc1
      have hx0 := hev x0
      have hx1 := hev x1
      rw [hc0] at hx0; rw [hc1] at hx1
      unfold append1 at h1
      split at h1
      · rename_i T T' hty
        obtain ⟨hTT, h1'⟩ := bifs h1
        clear h1
        have h1 := h1'
        clear h1'
        obtain rfl := nbeq hTT
        have hat' : tys = #[T, T] := by rw [← Array.toArray_toList (xs := tys), hty]
        subst hat'
        split at h1
        · rename_i el hkd
          obtain ⟨ei, hei, h1⟩ := Option.bind_eq_some_iff.1 h1
          obtain ⟨t, hty', h1⟩ := Option.bind_eq_some_iff.1 h1
          obtain ⟨ys, hys, h1⟩ := Option.bind_eq_some_iff.1 h1
          have hT : P.underlying T = some (.slice el) := by
            rcases kdAt_ok hE T with ⟨_, h2⟩ | h2
            · rw [hkd] at h2; exact h2
            · rw [hkd] at h2; cases h2
          have hTe := hE.tt _ _ hei
          obtain ⟨x, z, hx, hsz, hby, hz, _⟩ := hTe.info
          obtain ⟨hzc, htsz, _⟩ := hTe.ty t hty'
          have hzs : z.cells.size = t.sz := by
            rw [hx] at hzc
            simp only [Option.bind_some, hz, Option.map_some, Option.some.injEq] at hzc
            have := congrArg List.length hzc
            rw [zcells_len] at this
            simpa using this
          obtain ⟨A, cp, news, hu, hml, hR, hA⟩ := listOf_ok hm hx1 hys
          have hnl : news.length = List.length ys * t.sz := Reps.len (fun _ _ h => K_len h) hR
          have hone : ∀ u ∈ news, u.oneCell' = true := Reps.mem (fun _ _ h => K_one h) hR
          have fin : ∀ r w', (Builtin.append_ #[T, T] o.type #[a.eval x0, a.eval x1]).run P w = .ok r w' → (execOp a.eval o).run P w = .ok (.value r) w' := fun r w' hn => by
            obtain ⟨dst, op, ty, pos, af, gd⟩ := o
            simp only at ho hn
            subst ho
            simp only [execOp, resolve, builtin, invoke, pure_bind, List.map_toArray, List.map_cons, List.map_nil, Sem.run_bind]
            simp [hn, Result.andThen]
          -- the append itself, onto a row of the call's own
          have app : ∀ (base : Nat) (u0 : Value) (xs : List t.den) (inner : List Value), a.eval x0 = u0 → base ≤ w.heap.size → w.ownsRow base el t.sz u0 (List.length xs) inner → List.length xs + List.length ys ≤ maxEl ei.bytes →
              ∃ v' w', (execOp a.eval o).run P w = .ok (.value v') w' ∧ w'.ownsRow base el t.sz v' (List.length (xs ++ ys)) (inner ++ news) ∧ w.grownBy w' u0.ownBlock ∧ (v'.ownBlock = u0.ownBlock ∨ v'.ownBlock = some w.heap.size) := by
            intro base u0 xs inner hu0 hbase hown hlen
            rcases hA with ⟨rfl, hye⟩ | ⟨B, rfl, hB⟩
            · subst hye
              simp only [Reps] at hR
              subst hR
              refine ⟨u0, w, fin _ _ ?_, by simpa using hown, ⟨rfl, rfl, rfl, Nat.le_refl _, fun _ _ _ => rfl⟩, .inl rfl⟩
              rw [hu0, hu]
              rcases hown.2 with ⟨rfl, hn⟩ | ⟨g, cap, cur, rfl, _, _, hnc, _⟩
              · simp [Builtin.append_, run_underlying hT, sizeOf, typeInfo, hx, Builtin.lenOf, Builtin.firstCells]
              · simp [Builtin.append_, run_underlying hT, sizeOf, typeInfo, hx, Builtin.lenOf, Builtin.firstCells, hnc, storeCells]
            · obtain ⟨v', w', hr, hown', hg, _, hat⟩ := run_append_own_at (P := P) w base T o.type el x z t.sz ei.bytes hT hx hz (hsz.trans htsz.symm) hby hzs (Ty.sz_pos t) u0 _ inner hown B (List.length ys) cp news hnl hB hone (maxEl_len hlen) (maxEl_ok hlen) hbase
              exact ⟨v', w', fin _ _ (by rw [hu0, hu]; exact hr), by rw [List.length_append]; exact hown', hg, hat⟩
          rcases c0 with _|_|_|_|_|_|_|⟨rid, ver⟩|_|_|_|_|_|_|_ <;> simp only at h1 <;> try cases h1
          · obtain ⟨hf, h1⟩ := bifs h1
            cases h1
            have hfr := fresh_ok hf
            have h2 := hc _ List.mem_cons_self
            simp only at h2
            simp only [SVRep, CellRep] at hx0
            obtain ⟨v', w', hr, hown', hg, hat⟩ := app w.heap.size (.slice none 0 0) [] [] hx0 (Nat.le_refl _) (World.ownsRow_nil _ _ _ _) (by simpa using h2)
            obtain ⟨m1, E1, B1, S1⟩ := mem_row (row := none) (ver := 0) hm (fun C hC => by rw [hfr] at hC; cases hC) (fun _ => rfl) hg (.inl hown') (Reps.app (R := K w G.I t) (xs := []) rfl hR)
            exact opOK_at hr m1 E1 B1 S1
          · split at h1
            · rename_i vv e' t' xs hid
              obtain ⟨hb, h1⟩ := bifs h1
              simp only [Bool.and_eq_true] at hb
              obtain ⟨xs', hxs', h1⟩ := Option.bind_eq_some_iff.1 h1
              cases h1
              obtain ⟨he, hxy⟩ := castTo_eq hxs'
              cases he
              obtain rfl := eq_of_heq hxy
              obtain rfl := nbeq hb.2
              obtain rfl := nbeq hb.1
              have h2 := hc _ List.mem_cons_self
              simp only at h2
              obtain ⟨_, cur, fro, e2, t2, xs2, hh, hle, hv⟩ := hx0
              rw [hid] at hh; cases hh
              have hv := hv rfl
              obtain ⟨inner, hown, hre⟩ := hm.rep _ _ hid
              obtain ⟨v', w', hr, hown', hg, hat⟩ := app 0 _ xs inner hv (Nat.zero_le _) hown h2
              have hob := ownBlk hown
              have hob' := ownBlk hown'
              rw [hob] at hg hat
              rw [hob'] at hat
              obtain ⟨m1, E1, B1, S1⟩ := mem_row (row := blkOf (G.μ rid)) (ver := vv + 1) hm (fun C hC => by rw [hid] at hC; cases hC; exact ⟨vv, _, _, rfl, Nat.lt_succ_self _, rfl⟩) (fun hn => by rw [hid] at hn; cases hn) hg
                (.inr ⟨⟨_, hid⟩, hown', hat.imp (fun h => h) (fun h => ⟨_, h, Nat.le_refl _⟩)⟩) (Reps.app (R := K w G.I t) hre hR)
              exact opOK_at hr m1 E1 B1 S1
            · cases h1
        · cases h1
      · cases h1
    · cases h1
  · cases h1
end
end Go.Den
