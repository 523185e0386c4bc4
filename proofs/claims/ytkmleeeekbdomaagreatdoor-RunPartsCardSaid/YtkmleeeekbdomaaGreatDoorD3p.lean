/-
  Rows of zero elements.
-/
import Derived.Test.YtkmleeeekbdomaaGreatDoorD3h
import Derived.Laws.MakeOwn
import Derived.Lib.AppendZeros
import Derived.Maps.AppendAt
set_option linter.unusedSectionVars false
set_option linter.unusedVariables false
set_option linter.unusedSimpArgs false
namespace Go.Den
open Go Go.RowKit
section
variable {P : Program} {gl : GT} {n0 : Nat} {o : Oper} {a : Act} {w : World} {G : Mem} {h : Hp} {E : EnvC} {s : Nat → SV} {d : Nat} {cs : List Cnd} {v : SV} {e : List (Nat × Blk)}
theorem maxEl_ok {n b : Nat} (hn : n ≤ maxEl b) : n * b ≤ 140737488355328 := Nat.le_trans (Nat.mul_le_mul_right _ hn) (Nat.div_mul_le_self _ _)
theorem maxEl_len {n b : Nat} (hn : n ≤ maxEl b) : n ≤ maxLen := Nat.le_trans hn (Nat.le_trans (Nat.div_le_self _ _) (by unfold maxLen; omega))
theorem made_flat (z : Array Value) (n : Nat) : (madeCells z (n * z.size)).toList = (List.replicate n z.toList).flatten := by
  induction n with
  | zero => simp [madeCells]
  | succ n ih =>
    rw [List.replicate_succ', List.flatten_append, ← ih]
    simp only [madeCells, Array.toList_map, Array.toList_range, List.flatten_cons, List.flatten_nil, List.append_nil]
    rw [Nat.add_mul, Nat.one_mul, List.range_add, List.map_append]
    congr 1
    rw [List.map_map]
    apply List.ext_getElem?
    intro i
    rw [List.getElem?_map]
    by_cases hi : i < z.size
    · rw [List.getElem?_eq_getElem (by simpa using hi)]
      simp [Nat.mul_add_mod, Nat.mod_eq_of_lt hi, hi]
    · rw [List.getElem?_eq_none (by simpa using hi)]
      simp [Array.getElem?_eq_none (Nat.le_of_not_lt hi)]
theorem reps_replicate {α : Type} {R : α → List Value → Prop} {x : α} {c : List Value} (h : R x c) : ∀ n, Reps R (List.replicate n x) (List.replicate n c).flatten
  | 0 => rfl
  | n + 1 => ⟨c, _, by simp [List.replicate_succ], h, reps_replicate h n⟩
theorem zero_cells (hE : EnvOK P gl E) {el : TypeId} {ei : TI} (hei : E.tt.find el = some ei) {t : Ty} (hty : ei.ty = some t) : ∃ x z, P.info? el = some x ∧ x.size = t.sz ∧ x.bytes = ei.bytes ∧ x.zero = some z ∧ z.cells.toList = zcells t ∧ z.cells.size = t.sz ∧ ei.sz = t.sz := by
  have hTe := hE.tt _ _ hei
  obtain ⟨x, z, hx, hsz, hby, hz, _⟩ := hTe.info
  obtain ⟨hzc, htsz, _⟩ := hTe.ty t hty
  rw [hx] at hzc
  simp only [Option.bind_some, hz, Option.map_some, Option.some.injEq] at hzc
  refine ⟨x, z, hx, hsz.trans htsz.symm, hby, hz, hzc, ?_, htsz.symm⟩
  have := congrArg List.length hzc
  rw [zcells_len] at this
  simpa using this
theorem altTy_fun : ∀ {l : List (Nat × List CV)} {t : Ty}, altTy l = some t → t.fun = true
  | [], t, h => by simp only [altTy] at h; cases h; rfl
  | (_, []) :: r, t, h => by simp [altTy] at h
  | (_, [c]) :: r, t, h => by
    simp only [altTy] at h
    obtain ⟨a, _, h⟩ := Option.bind_eq_some_iff.1 h
    obtain ⟨b, hb, h⟩ := Option.bind_eq_some_iff.1 h
    cases h
    exact (altTy_fun hb : b.fun = true)
  | (_, _ :: _ :: _) :: r, t, h => by simp [altTy] at h
theorem fun_z : ∀ {t : Ty}, t.fun = true → zcells t = [.nilFunc] ∧ t.sz = 1
  | .alt _ _, _ => ⟨rfl, rfl⟩
  | .fz, _ => ⟨rfl, rfl⟩
theorem fnrow_cells (hE : EnvOK P gl E) {el : TypeId} {ei : TI} (hei : E.tt.find el = some ei) {l : List (Nat × List CV)} {t : Ty} (hty : rowTy ei l = some t) : (∃ x z, P.info? el = some x ∧ x.size = t.sz ∧ x.bytes = ei.bytes ∧ x.zero = some z ∧ z.cells.toList = zcells t ∧ z.cells.size = t.sz ∧ ei.sz = t.sz) ∧ ∀ w I, K w I t t.dflt (zcells t) := by
  unfold rowTy at hty
  split at hty
  · rename_i t' ht'
    cases hty
    exact ⟨zero_cells hE hei ht', fun w I => zcells_K w I t ((hE.tt _ _ hei).ty t ht').2.2⟩
  · obtain ⟨hb, hty⟩ := bifs hty
    simp only [Bool.and_eq_true] at hb
    have hf := altTy_fun hty
    refine ⟨?_, fun w I => zcells_fun w I t hf⟩
    obtain ⟨x, z, hx, hsz, hby, hz, hc⟩ := (hE.tt _ _ hei).info
    have h1 := nbeq hb.2
    have hzc : z.cells.toList = [.nilFunc] := by
      have hn : ei.zero = [.nf] := by
        have := hb.1
        unfold isNf at this
        split at this
        · assumption
        · cases this
      rw [hn] at hc
      generalize z.cells.toList = l at hc
      cases l with
      | nil => cases hc
      | cons v l =>
        simp only [cvsOf] at hc
        obtain ⟨c, h1, hc⟩ := Option.bind_eq_some_iff.1 hc
        obtain ⟨cs, h2, hc⟩ := Option.bind_eq_some_iff.1 hc
        cases hc
        have hl : l = [] := by
          cases l with
          | nil => rfl
          | cons u l =>
            simp only [cvsOf] at h2
            obtain ⟨c, _, h2⟩ := Option.bind_eq_some_iff.1 h2
            obtain ⟨cs, _, h2⟩ := Option.bind_eq_some_iff.1 h2
            cases h2
        subst hl
        unfold cvOf at h1
        split at h1 <;> first | rfl | cases h1
    obtain ⟨e1, e2⟩ := fun_z hf
    refine ⟨x, z, hx, by rw [hsz, h1, e2], hby, hz, by rw [hzc, e1], ?_, by rw [h1, e2]⟩
    have := congrArg List.length hzc
    rw [e2]; simpa using this
theorem op_appendZ (hE : EnvOK P gl E) (hm : MemOK gl n0 w G h) {tys : Array TypeId} {x0 x1 : Operand} (ho : o.op = .call { callee := .builtin .append, args := #[x0, x1], argTypes := tys }) (hx0 : a.eval x0 = .slice none 0 0) {k : IntKind} {n : Int} (hx1 : a.eval x1 = .int k n)
    (h1 : appendZ E h d tys.toList n = some (.val cs v e)) (hc : ∀ c ∈ cs, c.p) : OpOK P gl n0 o a w G h v (effs h e) := by
  unfold appendZ at h1
  split at h1
  · rename_i T T' hty
    have hat' : tys = #[T, T'] := by rw [← Array.toArray_toList (xs := tys), hty]
    subst hat'
    split at h1
    · rename_i el k' hk hk'
      obtain ⟨ei, hei, h1⟩ := Option.bind_eq_some_iff.1 h1
      obtain ⟨t, hty', h1⟩ := Option.bind_eq_some_iff.1 h1
      obtain ⟨hf, h1⟩ := bifs h1
      simp only [Out.when, Option.some.injEq, Out.val.injEq] at h1
      obtain ⟨rfl, rfl, rfl⟩ := h1
      have h2 := hc _ List.mem_cons_self
      have h3 := hc _ (List.mem_cons_of_mem _ List.mem_cons_self)
      simp only at h2 h3
      obtain ⟨m, rfl⟩ := Int.eq_ofNat_of_zero_le (Int.le_of_lt h2)
      have hT : P.underlying T = some (.slice el) := by
        rcases kdAt_ok hE T with ⟨_, h2⟩ | h2
        · rw [hk] at h2; exact h2
        · rw [hk] at h2; cases h2
      have hT' : P.underlying T' = some (.int k') := by
        rcases kdAt_ok hE T' with ⟨_, h2⟩ | h2
        · rw [hk'] at h2; exact h2
        · rw [hk'] at h2; cases h2
      obtain ⟨x, z, hxi, hsz, hby, hz, hzc, hzs, _⟩ := zero_cells hE hei hty'
      have hm1 : m ≤ maxEl ei.bytes := by omega
      have hmb := maxEl_ok hm1
      have hml := maxEl_len hm1
      have hfr := fresh_ok hf
      have hr := Lib.run_append_nil_zeros (P := P) w T T' o.type el x z k k' hT hT' hxi hz m (by omega) (by rw [hsz]; exact Ty.sz_pos t) (by unfold maxLen at hml; omega) (by rw [hby]; omega)
      have hcell : (Builtin.zeroCells z.cells m).toList = (List.replicate m (zcells t)).flatten := by
        have := made_flat z.cells m
        rw [← hzc]
        exact this
      have hR : Reps (K w G.I t) (List.replicate m t.dflt) (Builtin.zeroCells z.cells m).toList := by
        rw [hcell]
        exact reps_replicate (zcells_K w G.I t ((hE.tt _ _ hei).ty t hty').2.2) m
      have hge := grownCap_ge w m 0 el
      have hown : (w.drew.alloc (.cells (Builtin.zeroCells z.cells m ++ Builtin.zeroCells z.cells (grownCap w m 0 el - m)) el)).ownsRow w.heap.size el t.sz (.slice (some ⟨w.heap.size, 0, none⟩) m (grownCap w m 0 el)) m (Builtin.zeroCells z.cells m).toList := by
        refine ⟨by simp [size_zeroCells, hzs], .inr ⟨w.heap.size, grownCap w m 0 el, _, rfl, Nat.le_refl _, heap_alloc_new w.drew _, hge, grownCap_le_maxLen w m 0 el hml, ?_, ?_⟩⟩
        · simp only [Array.size_append, size_zeroCells, hzs]
          rw [← Nat.add_mul]; congr 1; omega
        · rw [Array.toList_append, List.take_left']
          simp [size_zeroCells, hzs]
      have hg : w.grownBy (w.drew.alloc (.cells (Builtin.zeroCells z.cells m ++ Builtin.zeroCells z.cells (grownCap w m 0 el - m)) el)) none :=
        ⟨rfl, rfl, rfl, by simp, fun k hk _ => heap_alloc_old w.drew _ hk⟩
      obtain ⟨m1, E1, B1, S1⟩ := mem_row (row := none) (ver := 0) (id := newId d 0) (xs := List.replicate m t.dflt) hm (fun C hC => by rw [hfr] at hC; cases hC) (fun _ => rfl) hg (.inl (by rw [List.length_replicate]; exact hown)) hR
      refine opOK_at (v := .slice (some ⟨w.heap.size, 0, none⟩) m (grownCap w m 0 el)) ?_ m1 E1 B1 S1
      obtain ⟨dst, op, ty, pos, af, gd⟩ := o
      simp only at ho hr
      subst ho
      simp only [execOp, resolve, builtin, invoke, pure_bind, List.map_toArray, List.map_cons, List.map_nil, Sem.run_bind, hx0, hx1]
      rw [hr]
      simp [Result.andThen]
    · cases h1
  · cases h1
end
end Go.Den
