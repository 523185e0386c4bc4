/-
  What one operation does in the model: tests, places, cells.
-/
import Derived.Test.YtbjkfkifkglplaaGreatDoorD3c
import Derived.Lib.SliceRun
set_option linter.unusedSectionVars false
set_option linter.unusedVariables false
set_option linter.unusedSimpArgs false
namespace Go.Den
open Go Go.RowKit
section
variable {P : Program} {gl : GT} {n0 : Nat} {o : Oper} {a : Act} {w : World} {G : Mem} {h : Hp}
theorem boolOf_ok {c : CV} {b : Bool} {v : Value} (hb : boolOf c = some b) (hc : CellRep w G h c v) : v = .bool b := by
  unfold boolOf at hb
  split at hb <;> cases hb <;> exact hc
theorem kdAt_ok {E : EnvC} (hE : EnvOK P gl E) (T : TypeId) : (∃ d, P.underlying T = some d) ∧ kdOK P T (kdAt E.tt T) ∨ kdAt E.tt T = .other := by
  unfold kdAt
  cases h : E.tt.find T with
  | none => exact .inr rfl
  | some i =>
    have := (hE.tt _ _ h).kd
    left
    refine ⟨?_, this⟩
    cases hk : i.kd <;> rw [hk] at this <;> simp only [kdOK] at this
    case struct => obtain ⟨F, hF, _⟩ := this; exact ⟨_, hF⟩
    case map => obtain ⟨_, _, hF⟩ := this; exact ⟨_, hF⟩
    case smap => obtain ⟨_, _, hF, _⟩ := this; exact ⟨_, hF⟩
    case func => obtain ⟨_, _, _, hF⟩ := this; exact ⟨_, hF⟩
    case other => obtain ⟨_, hF, _⟩ := this; exact ⟨_, hF⟩
    all_goals exact ⟨_, this⟩
theorem equal_in (T : TypeId) (x y : Value) : Op.equal T x y = Op.equalIn (9999 + 1) T x y := rfl
theorem equalIn_bool {T : TypeId} (hT : P.underlying T = some .bool) (n : Nat) (p q : Bool) : (Op.equalIn (n + 1) T (.bool p) (.bool q)).run P w = .ok (p == q) w := by simp [Op.equalIn, run_underlying hT]
theorem equalIn_nf {T : TypeId} {ps rs : Array TypeId} {b : Bool} (hT : P.underlying T = some (.func ps rs b)) (n : Nat) (f : Fn) (x y : Array Value) : (Op.equalIn (n + 1) T .nilFunc (.func f x y)).run P w = .ok false w := by simp [Op.equalIn, run_underlying hT]
theorem equalIn_fn {T : TypeId} {ps rs : Array TypeId} {b : Bool} (hT : P.underlying T = some (.func ps rs b)) (n : Nat) (f : Fn) (x y : Array Value) : (Op.equalIn (n + 1) T (.func f x y) .nilFunc).run P w = .ok false w := by simp [Op.equalIn, run_underlying hT]
theorem binOp_eql_bool (T : TypeId) (p q : Bool) : Go.binOp .eql T (.bool p) (.bool q) = (do pure (.bool (← Op.equal T (.bool p) (.bool q)))) := rfl
theorem binOp_neq_bool (T : TypeId) (p q : Bool) : Go.binOp .neq T (.bool p) (.bool q) = (do pure (.bool (!(← Op.equal T (.bool p) (.bool q))))) := rfl
theorem binOp_eql_nf (T : TypeId) (f : Fn) (x y : Array Value) : Go.binOp .eql T .nilFunc (.func f x y) = (do pure (.bool (← Op.equal T .nilFunc (.func f x y)))) := rfl
theorem binOp_neq_nf (T : TypeId) (f : Fn) (x y : Array Value) : Go.binOp .neq T .nilFunc (.func f x y) = (do pure (.bool (!(← Op.equal T .nilFunc (.func f x y))))) := rfl
theorem binOp_eql_fn (T : TypeId) (f : Fn) (x y : Array Value) : Go.binOp .eql T (.func f x y) .nilFunc = (do pure (.bool (← Op.equal T (.func f x y) .nilFunc))) := rfl
theorem binOp_neq_fn (T : TypeId) (f : Fn) (x y : Array Value) : Go.binOp .neq T (.func f x y) .nilFunc = (do pure (.bool (!(← Op.equal T (.func f x y) .nilFunc)))) := rfl
theorem bin1_ok {E : EnvC} (hE : EnvOK P gl E) {op : BinOp} {T : TypeId} {x y : CV} {u v : Value} {xo yo : Operand} {cs : List Cnd} {sv : SV} {e : List (Nat × Blk)} (hb : bin1 (kdAt E.tt T) op x y yo = some (.val cs sv e)) (hc : ∀ c ∈ cs, c.p)
    (hx : CellRep w G h x u) (hy : CellRep w G h y v) (hyo : a.eval yo = v) :
    e = [] ∧ ∃ r, (do eqGuard op T xo yo u v; Go.binOp op T u v : Sem Value).run P w = .ok r w ∧ SVRep w G h sv r := by
  unfold bin1 at hb
  split at hb
  · simp only [CellRep] at hx hy
    subst hx; subst hy
    rename_i j x k y
    have key : e = [] ∧ ∃ r, (Go.binOp op T (.int j x) (.int k y)).run P w = .ok r w ∧ SVRep w G h sv r := by
      split at hb
      · exact binI_ok hb hc hyo (.inl rfl) T
      · exact binI_ok hb hc hyo (.inr (.inl rfl)) T
      · cases hk : kbeq j k with
        | false => rw [hk] at hb; cases hb
        | true => rw [hk] at hb; exact binI_ok hb hc hyo (.inr (.inr (kbeq_eq hk))) T
    obtain ⟨h1, r, h2, h3⟩ := key
    refine ⟨h1, r, ?_, h3⟩
    rw [← h2]
    simp [eqGuard]
  · simp only [CellRep] at hx hy
    subst hx; subst hy
    obtain ⟨h1, r, h2, h3⟩ := binS_ok (P := P) (w := w) (G := G) (h := h) hb hc T
    refine ⟨h1, r, ?_, h3⟩
    rw [← h2]
    simp [eqGuard]
  · split at hb
    · rename_i hkd
      obtain ⟨p, hp, hb⟩ := Option.bind_eq_some_iff.1 hb
      obtain ⟨q, hq, hb⟩ := Option.bind_eq_some_iff.1 hb
      obtain rfl := boolOf_ok hp hx
      obtain rfl := boolOf_ok hq hy
      have hT : P.underlying T = some .bool := by
        rcases kdAt_ok hE T with ⟨_, h2⟩ | h2
        · rw [hkd] at h2; exact h2
        · rw [hkd] at h2; cases h2
      split at hb <;> cases hb
      · exact ⟨rfl, .bool (p == q), by simp [eqGuard, binOp_eql_bool, equal_in, equalIn_bool hT, -Nat.reduceAdd], by simp only [SVRep, CellRep, beq_dec]⟩
      · exact ⟨rfl, .bool (!(p == q)), by simp [eqGuard, binOp_neq_bool, equal_in, equalIn_bool hT, -Nat.reduceAdd], by simp only [SVRep, CellRep, beq_dec]⟩
    · rename_i el hkd
      have hT : P.underlying T = some (.slice el) := by
        rcases kdAt_ok hE T with ⟨_, h2⟩ | h2
        · rw [hkd] at h2; exact h2
        · rw [hkd] at h2; cases h2
      split at hb <;> cases hb
      obtain ⟨A, c, hx, hle, _, hr⟩ := hx
      simp only [List.cons.injEq, and_true] at hx
      subst hx
      have hy : v = .slice none 0 0 := hy
      subst hy
      refine ⟨rfl, .bool A.isNone, ?_, A.isNone, rfl, fun hp => ?_⟩
      · simp only [eqGuard, Sem.run_bind, Result.andThen]
        simp [Lib.run_eql_slice_nil w T el A _ c 0 0 hT]
      · rcases hr with hr | ⟨a, rfl, _⟩
        · exact absurd (by rw [hr]; rfl) hp
        · rfl
    · rename_i hkd
      obtain ⟨ps, rs, vr, hT⟩ : ∃ a b c, P.underlying T = some (.func a b c) := by
        rcases kdAt_ok hE T with ⟨_, h2⟩ | h2
        · rw [hkd] at h2; exact h2
        · rw [hkd] at h2; cases h2
      split at hb
      · simp only [CellRep] at hx hy
        obtain ⟨rfl, _⟩ := hy
        subst hx
        split at hb <;> cases hb
        · exact ⟨rfl, .bool false, by simp [eqGuard, binOp_eql_nf, binOp_neq_nf, binOp_eql_fn, binOp_neq_fn, equal_in, equalIn_nf hT, equalIn_fn hT, -Nat.reduceAdd], rfl⟩
        · exact ⟨rfl, .bool true, by simp [eqGuard, binOp_eql_nf, binOp_neq_nf, binOp_eql_fn, binOp_neq_fn, equal_in, equalIn_nf hT, equalIn_fn hT, -Nat.reduceAdd], rfl⟩
      · simp only [CellRep] at hx hy
        obtain ⟨rfl, _⟩ := hx
        subst hy
        split at hb <;> cases hb
        · exact ⟨rfl, .bool false, by simp [eqGuard, binOp_eql_nf, binOp_neq_nf, binOp_eql_fn, binOp_neq_fn, equal_in, equalIn_nf hT, equalIn_fn hT, -Nat.reduceAdd], rfl⟩
        · exact ⟨rfl, .bool true, by simp [eqGuard, binOp_eql_nf, binOp_neq_nf, binOp_eql_fn, binOp_neq_fn, equal_in, equalIn_nf hT, equalIn_fn hT, -Nat.reduceAdd], rfl⟩
      · cases hb
    · cases hb
theorem un1_ok {op : UnOp} {x : CV} {u : Value} {cs : List Cnd} {sv : SV} {e : List (Nat × Blk)} (hb : un1 op x = some (.val cs sv e)) (hx : CellRep w G h x u) :
    e = [] ∧ ∃ r, (Op.unary op u).run P w = .ok r w ∧ SVRep w G h sv r := by
  unfold un1 at hb
  split at hb <;> cases hb <;> simp only [CellRep] at hx <;> subst hx
  · rename_i b; exact ⟨rfl, .bool (!b), by simp [Op.unary], rfl⟩
  · rename_i p d; exact ⟨rfl, .bool (!(@decide p d)), by simp [Op.unary], rfl⟩
  · rename_i p d; exact ⟨rfl, .bool (@decide p d), by simp [Op.unary], rfl⟩
  · exact ⟨rfl, _, by simp [Op.unary, Op.intArith]; rfl, by simp [SVRep, CellRep, realw]⟩
/-! Cells at places -/
theorem cut_ok {α : Type} {cs r : List α} {o n : Nat} (hc : cut cs o n = some r) : r = (cs.drop o).take n ∧ r.length = n := by
  unfold cut at hc
  simp only at hc
  cases hb : Nat.beq ((cs.drop o).take n).length n with
  | false => rw [hb] at hc; cases hc
  | true => rw [hb] at hc; cases hc; exact ⟨rfl, nbeq hb⟩
theorem ofTy_ok {w : World} {I : Nat → Prop} (hI : ∀ b, I b → G.I b) : ∀ {t : Ty} {x : t.den} {d : List Value}, K w I t x d → L2 (CellRep w G h) (ofTy t x) d
  | .int _, _, _, hk => by simp only [K] at hk; subst hk; exact ⟨rfl, trivial⟩
  | .bool, _, _, hk => by simp only [K] at hk; subst hk; exact ⟨rfl, trivial⟩
  | .str, _, _, hk => by simp only [K] at hk; subst hk; exact ⟨rfl, trivial⟩
  | .list t, xs, d, hk => by
    have hk' := K_step hI (fun _ _ => rfl) hk
    obtain ⟨A, c, rfl, _⟩ := hk
    exact ⟨hk', trivial⟩
  | .prod a b, _, _, hk => by
    obtain ⟨c, d, rfl, h1, h2⟩ := hk
    exact (ofTy_ok hI h1).app (ofTy_ok hI h2)
  | .fn f gs t, x, d, hk => by
    have hk' := K_step hI (fun _ _ => rfl) hk
    obtain ⟨l, caps, rfl, _⟩ := hk
    exact ⟨hk', trivial⟩
  | .alt a b, x, d, hk => by
    have hk' := K_step hI (fun _ _ => rfl) hk
    obtain ⟨⟨v, rfl⟩, _⟩ := hk
    exact ⟨hk', trivial⟩
  | .fz, _, _, hk => by simp only [K] at hk; subst hk; exact ⟨rfl, trivial⟩
  | .nl, _, _, hk => by simp only [K] at hk; subst hk; exact ⟨rfl, trivial⟩
  | .rl t, x, d, hk => by
    have hk' := K_step hI (fun _ _ => rfl) hk
    obtain ⟨A, c, rfl, _⟩ := hk
    exact ⟨hk', trivial⟩
  | .ref t, x, d, hk => by
    obtain ⟨a, d, rfl, h1, h2, h3⟩ := hk
    exact ⟨⟨a, d, by rw [add_zero], hI _ h1, K_step hI (fun _ _ => rfl) h2, h3⟩, trivial⟩
theorem cells_of_L2 {cs : List CV} {l : List Value} {e : TypeId} {b off n : Nat} {r : List CV} (hg : w.heap[b]? = some (.cells l.toArray e (0, 0))) (hl : L2 (CellRep w G h) cs l) (hc : cut cs off n = some r) :
    ∃ d, L2 (CellRep w G h) r d ∧ d.length = n ∧ CellsAt w ⟨b, off, none⟩ d := by
  obtain ⟨rfl, hlen⟩ := cut_ok hc
  refine ⟨(l.drop off).take n, (hl.drop off).take n, by rw [← ((hl.drop off).take n).len]; exact hlen, fun i u hu => ?_⟩
  rw [add_mk, cell_of_row w b (off + i) l.toArray e (0, 0) hg]
  rw [List.getElem?_take] at hu
  split at hu
  · rw [List.getElem?_drop] at hu; simpa using hu
  · cases hu
theorem cells_of_K {I : Nat → Prop} (hI : ∀ b, I b → G.I b) {t : Ty} {x : t.den} {d : List Value} {A : Addr} {off n : Nat} {r : List CV} (hK : K w I t x d) (hA : CellsAt w A d) (hc : cut (ofTy t x) off n = some r) :
    ∃ d', L2 (CellRep w G h) r d' ∧ d'.length = n ∧ CellsAt w (A.add off) d' := by
  obtain ⟨rfl, hlen⟩ := cut_ok hc
  have hl := ofTy_ok (G := G) (h := h) hI hK
  refine ⟨(d.drop off).take n, (hl.drop off).take n, by rw [← ((hl.drop off).take n).len]; exact hlen, fun i u hu => ?_⟩
  rw [add_add]
  rw [List.getElem?_take] at hu
  split at hu
  · rw [List.getElem?_drop] at hu; exact hA _ _ hu
  · cases hu
theorem rdT_get {t : Ty} {xs : List t.den} {i : Int} (h0 : 0 ≤ i) (h1 : i < (List.length xs : Int)) : xs[i.toNat]? = some (rdT t xs i) := by
  have hlt : i.toNat < List.length xs := by omega
  simp [rdT, List.getD, List.getElem?_eq_getElem hlt]
/-- The cells of a row's element. -/
theorem row_cells {e : TypeId} {t : Ty} {v : Value} {xs : List t.den} {inner : List Value} {J : Nat → Prop} (ho : w.ownsRow 0 e t.sz v (List.length xs) inner) (hr : Reps (K w J t) xs inner) {b n c : Nat} (hv : v = .slice (some ⟨b, 0, none⟩) n c) {i : Int} (h0 : 0 ≤ i) (h1 : i < (List.length xs : Int)) :
    ∃ d, K w J t (rdT t xs i) d ∧ CellsAt w ⟨b, i.toNat * t.sz, none⟩ d := by
  subst hv
  obtain ⟨p, d, q, hin, hp, hK, _⟩ := Reps.get (fun _ _ h => K_len h) hr (rdT_get h0 h1)
  refine ⟨d, hK, fun j u hu => ?_⟩
  rcases ho.2 with ⟨h2, _⟩ | ⟨g, cap, cur, h2, _, hg, hle, hcm, hcs, htake⟩
  · cases h2
  · simp only [Value.slice.injEq, Option.some.injEq, Addr.mk.injEq, and_true, true_and] at h2
    obtain ⟨rfl, rfl, rfl⟩ := h2
    rw [add_mk, cell_of_row w b _ cur e (0, 0) hg]
    have hlt := (List.getElem?_eq_some_iff.1 hu).1
    have e1 : inner[i.toNat * t.sz + j]? = some u := by
      rw [hin, List.append_assoc, List.getElem?_append_right (by omega), hp, Nat.add_sub_cancel_left, List.getElem?_append_left hlt]; exact hu
    rw [← htake, List.getElem?_take] at e1
    split at e1
    · simpa using e1
    · cases e1
theorem readAt_ok (hm : MemOK gl n0 w G h) {c : CV} {u : Value} {n : Nat} {r : List CV} (hc : CellRep w G h c u) (hr : readAt h n c = some r) :
    ∃ A d, u = .pointer (some A) ∧ L2 (CellRep w G h) r d ∧ d.length = n ∧ CellsAt w A d := by
  unfold readAt at hr
  split at hr
  · rename_i id off
    split at hr
    · rename_i cs hi
      obtain ⟨b, hh, hμ, rfl⟩ := hc
      obtain ⟨b', e, l, hμ', hb, hl, _⟩ := hm.rep _ _ hi
      rw [hμ] at hμ'
      simp only [Value.pointer.injEq, Option.some.injEq, Addr.mk.injEq, and_true] at hμ'
      subst hμ'
      obtain ⟨d, h1, h2, h3⟩ := cells_of_L2 hb hl hr
      exact ⟨_, d, rfl, h1, h2, h3⟩
    · rename_i cs hi
      obtain ⟨b, hh, hμ, rfl⟩ := hc
      obtain ⟨b', e, l, hμ', hb, hl, _⟩ := hm.rep _ _ hi
      rw [hμ] at hμ'
      simp only [Value.pointer.injEq, Option.some.injEq, Addr.mk.injEq, and_true] at hμ'
      subst hμ'
      obtain ⟨d, h1, h2, h3⟩ := cells_of_L2 hb hl hr
      exact ⟨_, d, rfl, h1, h2, h3⟩
    · cases hr
  · obtain ⟨A, d, rfl, hI, hK, hA⟩ := hc
    obtain ⟨d', h1, h2, h3⟩ := cells_of_K (G := G) (h := h) (fun _ h => h) hK hA hr
    exact ⟨_, d', rfl, h1, h2, h3⟩
  · rename_i id ver ix off
    split at hr
    · rename_i v f e t xs hi
      cases hb : Nat.beq v ver with
      | false => rw [hb] at hr; cases hr
      | true =>
        rw [hb] at hr
        obtain ⟨_, cur, fro, e2, t2, xs2, hh, hle, hv⟩ := hc
        rw [hi] at hh; cases hh
        obtain ⟨b, m, c, hμ, h0, h1, rfl⟩ := hv (nbeq hb).symm
        obtain ⟨inner, ho, hre⟩ := hm.rep _ _ hi
        obtain ⟨d, hK, hA⟩ := row_cells ho hre hμ h0 h1
        obtain ⟨d', h1, h2, h3⟩ := cells_of_K (G := G) (h := h) (fun _ h => h) hK hA hr
        exact ⟨_, d', rfl, h1, h2, by rw [add_mk] at h3; exact h3⟩
    · cases hr
  · cases hr
theorem aggSV_ok {agg : Bool} {cs : List CV} {v : SV} {d : List Value} (hl : L2 (CellRep w G h) cs d) (hv : aggSV agg cs = some v) : ∃ u, (match agg with | true => u = Value.agg d.toArray | false => d = [u]) ∧ SVRep w G h v u := by
  unfold aggSV at hv
  split at hv
  · cases hv; exact ⟨_, rfl, d, rfl, hl⟩
  · cases hv
    match d, hl with
    | [u], hl => exact ⟨u, rfl, hl.1⟩
  · cases hv
theorem run_loadAt {t : TypeId} {i : TI} (hT : TIOK P t i) {A : Addr} {d : List Value} {u : Value} (hA : CellsAt w A d) (hd : d.length = i.sz) (hu : match i.kd.agg with | true => u = Value.agg d.toArray | false => d = [u]) :
    (Instr.loadAt t (.pointer (some A))).run P w = .ok u w := by
  simp only [Instr.loadAt, Instr.sureAddr, loadVar, pure_bind, Sem.run_bind, hT.run_agg, Result.andThen]
  cases hk : i.kd.agg with
  | true =>
    rw [hk] at hu
    simp only at hu
    subst hu
    simp only [if_true, Sem.run_bind, hT.run_size, Result.andThen, ← hd, run_loadCells_list w A d hA]
    rfl
  | false =>
    rw [hk] at hu
    simp only at hu
    subst hu
    have := hA 0 u rfl
    rw [add_zero] at this
    simp [run_load, this]
end
end Go.Den
