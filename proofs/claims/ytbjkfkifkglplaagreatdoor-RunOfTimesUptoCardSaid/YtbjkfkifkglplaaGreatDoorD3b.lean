/-
  What is asked of the program's tables and of callees; what one operation does in the model: those that make no memory.
-/
import Derived.Test.YtbjkfkifkglplaaGreatDoorD3a
import Derived.Laws.MakeOwn
import Derived.Tactics
set_option linter.unusedSectionVars false
set_option linter.unusedVariables false
set_option linter.unusedSimpArgs false
namespace Go.Den
open Go Go.RowKit

def kdOK (P : Program) (t : TypeId) : TK → Prop
  | .int k => P.underlying t = some (.int k)
  | .bool => P.underlying t = some .bool
  | .str => P.underlying t = some .string
  | .slice e => P.underlying t = some (.slice e)
  | .struct fs => ∃ F, P.underlying t = some (.struct F) ∧ F.toList.map (fun f => (f.offset, f.type)) = fs
  | .arr n e => P.underlying t = some (.array n e)
  | .ptr e => P.underlying t = some (.pointer e)
  | .map => ∃ k e, P.underlying t = some (.map k e)
  | .smap => ∃ k e, P.underlying t = some (.map k e) ∧ P.underlying k = some .string ∧ P.underlying e = some .bool ∧ (P.info? e).bind (·.zero) = some (.bool false)
  | .func => ∃ a b c, P.underlying t = some (.func a b c)
  | .other => ∃ d, P.underlying t = some d ∧ (match d with | .struct _ => False | .array _ _ => False | _ => True)
/-- Zero cells of a kind. -/
def zcells : Ty → List Value
  | .int k => [.int k 0] | .bool => [.bool false] | .str => [.string ⟨#[]⟩] | .list _ => [.slice none 0 0] | .prod a b => zcells a ++ zcells b
  | .fn _ _ _ | .alt _ _ | .fz => [.nilFunc] | .ref _ => [.pointer none] | .nl | .rl _ => [.slice none 0 0]
theorem zcells_len : ∀ t : Ty, (zcells t).length = t.sz
  | .int _ | .bool | .str | .list _ | .fn _ _ _ | .alt _ _ | .fz | .ref _ | .nl | .rl _ => rfl
  | .prod a b => by simp [zcells, Ty.sz, zcells_len a, zcells_len b]
theorem zcells_fun (w : World) (I : Nat → Prop) : ∀ t : Ty, t.fun = true → K w I t t.dflt (zcells t)
  | .alt a b, h => ⟨⟨_, rfl⟩, by
    have := zcells_fun w I b h
    cases b <;> first | exact this | (simp [Ty.fun] at h; done)⟩
  | .fz, _ => rfl
theorem zcells_K (w : World) (I : Nat → Prop) : ∀ t : Ty, t.good = true → K w I t t.dflt (zcells t)
  | .int _, _ | .bool, _ | .str, _ => rfl
  | .list _, _ => ⟨none, 0, rfl, Nat.le_refl _, by simp, .inl rfl⟩
  | .prod a b, h => by
    simp only [Ty.good, Bool.and_eq_true] at h
    exact ⟨_, _, rfl, zcells_K w I a h.1, zcells_K w I b h.2⟩
  | .alt a b, h => zcells_fun w I _ h
  | .fz, _ => rfl
  | .nl, _ => rfl
  | .rl _, _ => ⟨none, 0, rfl, Nat.le_refl _, by simp, .inl rfl⟩
structure TIOK (P : Program) (t : TypeId) (i : TI) : Prop where
  size : (P.info? t).map (fun x => (x.size, x.bytes)) = some (i.sz, i.bytes)
  zero : ((P.info? t).bind (·.zero)).bind (fun z => cvsOf z.cells.toList) = some i.zero
  kd : kdOK P t i.kd
  ty : ∀ T, i.ty = some T → ((P.info? t).bind (·.zero)).map (fun z => z.cells.toList) = some (zcells T) ∧ T.sz = i.sz ∧ T.good = true
def GlobOK (gl : GT) (w : World) (J : Nat → Prop) : Prop := ∀ g x, gl g = some x → GVRep w J g x
def ArgRep (w : World) (J : Nat → Prop) (a : AT) (x : a.t.den) (v : Value) : Prop := match a.agg with
  | true => ∃ l : List Value, v = .agg l.toArray ∧ K w J a.t x l
  | false => K w J a.t x [v]
def ArgsRep (w : World) (J : Nat → Prop) : (ats : List AT) → AT.dens ats → List Value → Prop
  | [], _, vs => vs = []
  | [a], x, vs => ∃ v, vs = [v] ∧ ArgRep w J a x v
  | a :: b :: r, x, vs => ∃ v q, vs = v :: q ∧ ArgRep w J a x.1 v ∧ ArgsRep w J (b :: r) x.2 q
def OwnRes (w : World) (J : Nat → Prop) (m : Nat) (e : TypeId) (t : Ty) (xs : List t.den) (v : Value) (bs : List Nat) : Prop :=
  (∃ inner, w.ownsRow 0 e t.sz v xs.length inner ∧ Reps (K w J t) xs inner) ∧ ((blkOf v = none ∧ bs = []) ∨ ∃ b, blkOf v = some b ∧ bs = [b] ∧ m ≤ b ∧ b < w.heap.size ∧ ¬ J b)
def RcRep (w : World) (J : Nat → Prop) (m : Nat) : (cs : List RC) → (RC.tys cs).den → List Value → List Nat → Prop
  | [], _, vs, bs => vs = [] ∧ bs = []
  | [.v t], x, vs, bs => K w J t x vs ∧ bs = []
  | [.o e t], x, vs, bs => ∃ v, vs = [v] ∧ OwnRes w J m e t x v bs
  | .v t :: c :: r, x, vs, bs => ∃ a b, vs = a ++ b ∧ K w J t x.1 a ∧ RcRep w J m (c :: r) x.2 b bs
  | .o e t :: c :: r, x, vs, bs => ∃ v b b1 b2, vs = v :: b ∧ OwnRes w J m e t x.1 v b1 ∧ RcRep w J m (c :: r) x.2 b b2 ∧ bs = b1 ++ b2
def ResParts : List RT → List Value → List Value → Prop
  | [], cs, ps => cs = [] ∧ ps = []
  | a :: r, cs, ps => ∃ c d p q, cs = c ++ d ∧ c.length = a.sz ∧ ps = p :: q ∧ (match a.agg with | true => p = .agg c.toArray | false => c = [p]) ∧ ResParts r d q
def oneOf (ps : List Value) : Value := match ps with | [p] => p | _ => .tuple ps.toArray
def ResRep (m : Nat) (w : World) (J : Nat → Prop) (rts : List RT) (r : RT.dens rts) (v : Value) : Prop :=
  ∃ (J' : Nat → Prop) (vs : List Value) (bs : List Nat) (ps : List Value), (∀ b, J' b → J b ∨ (m ≤ b ∧ b < w.heap.size)) ∧ RcRep w J' m (flatRC rts) r vs bs ∧ bs.Nodup ∧ ResParts rts vs ps ∧ v = oneOf ps
structure CallOK (P : Program) (gl : GT) (f : FuncId) (ce : CallE) : Prop where
  there : ∃ fn, P.funcs[f]? = some fn ∧ (fn.name == "runtime.NumGoroutine") = false ∧ fn.body.isSome = true
  calls : ∀ x r, ce.fn x = some r → ∀ (w : World) (J : Nat → Prop) (args : List Value), (∀ b, J b → b < w.heap.size) → GlobOK gl w J → ArgsRep w J ce.ats x args →
    Calls P f args.toArray w fun e w' => ∃ v, e = .returned v ∧ Below w.heap.size w w' ∧ ResRep w.heap.size w' J ce.rts r v
/-- What the model runs on the spot. -/
def ExtOK (P : Program) (f : FuncId) (ce : CallE) : Prop :=
  ∀ x r, ce.fn x = some r → ∀ (w : World) (J : Nat → Prop) (args : List Value), ArgsRep w J ce.ats x args → ∃ v, (callFunc f args.toArray).run P w = .ok (.value v) w ∧ ResRep w.heap.size w J ce.rts r v
/-! Structs whose '==' is that of their data. -/
def scalChk (P : Program) (t : TypeId) (T : Ty) : Bool :=
  (match P.info? t with | some i => Nat.beq i.size 1 | none => false) && match P.underlying t, T with
  | some (.int k), .int j => kbeq k j
  | some .bool, .bool => true
  | some .string, .str => true
  | _, _ => false
def fieldsChk (c : TypeId → Ty → Bool) : List Field → Ty → Nat → Bool
  | [f], T, off => (f.name != "_") && (Nat.beq f.offset off && c f.type T)
  | f :: g :: r, .prod a b, off => (f.name != "_") && (Nat.beq f.offset off && (c f.type a && fieldsChk c (g :: r) b (off + a.sz)))
  | _, _, _ => false
/-- A field that is no struct, or a struct of such. -/
def partChk (P : Program) : Nat → TypeId → Ty → Bool
  | 0, t, T => scalChk P t T
  | n + 1, t, T => scalChk P t T || ((match P.info? t with | some i => Nat.beq i.size T.sz | none => false) && match P.underlying t with
    | some (.struct F) => !(P.stoodInHeld t) && fieldsChk (partChk P n) F.toList T 0
    | _ => false)
def cmpChk (P : Program) (t : TypeId) (T : Ty) : Bool := match P.underlying t with
  | some (.struct F) => !(P.stoodInHeld t) && (!(P.eqGuardType P.depth t) && fieldsChk (partChk P 2) F.toList T 0)
  | _ => false
/-- The box in the machine's memory. -/
def BoxIs (w : World) (b : Nat) (sq : Option TypeId) (vs : List Value) : Prop := match sq with
  | none => ∃ e, w.heap[b]? = some (.cells vs.toArray e (0, 0))
  | some T => ∃ v, (v = .pointer none ∨ v = .pointer (some ⟨b, 0, none⟩)) ∧ w.heap[b]? = some (.cells (v :: vs).toArray T (0, 0))
structure IOOK (P : Program) (gl : GT) (f : FuncId) (io : IOE) : Prop where
  there : ∃ fn, P.funcs[f]? = some fn ∧ (fn.name == "runtime.NumGoroutine") = false ∧ fn.body.isSome = true
  calls : ∀ y x y' r, io.fn y x = some (y', r) → ∀ (w : World) (J : Nat → Prop) (b : Nat) (vs : List Value) (bs : List Nat) (args : List Value), (∀ b, J b → b < w.heap.size) → GlobOK gl w J → ArgsRep w J io.ats x args →
    BoxIs w b io.sq vs → RcRep w J 0 io.bx y vs bs → bs.Nodup → b ∉ bs → ¬ J b →
    Calls P f (Value.pointer (some ⟨b, 0, none⟩) :: args).toArray w fun e w' => ∃ (v : Value) (vs' : List Value) (bs' : List Nat) (J' : Nat → Prop), e = .returned v ∧ Below 0 w w' ∧ (∀ k, k < w.heap.size → k ≠ b → k ∉ bs → w'.heap[k]? = w.heap[k]?) ∧
      BoxIs w' b io.sq vs' ∧ RcRep w' J' 0 io.bx y' vs' bs' ∧ bs'.Nodup ∧ b ∉ bs' ∧ ¬ J' b ∧ (∀ c, J' c → J c ∨ c ∈ bs ∨ (w.heap.size ≤ c ∧ c < w'.heap.size)) ∧ (∀ c ∈ bs', c ∈ bs ∨ w.heap.size ≤ c) ∧
      ∃ (ds : List Value) (bsr : List Nat) (us : List Value), RcRep w' J' 0 (flatRC io.rts) r ds bsr ∧ bsr.Nodup ∧ (∀ c ∈ bsr, (c ∈ bs ∨ w.heap.size ≤ c) ∧ c ∉ bs' ∧ c ≠ b) ∧ ResParts io.rts ds us ∧ v = oneOf us
/-- What strings.Builder's methods do. -/
structure BldOK (P : Program) (q : BldC) : Prop where
  thereW : ∃ fn, P.funcs[q.fw]? = some fn ∧ (fn.name == "runtime.NumGoroutine") = false ∧ fn.body.isSome = true
  thereS : ∃ fn, P.funcs[q.fs]? = some fn ∧ (fn.name == "runtime.NumGoroutine") = false ∧ fn.body.isSome = true
  write : ∀ (T : TypeId) (rest : List Value), q.has T rest.length = true → ∀ (w : World) (b : Nat) (c v : Value) (n : Nat) (inner : List Value) (s : ByteArray), w.heap[b]? = some (.cells (c :: v :: rest).toArray T (0, 0)) → (c = .pointer none ∨ c = .pointer (some ⟨b, 0, none⟩)) → w.ownsRow 0 q.e 1 v n inner → blkOf v ≠ some b → n + s.size ≤ 140737488355328 →
    Calls P q.fw #[.pointer (some ⟨b, 0, none⟩), .string s] w fun e w' => ∃ u v', e = .returned u ∧ w'.heap[b]? = some (.cells (.pointer (some ⟨b, 0, none⟩) :: v' :: rest).toArray T (0, 0)) ∧ w'.ownsRow 0 q.e 1 v' (n + s.size) (inner ++ (bytesOf s).map (Value.int .u8)) ∧ (blkOf v' = none ∨ blkOf v' = blkOf v ∨ ∃ g, blkOf v' = some g ∧ w.heap.size ≤ g) ∧ (∀ k, k < w.heap.size → k ≠ b → blkOf v ≠ some k → w'.heap[k]? = w.heap[k]?) ∧ Below 0 w w'
  str : ∀ (T : TypeId) (rest : List Value), q.has T rest.length = true → ∀ (w : World) (b : Nat) (c v : Value) (xs : List Int), w.heap[b]? = some (.cells (c :: v :: rest).toArray T (0, 0)) → (c = .pointer none ∨ c = .pointer (some ⟨b, 0, none⟩)) → w.ownsRow 0 q.e 1 v xs.length (xs.map (Value.int .u8)) → isBytes xs = true → blkOf v ≠ some b →
    Calls P q.fs #[.pointer (some ⟨b, 0, none⟩)] w fun e w' => e = .returned (.string (strOf xs)) ∧ (∀ k, k < w.heap.size → blkOf v ≠ some k → w'.heap[k]? = w.heap[k]?) ∧ Below 0 w w'
structure EnvOK (P : Program) (gl : GT) (E : EnvC) : Prop where
  tt : ∀ t i, E.tt.find t = some i → TIOK P t i
  same : E.gl = gl
  call : ∀ f key ce, E.call f key = some ce → CallOK P gl f ce ∨ ExtOK P f ce
  cmp : ∀ t T, E.cmp t = some T → cmpChk P t T = true
  bld : ∀ q, E.bld = some q → BldOK P q
  io : ∀ f io, E.io f = some io → IOOK P gl f io
section
variable {P : Program} {t : TypeId} {i : TI}
theorem TIOK.info (h : TIOK P t i) : ∃ x z, P.info? t = some x ∧ x.size = i.sz ∧ x.bytes = i.bytes ∧ x.zero = some z ∧ cvsOf z.cells.toList = some i.zero := by
  obtain ⟨hs, hz, _, _⟩ := h
  cases hx : P.info? t with
  | none => rw [hx] at hs; cases hs
  | some x =>
    rw [hx] at hs hz
    simp only [Option.map_some, Option.some.injEq, Prod.mk.injEq, Option.bind_some] at hs hz
    cases hzz : x.zero with
    | none => rw [hzz] at hz; cases hz
    | some z => rw [hzz] at hz; exact ⟨x, z, rfl, hs.1, hs.2, hzz, hz⟩
theorem TIOK.run_size (h : TIOK P t i) (w : World) : (sizeOf t).run P w = .ok i.sz w := by
  obtain ⟨x, z, hx, hs, _⟩ := h.info
  simp [sizeOf, typeInfo, hx, hs]
theorem TIOK.run_agg (h : TIOK P t i) (w : World) : (isAgg t).run P w = .ok i.kd.agg w := by
  have hk := h.kd
  cases hkd : i.kd <;> rw [hkd] at hk <;> simp only [kdOK] at hk
  case struct fs => obtain ⟨F, hF, _⟩ := hk; simp [isAgg, run_underlying hF, TK.agg]
  case map => obtain ⟨k, e, hk⟩ := hk; simp [isAgg, run_underlying hk, TK.agg]
  case smap => obtain ⟨k, e, hk, _⟩ := hk; simp [isAgg, run_underlying hk, TK.agg]
  case func => obtain ⟨k, e, f, hk⟩ := hk; simp [isAgg, run_underlying hk, TK.agg]
  case other =>
    obtain ⟨d, hd, hm⟩ := hk
    cases d <;> simp [isAgg, run_underlying hd, TK.agg] at hm ⊢
  all_goals simp [isAgg, run_underlying hk, TK.agg]
theorem cvOf_ok {v : Value} {c : CV} (h : cvOf v = some c) (w : World) (G : Mem) (hp : Hp) : CellRep w G hp c v := by
  unfold cvOf at h
  split at h <;> first | (cases h; rfl) | cases h
theorem cvsOf_ok : ∀ {vs : List Value} {cs : List CV}, cvsOf vs = some cs → ∀ (w : World) (G : Mem) (hp : Hp), L2 (CellRep w G hp) cs vs
  | [], _, h, _, _, _ => by simp only [cvsOf] at h; cases h; trivial
  | v :: vs, _, h, w, G, hp => by
    simp only [cvsOf] at h
    obtain ⟨c, hc, h⟩ := Option.bind_eq_some_iff.1 h
    obtain ⟨cs, hcs, h⟩ := Option.bind_eq_some_iff.1 h
    cases h
    exact ⟨cvOf_ok hc w G hp, cvsOf_ok hcs w G hp⟩
theorem ofVal_ok (v : Value) (w : World) (G : Mem) (hp : Hp) : SVRep w G hp (ofVal v) v := by
  unfold ofVal
  split
  · rename_i cs
    cases h : cvsOf cs.toList with
    | none => trivial
    | some l => exact ⟨cs.toList, by simp, cvsOf_ok h w G hp⟩
  · cases h : cvOf v with
    | none => trivial
    | some c => exact cvOf_ok h w G hp
end
theorem evO_ok {P : Program} {gl : GT} {n0 : Nat} {E : EnvC} (hE : EnvOK P gl E) {w : World} {G : Mem} {h : Hp} (hm : MemOK gl n0 w G h) {s : Nat → SV} {a : Act} (hs : ∀ t, SVRep w G h (s t) (a.tmps.getD t undef)) (x : Operand) : SVRep w G h (evO E s x) (a.eval x) := by
  cases x with
  | tmp t => exact hs t
  | const v => exact ofVal_ok v w G h
  | func f => simp [evO, SVRep, CellRep, Act.eval]
  | global g =>
    simp only [evO, Act.eval]
    rw [hE.same]
    cases hg : gl g with
    | none => trivial
    | some gv =>
      have hr := hm.glob g gv hg
      cases gv with
      | one t x => obtain ⟨h1, d, h2, h3⟩ := hr; exact ⟨⟨g, 0, none⟩, d, by rw [add_zero], h1, h2, h3⟩
      | arr k zs => trivial
      | tab t xs => obtain ⟨h1, h2⟩ := hr; exact ⟨⟨g, 0, none⟩, rfl, .inr ⟨⟨h1, rfl⟩, h2⟩⟩
end Go.Den
