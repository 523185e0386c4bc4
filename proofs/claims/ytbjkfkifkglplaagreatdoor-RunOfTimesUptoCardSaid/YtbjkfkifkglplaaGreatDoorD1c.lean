/-
  A region, a body, loops and results of the abstract machine.
-/
import Derived.Test.YtbjkfkifkglplaaGreatDoorD1b
set_option linter.unusedSimpArgs false
set_option linter.unusedSectionVars false
set_option linter.unusedVariables false
namespace Go.Den
open Go
def argSV (a : AT) (x : a.t.den) : SV := match a.agg with | true => .agg (ofTy a.t x) | false => match ofTy a.t x with | [c] => .one c | _ => .any
/-! What holds at the head of a loop: the slots and blocks that go on, the rest is let go. -/
inductive SlotSh where
  | v (agg : Bool) (t : Ty) | o (e : TypeId) (t : Ty) | k (c : CV) | un | m
  /-- The same row as another slot's. -/
  | al (m : Nat)
inductive CellSh where
  | v (t : Ty) | o (e : TypeId) (t : Ty) | k (c : CV)
abbrev BoxSh := List CellSh
structure Shape where
  slots : List (Nat × SlotSh)
  boxes : List (Nat × BoxSh)
def slotsDen : List (Nat × SlotSh) → Type
  | [] => Unit
  | (_, .v _ t) :: r => t.den × slotsDen r
  | (_, .o _ t) :: r => List t.den × slotsDen r
  | (_, .k _) :: r => slotsDen r
  | (_, .un) :: r => slotsDen r
  | (_, .m) :: r => List ByteArray × slotsDen r
  | (_, .al _) :: r => slotsDen r
def cellsDen : List CellSh → Type
  | [] => Unit
  | .v t :: r => t.den × cellsDen r
  | .o _ t :: r => List t.den × cellsDen r
  | .k _ :: r => cellsDen r
def boxesDen : List (Nat × BoxSh) → Type
  | [] => Unit
  | (_, cs) :: r => cellsDen cs × boxesDen r
def Shape.S (sh : Shape) : Type := slotsDen sh.slots × boxesDen sh.boxes
def slotId (n : Nat) : Nat := newId n 63
def cellId (id j : Nat) : Nat := 10000000 + id * 64 + j
def invSlot : (l : List (Nat × SlotSh)) → slotsDen l → Nat → SV
  | [], _, _ => .any
  | (m, .v agg t) :: r, s, n => bif Nat.beq n m then argSV ⟨agg, t⟩ s.1 else invSlot r s.2 n
  | (m, .o _ _) :: r, s, n => bif Nat.beq n m then .one (.own (slotId m) 0) else invSlot r s.2 n
  | (m, .k c) :: r, s, n => bif Nat.beq n m then .one c else invSlot r s n
  | (m, .un) :: r, s, n => bif Nat.beq n m then .undef else invSlot r s n
  | (m, .m) :: r, s, n => bif Nat.beq n m then .one (.mp (slotId m)) else invSlot r s.2 n
  | (k, .al m) :: r, s, n => bif Nat.beq n k then .one (.own (slotId m) 0) else invSlot r s n
def invCells (id : Nat) : (j : Nat) → (l : List CellSh) → cellsDen l → List CV
  | _, [], _ => []
  | j, .v t :: r, s => ofTy t s.1 ++ invCells id (j + 1) r s.2
  | j, .o _ _ :: r, s => .own (cellId id j) 0 :: invCells id (j + 1) r s.2
  | j, .k c :: r, s => c :: invCells id (j + 1) r s
def invRows : (l : List (Nat × SlotSh)) → slotsDen l → Nat → Option Blk
  | [], _, _ => none
  | (_, .v _ _) :: r, s, n => invRows r s.2 n
  | (m, .o e t) :: r, s, n => bif Nat.beq n (slotId m) then some (.row 0 false e t s.1) else invRows r s.2 n
  | (_, .k _) :: r, s, n => invRows r s n
  | (_, .un) :: r, s, n => invRows r s n
  | (m, .m) :: r, s, n => bif Nat.beq n (slotId m) then some (.set s.1) else invRows r s.2 n
  | (_, .al _) :: r, s, n => invRows r s n
def invCellRows (id : Nat) : (j : Nat) → (l : List CellSh) → cellsDen l → Nat → Option Blk
  | _, [], _, _ => none
  | j, .v _ :: r, s, n => invCellRows id (j + 1) r s.2 n
  | j, .o e t :: r, s, n => bif Nat.beq n (cellId id j) then some (.row 0 false e t s.1) else invCellRows id (j + 1) r s.2 n
  | j, .k _ :: r, s, n => invCellRows id (j + 1) r s n
def invBoxes : (l : List (Nat × BoxSh)) → boxesDen l → Nat → Option Blk
  | [], _, _ => none
  | (id, cs) :: r, s, n => bif Nat.beq n id then some (.box (invCells id 0 cs s.1)) else match invCellRows id 0 cs s.1 n with
    | some b => some b
    | none => invBoxes r s.2 n
def Shape.inv (sh : Shape) (s : sh.S) : AS :=
  { slots := invSlot sh.slots s.1, heap := fun n => match invRows sh.slots s.1 n with | some b => some b | none => invBoxes sh.boxes s.2 n }
/-- Do two cells that are no data hold the same? -/
def sameCV : CV → CV → Bool
  | .ptr i o, .ptr j p => Nat.beq i j && Nat.beq o p
  | .fn f [], .fn g [] => Nat.beq f g
  | .fn f [(a, b)], .fn g [(c, d)] => Nat.beq f g && Nat.beq a c && Nat.beq b d
  | .np, .np => true
  | .sq T i, .sq U j => Nat.beq T U && Nat.beq i j
  | .nf, .nf => true
  | .nl, .nl => true
  | _, _ => false
/-- The same row of the call's own, as it stands (or none in both). -/
def sameRow (h : Hp) : SV → SV → Bool
  | .one (.own i v), .one (.own j u) => Nat.beq i j && (Nat.beq v u && match h i with | some (.row x _ _ _ _) => Nat.beq x v | _ => false)
  | .one .nl, .one .nl => true
  | _, _ => false
/-- What is read, the rows that go on, the rows that are let be. -/
def absSlots (σ : AS) : (l : List (Nat × SlotSh)) → Option (slotsDen l × List Nat × List Nat)
  | [] => some ((), [], [])
  | (n, .v agg t) :: r => match σ.slots n, agg with
    | .one c, false => (toTy σ.heap t [c]).bind fun q => match q.2 with
      | [] => (absSlots σ r).bind fun s => some ((q.1, s.1), s.2.1, owns [c] ++ s.2.2)
      | _ => none
    | .agg cs, true => (toTy σ.heap t cs).bind fun q => match q.2 with
      | [] => (absSlots σ r).bind fun s => some ((q.1, s.1), s.2.1, owns cs ++ s.2.2)
      | _ => none
    | _, _ => none
  | (n, .o e t) :: r => match σ.slots n with
    | .one c => (rowGet σ.heap e t c).bind fun q => (absSlots σ r).bind fun s => some ((q.1, s.1), q.2 ++ s.2.1, s.2.2)
    | _ => none
  | (n, .k c) :: r => match σ.slots n with
    | .one c' => bif sameCV c c' then absSlots σ r else none
    | _ => none
  | (n, .un) :: r => match σ.slots n with
    | .undef => absSlots σ r
    | _ => none
  | (n, .m) :: r => match σ.slots n with
    | .one (.mp id) => match σ.heap id with
      | some (.set ks) => (absSlots σ r).bind fun s => some ((ks, s.1), id :: s.2.1, s.2.2)
      | _ => none
    | _ => none
  | (n, .al m) :: r => bif sameRow σ.heap (σ.slots n) (σ.slots m) then absSlots σ r else none
def absCells (h : Hp) : (l : List CellSh) → List CV → Option (cellsDen l × List Nat × List Nat)
  | [], [] => some ((), [], [])
  | .v t :: r, cs => (toTy h t cs).bind fun q => (absCells h r q.2).bind fun s => some ((q.1, s.1), s.2.1, owns (cs.take t.sz) ++ s.2.2)
  | .o e t :: r, c :: cs => (rowGet h e t c).bind fun q => (absCells h r cs).bind fun s => some ((q.1, s.1), q.2 ++ s.2.1, s.2.2)
  | .k c :: r, c' :: cs => bif sameCV c c' then absCells h r cs else none
  | _, _ => none
def absBoxes (σ : AS) : (l : List (Nat × BoxSh)) → Option (boxesDen l × List Nat × List Nat)
  | [] => some ((), [], [])
  | (id, cs) :: r => match σ.heap id with
    | some (.box l) => (absCells σ.heap cs l).bind fun q => (absBoxes σ r).bind fun s => some ((q.1, s.1), q.2.1 ++ s.2.1, q.2.2 ++ s.2.2)
    | _ => none
def Shape.abs0 (sh : Shape) (σ : AS) : Option sh.S :=
  (absSlots σ sh.slots).bind fun a => (absBoxes σ sh.boxes).bind fun b =>
    let go := a.2.1 ++ b.2.1
    bif nodup go && go.all fun i => !((a.2.2 ++ b.2.2).any (Nat.beq i)) then some (a.1, b.1) else none
/-- Variables that don't go on are written no more. -/
def frzRest (ids : List Nat) (h : Hp) : Hp := fun n => match h n with
  | some (.box cs) => bif ids.any (Nat.beq n) then some (.box cs) else some (.fbox cs)
  | x => x
def Shape.abs (sh : Shape) (σ : AS) : Option sh.S := sh.abs0 ⟨σ.slots, frzRest (sh.boxes.map (·.1)) σ.heap⟩
section
variable {R : Type} [Wr]
/-- A cut: the head of a loop, a place where ways meet: what goes on there, as a function with rounds. -/
structure CutE (R : Type) where
  sh : Shape
  l : Nat → sh.S → Option R
structure Fam (R : Type) where
  c : Nat → EnvC
  cuts : List (Nat × CutE R)
def findCut : List (Nat × CutE R) → Nat → Option (CutE R)
  | [], _ => none
  | (n, c) :: r, k => bif Nat.beq n k then some c else findCut r k
def CutE.go (c : CutE R) (n : Nat) (σ : AS) : Option R := (c.sh.abs σ).bind (c.l n)
/-- Both ways of a Bool. -/
def both (c : CV) (x y : Option R) : Option R := match c with
  | .b t => @ite _ (t = true) inferInstance x y
  | .p p d => @ite _ p d x y
  | .q p d => @ite _ p d y x
  | _ => none
open Classical in
/-- Both answers, where they are the same. -/
noncomputable def agree (x y : Option R) : Option R := if x = y then x else none
/-- The ways of a Bool that may be unknown. -/
noncomputable def ways (c : CV) (x y : Option R) : Option R := match c with
  | .u p d => @ite _ p d (agree x y) y
  | c => both c x y
def opK (E : EnvC) (o : Oper) (h : Hp) (σ : AS) (K : AS → Option R) : Option R :=
  match o.op with
  | .pick c a b => match evO E σ.slots c with
    | .one c => both c ((evO E σ.slots a).force fun v => K (σ.put o.dst v)) ((evO E σ.slots b).force fun v => K (σ.put o.dst v))
    | _ => none
  | .call { callee := .value f, args := as, argTypes := ts } => match op1 E (o.dst.getD 0) (evO E σ.slots) h (.call { callee := .value f, args := as, argTypes := ts }) with
    | some (.call _ comp res eff) => comp.bind fun x => (res x).force fun v => forceEff (eff x) fun e => K ((σ.put o.dst v).eff e)
    | _ => none
  | op => match op1 E (o.dst.getD 0) (evO E σ.slots) h op with
    | some (.val cs v e) => chk cs (v.force fun v => forceEff e fun e => K ((σ.put o.dst v).eff e))
    | _ => none
/-- A Bool that operations wait for: both ways. -/
def splitB (σ : AS) (t : Tmp) (K : AS → Option R) : Option R :=
  match σ.slots t with
  | .one c => both c (K (σ.put (some t) (.one (.b true)))) (K (σ.put (some t) (.one (.b false))))
  | .undef => K σ
  | _ => none
def guardsOn (ops : List Oper) (i : Nat) : Bool := ops.any fun o => match o.guard with | some (j, _) => Nat.beq i j | none => false
def dstAt (ops : List Oper) (j : Nat) : Option Tmp := (ops[j]?).bind (·.dst)
/-- Is the operation wanted? none: it can't be seen. -/
def wantedAt (ops : List Oper) (σ : AS) (o : Oper) : Option Bool :=
  match o.guard with
  | none => some true
  | some (j, want) => match dstAt ops j with
    | none => some false
    | some t => match σ.slots t with
      | .one (.b true) => some want
      | .one (.b false) => some (!want)
      | .undef => some false
      | _ => none
def runOps (E : EnvC) (ops : List Oper) : (i : Nat) → List Oper → AS → (AS → Option R) → Option R
  | _, [], σ, K => K σ
  | i, o :: r, σ, K => match wantedAt ops σ o with
    | some true => opK E o σ.heap σ fun σ' => match guardsOn ops i, o.dst with
      | true, some t => splitB σ' t fun σ'' => runOps E ops (i + 1) r σ'' K
      | true, none => none
      | false, _ => runOps E ops (i + 1) r σ' K
    | some false => runOps E ops (i + 1) r (σ.put o.dst .undef) K
    | none => none
/-! A region whose order is drawn: each operation sees the blocks that are surely there; none disturbs another that may come ahead of it or behind it. -/
def edgesOf (o : Oper) : List Nat := o.after.toList.foldr (fun e l => match e.ground with | .textOnly _ => l | .gcOnly _ => l | _ => e.on :: l) []
def memN (i : Nat) (l : List Nat) : Bool := l.any (Nat.beq i)
/-- What surely comes ahead of the next operation. -/
def dedup : List Nat → Nat → List Nat
  | [], _ => []
  | j :: r, m => bif Nat.beq (Nat.mod (Nat.shiftRight m j) 2) 1 then dedup r m else j :: dedup r (Nat.lor m (Nat.pow 2 j))
theorem dedup_sub : ∀ {l : List Nat} {m i : Nat}, i ∈ dedup l m → i ∈ l
  | j :: r, m, i, h => by
    simp only [dedup] at h
    cases hb : Nat.beq (Nat.mod (Nat.shiftRight m j) 2) 1 with
    | true => rw [hb] at h; exact List.mem_cons_of_mem _ (dedup_sub h)
    | false =>
      rw [hb] at h
      rcases List.mem_cons.1 h with rfl | h
      · exact List.mem_cons_self
      · exact List.mem_cons_of_mem _ (dedup_sub h)
def ahead (bs : List (List Nat)) (o : Oper) : List Nat := dedup ((edgesOf o).foldr (fun j l => j :: (bs.getD j [] ++ l)) []) 0
/-- An operation on slots alone: it neither looks at memory nor changes it. -/
def slotOnly : Op → Bool
  | .extract .. | .move .. | .assign .. => true
  | _ => false
def slotAt (ops : List Oper) (j : Nat) : Bool := match ops[j]? with | some p => slotOnly p.op | none => false
def loadOnly : Op → Bool
  | .load .. => true
  | _ => false
/-- It changes no block. -/
def freeOp (o : Oper) : Bool := slotOnly o.op || loadOnly o.op
def freeAt (ops : List Oper) (j : Nat) : Bool := match ops[j]? with | some p => freeOp p | none => false
def hasDst (o : Oper) : Bool := match o.dst with | some _ => true | none => false
def isDst (t : Nat) (o : Oper) : Bool := match o.dst with | some d => Nat.beq d t | none => false
/-- The group of the box that a store writes, where it is sure. -/
def grpAt (ops : List Oper) (s : Nat → SV) (j : Nat) : Option Nat := match ops[j]? with
  | some o => match o.op, o.dst with
    | .store _ (.tmp t) _, none => match s t with
      | .one (.ptr id _) => bif ops.any (isDst t) || ops.any (isDst (id / 64)) then none else some (id / 64)
      | _ => none
    | _, _ => none
  | none => none
/-- Whose blocks the next operation must not count on. -/
def hides (ops : List Oper) (i : Nat) (b : List Nat) : List Nat := (List.range i).filterMap fun j => bif memN j b || freeAt ops j then none else dstAt ops j
/-- Is the operation in order with all others? -/
def befsFrom : List (List Nat) → List Oper → List (List Nat)
  | bs, [] => bs
  | bs, o :: r => befsFrom (bs ++ [ahead bs o]) r
def befs (ops : List Oper) : List (List Nat) := befsFrom [] ops
def fullOrd (ops : List Oper) (i : Nat) (bs : List (List Nat)) : Bool :=
  (List.range i).all (fun j => memN j (bs.getD i []) || slotAt ops j) && (List.range ops.length).all fun j => Nat.ble j i || (memN i (bs.getD j []) || slotAt ops j)
/-- As fullOrd, but for loads. -/
def relOrd (ops : List Oper) (i : Nat) (bs : List (List Nat)) : Bool :=
  (List.range i).all (fun j => memN j (bs.getD i []) || freeAt ops j) && (List.range ops.length).all fun j => Nat.ble j i || (memN i (bs.getD j []) || freeAt ops j)
/-- What a load must not look at: what a store may write ahead of it or behind it. -/
def groups (ops : List Oper) (s : Nat → SV) (i : Nat) (bs : List (List Nat)) : List Nat := match ops[i]? with
  | some o => bif loadOnly o.op && hasDst o then (List.range ops.length).filterMap fun j => bif (bif Nat.blt j i then memN j (bs.getD i []) else memN i (bs.getD j [])) then none else grpAt ops s j else []
  | none => []
def viewOf (h : Hp) (ds : List Nat) : Hp := fun n => bif memN (n / 64) ds then none else h n
/-- May these effects stand beside others'? Blocks of its own, new ones. -/
def newEff (h : Hp) (d : Nat) (e : List (Nat × Blk)) : Bool := e.all fun p => Nat.beq (p.1 / 64) d && isFresh h p.1
def effOk (ops : List Oper) (s : Nat → SV) (i : Nat) (bs : List (List Nat)) (h : Hp) (o : Oper) (e : List (Nat × Blk)) : Bool :=
  fullOrd ops i bs || ((match o.dst with | some d => newEff h d e | none => false) || (relOrd ops i bs && match grpAt ops s i with | some g => e.all fun p => Nat.beq (p.1 / 64) g | none => false))
def looks (o : Oper) : List Nat := o.op.operands.toList.foldr (fun x l => match x with | .tmp t => t :: l | _ => l) []
def sees (ops : List Oper) (o : Oper) : List Nat := match o.guard with
  | none => looks o
  | some (j, _) => match dstAt ops j with | some t => t :: looks o | none => looks o
def maskS (s : Nat → SV) (l : List Nat) : Nat → SV := fun t => bif memN t l then s t else .any
def opKD (E : EnvC) (o : Oper) (h : Hp) (s : Nat → SV) (σ : AS) (ok : List (Nat × Blk) → Bool) (K : AS → Option R) : Option R :=
  match o.op with
  | .pick c a b => match evO E s c with
    | .one c => both c ((evO E s a).force fun v => K (σ.put o.dst v)) ((evO E s b).force fun v => K (σ.put o.dst v))
    | _ => none
  | .call { callee := .value f, args := as, argTypes := ts } => match op1 E (o.dst.getD 0) (evO E s) h (.call { callee := .value f, args := as, argTypes := ts }) with
    | some (.call _ comp res eff) => comp.bind fun x => (res x).force fun v => forceEff (eff x) fun e => bif ok e then K ((σ.put o.dst v).eff e) else none
    | _ => none
  | op => match op1 E (o.dst.getD 0) (evO E s) h op with
    | some (.val cs v e) => chk cs (v.force fun v => forceEff e fun e => bif ok e then K ((σ.put o.dst v).eff e) else none)
    | _ => none
def runD (E : EnvC) (ops : List Oper) (bs : List (List Nat)) : (i : Nat) → List Oper → AS → (AS → Option R) → Option R
  | _, [], σ, K => K σ
  | i, o :: r, σ, K => match wantedAt ops σ o with
    | some true =>
      opKD E o (viewOf σ.heap (hides ops i (bs.getD i []) ++ groups ops σ.slots i bs)) (maskS σ.slots (looks o)) σ (effOk ops σ.slots i bs σ.heap o) fun σ' => match guardsOn ops i, o.dst with
      | true, some t => splitB σ' t fun σ'' => runD E ops bs (i + 1) r σ'' K
      | true, none => none
      | false, _ => runD E ops bs (i + 1) r σ' K
    | some false => runD E ops bs (i + 1) r (σ.put o.dst .undef) K
    | none => none
inductive Ex where
  | normal | exit (id : Nat) | ret
def lkey : Code → Nat
  | .region id _ _ => id + 1
  | .seq a b => match lkey a with | 0 => lkey b | k => k
  | .cond _ a b => match lkey a with | 0 => lkey b | k => k
  | .block _ b | .loop b | .scope b => lkey b
  | _ => 0
/-- The key of the place ahead of a piece. -/
def jkey (c : Code) : Nat := 1000000 + lkey c
def Kseq (k : AS → Option R) (K : Ex → AS → Option R) : Ex → AS → Option R
  | .normal, σ => k σ
  | e, σ => K e σ
def Kblock (id : Nat) (K : Ex → AS → Option R) : Ex → AS → Option R
  | .exit i, σ => bif Nat.beq i id then K .normal σ else K (.exit i) σ
  | e, σ => K e σ
noncomputable def den (F : Fam R) (n : Nat) : Code → AS → (Ex → AS → Option R) → Option R
  | .skip, σ, K => K .normal σ
  | .region _ ops draw, σ, K => match draw with
    | false => runOps (F.c n) ops.toList 0 ops.toList σ (K .normal)
    | true => runD (F.c n) ops.toList (befs ops.toList) 0 ops.toList σ (K .normal)
  | .seq a b, σ, K => den F n a σ (Kseq (fun σ' => match findCut F.cuts (jkey b) with | some c => c.go n σ' | none => den F n b σ' K) K)
  | .cond c x y, σ, K => match evO (F.c n) σ.slots c with
    | .one c => ways c (den F n x σ K) (den F n y σ K)
    | _ => none
  | .block id b, σ, K => den F n b σ (Kblock id K)
  | .loop b, σ, K => match findCut F.cuts (lkey b) with | some c => c.go n σ | none => none
  | .exit id, σ, K => K (.exit id) σ
  | .ret, σ, K => K .ret σ
  | _, _, _ => none
/-- What the cuts owe: the function at a cut is what the code from there on computes. -/
def Obl (F : Fam R) : Code → (Nat → Ex → AS → Option R) → Prop
  | .seq a b, K => Obl F a (fun n => Kseq (fun σ' => match findCut F.cuts (jkey b) with | some c => c.go n σ' | none => den F n b σ' (K n)) (K n)) ∧ Obl F b K ∧
      match findCut F.cuts (jkey b) with
      | some c => (∀ s, c.l 0 s = none) ∧ ∀ n s, c.l (n + 1) s = den F n b (c.sh.inv s) (K n)
      | none => True
  | .cond _ x y, K => Obl F x K ∧ Obl F y K
  | .block id b, K => Obl F b (fun n => Kblock id (K n))
  | .loop b, K => match findCut F.cuts (lkey b) with
      | some c => Obl F b (fun n => Kseq (c.go n) (K n)) ∧ (∀ s, c.l 0 s = none) ∧ ∀ n s, c.l (n + 1) s = den F n b (c.sh.inv s) (Kseq (c.go n) (K n))
      | none => True
  | _, _ => True
end
/-! Results -/
def resCells : List RT → List SV → Option (List CV)
  | [], [] => some []
  | a :: r, v :: vs => (match v, a.agg with
    | .one c, false => some [c]
    | .agg cs, true => some cs
    | _, _ => none).bind fun cs => bif Nat.beq cs.length a.sz then (resCells r vs).bind fun l => some (cs ++ l) else none
  | _, _ => none
def resGet (h : Hp) (rts : List RT) (vs : List SV) : Option (RT.dens rts × List Nat × List Nat) :=
  (resCells rts vs).bind fun cs => (rcGet h (flatRC rts) cs).bind fun q => match q.2.1 with | [] => some (q.1, q.2.2) | _ => none
def resSV (tt : TT) (σ : AS) : List ResultVar → Option (List SV)
  | [] => some []
  | .tmp t :: r => (resSV tt σ r).bind fun l => some (σ.slots t :: l)
  | .cell a t :: r => (tt.find t).bind fun i => match σ.slots a with
    | .one c => (readAt σ.heap i.sz c).bind fun cs => (aggSV i.kd.agg cs).bind fun v => (resSV tt σ r).bind fun l => some (v :: l)
    | _ => none
/-- The end of a body. -/
def retK (E : EnvC) (res : List ResultVar) (rts : List RT) : Ex → AS → Option (RT.dens rts)
  | .exit _, _ => none
  | _, σ => (resSV E.tt σ res).bind fun vs => (resGet σ.heap rts vs).bind fun q => bif nodup q.2.1 && q.2.1.all (fun i => !(q.2.2.any (Nat.beq i))) then some q.1 else none
def argSVs : (ats : List AT) → AT.dens ats → List SV
  | [], _ => []
  | [a], x => [argSV a x]
  | a :: b :: r, x => argSV a x.1 :: argSVs (b :: r) x.2
def startAS (ats : List AT) (x : AT.dens ats) : AS :=
  let l := argSVs ats x
  { slots := fun n => match l[n]? with | some v => v | none => .undef, heap := fun _ => none }
end Go.Den
namespace Go.Den
open Go
def natsBeq : List Nat → List Nat → Bool
  | [], [] => true | a :: r, b :: q => Nat.beq a b && natsBeq r q | _, _ => false
def callT : List (Nat × List Nat × CallE) → FuncId → List Nat → Option CallE
  | [], _, _ => none
  | (n, k, c) :: r, f, key => bif Nat.beq n f && natsBeq k key then some c else callT r f key
def ioT : List (Nat × IOE) → FuncId → Option IOE
  | [], _ => none
  | (n, c) :: r, f => bif Nat.beq n f then some c else ioT r f
def cmpT : List (Nat × Ty) → TypeId → Option Ty
  | [], _ => none
  | (n, t) :: r, k => bif Nat.beq n k then some t else cmpT r k
def bodyOf (f : Func) : Code := f.body.getD .skip
end Go.Den
