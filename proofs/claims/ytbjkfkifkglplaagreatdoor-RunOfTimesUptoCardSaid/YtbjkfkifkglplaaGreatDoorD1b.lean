/-
  One operation of the abstract machine; a region; a body.
-/
import Derived.Test.YtbjkfkifkglplaaGreatDoorD2
import Derived.IntWalk
set_option linter.unusedSectionVars false
set_option linter.unusedSimpArgs false
set_option linter.unusedVariables false
namespace Go.Den
open Go

def cvOf : Value → Option CV
  | .int k n => some (.i k n) | .bool b => some (.b b) | .string s => some (.s s) | .slice none 0 0 => some .nl | .pointer none => some .np | .nilFunc => some .nf | .map none => some .nm
  | _ => none
def cvsOf : List Value → Option (List CV)
  | [] => some []
  | v :: r => (cvOf v).bind fun c => (cvsOf r).bind fun cs => some (c :: cs)
def ofVal : Value → SV
  | .agg cs => match cvsOf cs.toList with | some l => .agg l | none => .any
  | v => match cvOf v with | some c => .one c | none => .any
/-- strings.Builder: its type and those of structs that begin with one (each with the number of cells behind it), its bytes', WriteString, String. -/
structure BldC where
  Ts : List (TypeId × Nat)
  e : TypeId
  fw : FuncId
  fs : FuncId
structure EnvC where
  tt : TT
  gl : GT
  call : FuncId → List Nat → Option CallE
  cmp : TypeId → Option Ty
  /-- Operations that cut a row of the call's own short: it stays its own. -/
  pre : List Nat
  bld : Option BldC
  /-- Callees that write through a pointer to a box. -/
  io : FuncId → Option IOE
def evO (E : EnvC) (s : Nat → SV) : Operand → SV
  | .tmp t => s t
  | .const v => ofVal v
  | .global g => match E.gl g with
    | some (.tab t xs) => .one (.tptr t xs)
    | some (.one t x) => .one (.eptr t x 0)
    | some (.arr _ _) => .any
    | none => .any
  | .func f => .one (.fn f [])

/-- A number known by its operand. -/
def constNat : Operand → Option Nat
  | .const (.int _ (.ofNat n)) => some n
  | _ => none
def isConstPos : Operand → Bool
  | .const (.int _ n) => decide (0 < n)
  | _ => false
/-- Cells n from place o on. -/
def cut {α : Type} (cs : List α) (o n : Nat) : Option (List α) := let r := (cs.drop o).take n; bif Nat.beq r.length n then some r else none
def aggSV (agg : Bool) (cs : List CV) : Option SV := match agg, cs with
  | true, cs => some (.agg cs)
  | false, [c] => some (.one c)
  | _, _ => none
/-- What lies at an address. -/
def readAt (h : Hp) (n : Nat) : CV → Option (List CV)
  | .ptr id off => match h id with | some (.box cs) => cut cs off n | some (.fbox cs) => cut cs off n | _ => none
  | .eptr t x off => cut (ofTy t x) off n
  | .rptr id ver ix off => match h id with | some (.row v _ _ t xs) => bif Nat.beq v ver then cut (ofTy t (rdT t xs ix)) off n else none | _ => none
  | _ => none
def addOff (h : Hp) (n : Nat) : CV → Option CV
  | .ptr id off => some (.ptr id (off + n))
  | .eptr t x off => some (.eptr t x (off + n))
  | .rptr id ver ix off => match h id with | some (.row v _ _ _ _) => bif Nat.beq v ver then some (.rptr id ver ix (off + n)) else none | _ => none
  | _ => none
/-- Rows that data lead to become rows that nobody writes. -/
def freeze (h : Hp) : List Nat → List (Nat × Blk)
  | [] => []
  | id :: r => match h id with | some (.row v _ e t xs) => (id, .row v true e t xs) :: freeze h r | _ => freeze h r
def splice (cs : List CV) (o : Nat) (new : List CV) : Option (List CV) := bif Nat.ble (o + new.length) cs.length then some (cs.take o ++ new ++ cs.drop (o + new.length)) else none
/-- Data of a kind with some cells written over. -/
def updTy (h : Hp) (t : Ty) (x : t.den) (o : Nat) (new : List CV) : Option t.den :=
  (splice (ofTy t x) o new).bind fun cs => (toTy h t cs).bind fun q => match q.2 with | [] => some q.1 | _ => none
def elemTy (tt : TT) (e : TypeId) : Option Ty := (tt.find e).bind (·.ty)
/-- Parts laid over zero cells. -/
def fillC : (places : List (Nat × Nat)) → List CV → List (Nat × List CV) → Option (List CV)
  | _, cs, [] => some cs
  | ps, cs, (i, new) :: r => match ps[i]? with
    | some (o, n) => bif Nat.beq new.length n then (splice cs o new).bind fun cs' => fillC ps cs' r else none
    | none => none
def partsOf (ev : Operand → SV) : List (Nat × Operand) → Option (List (Nat × List CV))
  | [] => some []
  | (i, x) :: r => (ev x).cells.bind fun cs => (partsOf ev r).bind fun l => some ((i, cs) :: l)
/-- The elements of a slice that is written out: each part in its place. -/
def lits (h : Hp) (t : Ty) : List t.den → List (Nat × List CV) → Option (List t.den)
  | xs, [] => some xs
  | xs, (j, cs) :: r => bif Nat.ble (j + 1) xs.length then (toTy h t cs).bind fun q => match q.2 with | [] => lits h t (xs.set j q.1) r | _ => none else none
/-- Arithmetic of a kind. A variable while the kernel compares (what it can't reckon it doesn't try); 'realWr' is the model's. -/
 class Wr where
  w : IntKind → Int → Int
  and : IntKind → Int → Int → Int
  or : IntKind → Int → Int → Int
  xor : IntKind → Int → Int → Int
  shl : IntKind → Int → Int → Int
  shr : IntKind → Int → Int → Int
abbrev w64 [Wr] (n : Int) : Int := Wr.w .i64 n
abbrev wk [Wr] (k : IntKind) (n : Int) : Int := Wr.w k n
def wrapK (k : IntKind) (n : Int) : Int := match k with | .i64 => RowKit.wrap64 n | .i8 => IntKind.i8.wrap n | .i16 => IntKind.i16.wrap n | .i32 => IntKind.i32.wrap n | .u8 => IntKind.u8.wrap n | .u16 => IntKind.u16.wrap n | .u32 => IntKind.u32.wrap n | .u64 => IntKind.u64.wrap n
theorem wrapK_eq (k : IntKind) (n : Int) : wrapK k n = k.wrap n := by cases k <;> first | rfl | exact (IntWalk.i64_left n).symm
def andI (k : IntKind) (x y : Int) : Int := k.wrap ((BitVec.ofInt k.bits x &&& BitVec.ofInt k.bits y).toNat)
def orI (k : IntKind) (x y : Int) : Int := k.wrap ((BitVec.ofInt k.bits x ||| BitVec.ofInt k.bits y).toNat)
def xorI (k : IntKind) (x y : Int) : Int := k.wrap ((BitVec.ofInt k.bits x ^^^ BitVec.ofInt k.bits y).toNat)
def shlI (k : IntKind) (x y : Int) : Int := k.wrap (x * ((Nat.pow 2 (min y.toNat k.bits) : Nat) : Int))
def shrI (k : IntKind) (x y : Int) : Int := x / ((Nat.pow 2 (min y.toNat k.bits) : Nat) : Int)
instance realWr : Wr := ⟨wrapK, andI, orI, xorI, shlI, shrI⟩
def strOf (xs : List Int) : ByteArray := ⟨(xs.map fun n => UInt8.ofNat n.toNat).toArray⟩
def bytesOf (s : ByteArray) : List Int := s.data.toList.map fun b => (b.toNat : Int)

def binI [Wr] (op : BinOp) (k : IntKind) (x y : Int) (yo : Operand) : Option Out :=
  match op with
  | .add => Out.of (.one (.i k (Wr.w k (x + y))))
  | .sub => Out.of (.one (.i k (Wr.w k (x - y))))
  | .mul => Out.of (.one (.i k (Wr.w k (x * y))))
  | .quo => bif isConstPos yo then Out.of (.one (.i k (Wr.w k (x.tdiv y)))) else Out.when [⟨¬ y = 0, inferInstance⟩] (.one (.i k (Wr.w k (x.tdiv y))))
  | .rem => bif isConstPos yo then Out.of (.one (.i k (x.tmod y))) else Out.when [⟨¬ y = 0, inferInstance⟩] (.one (.i k (x.tmod y)))
  | .eql => Out.of (.one (.p (x = y) inferInstance))
  | .neq => Out.of (.one (.q (x = y) inferInstance))
  | .lss => Out.of (.one (.p (x < y) inferInstance))
  | .leq => Out.of (.one (.p (x ≤ y) inferInstance))
  | .gtr => Out.of (.one (.p (x > y) inferInstance))
  | .geq => Out.of (.one (.p (x ≥ y) inferInstance))
  | .and => Out.of (.one (.i k (Wr.and k x y)))
  | .or => Out.of (.one (.i k (Wr.or k x y)))
  | .xor => Out.of (.one (.i k (Wr.xor k x y)))
  | .shl => match constNat yo with
    | some n => bif Nat.ble n k.bits then Out.of (.one (.i k (Wr.w k (x * (Nat.pow 2 n : Nat))))) else none
    | none => Out.when [⟨0 ≤ y, inferInstance⟩] (.one (.i k (Wr.shl k x y)))
  | .shr => match constNat yo with
    | some n => bif Nat.ble n k.bits then Out.of (.one (.i k (x / (Nat.pow 2 n : Nat)))) else none
    | none => Out.when [⟨0 ≤ y, inferInstance⟩] (.one (.i k (Wr.shr k x y)))
  | _ => none
def binS (op : BinOp) (x y : ByteArray) : Option Out :=
  match op with
  | .add => Out.when [⟨x.size + y.size ≤ 9223372036854775807, inferInstance⟩] (.one (.s (x ++ y)))
  | .eql => Out.of (.one (.p (x = y) inferInstance))
  | .neq => Out.of (.one (.q (x = y) inferInstance))
  | .lss => Out.of (.one (.b (Op.bytesLess x.toList y.toList)))
  | .gtr => Out.of (.one (.b (!(Op.bytesLess x.toList y.toList || x.toList == y.toList))))
  | .leq => Out.of (.one (.b (Op.bytesLess x.toList y.toList || x.toList == y.toList)))
  | .geq => Out.of (.one (.b (!(Op.bytesLess x.toList y.toList))))
  | _ => none
def boolOf : CV → Option Bool
  | .b x => some x | .p _ d => some (@decide _ d) | .q _ d => some (!(@decide _ d)) | _ => none
def kdAt (tt : TT) (t : TypeId) : TK := match tt.find t with | some i => i.kd | none => .other
def bin1 [Wr] (kd : TK) (op : BinOp) (x y : CV) (yo : Operand) : Option Out :=
  match x, y with
  | .i j a, .i k b => match op with
    | .shl | .shr => binI op j a b yo
    | _ => bif kbeq j k then binI op j a b yo else none
  | .s a, .s b => binS op a b
  | _, _ => match kd with
    | .bool => (boolOf x).bind fun a => (boolOf y).bind fun b => match op with
      | .eql => Out.of (.one (.p (a = b) inferInstance)) | .neq => Out.of (.one (.q (a = b) inferInstance)) | _ => none
    | .slice _ => match op, x, y with
      | .eql, .l _ xs, .nl => Out.of (.one (.u (List.length xs = 0) inferInstance))
      | _, _, _ => none
    | .func => match x, y with
      | .nf, .fn _ _ => match op with | .eql => Out.of (.one (.b false)) | .neq => Out.of (.one (.b true)) | _ => none
      | .fn _ _, .nf => match op with | .eql => Out.of (.one (.b false)) | .neq => Out.of (.one (.b true)) | _ => none
      | _, _ => none
    | _ => none
def un1 [Wr] (op : UnOp) (x : CV) : Option Out :=
  match op, x with
  | .not, .b x => Out.of (.one (.b (!x)))
  | .not, .p p d => Out.of (.one (.q p d))
  | .not, .q p d => Out.of (.one (.p p d))
  | .neg, .i k n => Out.of (.one (.i k (Wr.w k (0 - n))))
  | _, _ => none
def sameOp : Operand → Operand → Bool
  | .tmp a, .tmp b => Nat.beq a b
  | .const (.int _ a), .const (.int _ b) => decide (a = b)
  | _, _ => false
def newId (d j : Nat) : Nat := d * 64 + j
/-- The room that an append may take. -/
def maxEl (bytes : Nat) : Nat := 140737488355328 / bytes
/-- A slice's type: its elements' number, their cells. -/
def sliceOf (tt : TT) (t : TypeId) (n : Nat) : Bool := match kdAt tt t with
  | .slice e => match tt.find e with | some ei => Nat.beq ei.sz n | none => false
  | _ => false
def arrOf (tt : TT) (t : TypeId) (m n : Nat) : Bool := match kdAt tt t with
  | .arr k e => Nat.beq k m && (match tt.find e with | some ei => Nat.beq ei.sz n | none => false)
  | _ => false
def isStr (tt : TT) (t : TypeId) : Bool := match kdAt tt t with | .str => true | _ => false
def isSlice (tt : TT) (t : TypeId) : Bool := match kdAt tt t with | .slice _ => true | _ => false
def idx1 (tt : TT) (T : TypeId) (h : Hp) (n : Int) : CV → Option Out
  | .l t xs => bif sliceOf tt T t.sz then Out.when [⟨0 ≤ n, inferInstance⟩, ⟨n < (List.length xs : Int), inferInstance⟩] (.one (.eptr t (rdT t xs n) 0)) else none
  | .tptr t xs => bif arrOf tt T (List.length xs) t.sz then Out.when [⟨0 ≤ n, inferInstance⟩, ⟨n < (List.length xs : Int), inferInstance⟩] (.one (.eptr t (rdT t xs n) 0)) else none
  | .own id ver => match h id with
    | some (.row v _ _ t xs) => bif Nat.beq v ver && sliceOf tt T t.sz then Out.when [⟨0 ≤ n, inferInstance⟩, ⟨n < (List.length xs : Int), inferInstance⟩] (.one (.rptr id ver n 0)) else none
    | _ => none
  | _ => none
def hset (h : Hp) (id : Nat) (B : Blk) : Hp := fun n => bif Nat.beq n id then some B else h n
def elems (h : Hp) (t : Ty) : Nat → List CV → Option (List t.den)
  | 0, [] => some []
  | k + 1, cs => (toTy h t cs).bind fun q => (elems h t k q.2).bind fun xs => some (q.1 :: xs)
  | _, _ => none
/-- An array's element: an array that is read by a variable is written no more. -/
def dynA (h : Hp) (t : Ty) (n : Int) (m off : Nat) (cs : List CV) (e : List (Nat × Blk)) : Option Out :=
  bif calm cs then (cut cs off (m * t.sz)).bind fun c => (elems h t m c).bind fun xs => Out.when [⟨0 ≤ n, inferInstance⟩, ⟨n < (m : Int), inferInstance⟩] (.one (.eptr t (rdT t xs n) 0)) e else none
def idxA (tt : TT) (T : TypeId) (h : Hp) (n : Int) (j : Option Nat) : CV → Option Out
  | .ptr id off => match kdAt tt T with
    | .arr m e => (tt.find e).bind fun ei => match j with
      | some j => bif Nat.ble (j + 1) m then Out.of (.one (.ptr id (off + j * ei.sz))) else none
      | none => ei.ty.bind fun t => match h id with
        | some (.box cs) => dynA (hset h id (.fbox cs)) t n m off cs [(id, .fbox cs)]
        | some (.fbox cs) => dynA h t n m off cs []
        | _ => none
    | _ => none
  | .eptr u x off => match kdAt tt T with
    | .arr m e => (tt.find e).bind fun ei => match j with
      | some j => bif Nat.ble (j + 1) m then Out.of (.one (.eptr u x (off + j * ei.sz))) else none
      | none => ei.ty.bind fun t => dynA h t n m off (ofTy u x) []
    | _ => none
  | c => idx1 tt T h n c
/-- The places of an array's, a struct's parts. -/
def placesOf (tt : TT) : TK → Option (List (Nat × Nat))
  | .struct fs => fs.foldr (fun f r => r.bind fun l => (tt.find f.2).bind fun i => some ((f.1, i.sz) :: l)) (some [])
  | .arr n e => (tt.find e).bind fun i => some ((List.range n).map fun j => (j * i.sz, i.sz))
  | _ => none
def sliceL (t : Ty) (xs : List t.den) (lo hi : Option Int) : Option Out :=
  match lo, hi with
  | none, none => Out.of (.one (.l t xs))
  | none, some h => Out.when [⟨0 ≤ h, inferInstance⟩, ⟨h ≤ (List.length xs : Int), inferInstance⟩] (.one (.l t (xs.take h.toNat)))
  | some l, none => Out.when [⟨0 ≤ l, inferInstance⟩, ⟨l ≤ (List.length xs : Int), inferInstance⟩] (.one (.l t (xs.drop l.toNat)))
  | some l, some h => Out.when [⟨0 ≤ h, inferInstance⟩, ⟨h ≤ (List.length xs : Int), inferInstance⟩, ⟨0 ≤ l, inferInstance⟩, ⟨l ≤ h, inferInstance⟩] (.one (.l t ((xs.take h.toNat).drop l.toNat)))
/-- A list that lies in a row, cut anew: it may grow into its room. -/
def rlS (tt : TT) (T : TypeId) : (u : Ty) → u.den → Option Int → Option Int → Option Out
  | .rl t, x, none, some k => bif sliceOf tt T t.sz then Out.when [⟨0 ≤ k, inferInstance⟩, ⟨k ≤ (List.length (List.append x.1 x.2) : Int), inferInstance⟩] (.one (.l t (List.take k.toNat (List.append x.1 x.2)))) else none
  | _, _, _, _ => none
def sliceS (s : ByteArray) (lo hi : Option Int) : Option Out :=
  match lo, hi with
  | none, none => Out.of (.one (.s (s.extract 0 s.size)))
  | none, some h => Out.when [⟨0 ≤ h, inferInstance⟩, ⟨h ≤ (s.size : Int), inferInstance⟩] (.one (.s (s.extract 0 h.toNat)))
  | some l, none => Out.when [⟨0 ≤ l, inferInstance⟩, ⟨l ≤ (s.size : Int), inferInstance⟩] (.one (.s (s.extract l.toNat s.size)))
  | some l, some h => Out.when [⟨0 ≤ h, inferInstance⟩, ⟨h ≤ (s.size : Int), inferInstance⟩, ⟨0 ≤ l, inferInstance⟩, ⟨l ≤ h, inferInstance⟩] (.one (.s (s.extract l.toNat h.toNat)))
def intOf? (ev : Operand → SV) : Option Operand → Option (Option Int)
  | none => some none
  | some o => match ev o with | .one (.i _ n) => some (some n) | _ => none
/-- A call's result in its places: the rows that are the caller's own from now on. -/
def rcOf (d : Nat) : (j : Nat) → (cs : List RC) → (RC.tys cs).den → List CV × List (Nat × Blk)
  | _, [], _ => ([], [])
  | j, [.v t], x => (ofTy t x, [])
  | j, [.o e t], x => ([.own (newId d (j + 1)) 0], [(newId d (j + 1), .row 0 false e t x)])
  | j, .v t :: c :: r, x => let q := rcOf d j (c :: r) x.2; (ofTy t x.1 ++ q.1, q.2)
  | j, .o e t :: c :: r, x => let q := rcOf d (j + 1) (c :: r) x.2; (.own (newId d (j + 1)) 0 :: q.1, (newId d (j + 1), .row 0 false e t x.1) :: q.2)
def rtCut : List RT → List CV → List (Bool × List CV)
  | [], _ => []
  | a :: r, cs => (a.agg, cs.take a.sz) :: rtCut r (cs.drop a.sz)
def rtSV : List (Bool × List CV) → SV
  | [(true, cs)] => .agg cs
  | [(false, [c])] => .one c
  | l => .tup l
def Ty.plain : Ty → Bool | .list _ | .rl _ | .ref _ | .fn _ _ _ | .alt _ _ => false | .prod a b => a.plain && b.plain | _ => true
def RC.plain : RC → Bool | .v t => t.plain | .o _ _ => false
def argOwns : List SV → List Nat
  | [] => [] | .one c :: r => owns [c] ++ argOwns r | .agg cs :: r => owns cs ++ argOwns r | _ :: r => argOwns r
def isFrz (h : Hp) (id : Nat) : Bool := match h id with | some (.row _ true _ _ _) => true | _ => false
/-- Those that are not frozen yet. -/
def unf (h : Hp) (ids : List Nat) : List Nat := ids.filter fun i => !isFrz h i
def callOut (h : Hp) (d : Nat) (rts : List RT) (comp : Option (RT.dens rts)) (args : List SV) : Option Out :=
    bif rts.all fun r => r.cs.all RC.plain then
      some (.call (RT.dens rts) comp (fun y => rtSV (rtCut rts (rcOf d 0 (flatRC rts) y).1)) fun _ => [])
    else
      some (.call (RT.dens rts) comp (fun y => rtSV (rtCut rts (rcOf d 0 (flatRC rts) y).1)) fun y => freeze h (unf h (argOwns args)) ++ (rcOf d 0 (flatRC rts) y).2)
/-! Functions as values. -/
def rcBeq : RC → RC → Bool
  | .v t, .v u => t.beq u | .o e t, .o f u => Nat.beq e f && t.beq u | _, _ => false
def rcsBeq : List RC → List RC → Bool
  | [], [] => true | a :: r, b :: q => rcBeq a b && rcsBeq r q | _, _ => false
def rtsBeq : List RT → List RT → Bool
  | [], [] => true | a :: r, b :: q => (match a.agg, b.agg with | true, true => true | false, false => true | _, _ => false) && (rcsBeq a.cs b.cs && rtsBeq r q) | _, _ => false
theorem rcBeq_eq : ∀ {a b : RC}, rcBeq a b = true → a = b
  | .v t, .v u, h => by rw [Ty.beq_eq h]
  | .o e t, .o f u, h => by
    simp only [rcBeq, Bool.and_eq_true] at h
    rw [Nat.eq_of_beq_eq_true h.1, Ty.beq_eq h.2]
theorem rcsBeq_eq : ∀ {a b : List RC}, rcsBeq a b = true → a = b
  | [], [], _ => rfl
  | a :: r, b :: q, h => by
    simp only [rcsBeq, Bool.and_eq_true] at h
    rw [rcBeq_eq h.1, rcsBeq_eq h.2]
theorem rtsBeq_eq : ∀ {a b : List RT}, rtsBeq a b = true → a = b
  | [], [], _ => rfl
  | ⟨x, cs⟩ :: r, ⟨y, ds⟩ :: q, h => by
    simp only [rtsBeq, Bool.and_eq_true] at h
    have h1 : x = y := by cases x <;> cases y <;> simp at h ⊢
    rw [h1, rcsBeq_eq h.2.1, rtsBeq_eq h.2.2]
def castR {a : List RT} (b : List RT) (x : Option (RT.dens a)) : Option (RT.dens b) := if h : rtsBeq a b = true then rtsBeq_eq h ▸ x else none
/-- Captured data as arguments. -/
def capSV : List (Bool × Nat) → List CV → Option (List SV)
  | [], [] => some []
  | (true, n) :: r, cs => (cut cs 0 n).bind fun c => (capSV r (cs.drop n)).bind fun l => some (.agg c :: l)
  | (false, _) :: r, c :: cs => (capSV r cs).bind fun l => some (.one c :: l)
  | _, _ => none
def capsOf (gs : List (Bool × Nat)) (t : Ty) (x : t.den) : Option (List SV) := match gs with | [] => some [] | _ => capSV gs (ofTy t x)
/-- Which functions stand in a kind; in arguments: a callee is proved for each such row of functions. -/
def keyT : Ty → List Nat
  | .fn f _ _ => [f] | .alt a b => keyT a ++ keyT b | _ => []
def keyOf : List SV → List Nat
  | [] => []
  | .one (.fn f []) :: r => f :: keyOf r
  | .one (.d t _) :: r => keyT t ++ keyOf r
  | _ :: r => keyOf r
/-- Rows of the call's own that can be read. -/
def ready (h : Hp) : List CV → Bool
  | [] => true
  | .own id ver :: r => (match h id with | some (.row v _ _ _ _) => Nat.beq v ver | _ => false) && ready h r
  | .ptr id _ :: r => (match h id with | some _ => true | none => false) && ready h r
  | _ :: r => ready h r
def readyA (h : Hp) : List SV → Bool
  | [] => true
  | .one c :: r => ready h [c] && readyA h r
  | .agg cs :: r => ready h cs && readyA h r
  | _ :: r => readyA h r
def rts0 (E : EnvC) (key : List Nat) : Ty → Option (List RT)
  | .fn f _ _ => (E.call f key).bind fun ce => some ce.rts
  | .alt a _ => rts0 E key a
  | _ => none
def callees (E : EnvC) (h : Hp) (key : List Nat) (args : List SV) (rts : List RT) : (t : Ty) → Option (t.den → Option (RT.dens rts))
  | .fn f gs t => (E.call f key).bind fun ce => some fun x => (capsOf gs t x).bind fun caps => (argsOf h ce.ats (args ++ caps)).bind fun y => castR rts (ce.fn y)
  | .alt a b => (callees E h key args rts a).bind fun ga => (callees E h key args rts b).bind fun gb => some (Sum.elim ga gb)
  | .fz => some fun _ => none
  | _ => none
/-- The kind of cells that are captured. -/
def cellTy0 : CV → Option Ty
  | .i k _ => some (.int k) | .b _ => some .bool | .p _ _ => some .bool | .q _ _ => some .bool | .s _ => some .str | .l t _ => some (.list t) | .d t _ => some t
  | .fn f [] => some (.fn f [] .bool) | _ => none
def cellsTy0 : List CV → Option Ty
  | [] => none
  | [c] => cellTy0 c
  | c :: r => (cellTy0 c).bind fun a => (cellsTy0 r).bind fun b => some (.prod a b)
def cellTy (h : Hp) : CV → Option Ty
  | .eptr t _ _ => some (.ref t)
  | .ptr id _ => match h id with | some (.box cs) => (cellsTy0 cs).map .ref | some (.fbox cs) => (cellsTy0 cs).map .ref | _ => none
  | c => cellTy0 c
def cellsTy (h : Hp) : List CV → Option Ty
  | [] => none
  | [c] => cellTy h c
  | c :: r => (cellTy h c).bind fun a => (cellsTy h r).bind fun b => some (.prod a b)
/-- Captured variables are written no more. -/
def frzB (h : Hp) : List CV → List (Nat × Blk)
  | [] => []
  | .ptr id _ :: r => match h id with | some (.box cs) => (id, .fbox cs) :: frzB (hset h id (.fbox cs)) r | _ => frzB h r
  | _ :: r => frzB h r
def effs (h : Hp) : List (Nat × Blk) → Hp
  | [] => h
  | (id, b) :: r => effs (hset h id b) r
def capGs : List SV → Option (List (Bool × Nat) × List CV)
  | [] => some ([], [])
  | .one c :: r => (capGs r).bind fun q => some ((false, 1) :: q.1, c :: q.2)
  | .agg cs :: r => (capGs r).bind fun q => some ((true, cs.length) :: q.1, cs ++ q.2)
  | _ => none
/-- A slice whose elements are known. -/
def sliceIn (tt : TT) (T : TypeId) : Bool := match kdAt tt T with | .slice e => (match tt.find e with | some _ => true | none => false) | _ => false
/-- A row of functions: its elements' kind. -/
def altTy : List (Nat × List CV) → Option Ty
  | [] => some .fz
  | (_, [c]) :: r => (match cellTy0 c with | some (.fn f gs t) => some (Ty.fn f gs t) | _ => none).bind fun a => (altTy r).bind fun b => some (.alt a b)
  | _ => none
/-- A function that is there. -/
def nevNil : Ty → Bool | .fn _ _ _ => true | .alt a b => nevNil a && nevNil b | _ => false
def isFn : (t : Ty) → t.den → Bool | .fn _ _ _, _ => true | .alt a b, x => Sum.elim (isFn a) (isFn b) x | _, _ => false
def isNf : List CV → Bool | [.nf] => true | _ => false
def isFresh (h : Hp) (id : Nat) : Bool := match h id with | none => true | some _ => false
def listOf (h : Hp) (t : Ty) : CV → Option (List t.den)
  | c => (toTy h (.list t) [c]).bind fun q => some q.1
def nOwn : List RC → Nat
  | [] => 0 | .o _ _ :: r => nOwn r + 1 | .v _ :: r => nOwn r
def freshN (h : Hp) (d : Nat) : Nat → Bool
  | 0 => true
  | n + 1 => isFresh h (newId d (n + 1)) && freshN h d n
def append1 (E : EnvC) (h : Hp) (d : Nat) (tys : List TypeId) (s x : CV) : Option Out :=
  match tys with
  | [T, T'] => bif Nat.beq T T' then match kdAt E.tt T with
    | .slice e => (E.tt.find e).bind fun ei => ei.ty.bind fun t => (listOf h t x).bind fun ys =>
      match s with
      | .nl => bif isFresh h (newId d 0) then Out.when [⟨ys.length ≤ maxEl ei.bytes, inferInstance⟩] (.one (.own (newId d 0) 0)) [(newId d 0, .row 0 false e t ys)] else none
      | .own id ver => match h id with
        | some (.row v false e' t' xs) => bif Nat.beq v ver && Nat.beq e e' then (castTo (a := .list t') (.list t) xs).bind fun xs =>
            Out.when [⟨List.length xs + ys.length ≤ maxEl ei.bytes, inferInstance⟩] (.one (.own id (ver + 1))) [(id, .row (ver + 1) false e t (List.append xs ys))] else none
        | _ => none
      | _ => none
    | _ => none else none
  | _ => none
/-- append(nil, make(.., n)...). -/
def appendZ (E : EnvC) (h : Hp) (d : Nat) (tys : List TypeId) (n : Int) : Option Out :=
  match tys with
  | [T, T'] => match kdAt E.tt T, kdAt E.tt T' with
    | .slice e, .int _ => (E.tt.find e).bind fun ei => ei.ty.bind fun t => bif isFresh h (newId d 0) then
        Out.when [⟨0 < n, inferInstance⟩, ⟨n ≤ (maxEl ei.bytes : Nat), inferInstance⟩] (.one (.own (newId d 0) 0)) [(newId d 0, .row 0 false e t (List.replicate n.toNat t.dflt))] else none
    | _, _ => none
  | _ => none
def hasK (s : ByteArray) (ks : List ByteArray) : Bool := ks.any fun x => x.data.toList == s.data.toList
/-- A map from strings to bool. -/
def setOf (tt : TT) (T : TypeId) : Bool := match kdAt tt T with | .smap => true | _ => false
def rowTy (ei : TI) (l : List (Nat × List CV)) : Option Ty := match ei.ty with | some t => some t | none => bif isNf ei.zero && Nat.beq ei.sz 1 then altTy l else none
def noSq : List CV → Bool
  | [] => true | .sq _ _ :: _ => false | _ :: r => noSq r
def BldC.has (q : BldC) (t : TypeId) (n : Nat) : Bool := q.Ts.any fun p => Nat.beq p.1 t && Nat.beq p.2 n
def bldT (E : EnvC) (t : TypeId) : Bool := match E.bld with | some q => q.Ts.any fun p => Nat.beq p.1 t | none => false
def bldSel (E : EnvC) (f : FuncId) : Option (BldC × Bool) := match E.bld with
  | some q => bif Nat.beq q.fw f then some (q, true) else bif Nat.beq q.fs f then some (q, false) else none
  | none => none
def bldWrite (q : BldC) (h : Hp) (d : Nat) : List SV → Option Out
  | [.one (.ptr id 0), .one (.s s)] => match h id with
    | some (.box (.sq T i :: c :: rest)) => bif q.has T rest.length && Nat.beq i id then (match c with
      | .nl => bif isFresh h (newId d 1) then some (.call Unit (if s.size ≤ 140737488355328 then some () else none) (fun _ => .any) fun _ => [(newId d 1, .row 0 false q.e (.int .u8) (bytesOf s)), (id, .box (.sq T id :: .own (newId d 1) 0 :: rest))]) else none
      | .own rid ver => match h rid with
        | some (.row v false e (.int .u8) xs) => bif Nat.beq v ver && Nat.beq e q.e then some (.call Unit (if List.length xs + s.size ≤ 140737488355328 then some () else none) (fun _ => .any) fun _ => [(rid, .row (v + 1) false e (.int .u8) (List.append xs (bytesOf s))), (id, .box (.sq T id :: .own rid (v + 1) :: rest))]) else none
        | _ => none
      | _ => none) else none
    | _ => none
  | _ => none
def isBytes (xs : List Int) : Bool := xs.all fun x => decide (0 ≤ x) && decide (x ≤ 255)
def bldString (q : BldC) (h : Hp) : List SV → Option Out
  | [.one (.ptr id 0)] => match h id with
    | some (.box (.sq T i :: c :: rest)) => bif q.has T rest.length && Nat.beq i id then (match c with
      | .nl => some (.call Unit (some ()) (fun _ => .one (.s ⟨#[]⟩)) fun _ => [])
      | .own rid ver => match h rid with
        | some (.row v false e (.int .u8) xs) => bif Nat.beq v ver && Nat.beq e q.e then some (.call Unit (if isBytes xs = true then some () else none) (fun _ => .one (.s (strOf xs))) fun _ => [(rid, .row (v + 1) false e (.int .u8) [])]) else none
        | _ => none
      | _ => none) else none
    | _ => none
  | _ => none
def nodup : List Nat → Bool
  | [] => true
  | a :: r => !(r.any (Nat.beq a)) && nodup r
/-- A row of the call's own: its number (none: no row yet), what it holds. -/
def rowGet (h : Hp) (e : TypeId) (t : Ty) : CV → Option (List t.den × List Nat)
  | .nl => some ([], [])
  | .own id ver => match h id with
    | some (.row v false e' u xs) => bif Nat.beq v ver && Nat.beq e e' then (castTo (a := .list u) (.list t) xs).bind fun y => some (y, [id]) else none
    | _ => none
  | _ => none
/-- A part of a result read as data. -/
def rcGet (h : Hp) : (cs : List RC) → List CV → Option ((RC.tys cs).den × List CV × List Nat × List Nat)
  | [], l => some (false, l, [], [])
  | [.v t], l => (toTy h t l).bind fun q => some (q.1, q.2, [], owns (l.take t.sz))
  | [.o e t], c :: r => (rowGet h e t c).bind fun q => some (q.1, r, q.2, [])
  | .v t :: c :: r', l => (toTy h t l).bind fun q => (rcGet h (c :: r') q.2).bind fun s => some ((q.1, s.1), s.2.1, s.2.2.1, owns (l.take t.sz) ++ s.2.2.2)
  | .o e t :: c :: r', d :: r => (rowGet h e t d).bind fun q => (rcGet h (c :: r') r).bind fun s => some ((q.1, s.1), s.2.1, q.2 ++ s.2.2.1, s.2.2.2)
  | _, _ => none
/-! A callee with a box that goes in and comes out. -/
/-- Rows that are let go: they hold nothing any more. -/
def dropRows (h : Hp) : List Nat → List (Nat × Blk)
  | [] => []
  | id :: r => match h id with
    | some (.row v false e t _) => (id, .row (v + 1) false e t []) :: dropRows h r
    | _ => dropRows h r
/-- A builder's own pointer ahead of a box's cells. -/
def sqGet (id : Nat) : Option TypeId → List CV → Option (List CV × List CV)
  | none, cs => some ([], cs)
  | some T, .sq T' i :: r => bif Nat.beq T' T && Nat.beq i id then some ([.sq T id], r) else none
  | _, _ => none
def ioEff (h : Hp) (d id : Nat) (io : IOE) (sq : List CV) (frz go : List Nat) (z : (RC.tys io.bx).den × RT.dens io.rts) : List (Nat × Blk) :=
  freeze h (unf h frz) ++ (dropRows h go ++ ((rcOf d 0 (flatRC io.rts) z.2).2 ++ ((rcOf d (nOwn (flatRC io.rts)) io.bx z.1).2 ++ [(id, .box (sq ++ (rcOf d (nOwn (flatRC io.rts)) io.bx z.1).1))])))
def ioCall (h : Hp) (d : Nat) (io : IOE) : List SV → Option Out
  | .one (.ptr id 0) :: args => match h id with
    | some (.box cs) => (sqGet id io.sq cs).bind fun s => (rcGet h io.bx s.2).bind fun q => match q.2.1 with
      | [] => (argsOf h io.ats args).bind fun x =>
        bif Nat.ble (nOwn (flatRC io.rts) + nOwn io.bx) 62 && (freshN h d (nOwn (flatRC io.rts) + nOwn io.bx) && (ready h s.2 && (nodup q.2.2.1 && q.2.2.1.all (fun i => !((argOwns args ++ q.2.2.2).any (Nat.beq i)))))) then
          some (.call ((RC.tys io.bx).den × RT.dens io.rts) (io.fn q.1 x) (fun z => rtSV (rtCut io.rts (rcOf d 0 (flatRC io.rts) z.2).1)) (ioEff h d id io s.1 (argOwns args ++ q.2.2.2) q.2.2.1)) else none
      | _ => none
    | _ => none
  | _ => none
def op1 [Wr] (E : EnvC) (d : Nat) (ev : Operand → SV) (h : Hp) : Op → Option Out
  | .move x | .assign x => Out.of (ev x)
  | .alloc t => (E.tt.find t).bind fun i => bif isFresh h (newId d 0) then (bif bldT E t then (match i.zero with
      | .np :: .nl :: rest => bif noSq rest then Out.of (.one (.ptr (newId d 0) 0)) [(newId d 0, .box (.sq t (newId d 0) :: .nl :: rest))] else none
      | _ => none) else Out.of (.one (.ptr (newId d 0) 0)) [(newId d 0, .box i.zero)]) else none
  | .box ty x => (ev x).cells.bind fun cs => bif isFresh h (newId d 0) && noSq cs then (bif bldT E ty then (match cs with
      | .np :: .nl :: rest => Out.of (.one (.ptr (newId d 0) 0)) [(newId d 0, .box (.sq ty (newId d 0) :: .nl :: rest))]
      | _ => none) else Out.of (.one (.ptr (newId d 0) 0)) [(newId d 0, .box cs)]) else none
  | .build t parts => (E.tt.find t).bind fun i => (placesOf E.tt i.kd).bind fun ps => (partsOf ev parts.toList).bind fun l => (fillC ps i.zero l).bind fun cs => Out.of (.agg cs)
  | .buildSlice t n parts => (E.tt.find t).bind fun i => match i.kd with
    | .slice e => (E.tt.find e).bind fun ei => bif Nat.ble (n * ei.sz) 16777216 then (partsOf ev parts.toList).bind fun l => (rowTy ei l).bind fun ty => (lits h ty (List.replicate n ty.dflt) l).bind fun xs =>
      bif isFresh h (newId d 0) then Out.of (.one (.own (newId d 0) 0)) (freeze h (owns (l.flatMap (·.2))) ++ [(newId d 0, .row 0 (E.pre.any (Nat.beq (2000000 + d))) e ty xs)]) else none else none
    | _ => none
  | .load t a => (E.tt.find t).bind fun i => match ev a with
    | .one c => (readAt h i.sz c).bind fun cs => (aggSV i.kd.agg cs).bind fun v => Out.of v
    | _ => none
  | .store t a x => (E.tt.find t).bind fun i => (ev x).cells.bind fun new => bif Nat.beq new.length i.sz then (match ev a with
    | .one (.ptr id off) => match h id with
      | some (.box cs) => bif noSq new then (splice cs off new).bind fun cs' => Out.of .undef [(id, bif E.pre.any (Nat.beq (3000000 + id)) then .fbox cs' else .box cs')] else none
      | _ => none
    | .one (.rptr id ver ix off) => match h id with
      | some (.row v false e ty xs) => bif Nat.beq v ver then bif (owns new).any (Nat.beq id) then none else (updTy h ty (rdT ty xs ix) off new).bind fun y => Out.of .undef (freeze h (owns new) ++ [(id, .row v false e ty (List.set xs ix.toNat y))]) else none
      | _ => none
    | _ => none) else none
  | .nilCheck x => match ev x with
    | .one (.ptr id off) => Out.of (.one (.ptr id off))
    | .one (.fn f cs) => Out.of (.one (.fn f cs))
    | .one (.d t x) => bif nevNil t then Out.of (.one (.d t x)) else Out.when [⟨isFn t x = true, inferInstance⟩] (.one (.d t x))
    | _ => none
  | .binOp op T x y _ => match ev x, ev y with
    | .one a, .one b => bin1 (kdAt E.tt T) op a b y
    | .agg a, .agg b => (E.cmp T).bind fun t => (toTy h t a).bind fun p => (toTy h t b).bind fun q => match p.2, q.2 with
      | [], [] => (match op with
        | .eql => Out.of (.one (.p (p.1 = q.1) (t.deq p.1 q.1)))
        | .neq => Out.of (.one (.q (p.1 = q.1) (t.deq p.1 q.1)))
        | _ => none)
      | _, _ => none
    | _, _ => none
  | .unOp op _ x => match ev x with | .one a => un1 op a | _ => none
  | .convert s t x => (E.tt.find s).bind fun si => (E.tt.find t).bind fun ti => match ev x, ti.kd with
    | .one (.i _ n), .int k => Out.of (.one (.i k (Wr.w k n)))
    | .one (.s b), .str => Out.of (.one (.s b))
    | .one c, .str => match si.kd with
      | .slice e => match kdAt E.tt e with
        | .int .u8 => (listOf h (.int .u8) c).bind fun xs => Out.of (.one (.s (strOf xs)))
        | _ => none
      | _ => none
    | _, _ => none
  | .makeFunc (.func f) fs caps => bif Nat.beq fs.size 0 then match caps.toList.map ev with
    | [] => Out.of (.one (.fn f []))
    | v :: vs => (capGs (v :: vs)).bind fun q => (cellsTy h q.2).bind fun t => (toTy (effs h (frzB h q.2)) t q.2).bind fun y => match y.2, owns q.2 with
      | [], [] => Out.of (.one (.d (.fn f q.1 t) y.1)) (frzB h q.2)
      | _, _ => none
    else none
  | .makeSlice t l c => (E.tt.find t).bind fun i => match i.kd, ev l, ev c with
    | .slice e, .one (.i _ n), .one (.i _ _) => (E.tt.find e).bind fun ei => ei.ty.bind fun ty =>
      bif isFresh h (newId d 0) && sameOp l c then Out.when [⟨0 ≤ n, inferInstance⟩, ⟨n ≤ (maxEl ei.bytes : Nat), inferInstance⟩] (.one (.own (newId d 0) 0)) [(newId d 0, .row 0 false e ty (List.replicate n.toNat ty.dflt))] else none
    | _, _, _ => none
  | .slice T x lo hi none => (intOf? ev lo).bind fun lo => (intOf? ev hi).bind fun hi => match ev x with
    | .one (.l t xs) => bif sliceOf E.tt T t.sz then sliceL t xs lo hi else none
    | .one .nl => match lo, hi with
      | none, some k => bif sliceIn E.tt T then Out.when [⟨0 ≤ k, inferInstance⟩, ⟨k ≤ 0, inferInstance⟩] (.one .nl) else none
      | _, _ => none
    | .one (.tptr t xs) => match lo, hi with
      | none, none => bif arrOf E.tt T (List.length xs) t.sz && Nat.ble (List.length xs) 1000000 then Out.of (.one (.l t xs)) else none
      | _, _ => none
    | .one (.s s) => bif isStr E.tt T then sliceS s lo hi else none
    | .one (.d u x) => rlS E.tt T u x lo hi
    | .one (.own id ver) => match h id with
      | some (.row v f e t xs) => bif Nat.beq v ver && sliceOf E.tt T t.sz then bif E.pre.any (Nat.beq d) then (match f, lo, hi with
        | false, none, some k => Out.when [⟨0 ≤ k, inferInstance⟩, ⟨k ≤ (List.length xs : Int), inferInstance⟩] (.one (.own id (ver + 1))) [(id, .row (ver + 1) false e t (List.take k.toNat xs))]
        | _, _, _ => none) else bif E.pre.any (Nat.beq (1000000 + d)) then (match lo, hi with
        | none, some k => Out.when [⟨0 ≤ k, inferInstance⟩, ⟨k ≤ (List.length xs : Int), inferInstance⟩] (.one (.d (.rl t) (List.take k.toNat xs, List.drop k.toNat xs))) [(id, .row v true e t xs)]
        | _, _ => none) else (sliceL t xs lo hi).bind fun o => match o with | .val cs u _ => some (.val cs u [(id, .row v true e t xs)]) | _ => none else none
      | _ => none
    | _ => none
  | .fieldAddr s x f => (E.tt.find s).bind fun i => match i.kd, ev x with
    | .struct fs, .one c => (fs[f]?).bind fun p => (E.tt.find p.2).bind fun fi => bif Nat.beq fi.sz 0 then none else (addOff h p.1 c).bind fun c => Out.of (.one c)
    | _, _ => none
  | .field s x f => (E.tt.find s).bind fun i => match i.kd, ev x with
    | .struct fs, .agg cs => (fs[f]?).bind fun p => (E.tt.find p.2).bind fun fi => (cut cs p.1 fi.sz).bind fun l => (aggSV fi.kd.agg l).bind fun v => Out.of v
    | _, _ => none
  | .indexAddr T x ix => match ev x, ev ix with
    | .one c, .one (.i _ n) => idxA E.tt T h n (constNat ix) c
    | _, _ => none
  | .index T x ix => match ev x, ev ix with
    | .one (.s s), .one (.i _ n) => bif isStr E.tt T then Out.when [⟨0 ≤ n, inferInstance⟩, ⟨n < (s.size : Int), inferInstance⟩] (.one (.i .u8 (btI s n))) else none
    | _, _ => none
  | .makeMap T none => bif isFresh h (newId d 0) && setOf E.tt T then Out.of (.one (.mp (newId d 0))) [(newId d 0, .set [])] else none
  | .lookup T m x false => match ev m, ev x with
    | .one (.mp id), .one (.s s) => match h id with
      | some (.set ks) => bif setOf E.tt T then Out.when [⟨s.size ≤ 9223372036854775807, inferInstance⟩] (.one (.b (hasK s ks))) else none
      | _ => none
    | _, _ => none
  | .mapUpdate T m x v => match ev m, ev x, ev v with
    | .one (.mp id), .one (.s s), .one (.b true) => match h id with
      | some (.set ks) => bif setOf E.tt T then Out.when [⟨s.size ≤ 9223372036854775807, inferInstance⟩, ⟨ks.length < 9223372036854775807, inferInstance⟩] .undef [(id, .set (s :: ks))] else none
      | _ => none
    | _, _, _ => none
  | .extract x i => match ev x with
    | .tup vs => match vs[i]? with
      | some (true, cs) => Out.of (.agg cs)
      | some (false, [c]) => Out.of (.one c)
      | _ => none
    | _ => none
  | .call { callee := .builtin .len, args := as, argTypes := tys } => match as.toList, tys.toList with
    | [x], [T] => match ev x with
      | .one (.l _ xs) => bif isSlice E.tt T then Out.of (.one (.i .i64 (List.length xs : Int))) else none
      | .one (.s s) => bif isStr E.tt T then Out.of (.one (.i .i64 (s.size : Int))) else none
      | .one .nl => bif isSlice E.tt T then Out.of (.one (.i .i64 0)) else none
      | .one (.own id ver) => match h id with
        | some (.row v _ _ _ xs) => bif Nat.beq v ver && isSlice E.tt T then Out.of (.one (.i .i64 (List.length xs : Int))) else none
        | _ => none
      | _ => none
    | _, _ => none
  | .call { callee := .builtin .cap, args := as, argTypes := tys } => match as.toList, tys.toList with
    | [x], [T] => match ev x with
      | .one .nl => bif isSlice E.tt T then Out.of (.one (.i .i64 0)) else none
      | _ => none
    | _, _ => none
  | .call { callee := .builtin .max, args := as, .. } => match as.toList with
    | [x, y] => match ev x, ev y with
      | .one (.i j a), .one (.i k b) => bif kbeq j k then Out.of (.one (.i j (if b > a then b else a))) else none
      | _, _ => none
    | _ => none
  | .call { callee := .builtin .min, args := as, .. } => match as.toList with
    | [x, y] => match ev x, ev y with
      | .one (.i j a), .one (.i k b) => bif kbeq j k then Out.of (.one (.i j (if b < a then b else a))) else none
      | _, _ => none
    | _ => none
  | .call { callee := .builtin .append, args := as, argTypes := tys } => match as.toList with
    | [s, x] => match ev s, ev x with
      | .one .nl, .one (.i _ n) => appendZ E h d tys.toList n
      | .one s, .one x => append1 E h d tys.toList s x
      | _, _ => none
    | _ => none
  | .call { callee := .value f, args := as, .. } => match ev f with
    | .one (.fn f []) => match bldSel E f with
      | some (q, true) => bldWrite q h d (as.toList.map ev)
      | some (q, false) => bldString q h (as.toList.map ev)
      | none => match E.io f with
        | some io => ioCall h d io (as.toList.map ev)
        | none => (E.call f (keyOf (as.toList.map ev))).bind fun ce => bif Nat.ble (nOwn (flatRC ce.rts)) 62 && freshN h d (nOwn (flatRC ce.rts)) then (argsOf h ce.ats (as.toList.map ev)).bind fun x => callOut h d ce.rts (ce.fn x) (as.toList.map ev) else none
    | .one (.d t x) => (rts0 E (keyOf (as.toList.map ev)) t).bind fun rts => bif Nat.ble (nOwn (flatRC rts)) 62 && (freshN h d (nOwn (flatRC rts)) && readyA h (as.toList.map ev)) then (callees E h (keyOf (as.toList.map ev)) (as.toList.map ev) rts t).bind fun g => callOut h d rts (g x) (as.toList.map ev) else none
    | _ => none
  | _ => none
end Go.Den
