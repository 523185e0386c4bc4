/- Part of the proof: D0m, D1. -/
import Derived.Laws.OwnMore
import Derived.Maps.OwnIn
import Derived.Maps.OwnSet
import Derived.Maps.Views
import Derived.StringKeys
import Derived.Carry
import Derived.Below
import Derived.KernelRfl
set_option linter.unusedSectionVars false
/-
  A map from strings to bool as a set.
-/
set_option linter.unusedVariables false
set_option linter.unusedSimpArgs false
namespace Go.Den
open Go Go.RowKit Go.Maps Go.WideMaps
/-- A block is a set of strings, told as a list (a map from strings to bool, each entry true). -/
def Seen (P : Program) (k e : TypeId) (w : World) (b n : Nat) (L : List ByteArray) : Prop :=
  ∃ D : DataW Unit, w.ownsMap P k (plainElem P e) b n D ∧ ∀ s : ByteArray, s.size ≤ maxLen → D.atKey (.string s.data.toList) (.lit (.bool false)) = .lit (.bool (L.any (fun x => x.data.toList == s.data.toList)))
theorem Seen.made (P : Program) (k e : TypeId) (w : World) : Seen P k e (w.alloc (.map #[] 0)) w.heap.size 0 [] :=
  ⟨_, World.ownsMap_made _ _ _ _, fun s _ => by rfl⟩
theorem Seen.kept {P : Program} {k e : TypeId} {w w' : World} {b n : Nat} {L : List ByteArray} {row : Option Nat} (h : Seen P k e w b n L) (hg : w.grownBy w' row) (hne : some b ≠ row) : Seen P k e w' b n L := by
  obtain ⟨D, h1, h2⟩ := h
  exact ⟨D, h1.kept hg hne, h2⟩
theorem Seen.look {P : Program} {k e t : TypeId} {w : World} {b n : Nat} {L : List ByteArray} (h : Seen P k e w b n L) (hk : P.underlying k = some .string) (ht : P.underlying t = some (.map k e)) (he : P.underlying e = some .bool)
    (hz : (zeroValue e).run P w = .ok (.bool false) w) (s : ByteArray) (hs : s.size ≤ maxLen) : (Instr.lookup t (.map (some b)) (.string s) false).run P w = .ok (.bool (L.any (fun x => x.data.toList == s.data.toList))) w := by
  obtain ⟨D, h1, h2⟩ := h
  obtain ⟨v, ps, hrun, hv⟩ := h1.lookup (string_keyed hk) ht hz (zd := .lit (.bool false)) (zp := []) (by simp [plainElem, he]) (keyOf_string_mk hk hs)
  rw [h2 s hs] at hv
  have hv' : v = .bool (L.any (fun x => x.data.toList == s.data.toList)) := by
    unfold plainElem at hv
    rw [he] at hv
    cases v <;> simp at hv
    simp [hv]
  rw [hrun, hv']
theorem Seen.put {P : Program} {k e t : TypeId} {w : World} {b n : Nat} {L : List ByteArray} (h : Seen P k e w b n L) (hk : P.underlying k = some .string) (ht : P.underlying t = some (.map k e)) (he : P.underlying e = some .bool)
    (hn : n < maxLen) (s : ByteArray) (hs : s.size ≤ maxLen) : ∃ w', (Instr.mapUpdate t (.map (some b)) (.string s) (.bool true)).run P w = .ok () w' ∧ Seen P k e w' b (n + 1) (s :: L) ∧ w.grownBy w' (some b) := by
  obtain ⟨D, h1, h2⟩ := h
  obtain ⟨w', hrun, h3, hg⟩ := h1.update (string_keyed hk) ht hn (d := .lit (.bool true)) (ps := []) (keyOf_string_mk hk hs) (val := .bool true) (by simp [plainElem, he])
  refine ⟨w', hrun, ⟨_, h3, fun x hx => ?_⟩, hg⟩
  by_cases hxs : x.data.toList = s.data.toList
  · rw [hxs, atKey_put_same h1.isMap (by trivial)]
    simp
  · rw [atKey_put_other (fun hh => hxs (by injection hh)), h2 x hx]
    have h5 : (s.data.toList == x.data.toList) = false := beq_eq_false_iff_ne.mpr fun hh => hxs hh.symm
    rw [List.any_cons, h5, Bool.false_or]
theorem keyOf_string_eq {P P' : Program} {k k' : TypeId} (hk : P.underlying k = some .string) (hk' : P'.underlying k' = some .string) : keyOf P k = keyOf P' k' := by
  funext v
  simp only [keyOf, hk, hk', mapKey]
theorem plainElem_eq {P P' : Program} {e e' : TypeId} (he : P.underlying e = some .bool) (he' : P'.underlying e' = some .bool) : plainElem (H := Unit) P e = plainElem P' e' := by
  funext v
  simp only [plainElem, he, he']
theorem Seen.prog {P P' : Program} {k e k' e' : TypeId} {w : World} {b n : Nat} {L : List ByteArray} (h : Seen P k e w b n L) (hk : P.underlying k = some .string) (hk' : P'.underlying k' = some .string) (he : P.underlying e = some .bool) (he' : P'.underlying e' = some .bool) : Seen P' k' e' w b n L := by
  obtain ⟨D, ⟨es, clock, h1, h2, h3, h4⟩, h5⟩ := h
  have hrd : ∀ x, WideElems.rd (H := Unit) P k (plainElem P e) x = WideElems.rd P' k' (plainElem P' e') x := fun x => by
    unfold WideElems.rd
    rw [keyOf_string_eq hk hk', plainElem_eq he he']
  have hrg : WideElems.rg (H := Unit) P k (plainElem P e) = WideElems.rg P' k' (plainElem P' e') := by
    funext x
    unfold WideElems.rg
    rw [hrd]
  refine ⟨D, ⟨es, clock, h1, ?_, h3, by rw [← hrg]; exact h4⟩, h5⟩
  exact ⟨h2.size, h2.stamped, fun x hx => by rw [← hrd]; exact h2.reads x hx⟩
/-- A block that is such a set, whatever the program calls its kinds. -/
def SetAt (w : World) (b : Nat) (L : List ByteArray) : Prop := ∃ (P : Program) (k e : TypeId), P.underlying k = some .string ∧ P.underlying e = some .bool ∧ Seen P k e w b L.length L
theorem SetAt.same {w w' : World} {b : Nat} {L : List ByteArray} (h : SetAt w b L) (hb : w'.heap[b]? = w.heap[b]?) : SetAt w' b L := by
  obtain ⟨P, k, e, h1, h2, D, ⟨es, clock, h3, h4⟩, h5⟩ := h
  exact ⟨P, k, e, h1, h2, D, ⟨es, clock, hb.trans h3, h4⟩, h5⟩
end Go.Den

/-
  An abstract machine beside the model: values as plain Lean data, memory of the call's own as rows and boxes. What it computes is what the Go code computes (D4). No kit text.
-/
namespace Go.Den
open Go

/-- Kinds of plain data. -/
inductive Ty where
  | int (k : IntKind) | bool | str | list (t : Ty) | prod (a b : Ty)
  /-- A known function with captured data; one of two; no function (nil). -/
  | fn (f : Nat) (gs : List (Bool × Nat)) (t : Ty) | alt (a b : Ty) | fz
  /-- Data behind a pointer; nobody writes there. -/
  | ref (t : Ty)
  /-- A slice that is nil. -/
  | nl
  /-- A list, and what lies behind it in its room. -/
  | rl (t : Ty)
@[reducible] def Ty.den : Ty → Type
  | .int _ => Int | .bool => Bool | .str => ByteArray | .list t => List t.den | .prod a b => a.den × b.den
  | .fn _ _ t => t.den | .alt a b => a.den ⊕ b.den | .fz => Unit | .ref t => t.den | .nl => Unit | .rl t => List t.den × List t.den
def Ty.deq : (t : Ty) → DecidableEq t.den
  | .int _ => (inferInstance : DecidableEq Int) | .bool => (inferInstance : DecidableEq Bool) | .str => (inferInstance : DecidableEq ByteArray)
  | .list t => @instDecidableEqList _ t.deq | .prod a b => @instDecidableEqProd _ _ a.deq b.deq | .fn _ _ t => t.deq
  | .alt a b => have := a.deq; have := b.deq; (inferInstance : DecidableEq (a.den ⊕ b.den)) | .fz => (inferInstance : DecidableEq Unit) | .ref t => t.deq | .nl => (inferInstance : DecidableEq Unit) | .rl t => @instDecidableEqProd _ _ (@instDecidableEqList _ t.deq) (@instDecidableEqList _ t.deq)
def Ty.sz : Ty → Nat | .prod a b => a.sz + b.sz | _ => 1
def Ty.dflt : (t : Ty) → t.den
  | .int _ => (0 : Int) | .bool => false | .str => (⟨#[]⟩ : ByteArray) | .list _ => [] | .prod a b => (a.dflt, b.dflt)
  | .fn _ _ t => t.dflt | .alt _ b => .inr b.dflt | .fz => () | .ref t => t.dflt | .nl => () | .rl _ => ([], [])
/-- Kinds whose zero cells are data. -/
def Ty.fun : Ty → Bool | .alt _ b => b.fun | .fz => true | _ => false
def Ty.good : Ty → Bool
  | .prod a b => a.good && b.good | .fn _ _ _ | .ref _ => false | .alt _ b => b.fun | _ => true
def gsBeq : List (Bool × Nat) → List (Bool × Nat) → Bool
  | [], [] => true
  | (a, n) :: r, (b, m) :: q => (match a, b with | true, true => true | false, false => true | _, _ => false) && (Nat.beq n m && gsBeq r q)
  | _, _ => false
theorem gsBeq_eq : ∀ {a b : List (Bool × Nat)}, gsBeq a b = true → a = b
  | [], [], _ => rfl
  | (a, n) :: r, (b, m) :: q, h => by
    simp only [gsBeq, Bool.and_eq_true] at h
    have h2 := Nat.eq_of_beq_eq_true h.2.1
    have h3 := gsBeq_eq h.2.2
    have h1 : a = b := by cases a <;> cases b <;> simp at h ⊢
    rw [h1, h2, h3]
def kbeq : IntKind → IntKind → Bool
  | .i8, .i8 | .i16, .i16 | .i32, .i32 | .i64, .i64 | .u8, .u8 | .u16, .u16 | .u32, .u32 | .u64, .u64 => true
  | _, _ => false
theorem kbeq_eq : ∀ {a b : IntKind}, kbeq a b = true → a = b := by intro a b; cases a <;> cases b <;> simp [kbeq]
def Ty.beq : Ty → Ty → Bool
  | .int j, .int k => kbeq j k | .bool, .bool => true | .str, .str => true | .list a, .list b => a.beq b | .prod a b, .prod c d => a.beq c && b.beq d
  | .fn f gs t, .fn g hs u => Nat.beq f g && (gsBeq gs hs && t.beq u) | .alt a b, .alt c d => a.beq c && b.beq d | .fz, .fz => true | .ref a, .ref b => a.beq b | .nl, .nl => true | .rl a, .rl b => a.beq b
  | _, _ => false
theorem Ty.beq_eq : ∀ {a b : Ty}, a.beq b = true → a = b
  | .int _, .int _, h => by rw [kbeq_eq h]
  | .bool, .bool, _ => rfl
  | .str, .str, _ => rfl
  | .list a, .list b, h => by rw [Ty.beq_eq (a := a) (b := b) h]
  | .prod a b, .prod c d, h => by
    simp only [Ty.beq, Bool.and_eq_true] at h
    rw [Ty.beq_eq h.1, Ty.beq_eq h.2]
  | .fn f gs t, .fn g hs u, h => by
    simp only [Ty.beq, Bool.and_eq_true] at h
    rw [Nat.eq_of_beq_eq_true h.1, gsBeq_eq h.2.1, Ty.beq_eq h.2.2]
  | .alt a b, .alt c d, h => by
    simp only [Ty.beq, Bool.and_eq_true] at h
    rw [Ty.beq_eq h.1, Ty.beq_eq h.2]
  | .fz, .fz, _ => rfl
  | .ref a, .ref b, h => by rw [Ty.beq_eq (a := a) (b := b) h]
  | .nl, .nl, _ => rfl
  | .rl a, .rl b, h => by rw [Ty.beq_eq (a := a) (b := b) h]
def castTo {a : Ty} (b : Ty) (x : a.den) : Option b.den := if h : a.beq b = true then some (Ty.beq_eq h ▸ x) else none
def castF (u t : Ty) : Option (u.den → t.den) := if h : u.beq t = true then some (fun x => Ty.beq_eq h ▸ x) else none
/-- Data of a kind as data of a kind without rooms. -/
def weakTo : (u t : Ty) → Option (u.den → t.den)
  | .rl a, t => match castF (.rl a) t with
    | some f => some f
    | none => match t with
      | .list b => match castF (.list a) (.list b) with
        | some f => some fun x => f x.1
        | none => (weakTo a b).bind fun f => some fun x => List.map f x.1
      | _ => none
  | .list a, t => match castF (.list a) t with
    | some f => some f
    | none => match t with
      | .list b => (weakTo a b).bind fun f => some fun x => List.map f x
      | _ => none
  | .prod a b, t => match castF (.prod a b) t with
    | some f => some f
    | none => match t with
      | .prod c d => (weakTo a c).bind fun f => (weakTo b d).bind fun g => some fun x => (f x.1, g x.2)
      | _ => none
  | u, t => castF u t
def listTo {u : Ty} (t : Ty) (xs : List u.den) : Option (List t.den) := (weakTo (.list u) (.list t)).bind fun f => some (f xs)
/-- An element at an index. -/
def rdT (t : Ty) (xs : List t.den) (i : Int) : t.den := xs.getD i.toNat t.dflt
def btI (s : ByteArray) (i : Int) : Int := if h : i.toNat < s.size then ((s[i.toNat]'h).toNat : Int) else 0

/-- What one cell, or one temporary that holds no struct, holds. -/
inductive CV where
  | i (k : IntKind) (x : Int)
  | b (x : Bool)
  | p (p : Prop) (d : Decidable p)
  | q (p : Prop) (d : Decidable p)
  | s (x : ByteArray)
  | l (t : Ty) (xs : List t.den)
  | nl
  | own (id ver : Nat)
  | ptr (id off : Nat)
  | rptr (id ver : Nat) (ix : Int) (off : Nat)
  | eptr (t : Ty) (x : t.den) (off : Nat)
  | tptr (t : Ty) (xs : List t.den)
  | np
  | nf
  | fn (f : FuncId) (caps : List (Nat × Nat))
  | d (t : Ty) (x : t.den)
  /-- A map of the call's own, from strings to bool: a set. -/
  | mp (id : Nat)
  | nm
  /-- The first cell of a builder's box (type, number): nil, or the box itself. -/
  | sq (T id : Nat)
  /-- A Bool that is false where p does not hold, and else unknown. -/
  | u (p : Prop) (d : Decidable p)
inductive SV where
  | one (c : CV) | agg (cs : List CV) | tup (vs : List (Bool × List CV)) | undef | any
/-- A block of the call's own: a variable's cells; a row of elements. -/
inductive Blk where
  | box (cs : List CV)
  /-- A variable that is written no more. -/
  | fbox (cs : List CV)
  | row (ver : Nat) (fro : Bool) (e : TypeId) (t : Ty) (xs : List t.den)
  | set (ks : List ByteArray)
def Blk.bx : Blk → Option (List CV) | .box cs => some cs | .fbox cs => some cs | _ => none
/-- What a global holds: data; a table of data. -/
inductive GV where
  | one (t : Ty) (x : t.den) | tab (t : Ty) (xs : List t.den) | arr (k : IntKind) (zs : List Int)
abbrev GT := Nat → Option GV
structure AS where
  slots : Nat → SV
  heap : Nat → Option Blk
def AS.put (σ : AS) (d : Option Tmp) (v : SV) : AS :=
  match d with
  | some d => { σ with slots := fun n => bif Nat.beq n d then v else σ.slots n }
  | none => σ
def AS.setB (σ : AS) (id : Nat) (b : Blk) : AS := { σ with heap := fun n => bif Nat.beq n id then some b else σ.heap n }
def AS.eff (σ : AS) : List (Nat × Blk) → AS
  | [] => σ
  | (id, b) :: r => (σ.setB id b).eff r

def ofTy : (t : Ty) → t.den → List CV
  | .int k, x => [.i k x] | .bool, x => [.b x] | .str, x => [.s x] | .list t, x => [.l t x] | .prod a b, x => ofTy a x.1 ++ ofTy b x.2
  | .fn f gs t, x => [.d (.fn f gs t) x] | .alt a b, x => [.d (.alt a b) x] | .fz, _ => [.nf] | .ref t, x => [.eptr t x 0] | .nl, _ => [.nl] | .rl t, x => [.d (.rl t) x]
/-- The rows of the call's own that cells lead to. -/
def owns : List CV → List Nat
  | [] => [] | .own id _ :: r => id :: owns r | _ :: r => owns r
def calm : List CV → Bool
  | [] => true | .own _ _ :: _ => false | .ptr _ _ :: _ => false | .sq _ _ :: _ => false | _ :: r => calm r
theorem calm_owns : ∀ {l : List CV}, calm l = true → owns l = []
  | [], _ => rfl
  | c :: r, h => by cases c <;> simp only [calm] at h <;> first | (cases h; done) | exact calm_owns (l := r) h
theorem calm_split : ∀ {a b : List CV}, calm (a ++ b) = true → calm a = true ∧ calm b = true
  | [], b, h => ⟨rfl, h⟩
  | c :: r, b, h => by cases c <;> simp only [List.cons_append, calm] at h ⊢ <;> first | (cases h; done) | exact calm_split (a := r) h
def fnGet (f : Nat) (gs : List (Bool × Nat)) (t : Ty) : CV → Option t.den
  | .d u x => castTo (a := u) (.fn f gs t) x
  | .fn g [] => match gs with | [] => bif Nat.beq f g then some t.dflt else none | _ => none
  | _ => none
def altGet (a b : Ty) : CV → Option (a.den ⊕ b.den)
  | .d u x => castTo (a := u) (.alt a b) x
  | _ => none
/-- Cells read as data of a kind; what is left. A row of the call's own reads as what it holds. -/
def toTy (h : Nat → Option Blk) : (t : Ty) → List CV → Option (t.den × List CV)
  | .int k, .i j x :: r => if kbeq j k = true then some (x, r) else none
  | .bool, .b x :: r => some (x, r)
  | .bool, .p _ d :: r => some (@decide _ d, r)
  | .bool, .q _ d :: r => some (!(@decide _ d), r)
  | .str, .s x :: r => some (x, r)
  | .list t, .l _ xs :: r => (listTo t xs).bind fun y => some (y, r)
  | .list _, .nl :: r => some ([], r)
  | .list t, .own id ver :: r => match h id with
    | some (.row v _ _ u xs) => bif Nat.beq v ver then (castTo (a := .list u) (.list t) xs).bind fun y => some (y, r) else none
    | _ => none
  | .list t, .d u x :: r => (castTo (a := u) (.rl t) x).bind fun y => some (y.1, r)
  | .rl t, .d u x :: r => (castTo (a := u) (.rl t) x).bind fun y => some (y, r)
  | .prod a b, cs => (toTy h a cs).bind fun p => (toTy h b p.2).bind fun q => some ((p.1, q.1), q.2)
  | .fn f gs t, c :: r => (fnGet f gs t c).bind fun y => some (y, r)
  | .fz, .nf :: r => some ((), r)
  | .nl, .nl :: r => some ((), r)
  | .ref t, .eptr u x off :: r => bif Nat.beq off 0 then (castTo (a := u) t x).bind fun y => some (y, r) else none
  | .ref t, .ptr id off :: r => bif Nat.beq off 0 then match h id with
    | some (.fbox cs) => bif calm cs then (toTy h t cs).bind fun q => match q.2 with | [] => some (q.1, r) | _ => none else none
    | _ => none else none
  | .alt (.fn f gs t) b, c :: r => match altGet (.fn f gs t) b c with
    | some y => some (y, r)
    | none => match fnGet f gs t c with
      | some y => some (.inl y, r)
      | none => (toTy h b [c]).bind fun q => match q.2 with | [] => some (.inr q.1, r) | _ => none
  | _, _ => none
def SV.cells : SV → Option (List CV)
  | .one c => some [c] | .agg cs => some cs | _ => none

/-- What the machine knows of a type. -/
inductive TK where
  | int (k : IntKind) | bool | str | slice (e : TypeId) | struct (fs : List (Nat × TypeId)) | arr (n : Nat) (e : TypeId) | ptr (e : TypeId) | map | smap | func | other
structure TI where
  sz : Nat
  bytes : Nat
  zero : List CV
  kd : TK
  ty : Option Ty
def TK.agg : TK → Bool | .struct _ => true | .arr _ _ => true | _ => false
def TT := List (Nat × TI)
def TT.find : TT → Nat → Option TI
  | [], _ => none
  | (n, i) :: r, t => bif Nat.beq n t then some i else TT.find r t

structure Cnd where
  p : Prop
  d : Decidable p
def chk {R : Type} : List Cnd → Option R → Option R
  | [], k => k
  | c :: cs, k => @ite _ c.p c.d (chk cs k) none
/-- What an operation yields: a value at once, under conditions; a value by way of a function's answer. -/
inductive Out where
  | val (conds : List Cnd) (v : SV) (e : List (Nat × Blk))
  | call (α : Type) (comp : Option α) (res : α → SV) (eff : α → List (Nat × Blk))
def Out.of (v : SV) (e : List (Nat × Blk) := []) : Option Out := some (.val [] v e)
def Out.when (cs : List Cnd) (v : SV) (e : List (Nat × Blk) := []) : Option Out := some (.val cs v e)

/-- What a function takes and hands back. -/
structure AT where
  agg : Bool
  t : Ty
@[reducible] def AT.dens : List AT → Type
  | [] => Unit
  | [a] => a.t.den
  | a :: b :: r => a.t.den × AT.dens (b :: r)
/-- Part of a result: data; a row of the callee's own (elements' type, kind). -/
inductive RC where
  | v (t : Ty) | o (e : TypeId) (t : Ty)
@[reducible] def RC.ty : RC → Ty | .v t => t | .o _ t => .list t
@[reducible] def RC.tys : List RC → Ty
  | [] => .bool
  | [c] => c.ty
  | c :: d :: r => .prod c.ty (RC.tys (d :: r))
structure RT where
  agg : Bool
  cs : List RC
def RC.sz : RC → Nat | .v t => t.sz | .o _ _ => 1
def RT.sz (a : RT) : Nat := a.cs.foldr (fun c n => c.sz + n) 0
@[reducible] def flatRC : List RT → List RC
  | [] => []
  | a :: r => a.cs ++ flatRC r
@[reducible] def RT.dens (rts : List RT) : Type := (RC.tys (flatRC rts)).den
structure CallE where
  ats : List AT
  rts : List RT
  fn : AT.dens ats → Option (RT.dens rts)
/-- A callee with a box that goes in and comes out: 'sq' tells the struct whose first cell is a strings.Builder's own pointer. -/
structure IOE where
  sq : Option TypeId
  bx : List RC
  ats : List AT
  rts : List RT
  fn : (RC.tys bx).den → AT.dens ats → Option ((RC.tys bx).den × RT.dens rts)
/-- Arguments read as data. -/
def argGet (h : Nat → Option Blk) (a : AT) (v : SV) : Option a.t.den := match v, a.agg with
  | .one c, false => (toTy h a.t [c]).bind fun q => match q.2 with | [] => some q.1 | _ => none
  | .agg cs, true => (toTy h a.t cs).bind fun q => match q.2 with | [] => some q.1 | _ => none
  | _, _ => none
def argsOf (h : Nat → Option Blk) : (ats : List AT) → List SV → Option (AT.dens ats)
  | [], [] => some ()
  | [a], [v] => argGet h a v
  | a :: b :: r, v :: vs => (argGet h a v).bind fun x => (argsOf h (b :: r) vs).bind fun y => some (x, y)
  | _, _ => none
/-! Values brought to their heads, for the kernel's sake: each is 'k' of the very value. -/
section
variable {R : Type}
def CV.force (c : CV) (k : CV → R) : R := match c with
  | .i x1 x2 => k (.i x1 x2) | .b x1 => k (.b x1) | .p x1 x2 => k (.p x1 x2) | .q x1 x2 => k (.q x1 x2) | .s x1 => k (.s x1) | .l x1 x2 => k (.l x1 x2) | .nl => k .nl | .own x1 x2 => k (.own x1 x2)
  | .ptr x1 x2 => k (.ptr x1 x2) | .rptr x1 x2 x3 x4 => k (.rptr x1 x2 x3 x4) | .eptr x1 x2 x3 => k (.eptr x1 x2 x3) | .tptr x1 x2 => k (.tptr x1 x2) | .np => k .np | .nf => k .nf | .fn x1 x2 => k (.fn x1 x2) | .d x1 x2 => k (.d x1 x2) | .mp x1 => k (.mp x1) | .nm => k .nm | .sq x1 x2 => k (.sq x1 x2) | .u x1 x2 => k (.u x1 x2)
def forceCs : List CV → (List CV → R) → R
  | [], k => k []
  | c :: r, k => c.force fun c => forceCs r fun r => k (c :: r)
def SV.force (v : SV) (k : SV → R) : R := match v with
  | .one c => c.force fun c => k (.one c) | .agg cs => forceCs cs fun cs => k (.agg cs) | .tup vs => k (.tup vs) | .undef => k .undef | .any => k .any
def Blk.force (b : Blk) (k : Blk → R) : R := match b with
  | .box cs => forceCs cs fun cs => k (.box cs) | .fbox cs => forceCs cs fun cs => k (.fbox cs) | .row x1 x2 x3 x4 x5 => k (.row x1 x2 x3 x4 x5) | .set x1 => k (.set x1)
def forceEff : List (Nat × Blk) → (List (Nat × Blk) → R) → R
  | [], k => k []
  | (i, b) :: r, k => b.force fun b => forceEff r fun r => k ((i, b) :: r)
theorem CV.force_eq (c : CV) (k : CV → R) : c.force k = k c := by cases c <;> rfl
theorem forceCs_eq : ∀ (l : List CV) (k : List CV → R), forceCs l k = k l
  | [], _ => rfl
  | c :: r, k => by simp [forceCs, CV.force_eq, forceCs_eq r]
theorem SV.force_eq (v : SV) (k : SV → R) : v.force k = k v := by cases v <;> simp [SV.force, CV.force_eq, forceCs_eq]
theorem Blk.force_eq (b : Blk) (k : Blk → R) : b.force k = k b := by cases b <;> simp [Blk.force, forceCs_eq]
theorem forceEff_eq : ∀ (l : List (Nat × Blk)) (k : List (Nat × Blk) → R), forceEff l k = k l
  | [], _ => rfl
  | (i, b) :: r, k => by simp [forceEff, Blk.force_eq, forceEff_eq r]
end
end Go.Den
