/-
  What one operation does in the model: values.
-/
import Derived.Test.YtbjkfkifkglplaaGreatDoorD3b
import Derived.Laws.Strings
import Derived.WideShapes
set_option linter.unusedSectionVars false
set_option linter.unusedVariables false
set_option linter.unusedSimpArgs false
namespace Go.Den
open Go Go.RowKit
section
variable {P : Program} {gl : GT} {n0 : Nat} {o : Oper} {a : Act} {w : World} {G : Mem} {h : Hp}
/-- An operation yields what the abstract one yields. -/
def OpOK (P : Program) (gl : GT) (n0 : Nat) (o : Oper) (a : Act) (w : World) (G : Mem) (h : Hp) (sv : SV) (h' : Hp) : Prop :=
  ∀ (next : Act → World → Prop) (Q : Exit → Act → World → Prop), (∀ v w' G', MemOK gl n0 w' G' h' → Evo w w' G G' h h' → Below n0 w w' → SVRep w' G' h' sv v → next (a.put o.dst v) w') → o.wp P a w next Q
theorem opOK_at {v : Value} {w' : World} {G' : Mem} {h' : Hp} {sv : SV} (hr : (execOp a.eval o).run P w = .ok (.value v) w') (hm : MemOK gl n0 w' G' h') (E : Evo w w' G G' h h') (B : Below n0 w w') (hs : SVRep w' G' h' sv v) : OpOK P gl n0 o a w G h sv h' :=
  fun next Q hn => by unfold Oper.wp; rw [hr]; exact hn v w' G' hm E B hs
theorem opOK_skip {w' : World} {G' : Mem} {h' : Hp} (hr : (execOp a.eval o).run P w = .ok .skip w') (hm : MemOK gl n0 w' G' h') (E : Evo w w' G G' h h') (B : Below n0 w w') : OpOK P gl n0 o a w G h .undef h' :=
  fun next Q hn => by unfold Oper.wp; rw [hr]; exact hn undef w' G' hm E B rfl
theorem opOK_pure {v : Value} {sv : SV} (hr : (execOp a.eval o).run P w = .ok (.value v) w) (hm : MemOK gl n0 w G h) (hs : SVRep w G h sv v) : OpOK P gl n0 o a w G h sv h :=
  opOK_at hr hm (Evo.refl _ _ _) (Below.refl _ _) hs
/-- What an operand that is written out says of its value. -/
theorem constPos_ok {x : Operand} {k : IntKind} {n : Int} (hc : isConstPos x = true) (hv : a.eval x = .int k n) : 0 < n := by
  unfold isConstPos at hc
  split at hc
  · rename_i k' m
    simp only [Act.eval, Value.int.injEq] at hv
    have := of_decide_eq_true hc
    omega
  · cases hc
theorem constNat_ok {x : Operand} {m : Nat} {k : IntKind} {n : Int} (hc : constNat x = some m) (hv : a.eval x = .int k n) : n = (m : Int) := by
  unfold constNat at hc
  split at hc
  · simp only [Act.eval, Value.int.injEq] at hv
    obtain ⟨_, rfl⟩ := hv
    rw [Option.some.inj hc]; rfl
  · cases hc
theorem beq_dec {α : Type} [DecidableEq α] (x y : α) : (x == y) = decide (x = y) := by
  by_cases h : x = y <;> simp [h]
theorem realw (k : IntKind) (n : Int) : Wr.w k n = k.wrap n := wrapK_eq k n
theorem fdiv_pow (x : Int) (n : Nat) : x.fdiv (2 ^ n) = x / ((Nat.pow 2 n : Nat) : Int) := by
  have h : ((Nat.pow 2 n : Nat) : Int) = 2 ^ n := by
    show ((2 ^ n : Nat) : Int) = 2 ^ n
    rw [Int.natCast_pow]; rfl
  rw [h]
  exact Int.fdiv_eq_ediv_of_nonneg x (Int.le_of_lt (Int.pow_pos (by decide)))
theorem pow2_nat (n : Nat) : ((Nat.pow 2 n : Nat) : Int) = 2 ^ n := by
  show ((2 ^ n : Nat) : Int) = 2 ^ n
  rw [Int.natCast_pow]; rfl
theorem binI_ok {op : BinOp} {j k : IntKind} {x y : Int} {yo : Operand} {cs : List Cnd} {v : SV} {e : List (Nat × Blk)} (hb : binI op j x y yo = some (.val cs v e)) (hc : ∀ c ∈ cs, c.p) (hy : a.eval yo = .int k y) (hk : op = .shl ∨ op = .shr ∨ j = k) (T : TypeId) :
    e = [] ∧ ∃ u, (Go.binOp op T (.int j x) (.int k y)).run P w = .ok u w ∧ SVRep w G h v u := by
  have wr := realw
  unfold binI at hb
  split at hb
  all_goals (try (rcases hk with hk | hk | hk <;> first | cases hk | skip))
  all_goals try subst hk
  case h_4 =>
    cases hp : isConstPos yo with
    | true =>
      rw [hp] at hb; cases hb
      have := constPos_ok hp hy
      exact ⟨rfl, _, by simp [Go.binOp, Op.intDiv, Int.ne_of_gt this]; rfl, by simp [SVRep, CellRep, wr]⟩
    | false =>
      rw [hp] at hb; cases hb
      have := hc _ List.mem_cons_self
      simp only at this
      exact ⟨rfl, _, by simp [Go.binOp, Op.intDiv, this]; rfl, by simp [SVRep, CellRep, wr]⟩
  case h_5 =>
    cases hp : isConstPos yo with
    | true =>
      rw [hp] at hb; cases hb
      have := constPos_ok hp hy
      exact ⟨rfl, _, by simp [Go.binOp, Op.intDiv, Int.ne_of_gt this]; rfl, by simp [SVRep, CellRep]⟩
    | false =>
      rw [hp] at hb; cases hb
      have := hc _ List.mem_cons_self
      simp only at this
      exact ⟨rfl, _, by simp [Go.binOp, Op.intDiv, this]; rfl, by simp [SVRep, CellRep]⟩
  all_goals try (cases hb; exact ⟨rfl, _, by simp [Go.binOp, Op.intArith, Op.intCmp, Op.intBits]; rfl, by simp [SVRep, CellRep, wr, Wr.and, Wr.or, Wr.xor, andI, orI, xorI, realWr, bne, GT.gt, GE.ge, beq_dec]⟩)
  all_goals try cases hb
  case h_15.inl.refl | h_15.inr.inr.refl =>
    split at hb
    · rename_i m hm
      obtain rfl := constNat_ok hm hy
      cases hle : m.ble j.bits with
      | false => rw [hle] at hb; cases hb
      | true =>
        rw [hle] at hb; cases hb
        have h1 := Nat.le_of_ble_eq_true hle
        have h2 : ¬ ((m : Int) < 0) := by omega
        refine ⟨rfl, _, by simp [Go.binOp, Op.shift, h2]; rfl, ?_⟩
        simp only [SVRep, CellRep, wr]
        rw [Nat.min_eq_left h1]
        rw [show ((Nat.pow 2 m : Nat) : Int) = 2 ^ m from by show ((2 ^ m : Nat) : Int) = 2 ^ m; rw [Int.natCast_pow]; rfl]
    · cases hb
      have h0 := hc _ List.mem_cons_self
      simp only at h0
      have h2 : ¬ (y < 0) := by omega
      refine ⟨rfl, _, by simp [Go.binOp, Op.shift, h2]; rfl, ?_⟩
      simp only [SVRep, CellRep, Wr.shl, realWr, shlI, pow2_nat]
  case h_16.inr.inl.refl | h_16.inr.inr.refl =>
    split at hb
    · rename_i m hm
      obtain rfl := constNat_ok hm hy
      cases hle : m.ble j.bits with
      | false => rw [hle] at hb; cases hb
      | true =>
        rw [hle] at hb; cases hb
        have h1 := Nat.le_of_ble_eq_true hle
        have h2 : ¬ ((m : Int) < 0) := by omega
        refine ⟨rfl, _, by simp [Go.binOp, Op.shift, h2]; rfl, ?_⟩
        simp only [SVRep, CellRep]
        rw [Nat.min_eq_left h1, fdiv_pow]
    · cases hb
      have h0 := hc _ List.mem_cons_self
      simp only at h0
      have h2 : ¬ (y < 0) := by omega
      refine ⟨rfl, _, by simp [Go.binOp, Op.shift, h2]; rfl, ?_⟩
      simp only [SVRep, CellRep, Wr.shr, realWr, shrI, fdiv_pow]
theorem toList_eq (x y : ByteArray) : (x.toList == y.toList) = decide (x = y) := by
  rw [ByteArray.toList_eq, ByteArray.toList_eq]
  by_cases h : x = y
  · subst h; simp
  · have : ¬ x.data.toList = y.data.toList := fun e => h (Go.WideShapes.bytes_inj e)
    rw [beq_eq_false_iff_ne.mpr this]; simp [h]
theorem binS_ok {op : BinOp} {x y : ByteArray} {cs : List Cnd} {v : SV} {e : List (Nat × Blk)} (hb : binS op x y = some (.val cs v e)) (hc : ∀ c ∈ cs, c.p) (T : TypeId) :
    e = [] ∧ ∃ u, (Go.binOp op T (.string x) (.string y)).run P w = .ok u w ∧ SVRep w G h v u := by
  unfold binS at hb
  split at hb <;> cases hb
  · have h1 := hc _ List.mem_cons_self
    simp only at h1
    have h2 : ¬ (((x.size + y.size : Nat) : Int) > IntKind.i64.max) := by
      simp only [IntKind.max, IntKind.bits, IntKind.signed]; simp; omega
    exact ⟨rfl, _, by simp only [Go.binOp, Op.stringOp, if_neg h2]; rfl, rfl⟩
  · exact ⟨rfl, _, by simp only [Go.binOp, Op.stringOp]; rfl, by simp only [SVRep, CellRep, toList_eq]⟩
  · exact ⟨rfl, _, by simp only [Go.binOp, Op.stringOp]; rfl, by simp only [SVRep, CellRep, toList_eq]⟩
  · exact ⟨rfl, _, by simp only [Go.binOp, Op.stringOp]; rfl, rfl⟩
  · exact ⟨rfl, _, by simp only [Go.binOp, Op.stringOp]; rfl, rfl⟩
  · exact ⟨rfl, _, by simp only [Go.binOp, Op.stringOp]; rfl, rfl⟩
  · exact ⟨rfl, _, by simp only [Go.binOp, Op.stringOp]; rfl, rfl⟩
end
end Go.Den
