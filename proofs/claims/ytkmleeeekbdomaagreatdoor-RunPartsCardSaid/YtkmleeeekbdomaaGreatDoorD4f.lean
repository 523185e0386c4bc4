/-
  The program's tables, callees: how they are shown.
-/
import Derived.Test.YtkmleeeekbdomaaGreatDoorD4e
set_option linter.unusedSectionVars false
set_option linter.unusedSimpArgs false
set_option linter.unusedVariables false
namespace Go.Den
open Go Go.RowKit
section
variable {P : Program} {gl : GT}
def tiGet (P : Program) (t : TypeId) : Option (Nat × Nat × List Value) := (P.info? t).bind fun x => x.zero.map fun z => (x.size, x.bytes, z.cells.toList)
theorem tiGet_ok {t : TypeId} {sz by' : Nat} {zs : List Value} (h : tiGet P t = some (sz, by', zs)) : ∃ x z, P.info? t = some x ∧ x.zero = some z ∧ x.size = sz ∧ x.bytes = by' ∧ z.cells.toList = zs := by
  unfold tiGet at h
  obtain ⟨x, hx, h⟩ := Option.bind_eq_some_iff.1 h
  cases hz : x.zero with
  | none => rw [hz] at h; cases h
  | some z => rw [hz] at h; simp only [Option.map_some, Option.some.injEq, Prod.mk.injEq] at h; exact ⟨x, z, hx, hz, h.1, h.2.1, h.2.2⟩
theorem TIOK.of {t : TypeId} {i : TI} {T : Ty} (hT : i.ty = some T) (h1 : tiGet P t = some (i.sz, i.bytes, zcells T)) (h2 : cvsOf (zcells T) = some i.zero) (h3 : T.sz = i.sz) (h4 : kdOK P t i.kd) (h5 : T.good = true := by rfl) : TIOK P t i := by
  obtain ⟨x, z, hx, hz, hs, hb, hc⟩ := tiGet_ok h1
  exact ⟨by rw [hx]; simp [hs, hb], by rw [hx]; simp [hz, hc, h2], h4, fun T' hT' => by rw [hT] at hT'; cases hT'; exact ⟨by rw [hx]; simp [hz, hc], h3, h5⟩⟩
theorem TIOK.of0 {t : TypeId} {i : TI} (zs : List Value) (hT : i.ty = none) (h1 : tiGet P t = some (i.sz, i.bytes, zs)) (h2 : cvsOf zs = some i.zero) (h4 : kdOK P t i.kd) : TIOK P t i := by
  obtain ⟨x, z, hx, hz, hs, hb, hc⟩ := tiGet_ok h1
  exact ⟨by rw [hx]; simp [hs, hb], by rw [hx]; simp [hz, hc, h2], h4, fun T' hT' => by rw [hT] at hT'; cases hT'⟩
def structGet (P : Program) (t : TypeId) : Option (List (Nat × TypeId)) := (P.underlying t).bind fun d => match d with | .struct F => some (F.toList.map fun f => (f.offset, f.type)) | _ => none
theorem kd_struct {t : TypeId} {fs : List (Nat × TypeId)} (h : structGet P t = some fs) : kdOK P t (.struct fs) := by
  unfold structGet at h
  obtain ⟨d, hd, h⟩ := Option.bind_eq_some_iff.1 h
  cases d <;> simp only [Option.some.injEq] at h <;> first | exact ⟨_, hd, h⟩ | cases h
def smapGet (P : Program) (t : TypeId) : Bool := match P.underlying t with
  | some (.map k e) => (match P.underlying k with | some .string => true | _ => false) && ((match P.underlying e with | some .bool => true | _ => false) && (match (P.info? e).bind (·.zero) with | some (.bool false) => true | _ => false))
  | _ => false
theorem kd_smap {t : TypeId} (h : smapGet P t = true) : kdOK P t .smap := by
  unfold smapGet at h
  split at h
  · rename_i k e hu
    simp only [Bool.and_eq_true] at h
    refine ⟨k, e, hu, ?_, ?_, ?_⟩
    · have := h.1; split at this; assumption; cases this
    · have := h.2.1; split at this; assumption; cases this
    · have := h.2.2; split at this; assumption; cases this
  · cases h
def funcGet (P : Program) (t : TypeId) : Bool := match P.underlying t with | some (.func _ _ _) => true | _ => false
theorem kd_func {t : TypeId} (h : funcGet P t = true) : kdOK P t .func := by
  unfold funcGet at h
  split at h
  · exact ⟨_, _, _, by assumption⟩
  · cases h
theorem kd_eq {t : TypeId} {d : TypeDesc} {k : TK} (hk : kdOK P t k = (P.underlying t = some d)) (h : P.underlying t = some d) : kdOK P t k := by rw [hk]; exact h
theorem tt_nil : ∀ t i, TT.find [] t = some i → TIOK P t i := fun _ _ h => by cases h
theorem tt_cons {n : Nat} {i : TI} {r : TT} (h : TIOK P n i) (hr : ∀ t j, TT.find r t = some j → TIOK P t j) : ∀ t j, TT.find ((n, i) :: r : List (Nat × TI)) t = some j → TIOK P t j := fun t j hf => by
  simp only [TT.find] at hf
  cases hb : Nat.beq n t with
  | true => rw [hb] at hf; cases hf; rw [← nbeq hb]; exact h
  | false => rw [hb] at hf; exact hr t j hf
theorem cm_nil : ∀ t T, cmpT [] t = some T → cmpChk P t T = true := fun _ _ h => by cases h
theorem cm_cons {n : Nat} {c : Ty} {r : List (Nat × Ty)} (h : cmpChk P n c = true) (hr : ∀ t T, cmpT r t = some T → cmpChk P t T = true) : ∀ t T, cmpT ((n, c) :: r) t = some T → cmpChk P t T = true := fun t T hf => by
  simp only [cmpT] at hf
  cases hb : Nat.beq n t with
  | true => rw [hb] at hf; cases hf; rw [← nbeq hb]; exact h
  | false => rw [hb] at hf; exact hr t T hf
theorem cl_nil : ∀ f key ce, callT [] f key = some ce → CallOK P gl f ce ∨ ExtOK P f ce := fun _ _ _ h => by cases h
theorem cl_any {n : Nat} {k : List Nat} {c : CallE} {r : List (Nat × List Nat × CallE)} (h : CallOK P gl n c ∨ ExtOK P n c) (hr : ∀ f key ce, callT r f key = some ce → CallOK P gl f ce ∨ ExtOK P f ce) : ∀ f key ce, callT ((n, k, c) :: r) f key = some ce → CallOK P gl f ce ∨ ExtOK P f ce := fun f key ce hf => by
  simp only [callT] at hf
  cases hb : Nat.beq n f && natsBeq k key with
  | true =>
    rw [hb] at hf; cases hf
    simp only [Bool.and_eq_true] at hb
    rw [← nbeq hb.1]; exact h
  | false => rw [hb] at hf; exact hr f key ce hf
theorem cl_cons {n : Nat} {k : List Nat} {c : CallE} {r : List (Nat × List Nat × CallE)} (h : CallOK P gl n c) (hr : ∀ f key ce, callT r f key = some ce → CallOK P gl f ce ∨ ExtOK P f ce) : ∀ f key ce, callT ((n, k, c) :: r) f key = some ce → CallOK P gl f ce ∨ ExtOK P f ce := cl_any (.inl h) hr
theorem cl_ext {n : Nat} {k : List Nat} {c : CallE} {r : List (Nat × List Nat × CallE)} (h : ExtOK P n c) (hr : ∀ f key ce, callT r f key = some ce → CallOK P gl f ce ∨ ExtOK P f ce) : ∀ f key ce, callT ((n, k, c) :: r) f key = some ce → CallOK P gl f ce ∨ ExtOK P f ce := cl_any (.inr h) hr
theorem env_ok {tt : TT} {l : List (Nat × List Nat × CallE)} (h : ∀ t i, tt.find t = some i → TIOK P t i) (hc : ∀ f key ce, callT l f key = some ce → CallOK P gl f ce ∨ ExtOK P f ce) {cm : List (Nat × Ty)} {pre : List Nat} {bld : Option BldC} (hcm : ∀ t T, cmpT cm t = some T → cmpChk P t T = true) (hb : ∀ q, bld = some q → BldOK P q) : EnvOK P gl ⟨tt, gl, callT l, cmpT cm, pre, bld⟩ := ⟨h, rfl, hc, hcm, hb⟩
end
end Go.Den
