/- Part of the proof: D4e, D4f. -/
import Derived.Test.YtbjkfkifkglplaaGreatDoorD4n
set_option linter.unusedSectionVars false
set_option linter.unusedSimpArgs false
/-
  What the cuts owe, as one equation that the kernel sees.
-/
set_option linter.unusedVariables false
namespace Go.Den
open Go Go.RowKit
section
variable {R : Type}
def oblL (F : Fam R) : Code → List (CutE R)
  | .seq a b => oblL F a ++ (oblL F b ++ match findCut F.cuts (jkey b) with
      | some c => [⟨c.sh, fun _ s => c.l 0 s⟩, ⟨c.sh, fun n s => c.l (n + 1) s⟩]
      | none => [])
  | .cond _ x y => oblL F x ++ oblL F y
  | .block _ b => oblL F b
  | .loop b => match findCut F.cuts (lkey b) with
      | some c => oblL F b ++ [⟨c.sh, fun _ s => c.l 0 s⟩, ⟨c.sh, fun n s => c.l (n + 1) s⟩]
      | none => []
  | _ => []
theorem two_eq {sh : Shape} {a b c d : Nat → sh.S → Option R} (h : [CutE.mk sh a, CutE.mk sh b] = [CutE.mk sh c, CutE.mk sh d]) : a = c ∧ b = d := by
  simp only [List.cons.injEq, CutE.mk.injEq, heq_eq_eq, true_and, and_true] at h
  exact h
variable [Wr]
noncomputable def oblR (F : Fam R) : Code → (Nat → Ex → AS → Option R) → List (CutE R)
  | .seq a b, K => oblR F a (fun n => Kseq (fun σ' => match findCut F.cuts (jkey b) with | some c => c.go n σ' | none => den F n b σ' (K n)) (K n)) ++ (oblR F b K ++
      match findCut F.cuts (jkey b) with
      | some c => [⟨c.sh, fun _ _ => none⟩, ⟨c.sh, fun n s => den F n b (c.sh.inv s) (K n)⟩]
      | none => [])
  | .cond _ x y, K => oblR F x K ++ oblR F y K
  | .block id b, K => oblR F b (fun n => Kblock id (K n))
  | .loop b, K => match findCut F.cuts (lkey b) with
      | some c => oblR F b (fun n => Kseq (c.go n) (K n)) ++ [⟨c.sh, fun _ _ => none⟩, ⟨c.sh, fun n s => den F n b (c.sh.inv s) (Kseq (c.go n) (K n))⟩]
      | none => []
  | _, _ => []
variable {F : Fam R}
theorem obl_len : ∀ (c : Code) (K : Nat → Ex → AS → Option R), (oblL F c).length = (oblR F c K).length
  | .seq a b, K => by
    simp only [oblL, oblR, List.length_append]
    rw [obl_len b K, obl_len a (fun n => Kseq (fun σ' => match findCut F.cuts (jkey b) with | some c => c.go n σ' | none => den F n b σ' (K n)) (K n))]
    congr 2
    cases findCut F.cuts (jkey b) <;> rfl
  | .cond _ x y, K => by simp only [oblL, oblR, List.length_append]; rw [obl_len x K, obl_len y K]
  | .block _ b, K => obl_len b _
  | .loop b, K => by
    simp only [oblL, oblR]
    cases findCut F.cuts (lkey b) with
    | none => rfl
    | some c => simp only [List.length_append, List.length_cons, List.length_nil]; rw [obl_len b]
  | .skip, K | .region .., K | .exit _, K | .ret, K | .scope _, K | .label _, K | .goto _, K | .rangeFunc .., K | .refuse .., K => rfl
theorem obl_of : ∀ {c : Code} {K : Nat → Ex → AS → Option R}, oblL F c = oblR F c K → Obl F c K
  | .seq a b, K, h => by
    simp only [oblL, oblR] at h
    obtain ⟨h1, h⟩ := List.append_inj h (obl_len a _)
    obtain ⟨h2, h3⟩ := List.append_inj h (obl_len b _)
    refine ⟨obl_of h1, obl_of h2, ?_⟩
    cases hf : findCut F.cuts (jkey b) with
    | none => trivial
    | some c =>
      rw [hf] at h3
      obtain ⟨e1, e2⟩ := two_eq h3
      exact ⟨fun s => congrFun (congrFun e1 0) s, fun n s => congrFun (congrFun e2 n) s⟩
  | .cond _ x y, K, h => by
    simp only [oblL, oblR] at h
    obtain ⟨h1, h2⟩ := List.append_inj h (obl_len x _)
    exact ⟨obl_of h1, obl_of h2⟩
  | .block _ b, K, h => obl_of (c := b) h
  | .loop b, K, h => by
    simp only [oblL, oblR] at h
    simp only [Obl]
    cases hf : findCut F.cuts (lkey b) with
    | none => trivial
    | some c =>
      simp only [hf] at h
      obtain ⟨h1, h3⟩ := List.append_inj h (obl_len b _)
      obtain ⟨e1, e2⟩ := two_eq h3
      exact ⟨obl_of h1, fun s => congrFun (congrFun e1 0) s, fun n s => congrFun (congrFun e2 n) s⟩
  | .skip, K, h | .region .., K, h | .exit _, K, h | .ret, K, h | .scope _, K, h | .label _, K, h | .goto _, K, h | .rangeFunc .., K, h | .refuse .., K, h => trivial
end
end Go.Den

/-
  The program's tables, callees: how they are shown.
-/
set_option linter.unusedVariables false
namespace Go.Den
open Go Go.RowKit
section
variable {P : Program} {gl : GT}
def tiGet (P : Program) (t : TypeId) : Option (Nat × Nat × List Value) := (P.info? t).bind fun x => x.zero.map fun z => (x.size, x.bytes, z.cells.toList)
theorem tiGet_ok {t : TypeId} {sz by' : Nat} {zs : List Value} (h : tiGet P t = some (sz, by', zs)) : ∃ x z, P.info? t = some x ∧ x.zero = some z ∧ x.size = sz ∧ x.bytes = by' ∧ z.cells.toList = zs := by
  unfold tiGet at h
  obtain ⟨x, hx, h⟩ := Option.bind_eq_some_iff.1 h
  cases hz : x.zero with
  | none => rw [hz] at h; cases h
  | some z => rw [hz] at h; simp only [Option.map_some, Option.some.injEq, Prod.mk.injEq] at h; exact ⟨x, z, hx, hz, h.1, h.2.1, h.2.2⟩
theorem TIOK.of {t : TypeId} {i : TI} {T : Ty} (hT : i.ty = some T) (h1 : tiGet P t = some (i.sz, i.bytes, zcells T)) (h2 : cvsOf (zcells T) = some i.zero) (h3 : T.sz = i.sz) (h4 : kdOK P t i.kd) (h5 : T.good = true := by rfl) : TIOK P t i := by
  obtain ⟨x, z, hx, hz, hs, hb, hc⟩ := tiGet_ok h1
  exact ⟨by rw [hx]; simp [hs, hb], by rw [hx]; simp [hz, hc, h2], h4, fun T' hT' => by rw [hT] at hT'; cases hT'; exact ⟨by rw [hx]; simp [hz, hc], h3, h5⟩⟩
theorem TIOK.of0 {t : TypeId} {i : TI} (zs : List Value) (hT : i.ty = none) (h1 : tiGet P t = some (i.sz, i.bytes, zs)) (h2 : cvsOf zs = some i.zero) (h4 : kdOK P t i.kd) : TIOK P t i := by
  obtain ⟨x, z, hx, hz, hs, hb, hc⟩ := tiGet_ok h1
  exact ⟨by rw [hx]; simp [hs, hb], by rw [hx]; simp [hz, hc, h2], h4, fun T' hT' => by rw [hT] at hT'; cases hT'⟩
def structGet (P : Program) (t : TypeId) : Option (List (Nat × TypeId)) := (P.underlying t).bind fun d => match d with | .struct F => some (F.toList.map fun f => (f.offset, f.type)) | _ => none
theorem kd_struct {t : TypeId} {fs : List (Nat × TypeId)} (h : structGet P t = some fs) : kdOK P t (.struct fs) := by
  unfold structGet at h
  obtain ⟨d, hd, h⟩ := Option.bind_eq_some_iff.1 h
  cases d <;> simp only [Option.some.injEq] at h <;> first | exact ⟨_, hd, h⟩ | cases h
def smapGet (P : Program) (t : TypeId) : Bool := match P.underlying t with
  | some (.map k e) => (match P.underlying k with | some .string => true | _ => false) && ((match P.underlying e with | some .bool => true | _ => false) && (match (P.info? e).bind (·.zero) with | some (.bool false) => true | _ => false))
  | _ => false
theorem kd_smap {t : TypeId} (h : smapGet P t = true) : kdOK P t .smap := by
  unfold smapGet at h
  split at h
  · rename_i k e hu
    simp only [Bool.and_eq_true] at h
    refine ⟨k, e, hu, ?_, ?_, ?_⟩
    · have := h.1; split at this; assumption; cases this
    · have := h.2.1; split at this; assumption; cases this
    · have := h.2.2; split at this; assumption; cases this
  · cases h
def funcGet (P : Program) (t : TypeId) : Bool := match P.underlying t with | some (.func _ _ _) => true | _ => false
theorem kd_func {t : TypeId} (h : funcGet P t = true) : kdOK P t .func := by
  unfold funcGet at h
  split at h
  · exact ⟨_, _, _, by assumption⟩
  · cases h
theorem kd_eq {t : TypeId} {d : TypeDesc} {k : TK} (hk : kdOK P t k = (P.underlying t = some d)) (h : P.underlying t = some d) : kdOK P t k := by rw [hk]; exact h
theorem tt_nil : ∀ t i, TT.find [] t = some i → TIOK P t i := fun _ _ h => by cases h
theorem tt_cons {n : Nat} {i : TI} {r : TT} (h : TIOK P n i) (hr : ∀ t j, TT.find r t = some j → TIOK P t j) : ∀ t j, TT.find ((n, i) :: r : List (Nat × TI)) t = some j → TIOK P t j := fun t j hf => by
  simp only [TT.find] at hf
  cases hb : Nat.beq n t with
  | true => rw [hb] at hf; cases hf; rw [← nbeq hb]; exact h
  | false => rw [hb] at hf; exact hr t j hf
theorem cm_nil : ∀ t T, cmpT [] t = some T → cmpChk P t T = true := fun _ _ h => by cases h
theorem cm_cons {n : Nat} {c : Ty} {r : List (Nat × Ty)} (h : cmpChk P n c = true) (hr : ∀ t T, cmpT r t = some T → cmpChk P t T = true) : ∀ t T, cmpT ((n, c) :: r) t = some T → cmpChk P t T = true := fun t T hf => by
  simp only [cmpT] at hf
  cases hb : Nat.beq n t with
  | true => rw [hb] at hf; cases hf; rw [← nbeq hb]; exact h
  | false => rw [hb] at hf; exact hr t T hf
theorem cl_nil : ∀ f key ce, callT [] f key = some ce → CallOK P gl f ce ∨ ExtOK P f ce := fun _ _ _ h => by cases h
theorem cl_any {n : Nat} {k : List Nat} {c : CallE} {r : List (Nat × List Nat × CallE)} (h : CallOK P gl n c ∨ ExtOK P n c) (hr : ∀ f key ce, callT r f key = some ce → CallOK P gl f ce ∨ ExtOK P f ce) : ∀ f key ce, callT ((n, k, c) :: r) f key = some ce → CallOK P gl f ce ∨ ExtOK P f ce := fun f key ce hf => by
  simp only [callT] at hf
  cases hb : Nat.beq n f && natsBeq k key with
  | true =>
    rw [hb] at hf; cases hf
    simp only [Bool.and_eq_true] at hb
    rw [← nbeq hb.1]; exact h
  | false => rw [hb] at hf; exact hr f key ce hf
theorem cl_cons {n : Nat} {k : List Nat} {c : CallE} {r : List (Nat × List Nat × CallE)} (h : CallOK P gl n c) (hr : ∀ f key ce, callT r f key = some ce → CallOK P gl f ce ∨ ExtOK P f ce) : ∀ f key ce, callT ((n, k, c) :: r) f key = some ce → CallOK P gl f ce ∨ ExtOK P f ce := cl_any (.inl h) hr
theorem cl_ext {n : Nat} {k : List Nat} {c : CallE} {r : List (Nat × List Nat × CallE)} (h : ExtOK P n c) (hr : ∀ f key ce, callT r f key = some ce → CallOK P gl f ce ∨ ExtOK P f ce) : ∀ f key ce, callT ((n, k, c) :: r) f key = some ce → CallOK P gl f ce ∨ ExtOK P f ce := cl_any (.inr h) hr
theorem io_nil : ∀ f io, ioT [] f = some io → IOOK P gl f io := fun _ _ h => by cases h
theorem io_cons {n : Nat} {c : IOE} {r : List (Nat × IOE)} (h : IOOK P gl n c) (hr : ∀ f io, ioT r f = some io → IOOK P gl f io) : ∀ f io, ioT ((n, c) :: r) f = some io → IOOK P gl f io := fun f io hf => by
  simp only [ioT] at hf
  cases hb : Nat.beq n f with
  | true =>
    rw [hb] at hf; cases hf
    rw [← nbeq hb]; exact h
  | false => rw [hb] at hf; exact hr f io hf
theorem env_ok {tt : TT} {l : List (Nat × List Nat × CallE)} {ios : List (Nat × IOE)} (h : ∀ t i, tt.find t = some i → TIOK P t i) (hc : ∀ f key ce, callT l f key = some ce → CallOK P gl f ce ∨ ExtOK P f ce) {cm : List (Nat × Ty)} {pre : List Nat} {bld : Option BldC} (hcm : ∀ t T, cmpT cm t = some T → cmpChk P t T = true) (hb : ∀ q, bld = some q → BldOK P q) (hi : ∀ f io, ioT ios f = some io → IOOK P gl f io) : EnvOK P gl ⟨tt, gl, callT l, cmpT cm, pre, bld, ioT ios⟩ := ⟨h, rfl, hc, hcm, hb, hi⟩
end
end Go.Den
