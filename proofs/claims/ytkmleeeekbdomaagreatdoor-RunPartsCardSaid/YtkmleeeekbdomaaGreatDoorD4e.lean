/-
  What the cuts owe, as one equation that the kernel sees.
-/
import Derived.Test.YtkmleeeekbdomaaGreatDoorD4d
set_option linter.unusedSectionVars false
set_option linter.unusedSimpArgs false
set_option linter.unusedVariables false
namespace Go.Den
open Go Go.RowKit
section
variable {R : Type}
def oblL (F : Fam R) : Code → List (CutE R)
  | .seq a b => oblL F a ++ (oblL F b ++ match findCut F.cuts (jkey b) with
      | some c => [⟨c.sh, fun _ s => c.l 0 s⟩, ⟨c.sh, fun n s => c.l (n + 1) s⟩]
      | none => [])
  | .cond _ x y => oblL F x ++ oblL F y
  | .block _ b => oblL F b
  | .loop b => match findCut F.cuts (lkey b) with
      | some c => oblL F b ++ [⟨c.sh, fun _ s => c.l 0 s⟩, ⟨c.sh, fun n s => c.l (n + 1) s⟩]
      | none => []
  | _ => []
theorem two_eq {sh : Shape} {a b c d : Nat → sh.S → Option R} (h : [CutE.mk sh a, CutE.mk sh b] = [CutE.mk sh c, CutE.mk sh d]) : a = c ∧ b = d := by
  simp only [List.cons.injEq, CutE.mk.injEq, heq_eq_eq, true_and, and_true] at h
  exact h
variable [Wr]
noncomputable def oblR (F : Fam R) : Code → (Nat → Ex → AS → Option R) → List (CutE R)
  | .seq a b, K => oblR F a (fun n => Kseq (fun σ' => match findCut F.cuts (jkey b) with | some c => c.go n σ' | none => den F n b σ' (K n)) (K n)) ++ (oblR F b K ++
      match findCut F.cuts (jkey b) with
      | some c => [⟨c.sh, fun _ _ => none⟩, ⟨c.sh, fun n s => den F n b (c.sh.inv s) (K n)⟩]
      | none => [])
  | .cond _ x y, K => oblR F x K ++ oblR F y K
  | .block id b, K => oblR F b (fun n => Kblock id (K n))
  | .loop b, K => match findCut F.cuts (lkey b) with
      | some c => oblR F b (fun n => Kseq (c.go n) (K n)) ++ [⟨c.sh, fun _ _ => none⟩, ⟨c.sh, fun n s => den F n b (c.sh.inv s) (Kseq (c.go n) (K n))⟩]
      | none => []
  | _, _ => []
variable {F : Fam R}
theorem obl_len : ∀ (c : Code) (K : Nat → Ex → AS → Option R), (oblL F c).length = (oblR F c K).length
  | .seq a b, K => by
    simp only [oblL, oblR, List.length_append]
    rw [obl_len b K, obl_len a (fun n => Kseq (fun σ' => match findCut F.cuts (jkey b) with | some c => c.go n σ' | none => den F n b σ' (K n)) (K n))]
    congr 2
    cases findCut F.cuts (jkey b) <;> rfl
  | .cond _ x y, K => by simp only [oblL, oblR, List.length_append]; rw [obl_len x K, obl_len y K]
  | .block _ b, K => obl_len b _
  | .loop b, K => by
    simp only [oblL, oblR]
    cases findCut F.cuts (lkey b) with
    | none => rfl
    | some c => simp only [List.length_append, List.length_cons, List.length_nil]; rw [obl_len b]
  | .skip, K | .region .., K | .exit _, K | .ret, K | .scope _, K | .label _, K | .goto _, K | .rangeFunc .., K | .refuse .., K => rfl
theorem obl_of : ∀ {c : Code} {K : Nat → Ex → AS → Option R}, oblL F c = oblR F c K → Obl F c K
  | .seq a b, K, h => by
    simp only [oblL, oblR] at h
    obtain ⟨h1, h⟩ := List.append_inj h (obl_len a _)
    obtain ⟨h2, h3⟩ := List.append_inj h (obl_len b _)
    refine ⟨obl_of h1, obl_of h2, ?_⟩
    cases hf : findCut F.cuts (jkey b) with
    | none => trivial
    | some c =>
      rw [hf] at h3
      obtain ⟨e1, e2⟩ := two_eq h3
      exact ⟨fun s => congrFun (congrFun e1 0) s, fun n s => congrFun (congrFun e2 n) s⟩
  | .cond _ x y, K, h => by
    simp only [oblL, oblR] at h
    obtain ⟨h1, h2⟩ := List.append_inj h (obl_len x _)
    exact ⟨obl_of h1, obl_of h2⟩
  | .block _ b, K, h => obl_of (c := b) h
  | .loop b, K, h => by
    simp only [oblL, oblR] at h
    simp only [Obl]
    cases hf : findCut F.cuts (lkey b) with
    | none => trivial
    | some c =>
      simp only [hf] at h
      obtain ⟨h1, h3⟩ := List.append_inj h (obl_len b _)
      obtain ⟨e1, e2⟩ := two_eq h3
      exact ⟨obl_of h1, fun s => congrFun (congrFun e1 0) s, fun n s => congrFun (congrFun e2 n) s⟩
  | .skip, K, h | .region .., K, h | .exit _, K, h | .ret, K, h | .scope _, K, h | .label _, K, h | .goto _, K, h | .rangeFunc .., K, h | .refuse .., K, h => trivial
end
end Go.Den
