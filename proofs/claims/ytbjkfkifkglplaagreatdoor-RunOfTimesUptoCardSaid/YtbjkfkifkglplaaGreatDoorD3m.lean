/-
  Structs compared: as their data.
-/
import Derived.Test.YtbjkfkifkglplaaGreatDoorD3b
import Derived.Laws.StructEq
set_option linter.unusedSectionVars false
set_option linter.unusedVariables false
set_option linter.unusedSimpArgs false
namespace Go.Den
open Go Go.RowKit
section
variable {P : Program} {w : World}
theorem scal_agg {t : TypeId} {T : Ty} (h : scalChk P t T = true) : (isAgg t).run P w = .ok false w := by
  unfold scalChk at h
  simp only [Bool.and_eq_true] at h
  replace h := h.2
  split at h <;> first | (cases h; done) | skip
  all_goals (rename_i hu; simp [isAgg, run_underlying hu])
theorem scal_eq {I : Nat → Prop} {t : TypeId} {T : Ty} (h : scalChk P t T = true) {x y : T.den} {xs ys : List Value} (hx : K w I T x xs) (hy : K w I T y ys) (d : Nat) :
    ∃ u v, xs = [u] ∧ ys = [v] ∧ (Op.equalIn (d + 1) t u v).run P w = .ok (@decide (x = y) (T.deq x y)) w := by
  unfold scalChk at h
  simp only [Bool.and_eq_true] at h
  replace h := h.2
  split at h
  · rename_i k j hu
    simp only [K] at hx hy
    refine ⟨_, _, hx, hy, ?_⟩
    rw [run_equalIn_int w d t _ _ x y hu]
    congr 1
  · rename_i hu
    simp only [K] at hx hy
    refine ⟨_, _, hx, hy, ?_⟩
    rw [run_equalIn_bool w d t x y hu]
    congr 1
  · rename_i hu
    simp only [K] at hx hy
    refine ⟨_, _, hx, hy, ?_⟩
    rw [run_equalIn_string w d t x y hu]
    congr 1
    by_cases he : x = y
    · rw [@decide_eq_true _ (Ty.str.deq x y) he, he]; exact beq_self_eq_true _
    · rw [@decide_eq_false _ (Ty.str.deq x y) he]
      refine beq_eq_false_iff_ne.2 fun h => he ?_
      have h : ByteArray.toList x = ByteArray.toList y := h
      rw [ByteArray.toList_eq, ByteArray.toList_eq] at h
      exact ByteArray.ext (Array.toList_inj.1 h)
  · cases h
/-- Two parts of cells, compared as their data. -/
def EqAt (P : Program) (w : World) (t : TypeId) (T : Ty) (D : Nat) : Prop :=
  ∀ (I : Nat → Prop) (x y : T.den) (px py a b qx qy : List Value) (off : Nat), px.length = off → py.length = off → K w I T x a → K w I T y b →
    ∃ u v, (part t (px ++ (a ++ qx)).toArray off).run P w = .ok u w ∧ (part t (py ++ (b ++ qy)).toArray off).run P w = .ok v w ∧ (Op.equalIn D t u v).run P w = .ok (@decide (x = y) (T.deq x y)) w
theorem scal_at {t : TypeId} {T : Ty} (h : scalChk P t T = true) (d : Nat) : EqAt P w t T (d + 1) := by
  intro I x y px py a b qx qy off h1 h2 ha hb
  obtain ⟨u, v, rfl, rfl, he⟩ := scal_eq h ha hb d
  have hp : ∀ {p q : List Value} {z : Value}, p.length = off → (part t (p ++ ([z] ++ q)).toArray off).run P w = .ok z w := fun {p q z} hl => by
    simp only [part, Sem.run_bind, scal_agg h, Result.andThen]
    simp [← hl]
  exact ⟨u, v, hp h1, hp h2, he⟩
theorem fields_eq {I : Nat → Prop} (D : Nat) {c : TypeId → Ty → Bool} (hc : ∀ t T, c t T = true → EqAt P w t T D) : ∀ {fs : List Field} {T : Ty} {off : Nat} {x y : T.den} {px py xs ys : List Value}, fieldsChk c fs T off = true → px.length = off → py.length = off → K w I T x xs → K w I T y ys →
    (Op.eqFields D (px ++ xs).toArray (py ++ ys).toArray fs).run P w = .ok (@decide (x = y) (T.deq x y)) w := by
  intro fs
  have step : ∀ {f : Field} {T : Ty} {x y : T.den} {off : Nat} {px py a b qx qy : List Value} (fs : List Field), (f.name != "_") = true → f.offset = off → c f.type T = true → px.length = off → py.length = off → K w I T x a → K w I T y b →
      (Op.eqFields D (px ++ (a ++ qx)).toArray (py ++ (b ++ qy)).toArray (f :: fs)).run P w = (if @decide (x = y) (T.deq x y) = true then (Op.eqFields D (px ++ (a ++ qx)).toArray (py ++ (b ++ qy)).toArray fs).run P w else .ok false w) := by
    intro f T x y off px py a b qx qy fs hn ho hs h1 h2 ha hb
    obtain ⟨u, v, p1, p2, he⟩ := hc _ _ hs I x y px py a b qx qy off h1 h2 ha hb
    have hn' : f.name ≠ "_" := by simpa using hn
    simp only [Op.eqFields]
    rw [if_pos hn', ho]
    simp only [Sem.run_bind, p1, p2, Result.andThen_ok, he]
    cases @decide (x = y) (T.deq x y) <;> simp
  induction fs with
  | nil => intro T off x y px py xs ys h; simp [fieldsChk] at h
  | cons f fs ih =>
    intro T off x y px py xs ys h h1 h2 hx hy
    cases fs with
    | nil =>
      simp only [fieldsChk, Bool.and_eq_true] at h
      have := step (qx := []) (qy := []) [] h.1 (nbeq h.2.1) h.2.2 h1 h2 hx hy
      simp only [List.append_nil] at this
      rw [this]
      cases @decide (x = y) (T.deq x y) <;> simp [Op.eqFields]
    | cons g r =>
      cases T with
      | prod a b =>
        simp only [fieldsChk, Bool.and_eq_true] at h
        obtain ⟨c', d', rfl, hx1, hx2⟩ := hx
        obtain ⟨c'', d'', rfl, hy1, hy2⟩ := hy
        rw [step (g :: r) h.1 (nbeq h.2.1) h.2.2.1 h1 h2 hx1 hy1]
        have := ih (px := px ++ c') (py := py ++ c'') h.2.2.2 (by simp [h1, K_len hx1]) (by simp [h2, K_len hy1]) hx2 hy2
        simp only [List.append_assoc] at this
        rw [this]
        obtain ⟨x1, x2⟩ := x
        obtain ⟨y1, y2⟩ := y
        simp only
        by_cases e1 : x1 = y1
        · by_cases e2 : x2 = y2
          · rw [@decide_eq_true _ (a.deq x1 y1) e1, @decide_eq_true _ (b.deq x2 y2) e2, if_pos rfl, @decide_eq_true _ ((Ty.prod a b).deq (x1, x2) (y1, y2)) (by rw [e1, e2])]
          · rw [@decide_eq_true _ (a.deq x1 y1) e1, @decide_eq_false _ (b.deq x2 y2) e2, if_pos rfl, @decide_eq_false _ ((Ty.prod a b).deq (x1, x2) (y1, y2)) (by simp [e2])]
        · rw [@decide_eq_false _ (a.deq x1 y1) e1, if_neg (by simp), @decide_eq_false _ ((Ty.prod a b).deq (x1, x2) (y1, y2)) (by simp [e1])]
      | _ => simp [fieldsChk] at h
theorem part_at : ∀ (n : Nat) {t : TypeId} {T : Ty}, partChk P n t T = true → ∀ d, EqAt P w t T (d + n + 1)
  | 0, t, T, h, d => scal_at h d
  | n + 1, t, T, h, d => by
    simp only [partChk, Bool.or_eq_true] at h
    rcases h with h | h
    · exact scal_at h (d + (n + 1))
    · simp only [Bool.and_eq_true] at h
      obtain ⟨hs, h⟩ := h
      split at h
      · rename_i F hF
        simp only [Bool.and_eq_true, Bool.not_eq_true'] at h
        intro I x y px py a b qx qy off h1 h2 ha hb
        have hsz : (sizeOf t).run P w = .ok T.sz w := by
          cases hi : P.info? t with
          | none => rw [hi] at hs; cases hs
          | some i =>
            rw [hi] at hs
            rw [← nbeq hs]
            simp [sizeOf, typeInfo, hi]
        have hag : (isAgg t).run P w = .ok true w := by simp [isAgg, run_underlying hF]
        have hp : ∀ {p q z : List Value}, p.length = off → z.length = T.sz → (part t (p ++ (z ++ q)).toArray off).run P w = .ok (.agg z.toArray) w := fun {p q z} hl hz => by
          simp only [part, Sem.run_bind, hag, Result.andThen, if_true, hsz]
          congr 2
          subst hl
          rw [← hz]
          simp
        refine ⟨_, _, hp h1 (K_len ha), hp h2 (K_len hb), ?_⟩
        have hf : P.fieldsOf t = F := by simp [Program.fieldsOf, hF]
        rw [show d + (n + 1) + 1 = (d + n + 1) + 1 from rfl, run_equalIn_struct w (d + n + 1) t _ _ (by rw [hf]; exact hF) h.1, hf]
        exact fields_eq (px := []) (py := []) (d + n + 1) (fun t T hc => part_at n hc d) h.2 rfl rfl ha hb
      · cases h
theorem cmp_ok {I : Nat → Prop} {t : TypeId} {T : Ty} (h : cmpChk P t T = true) {x y : T.den} {xs ys : List Value} (hx : K w I T x xs) (hy : K w I T y ys) :
    (Op.equalIn 10000 t (.agg xs.toArray) (.agg ys.toArray)).run P w = .ok (@decide (x = y) (T.deq x y)) w ∧ P.eqGuardType P.depth t = false := by
  unfold cmpChk at h
  split at h
  · rename_i F hF
    simp only [Bool.and_eq_true, Bool.not_eq_true'] at h
    refine ⟨?_, h.2.1⟩
    have hf : P.fieldsOf t = F := by simp [Program.fieldsOf, hF]
    rw [show (10000 : Nat) = 9999 + 1 from rfl, run_equalIn_struct w 9999 t _ _ (by rw [hf]; exact hF) h.1, hf]
    exact fields_eq (px := []) (py := []) 9999 (fun t T hc => part_at 2 hc 9996) h.2.2 rfl rfl hx hy
  · cases h
end
end Go.Den
