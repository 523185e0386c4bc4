/-
  A region whose order is drawn: what its operations do, in any order that may be drawn.
-/
import Derived.Test.YtkmleeeekbdomaaGreatDoorD4g
import Derived.Orders
set_option linter.unusedVariables false
set_option linter.unusedSimpArgs false
set_option linter.unusedSectionVars false
namespace Go.Den
open Go Go.RowKit
abbrev Eff := List (Nat × Blk)
def app1 (σ : AS) (o : Oper) (x : SV × Eff) : AS := (σ.put o.dst x.1).eff x.2
/-- The state in which those of 'L' are done. -/
def stF (tr : Nat → SV × Eff) (L : Nat → Bool) : Nat → List Oper → AS → AS
  | _, [], σ => σ
  | i, o :: r, σ => stF tr L (i + 1) r (bif L i then app1 σ o (tr i) else σ)
theorem AS.ext' {a b : AS} (h1 : ∀ t, a.slots t = b.slots t) (h2 : ∀ n, a.heap n = b.heap n) : a = b := by
  obtain ⟨s, h⟩ := a; obtain ⟨s', h'⟩ := b
  have e1 : s = s' := funext h1
  have e2 : h = h' := funext h2
  subst e1; subst e2; rfl
theorem put_slots (σ : AS) (d : Option Tmp) (v : SV) (t : Nat) : (σ.put d v).slots t = if d = some t then v else σ.slots t := by
  cases d with
  | none => simp [AS.put]
  | some d =>
    show (bif Nat.beq t d then v else σ.slots t) = _
    by_cases h : t = d
    · subst h; simp [Nat.beq_refl]
    · have : Nat.beq t d = false := nbeq_ne h
      have h' : ¬ (some d = some t) := fun e => h (Option.some.inj e).symm
      rw [this, if_neg h']; rfl
theorem app_slots (σ : AS) (o : Oper) (x : SV × Eff) (t : Nat) : (app1 σ o x).slots t = if o.dst = some t then x.1 else σ.slots t := by
  unfold app1; rw [AS.eff_slots, put_slots]
theorem app_heap (σ : AS) (o : Oper) (x : SV × Eff) : (app1 σ o x).heap = effs σ.heap x.2 := by
  unfold app1; rw [AS.eff_heap, AS.put_heap]
theorem effs_in : ∀ (l : Eff) (h h' : Hp) (n : Nat), (∃ p ∈ l, p.1 = n) → effs h l n = effs h' l n
  | [], _, _, _, ⟨_, hp, _⟩ => by cases hp
  | (id, b) :: r, h, h', n, ⟨p, hp, he⟩ => by
    simp only [effs]
    by_cases hr : ∃ p ∈ r, p.1 = n
    · exact effs_in r _ _ n hr
    · have hn : ∀ p ∈ r, p.1 ≠ n := fun p hp he => hr ⟨p, hp, he⟩
      rw [effs_other r _ n hn, effs_other r _ n hn]
      rcases List.mem_cons.1 hp with rfl | hp
      · simp only at he; subst he; rw [hset_same, hset_same]
      · exact absurd he (hn p hp)
theorem effs_same (l : Eff) {h h' : Hp} {n : Nat} (he : h n = h' n) : effs h l n = effs h' l n := by
  by_cases hr : ∃ p ∈ l, p.1 = n
  · exact effs_in l _ _ n hr
  · have hn : ∀ p ∈ l, p.1 ≠ n := fun p hp he => hr ⟨p, hp, he⟩
    rw [effs_other l _ n hn, effs_other l _ n hn, he]
theorem effs_some : ∀ (l : Eff) {h : Hp} {n : Nat}, ((∃ p ∈ l, p.1 = n) ∨ h n ≠ none) → effs h l n ≠ none
  | [], h, n, hh => by rcases hh with ⟨_, hp, _⟩ | hh; cases hp; exact hh
  | (id, b) :: r, h, n, hh => by
    simp only [effs]
    refine effs_some r ?_
    by_cases he : n = id
    · right; subst he; rw [hset_same]; simp
    · rcases hh with ⟨p, hp, hpe⟩ | hh
      · rcases List.mem_cons.1 hp with rfl | hp
        · exact absurd hpe.symm he
        · exact .inl ⟨p, hp, hpe⟩
      · right; rw [hset_ne _ _ he]; exact hh
section
variable {tr : Nat → SV × Eff} {L L' : Nat → Bool}
theorem stF_congr {tr tr' : Nat → SV × Eff} : ∀ (l : List Oper) (i : Nat) (σ : AS), (∀ j, i ≤ j → j < i + l.length → L j = L' j) → (∀ j, i ≤ j → j < i + l.length → L j = true → tr j = tr' j) → stF tr L i l σ = stF tr' L' i l σ
  | [], _, _, _, _ => rfl
  | o :: r, i, σ, h1, h2 => by
    simp only [stF]
    have e : (bif L i then app1 σ o (tr i) else σ) = (bif L' i then app1 σ o (tr' i) else σ) := by
      rw [← h1 i (Nat.le_refl _) (by simp)]
      cases hL : L i with
      | true => rw [h2 i (Nat.le_refl _) (by simp) hL]
      | false => rfl
    rw [e]
    exact stF_congr r (i + 1) _ (fun j hj hk => h1 j (by omega) (by simp only [List.length_cons]; omega)) (fun j hj hk => h2 j (by omega) (by simp only [List.length_cons]; omega))
theorem stF_none : ∀ (l : List Oper) (i : Nat) (σ : AS), (∀ j, i ≤ j → L j = false) → stF tr L i l σ = σ
  | [], _, _, _ => rfl
  | o :: r, i, σ, h => by
    simp only [stF, h i (Nat.le_refl _), cond_false]
    exact stF_none r (i + 1) σ fun j hj => h j (by omega)
theorem stF_app : ∀ (a b : List Oper) (i : Nat) (σ : AS), stF tr L i (a ++ b) σ = stF tr L (i + a.length) b (stF tr L i a σ)
  | [], _, _, _ => rfl
  | o :: r, b, i, σ => by
    simp only [List.cons_append, stF, List.length_cons]
    rw [stF_app r b (i + 1)]
    congr 1; omega
theorem stF_slots (t : Nat) : ∀ (l : List Oper) (i : Nat) (σ σ' : AS), σ.slots t = σ'.slots t → (∀ j o, l[j]? = some o → o.dst = some t → L (i + j) = L' (i + j)) → (stF tr L i l σ).slots t = (stF tr L' i l σ').slots t
  | [], _, _, _, h, _ => h
  | o :: r, i, σ, σ', h, hj => by
    simp only [stF]
    refine stF_slots t r (i + 1) _ _ ?_ fun j o' ho hd => by
      have := hj (j + 1) o' (by simpa using ho) hd
      rw [show i + 1 + j = i + (j + 1) by omega]; exact this
    by_cases hd : o.dst = some t
    · have := hj 0 o rfl hd
      rw [Nat.add_zero] at this
      rw [← this]
      cases L i with
      | true => simp only [cond_true, app_slots, if_pos hd]
      | false => exact h
    · have e : ∀ (b : Bool) (s : AS), (bif b then app1 s o (tr i) else s).slots t = s.slots t := fun b s => by
        cases b with
        | true => simp only [cond_true, app_slots, if_neg hd]
        | false => rfl
      rw [e, e, h]
theorem stF_heap (n : Nat) : ∀ (l : List Oper) (i : Nat) (σ σ' : AS), σ.heap n = σ'.heap n → (∀ j, j < l.length → (∃ p ∈ (tr (i + j)).2, p.1 = n) → L (i + j) = L' (i + j)) → (stF tr L i l σ).heap n = (stF tr L' i l σ').heap n
  | [], _, _, _, h, _ => h
  | o :: r, i, σ, σ', h, hj => by
    simp only [stF]
    refine stF_heap n r (i + 1) _ _ ?_ fun j ho hd => by
      have := hj (j + 1) (by simp only [List.length_cons]; omega) (by rw [show i + (j + 1) = i + 1 + j by omega]; exact hd)
      rw [show i + 1 + j = i + (j + 1) by omega]; exact this
    by_cases hd : ∃ p ∈ (tr i).2, p.1 = n
    · have := hj 0 (by simp) hd
      rw [Nat.add_zero] at this
      rw [← this]
      cases L i with
      | true => simp only [cond_true, app_heap]; exact effs_same _ h
      | false => exact h
    · have hn : ∀ p ∈ (tr i).2, p.1 ≠ n := fun p hp he => hd ⟨p, hp, he⟩
      have e : ∀ (b : Bool) (s : AS), (bif b then app1 s o (tr i) else s).heap n = s.heap n := fun b s => by
        cases b with
        | true => simp only [cond_true, app_heap]; exact effs_other _ _ _ hn
        | false => rfl
      rw [e, e, h]
theorem stF_grow (n : Nat) : ∀ (l : List Oper) (i : Nat) (σ σ' : AS), (σ.heap n ≠ none → σ'.heap n ≠ none) → (∀ j, L j = true → L' j = true) → (stF tr L i l σ).heap n ≠ none → (stF tr L' i l σ').heap n ≠ none
  | [], _, _, _, h, _, hx => h hx
  | o :: r, i, σ, σ', h, hj, hx => by
    simp only [stF] at hx ⊢
    refine stF_grow n r (i + 1) _ _ ?_ hj hx
    intro hy
    cases hL : L i with
    | true =>
      rw [hL] at hy
      rw [hj i hL]
      simp only [cond_true, app_heap] at hy ⊢
      by_cases hd : ∃ p ∈ (tr i).2, p.1 = n
      · exact effs_some _ (.inl hd)
      · have hn : ∀ p ∈ (tr i).2, p.1 ≠ n := fun p hp he => hd ⟨p, hp, he⟩
        rw [effs_other _ _ _ hn] at hy
        exact effs_some _ (.inr (h hy))
    | false =>
      rw [hL] at hy
      have hy := h hy
      cases L' i with
      | true => simp only [cond_true, app_heap]; exact effs_some _ (.inr hy)
      | false => exact hy
/-- Two that don't disturb each other. -/
def Indep (o o' : Oper) (x x' : SV × Eff) : Prop := (∀ t, o.dst = some t → o'.dst ≠ some t) ∧ (∀ p ∈ x.2, ∀ p' ∈ x'.2, p.1 ≠ p'.1)
theorem app_comm (σ : AS) {o o' : Oper} {x x' : SV × Eff} (h : Indep o o' x x') : app1 (app1 σ o x) o' x' = app1 (app1 σ o' x') o x := by
  refine AS.ext' (fun t => ?_) (fun n => ?_)
  · simp only [app_slots]
    by_cases h1 : o.dst = some t
    · simp [h1, h.1 t h1]
    · simp [h1]
  · simp only [app_heap]
    by_cases h1 : ∃ p ∈ x.2, p.1 = n
    · have h2 : ∀ p' ∈ x'.2, p'.1 ≠ n := fun p' hp' he => by
        obtain ⟨p, hp, hpe⟩ := h1
        exact h.2 p hp p' hp' (hpe.trans he.symm)
      rw [effs_other _ _ _ h2]
      exact effs_in _ _ _ n h1
    · have hn : ∀ p ∈ x.2, p.1 ≠ n := fun p hp he => h1 ⟨p, hp, he⟩
      rw [effs_other x.2 _ _ hn]
      exact effs_same _ (effs_other _ _ _ hn)
theorem stF_comm {o : Oper} {x : SV × Eff} : ∀ (l : List Oper) (i : Nat) (σ : AS), (∀ j o', l[j]? = some o' → L (i + j) = true → Indep o o' x (tr (i + j))) → stF tr L i l (app1 σ o x) = app1 (stF tr L i l σ) o x
  | [], _, _, _ => rfl
  | o' :: r, i, σ, h => by
    simp only [stF]
    have hr : ∀ j o'', r[j]? = some o'' → L (i + 1 + j) = true → Indep o o'' x (tr (i + 1 + j)) := fun j o'' ho hL => by
      have := h (j + 1) o'' (by simpa using ho) (by rw [show i + (j + 1) = i + 1 + j by omega]; exact hL)
      rw [show i + 1 + j = i + (j + 1) by omega]; exact this
    cases hL : L i with
    | true =>
      simp only [cond_true]
      have hI := h 0 o' rfl hL
      rw [Nat.add_zero] at hI
      rw [app_comm σ hI]
      exact stF_comm r (i + 1) _ hr
    | false => exact stF_comm r (i + 1) _ hr
/-- One more done: as if it came last. -/
theorem stF_more {ops : List Oper} {i : Nat} {o : Oper} (ho : ops[i]? = some o) (hL : L i = false) (hL' : ∀ j, L' j = (L j || Nat.beq j i)) (σ : AS) (hI : ∀ j o', i < j → ops[j]? = some o' → L j = true → Indep o o' (tr i) (tr j)) :
    stF tr L' 0 ops σ = app1 (stF tr L 0 ops σ) o (tr i) := by
  obtain ⟨hlt, hoi⟩ := List.getElem?_eq_some_iff.1 ho
  have hsplit : ops = ops.take i ++ o :: ops.drop (i + 1) := by rw [← hoi, ← List.drop_eq_getElem_cons hlt, List.take_append_drop]
  have hlen : (ops.take i).length = i := by rw [List.length_take]; omega
  have hdrop : ∀ j, (ops.drop (i + 1))[j]? = ops[i + 1 + j]? := fun j => by rw [List.getElem?_drop]
  generalize ha : ops.take i = a at hsplit hlen
  generalize hb : ops.drop (i + 1) = b at hsplit hdrop
  have e1 : stF tr L' 0 a σ = stF tr L 0 a σ := by
    have gen : ∀ (l : List Oper) (k : Nat) (s : AS), k + l.length ≤ i → stF tr L' k l s = stF tr L k l s := by
      intro l
      induction l with
      | nil => intro _ _ _; rfl
      | cons o' r ih =>
        intro k s hk
        simp only [List.length_cons] at hk
        simp only [stF]
        have : L' k = L k := by rw [hL', nbeq_ne (by omega), Bool.or_false]
        rw [this]
        exact ih (k + 1) _ (by omega)
    exact gen a 0 σ (by omega)
  have e2 : ∀ s, stF tr L' (i + 1) b s = stF tr L (i + 1) b s := fun s => by
    refine stF_congr b (i + 1) s (fun j hj _ => ?_) (fun j _ _ _ => rfl)
    rw [hL', nbeq_ne (by omega), Bool.or_false]
  rw [hsplit, stF_app, stF_app, hlen, Nat.zero_add]
  simp only [stF]
  have hLi : L' i = true := by rw [hL', Nat.beq_refl, Bool.or_true]
  rw [hLi, hL, e1, e2]
  simp only [cond_true, cond_false]
  exact stF_comm b (i + 1) _ fun j o' ho' hLj => by
    rw [hdrop] at ho'
    exact hI (i + 1 + j) o' (by omega) ho' hLj
end
end Go.Den
