/- Part of the proof: PP3. -/
import Derived.Test.YtkmleeeekbdomaaGreatDoorPP2
set_option linter.unusedSectionVars false
set_option linter.unusedVariables false
set_option linter.unusedSimpArgs false
set_option maxRecDepth 100000
namespace Go.Proofs.YtkmleeeekbdomaaGreatDoor.Q
open Go Go.Den Go.Proofs
/-- Delays, done one behind the other from a time on: the times, and the last one. -/
inductive Run : List S24 → S24 → List S24 → S24 → Prop where
  | nil (t : S24) : Run [] t [] t
  | cons {y : S24} {u : List S24} {t a : S24} {s : List S24} {m : S24} (h : rat_Add.g t.1 t.2 y.1 y.2 = some (a.1, a.2, 0)) (h' : Run u a s m) : Run (y :: u) t (a :: s) m
theorem Run.len {u : List S24} {t : S24} {s : List S24} {m : S24} (h : Run u t s m) : s.length = u.length := by
  induction h with
  | nil => rfl
  | cons _ _ ih => simp [ih]
theorem Run.app {u : List S24} {t : S24} {s : List S24} {m : S24} (h : Run u t s m) {w s2 : List S24} {n : S24} (h2 : Run w m s2 n) : Run (u ++ w) t (s ++ s2) n := by
  induction h with
  | nil => exact h2
  | cons h _ ih => exact .cons h (ih h2)
theorem Run.split : ∀ {v w : List S24} {t : S24} {s : List S24} {n : S24}, Run (v ++ w) t s n → ∃ s1 s2 m, s = s1 ++ s2 ∧ Run v t s1 m ∧ Run w m s2 n
  | [], w, t, s, n, h => ⟨[], s, t, rfl, .nil t, h⟩
  | y :: v, w, t, s, n, h => by
    cases h with
    | cons h1 h2 =>
      obtain ⟨s1, s2, m, e, g1, g2⟩ := Run.split h2
      exact ⟨_ :: s1, s2, m, by rw [e]; rfl, .cons h1 g1, g2⟩
theorem Run.L {u : List S24} {t : S24} {s : List S24} {m : S24} (h : Run u t s m) : ∀ acc, run_Times.L acc u t = some (acc ++ s, 0) := by
  induction h with
  | nil => intro acc; simp [run_Times.L]
  | cons h _ ih =>
    intro acc
    unfold run_Times.L
    rw [h, Option.bind_some, if_pos rfl]
    rw [show ((⟨_, _⟩ : S24)) = _ from rfl, ih]
    simp
theorem L_is : ∀ (u : List S24) (acc : List S24) (t : S24), (∀ x ∈ u, rgs x) → rgs t → ∃ r, run_Times.L acc u t = some r ∧ (r.2 = 0 → ∃ s m, Run u t s m ∧ r.1 = acc ++ s)
  | [], acc, t, hu, ht => ⟨_, rfl, fun _ => ⟨[], t, .nil t, by simp⟩⟩
  | y :: u, acc, t, hu, ht => by
    obtain ⟨q, e, _, h1, h2⟩ := addR_is ht (hu y List.mem_cons_self)
    unfold run_Times.L
    rw [e, Option.bind_some]
    by_cases h0 : q.2.2 = 0
    · rw [if_pos h0]
      obtain ⟨r, er, hr⟩ := L_is u (acc ++ [(⟨q.1, q.2.1⟩ : S24)]) (⟨q.1, q.2.1⟩ : S24) (fun x hx => hu x (List.mem_cons_of_mem _ hx)) ⟨h1, h2⟩
      refine ⟨r, er, fun h => ?_⟩
      obtain ⟨s, m, g1, g2⟩ := hr h
      refine ⟨(⟨q.1, q.2.1⟩ : S24) :: s, m, .cons ?_ g1, by rw [g2]; simp⟩
      rw [e, ← h0]
    · rw [if_neg h0]
      exact ⟨_, rfl, fun h => absurd h h0⟩
/-- All delays of a run. -/
def dl (l : List S41) (p : S24) : List S24 := l.map (·.1) ++ [p]
theorem delays_L0 (p : S24) : ∀ (l : List S41) (acc : List S24), acc.length + l.length < 8796093022208 → run_delays.L0 p.1 p.2 l acc = some (acc ++ dl l p)
  | [], acc, h => by
    unfold run_delays.L0
    rw [if_pos (by simpa using h)]; rfl
  | y :: u, acc, h => by
    have h' : acc.length + (u.length + 1) < 8796093022208 := by simpa using h
    unfold run_delays.L0
    rw [if_pos (by omega), delays_L0 p u _ (by simp; omega)]
    simp [dl]
theorem delays_is {l : List S41} {p : S24} (h : l.length < 8796093022208) : run_delays.g l p = some (dl l p) := by
  unfold run_delays.g
  rw [if_pos (by omega), delays_L0 p l [] (by simpa using h)]
  rfl
/-- A fraction that a delay may be. -/
def isD (x : S24) : Prop := Rt x ∧ x.1 ≥ 0
theorem delay_is {x : S24} (h : rgs x) : ∃ b, run_Times_1.g x.1 x.2 = some b ∧ (b = false ↔ isD x) := by
  unfold run_Times_1.g run_isDelay.g isD Rt
  obtain ⟨b, e⟩ := right_is h.1 h.2
  rw [e, Option.bind_some]
  cases b
  · exact ⟨true, by simp, by simp⟩
  · refine ⟨!decide (x.1 ≥ 0), by simp, ?_⟩
    simp
theorem index_is : ∀ (u : List S24) (i : Nat), (∀ x ∈ u, rgs x) → ∃ v, slices_IndexFunc_api_Rat_api_Rat_at20.L0 u i = some v ∧ (v < 0 ↔ ∀ x ∈ u, isD x)
  | [], i, _ => ⟨-1, rfl, by simp⟩
  | y :: u, i, h => by
    obtain ⟨b, e, hb⟩ := delay_is (h y List.mem_cons_self)
    unfold slices_IndexFunc_api_Rat_api_Rat_at20.L0
    have e : run_Times_1.g y.f0 y.f1 = some b := e
    rw [e, Option.bind_some]
    cases b with
    | true =>
      refine ⟨_, rfl, ⟨fun h => by omega, fun h => ?_⟩⟩
      exact absurd (hb.2 (h y List.mem_cons_self)) (by decide)
    | false =>
      obtain ⟨v, e2, hv⟩ := index_is u (i + 1) (fun x hx => h x (List.mem_cons_of_mem _ hx))
      refine ⟨v, e2, hv.trans ?_⟩
      simp [hb.1 rfl]
theorem contains_is {u : List S24} (h : ∀ x ∈ u, rgs x) (hl : u.length ≤ 9223372036854775807) : ∃ b, slices_ContainsFunc_api_Rat_api_Rat_at20.g u false = some b ∧ (b = false ↔ ∀ x ∈ u, isD x) := by
  obtain ⟨v, e, hv⟩ := index_is u 0 h
  unfold slices_ContainsFunc_api_Rat_api_Rat_at20.g slices_IndexFunc_api_Rat_api_Rat_at20.g
  rw [if_pos hl, e, Option.bind_some]
  refine ⟨_, rfl, ?_⟩
  rw [decide_eq_false_iff_not, ← hv]
  omega
theorem times_tot {l : List S41} {p : S24} (hl : l.length < 8796093022208) (hr : ∀ x ∈ dl l p, rgs x) : ∃ r, run_Times.g l p = some r ∧ (r.2 = 0 → (∀ x ∈ dl l p, isD x) ∧ ∃ m, Run (dl l p) (0, 1) r.1 m) := by
  have hd : (dl l p).length = l.length + 1 := by simp [dl]
  obtain ⟨b, e, hb⟩ := contains_is hr (by omega)
  unfold run_Times.g
  rw [delays_is hl, Option.bind_some, e, Option.bind_some]
  cases b with
  | true => exact ⟨_, rfl, fun h => by cases h⟩
  | false =>
    rw [if_neg (by decide), if_pos (by omega)]
    obtain ⟨r, er, hr2⟩ := L_is (dl l p) [] (0, 1) hr ⟨by unfold rg; omega, by unfold rg; omega⟩
    refine ⟨r, er, fun h => ⟨hb.1 rfl, ?_⟩⟩
    obtain ⟨s, m, g1, g2⟩ := hr2 h
    exact ⟨m, by rw [g2]; exact g1⟩
theorem times_run {l : List S41} {p : S24} (hl : l.length < 8796093022208) (hr : ∀ x ∈ dl l p, rgs x) (hD : ∀ x ∈ dl l p, isD x) {s : List S24} {m : S24} (h : Run (dl l p) (0, 1) s m) : run_Times.g l p = some (s, 0) := by
  have hd : (dl l p).length = l.length + 1 := by simp [dl]
  obtain ⟨b, e, hb⟩ := contains_is hr (by omega)
  unfold run_Times.g
  rw [delays_is hl, Option.bind_some, e, Option.bind_some, hb.2 hD, if_neg (by decide), if_pos (by omega)]
  exact h.L []
end Go.Proofs.YtkmleeeekbdomaaGreatDoor.Q
