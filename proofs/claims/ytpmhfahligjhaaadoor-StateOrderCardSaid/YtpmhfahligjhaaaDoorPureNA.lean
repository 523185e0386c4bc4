/-
  Networks (net.Whole): what each look answers, as a specification over lists; there are rounds enough.
-/
import Derived.Test.YtpmhfahligjhaaaDoorPOrdx2
import Derived.Test.YtpmhfahligjhaaaDoorPOrdx3
import Derived.Test.YtpmhfahligjhaaaDoorPOrdx6
import Derived.Test.YtpmhfahligjhaaaDoorPOrdx7
import Derived.Test.YtpmhfahligjhaaaDoorPOrdx9
import Derived.Test.YtpmhfahligjhaaaDoorPOrdx10
import Derived.Test.YtpmhfahligjhaaaDoorPOrdx12
import Derived.Test.YtpmhfahligjhaaaDoorPOrdx13
import Derived.Test.YtpmhfahligjhaaaDoorPureXD
namespace Go.Proofs.YtpmhfahligjhaaaDoor.POrd
set_option linter.unusedVariables false
set_option linter.unusedSimpArgs false
open Go Go.RowKit Go.Proofs.YtpmhfahligjhaaaDoorW.PrintWords Go.Proofs.YtpmhfahligjhaaaDoorW.PrintMore
/-! Scanning a list. -/
theorem drop_at {α : Type} {xs : List α} {i : Nat} {x : α} {t : List α} (h : xs.drop i = x :: t) : i < xs.length ∧ xs[i]? = some x ∧ xs.drop (i + 1) = t := by
  have hi : i < xs.length := by
    rcases Nat.lt_or_ge i xs.length with h1 | h1
    · exact h1
    · rw [List.drop_eq_nil_of_le h1] at h; cases h
  rw [List.drop_eq_getElem_cons hi] at h
  injection h with h1 h2
  exact ⟨hi, by rw [List.getElem?_eq_getElem hi, h1], h2⟩
theorem getD_at {α : Type} {xs : List α} {i : Nat} {x : α} {t : List α} (h : xs.drop i = x :: t) (d : α) : xs.getD ((i : Int)).toNat d = x := by
  simp [List.getD, (drop_at h).2.1]
theorem w_succ {n : Nat} (h : n < 9223372036854775807) : wrap64 ((n : Int) + 1) = ((n + 1 : Nat) : Int) := by unfold wrap64; omega
theorem scan {α ρ : Type} {xs : List α} {L : Nat → Int → Option ρ} (S : List α → ρ) (h0 : Ev (fun k => L k (xs.length : Int)) (S []))
    (h1 : ∀ (i : Nat) (x : α) (t : List α), xs.drop i = x :: t → Ev (fun k => L k ((i + 1 : Nat) : Int)) (S t) → Ev (fun k => L k (i : Int)) (S (x :: t))) :
    ∀ n i, xs.length - i ≤ n → i ≤ xs.length → Ev (fun k => L k (i : Int)) (S (xs.drop i))
  | 0, i, hn, hi => by
    obtain rfl : i = xs.length := by omega
    rw [List.drop_eq_nil_of_le (Nat.le_refl _)]
    exact h0
  | n + 1, i, hn, hi => by
    rcases Nat.lt_or_ge i xs.length with h | h
    · have hd := List.drop_eq_getElem_cons h
      rw [hd]
      exact h1 i _ _ hd (scan S h0 h1 n (i + 1) (by omega) (by omega))
    · obtain rfl : i = xs.length := by omega
      rw [List.drop_eq_nil_of_le (Nat.le_refl _)]
      exact h0
theorem scan0 {α ρ : Type} {xs : List α} {L : Nat → Int → Option ρ} (S : List α → ρ) (h0 : Ev (fun k => L k (xs.length : Int)) (S []))
    (h1 : ∀ (i : Nat) (x : α) (t : List α), xs.drop i = x :: t → Ev (fun k => L k ((i + 1 : Nat) : Int)) (S t) → Ev (fun k => L k (i : Int)) (S (x :: t))) : Ev (fun k => L k 0) (S xs) := by
  have := scan S h0 h1 xs.length 0 (by omega) (Nat.zero_le _)
  simpa using this
/-- One round of a scan: the index is inside. -/
theorem inside {α : Type} {xs : List α} {i : Nat} {x : α} {t : List α} (h : xs.drop i = x :: t) (hb : xs.length ≤ 140737488351232) :
    (i : Int) < (xs.length : Int) ∧ (0 : Int) ≤ (i : Int) ∧ wrap64 ((i : Int) + 1) = ((i + 1 : Nat) : Int) := by
  have := (drop_at h).1
  exact ⟨by omega, by omega, w_succ (by omega)⟩

/-- One of two, by what a list's head is. -/
theorem any_cons_if {α : Type} (p : α → Bool) (x : α) (t : List α) (e R : Int) : (if List.any (x :: t) p = true then e else R) = if p x = true then e else if t.any p = true then e else R := by
  rw [List.any_cons]
  cases p x <;> simp
/-! What came in: lists no longer than memory. -/
abbrev cap : Nat := 140737488351232
def okE (e : S90) : Prop := e.f2.length ≤ cap ∧ e.f3.length ≤ cap ∧ e.f6.length ≤ cap ∧ opsOk e.f3 ∧ ∀ s ∈ e.f6, s.f3.length ≤ cap ∧ opsOk s.f3
def okA (a : S61) : Prop := a.f1.length ≤ cap ∧ a.f2.length ≤ cap ∧ (∀ l ∈ a.f1, l.f2.length ≤ cap) ∧ ∀ e ∈ a.f2, okE e
structure OkN (a : List ByteArray) (b : List S50) (c : List ByteArray) (d : List S61) : Prop where
  al : a.length ≤ cap
  bl : b.length ≤ cap
  cl : c.length ≤ cap
  dl : d.length ≤ cap
  each : ∀ x ∈ d, okA x
/-! some -/
def sSome (d : List S61) : Int := if d = [] then 2 else if d.any (fun x => x.f1.isEmpty) then 2 else 0
theorem some_idx {d : List S61} (hd : d.length ≤ cap) : ∃ v : Int, Ev (fun k => api_Auto_69_at50.f k d) v ∧ (d.any (fun x => x.f1.isEmpty) = decide (v ≥ 0)) := by
  have key : ∀ n i, d.length - i ≤ n → i ≤ d.length → ∃ v : Int, Ev (fun k => api_Auto_69_at50.l0 k d (d.length : Int) (i : Int)) v ∧ ((d.drop i).any (fun x => x.f1.isEmpty) = decide (v ≥ 0)) := by
    intro n
    induction n with
    | zero =>
      intro i h1 h2
      obtain rfl : i = d.length := by omega
      exact ⟨-1, Ev.step (fun k => by rw [api_Auto_69_at50.l0, if_neg (by omega)]) (Ev.now _), by simp⟩
    | succ n ih =>
      intro i h1 h2
      rcases Nat.lt_or_ge i d.length with h | h
      · have hd2 := List.drop_eq_getElem_cons h
        have hin := inside hd2 hd
        have hr : rd_T61 d (i : Int) = d[i] := getD_at hd2 _
        cases he : d[i].f1.isEmpty with
        | true =>
          refine ⟨(i : Int), Ev.step (fun k => by rw [api_Auto_69_at50.l0, if_pos hin.1, if_pos hin.2.1, if_pos hin.1, hr]; unfold net_some_1.f; rw [Option.bind_some, if_pos (by simpa [List.isEmpty_iff] using he)]) (Ev.now _), ?_⟩
          rw [hd2, List.any_cons, he]; simp
        | false =>
          obtain ⟨v, a1, a2⟩ := ih (i + 1) (by omega) (by omega)
          refine ⟨v, Ev.step (fun k => by rw [api_Auto_69_at50.l0, if_pos hin.1, if_pos hin.2.1, if_pos hin.1, hr]; unfold net_some_1.f; rw [Option.bind_some, if_neg (by simpa [List.isEmpty_iff] using he), hin.2.2]) a1, ?_⟩
          rw [hd2, List.any_cons, he, Bool.false_or]; exact a2
      · obtain rfl : i = d.length := by omega
        exact ⟨-1, Ev.step (fun k => by rw [api_Auto_69_at50.l0, if_neg (by omega)]) (Ev.now _), by simp⟩
  have := key d.length 0 (by omega) (Nat.zero_le _)
  simpa [api_Auto_69_at50.f] using this
theorem some_ev {a b c} {d : List S61} (hd : d.length ≤ cap) : Ev (fun k => net_some.f k a b c d) (sSome d) := by
  unfold sSome
  by_cases h0 : d = []
  · rw [if_pos h0]
    exact Ev.congr (fun k => by rw [net_some.f, if_pos (by subst h0; rfl)]) (Ev.now _)
  · rw [if_neg h0]
    obtain ⟨v, h1, h2⟩ := some_idx hd
    have hne : ¬ (d.length : Int) = 0 := fun h => h0 (List.eq_nil_of_length_eq_zero (by omega))
    refine Ev.congr (fun k => by (rw [net_some.f, if_neg hne]; try rfl)) (Ev.bind (a := d.any (fun x => x.f1.isEmpty)) ?_ ?_)
    · refine Ev.congr (fun k => by (unfold api_Auto_49_at50.f; rfl)) (Ev.bind h1 ?_)
      rw [h2]
      exact Ev.now _
    · cases d.any (fun x => x.f1.isEmpty) with
      | true => exact Ev.congr (fun k => by rw [if_pos rfl]) (Ev.now 2)
      | false => exact Ev.congr (fun k => by rw [if_neg (by decide)]) (Ev.now 0)
/-! sizes -/
def longE (e : S90) : Bool := decide (e.f2.length > 16) || decide (e.f6.length > 16) || decide (e.f3.length > 64) || e.f6.any (fun s => decide (s.f3.length > 64))
def longA (x : S61) : Bool := decide (x.f1.length > 64) || decide (x.f2.length > 256) || x.f1.any (fun l => decide (l.f2.length > 16)) || x.f2.any longE
def sSizes (a : List ByteArray) (b : List S50) (c : List ByteArray) (d : List S61) : Int :=
  if a.length > 8 ∨ b.length > 16 ∨ c.length > 16 ∨ d.length > 8 then 6 else if d.any longA then 6 else 0
theorem sizes_ev {a : List ByteArray} {b : List S50} {c : List ByteArray} {d : List S61} (h : OkN a b c d) : Ev (fun k => net_sizes.f k a b c d) (sSizes a b c d) := by
  have hl3 : ∀ (xs : List S61) n i es m j (ss : List S92) (R : Int), ss.length ≤ cap → Ev (fun k => net_sizes.l2 k xs n i es m (wrap64 (j + 1))) R →
      Ev (fun k => net_sizes.l3 k xs n i es m j ss (ss.length : Int) 0) (if ss.any (fun s => decide (s.f3.length > 64)) then 6 else R) := by
    intro xs n i es m j ss R hs hR
    refine scan0 (xs := ss) (L := fun k q => net_sizes.l3 k xs n i es m j ss (ss.length : Int) q) (fun t => if t.any (fun s => decide (s.f3.length > 64)) then 6 else R) ?_ ?_
    · exact Ev.step (fun k => by rw [net_sizes.l3, if_neg (by omega)]) hR
    · intro q x t hd ih
      have hin := inside hd hs
      have hr : rd_T92 ss (q : Int) = x := getD_at hd _
      by_cases hx : x.f3.length > 64
      · have e1 : (List.any (x :: t) fun s => decide (s.f3.length > 64)) = true := by rw [List.any_cons, decide_eq_true hx, Bool.true_or]
        simp only [e1, if_true]
        exact Ev.step (fun k => by rw [net_sizes.l3, if_pos hin.1, if_pos hin.2.1, if_pos hin.1, hr, if_pos (by omega)]) (Ev.now _)
      · have e1 : (List.any (x :: t) fun s => decide (s.f3.length > 64)) = t.any fun s => decide (s.f3.length > 64) := by rw [List.any_cons, decide_eq_false hx, Bool.false_or]
        simp only [e1]
        exact Ev.step (fun k => by rw [net_sizes.l3, if_pos hin.1, if_pos hin.2.1, if_pos hin.1, hr, if_neg (by omega), hin.2.2]) ih
  have hl2 : ∀ (xs : List S61) n i (es : List S90) (R : Int), es.length ≤ cap → (∀ e ∈ es, okE e) → Ev (fun k => net_sizes.l0 k xs n (wrap64 (i + 1))) R →
      Ev (fun k => net_sizes.l2 k xs n i es (es.length : Int) 0) (if es.any longE then 6 else R) := by
    intro xs n i es R hs hes hR
    refine scan0 (xs := es) (L := fun k q => net_sizes.l2 k xs n i es (es.length : Int) q) (fun t => if t.any longE then 6 else R) ?_ ?_
    · exact Ev.step (fun k => by rw [net_sizes.l2, if_neg (by omega)]) hR
    · intro q x t hd ih
      have hin := inside hd hs
      have hr : rd_T90 es (q : Int) = x := getD_at hd _
      have hok : okE x := hes x (List.mem_of_getElem? (drop_at hd).2.1)
      have bad : ∀ f0 f1 f2 f3 f4 f5 f6, Ev (fun k => net_sizes.j5 k xs n i es (es.length : Int) (q : Int) true f0 f1 f2 f3 f4 f5 f6) 6 := fun f0 f1 f2 f3 f4 f5 f6 => Ev.step (fun k => by rw [net_sizes.j5, if_pos rfl]) (Ev.now _)
      have st : ∀ {g : Nat → Option Int} {r : Int}, (∀ k, (if (x.f2.length : Int) > 16 then net_sizes.j5 k xs n i es (es.length : Int) (q : Int) true x.f0 x.f1 x.f2 x.f3 x.f4 x.f5 x.f6 else if (x.f6.length : Int) > 16 then net_sizes.j5 k xs n i es (es.length : Int) (q : Int) true x.f0 x.f1 x.f2 x.f3 x.f4 x.f5 x.f6 else net_sizes.j5 k xs n i es (es.length : Int) (q : Int) (decide ((x.f3.length : Int) > 64)) x.f0 x.f1 x.f2 x.f3 x.f4 x.f5 x.f6) = g k) → Ev g r → Ev (fun k => net_sizes.l2 k xs n i es (es.length : Int) (q : Int)) r :=
        fun hg hr2 => Ev.step (fun k => by rw [net_sizes.l2, if_pos hin.1, if_pos hin.2.1, if_pos hin.1, hr]; exact hg k) hr2
      by_cases h1 : x.f2.length > 16
      · have e1 : List.any (x :: t) longE = true := by rw [List.any_cons]; unfold longE; rw [decide_eq_true h1]; simp
        simp only [e1, if_true]
        exact st (fun k => by rw [if_pos (by omega)]) (bad _ _ _ _ _ _ _)
      by_cases h2 : x.f6.length > 16
      · have e1 : List.any (x :: t) longE = true := by rw [List.any_cons]; unfold longE; rw [decide_eq_true h2]; simp
        simp only [e1, if_true]
        exact st (fun k => by rw [if_neg (by omega), if_pos (by omega)]) (bad _ _ _ _ _ _ _)
      by_cases h3 : x.f3.length > 64
      · have e1 : List.any (x :: t) longE = true := by rw [List.any_cons]; unfold longE; rw [decide_eq_true h3]; simp
        simp only [e1, if_true]
        exact st (fun k => by rw [if_neg (by omega), if_neg (by omega), decide_eq_true (show (x.f3.length : Int) > 64 by omega)]) (bad _ _ _ _ _ _ _)
      · have e2 : longE x = x.f6.any (fun s => decide (s.f3.length > 64)) := by unfold longE; rw [decide_eq_false h1, decide_eq_false h2, decide_eq_false h3]; simp
        have e1 : (if List.any (x :: t) longE = true then (6 : Int) else R) = if x.f6.any (fun s => decide (s.f3.length > 64)) = true then 6 else if t.any longE = true then 6 else R := by
          rw [List.any_cons, e2]
          cases x.f6.any (fun s => decide (s.f3.length > 64)) <;> simp
        simp only [e1]
        refine st (fun k => by rw [if_neg (by omega), if_neg (by omega), decide_eq_false (show ¬ (x.f3.length : Int) > 64 by omega)]) (Ev.step (fun k => by (rw [net_sizes.j5, if_neg (by decide)]; try rfl)) (hl3 _ _ _ _ _ _ _ _ hok.2.2.1 ?_))
        rw [hin.2.2]
        exact ih
  have hl1 : ∀ (xs : List S61) n i (ls : List S57) f0 f1 (f2 : List S90) (R : Int), ls.length ≤ cap → Ev (fun k => net_sizes.l2 k xs n i f2 (f2.length : Int) 0) R →
      Ev (fun k => net_sizes.l1 k xs n i ls (ls.length : Int) 0 f0 f1 f2) (if ls.any (fun l => decide (l.f2.length > 16)) then 6 else R) := by
    intro xs n i ls f0 f1 f2 R hs hR
    refine scan0 (xs := ls) (L := fun k q => net_sizes.l1 k xs n i ls (ls.length : Int) q f0 f1 f2) (fun t => if t.any (fun l => decide (l.f2.length > 16)) then 6 else R) ?_ ?_
    · exact Ev.step (fun k => by rw [net_sizes.l1, if_neg (by omega)]) hR
    · intro q x t hd ih
      have hin := inside hd hs
      have hr : rd_T57 ls (q : Int) = x := getD_at hd _
      by_cases hx : x.f2.length > 16
      · have e1 : (List.any (x :: t) fun l => decide (l.f2.length > 16)) = true := by rw [List.any_cons, decide_eq_true hx, Bool.true_or]
        simp only [e1, if_true]
        exact Ev.step (fun k => by rw [net_sizes.l1, if_pos hin.1, if_pos hin.2.1, if_pos hin.1, hr, if_pos (by omega)]) (Ev.now _)
      · have e1 : (List.any (x :: t) fun l => decide (l.f2.length > 16)) = t.any fun l => decide (l.f2.length > 16) := by rw [List.any_cons, decide_eq_false hx, Bool.false_or]
        simp only [e1]
        exact Ev.step (fun k => by rw [net_sizes.l1, if_pos hin.1, if_pos hin.2.1, if_pos hin.1, hr, if_neg (by omega), hin.2.2]) ih
  have hl0 : Ev (fun k => net_sizes.l0 k d (d.length : Int) 0) (if d.any longA then 6 else 0) := by
    refine scan0 (xs := d) (L := fun k q => net_sizes.l0 k d (d.length : Int) q) (fun t => if t.any longA then 6 else 0) ?_ ?_
    · exact Ev.step (fun k => by rw [net_sizes.l0, if_neg (by omega)]; rfl) (Ev.now _)
    · intro q x t hd ih
      have hin := inside hd h.dl
      have hr : rd_T61 d (q : Int) = x := getD_at hd _
      have hok : okA x := h.each x (List.mem_of_getElem? (drop_at hd).2.1)
      have bad : Ev (fun k => net_sizes.j2 k d (d.length : Int) (q : Int) true x.f0 x.f1 x.f2) 6 := Ev.step (fun k => by rw [net_sizes.j2, if_pos rfl]) (Ev.now _)
      have st : ∀ {g : Nat → Option Int} {r : Int}, (∀ k, (if (x.f1.length : Int) > 64 then net_sizes.j2 k d (d.length : Int) (q : Int) true x.f0 x.f1 x.f2 else net_sizes.j2 k d (d.length : Int) (q : Int) (decide ((x.f2.length : Int) > 256)) x.f0 x.f1 x.f2) = g k) → Ev g r → Ev (fun k => net_sizes.l0 k d (d.length : Int) (q : Int)) r :=
        fun hg hr2 => Ev.step (fun k => by rw [net_sizes.l0, if_pos hin.1, if_pos hin.2.1, if_pos hin.1, hr]; exact hg k) hr2
      by_cases h1 : x.f1.length > 64
      · have e1 : List.any (x :: t) longA = true := by rw [List.any_cons]; unfold longA; rw [decide_eq_true h1]; simp
        simp only [e1, if_true]
        exact st (fun k => by rw [if_pos (by omega)]) bad
      by_cases h2 : x.f2.length > 256
      · have e1 : List.any (x :: t) longA = true := by rw [List.any_cons]; unfold longA; rw [decide_eq_true h2]; simp
        simp only [e1, if_true]
        exact st (fun k => by rw [if_neg (by omega), decide_eq_true (show (x.f2.length : Int) > 256 by omega)]) bad
      · have e1 : (if List.any (x :: t) longA = true then (6 : Int) else 0) = if x.f1.any (fun l => decide (l.f2.length > 16)) = true then 6 else if x.f2.any longE = true then 6 else if t.any longA = true then 6 else 0 := by
          rw [List.any_cons]
          unfold longA
          rw [decide_eq_false h1, decide_eq_false h2]
          cases x.f1.any (fun l => decide (l.f2.length > 16)) <;> cases x.f2.any longE <;> simp
        simp only [e1]
        refine st (fun k => by rw [if_neg (by omega), decide_eq_false (show ¬ (x.f2.length : Int) > 256 by omega)]) (Ev.step (fun k => by (rw [net_sizes.j2, if_neg (by decide)]; try rfl)) (hl1 _ _ _ _ _ _ _ _ hok.1 (hl2 _ _ _ _ _ hok.2.1 hok.2.2.2 ?_)))
        rw [hin.2.2]
        exact ih
  unfold sSizes
  have bad : Ev (fun k => net_sizes.j0 k true a b c d) 6 := Ev.step (fun k => by rw [net_sizes.j0, if_pos rfl]) (Ev.now _)
  by_cases ha : a.length > 8
  · rw [if_pos (by omega)]
    exact Ev.congr (fun k => by rw [net_sizes.f, if_pos (by omega)]) bad
  by_cases hb : b.length > 16
  · rw [if_pos (by omega)]
    exact Ev.congr (fun k => by rw [net_sizes.f, if_neg (by omega), if_pos (by omega)]) bad
  by_cases hc : c.length > 16
  · rw [if_pos (by omega)]
    exact Ev.congr (fun k => by rw [net_sizes.f, if_neg (by omega), if_neg (by omega), if_pos (by omega)]) bad
  by_cases hd : d.length > 8
  · rw [if_pos (by omega)]
    exact Ev.congr (fun k => by rw [net_sizes.f, if_neg (by omega), if_neg (by omega), if_neg (by omega), decide_eq_true (show (d.length : Int) > 8 by omega)]) bad
  · rw [if_neg (by omega)]
    exact Ev.congr (fun k => by rw [net_sizes.f, if_neg (by omega), if_neg (by omega), if_neg (by omega), decide_eq_false (show ¬ (d.length : Int) > 8 by omega)]) (Ev.step (fun k => by (rw [net_sizes.j0, if_neg (by decide)]; try rfl)) hl0)
end Go.Proofs.YtpmhfahligjhaaaDoor.POrd
