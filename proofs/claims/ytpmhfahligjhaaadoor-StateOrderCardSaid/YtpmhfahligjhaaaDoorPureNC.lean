/-
  Networks (net.Whole), at last: edges, guards, sets, clocks, forms, tests; the whole.
-/
import Derived.Test.YtpmhfahligjhaaaDoorPureNB
namespace Go.Proofs.YtpmhfahligjhaaaDoor.POrd
set_option linter.unusedVariables false
set_option linter.unusedSimpArgs false
open Go Go.RowKit Go.Proofs.YtpmhfahligjhaaaDoorW.PrintWords Go.Proofs.YtpmhfahligjhaaaDoorW.PrintMore
/-! Edges -/
def badE (nc nl : Nat) (e : S90) : Bool := !(decide (0 ≤ e.f0) && decide (e.f0 < (nl : Int))) || !(decide (0 ≤ e.f1) && decide (e.f1 < (nl : Int))) || decide (e.f4 < 0) || decide (e.f4 > (nc : Int)) || (e.f5 && decide (e.f4 = 0))
theorem edges_ev {a : List ByteArray} {b : List S50} {c : List ByteArray} {d : List S61} (h : OkN a b c d) : Ev (fun k => net_edges.f k a b c d) (if d.any (fun x => x.f2.any (badE c.length x.f1.length)) then 123 else 0) := by
  refine scan0 (xs := d) (L := fun k i => net_edges.l0 k d (d.length : Int) i a b c d) (fun t => if t.any (fun x => x.f2.any (badE c.length x.f1.length)) then 123 else 0) ?_ ?_
  · exact Ev.step (fun k => by rw [net_edges.l0, if_neg (by omega)]; rfl) (Ev.now _)
  · intro i x t hdr ih
    have hin := inside hdr h.dl
    have hx := h.each x (List.mem_of_getElem? (drop_at hdr).2.1)
    refine Ev.step (fun k => by rw [net_edges.l0, if_pos hin.1, if_pos hin.2.1, if_pos hin.1, show rd_T61 d (i : Int) = x from getD_at hdr _]) ?_
    rw [any_cons_if]
    refine scan0 (xs := x.f2) (L := fun k j => net_edges.l1 k d (d.length : Int) (i : Int) x.f2 (x.f2.length : Int) j a b c d x.f0 x.f1 x.f2) (fun es => if es.any (badE c.length x.f1.length) = true then 123 else if (t.any (fun x => x.f2.any (badE c.length x.f1.length))) = true then 123 else 0) ?_ ?_
    · exact Ev.step (fun k => by rw [net_edges.l1, if_neg (by omega), hin.2.2]) ih
    · intro j e u hdl ih2
      have hin2 := inside hdl hx.2.1
      have hr : rd_T90 x.f2 (j : Int) = e := getD_at hdl _
      rw [any_cons_if]
      have st : ∀ {r}, Ev (fun k => (net_edges_1.f e.f0 x.f1).bind fun t376 => (if t376 = true then ((net_edges_1.f e.f1 x.f1).bind fun t377 => (if t377 = true then (if e.f4 < 0 then (some 123) else (if e.f4 > (c.length : Int) then (some 123) else (if e.f5 = true then (if e.f4 = 0 then (some 123) else (net_edges.l1 k d (d.length : Int) (i : Int) x.f2 (x.f2.length : Int) ((j + 1 : Nat) : Int) a b c d x.f0 x.f1 x.f2)) else (net_edges.l1 k d (d.length : Int) (i : Int) x.f2 (x.f2.length : Int) ((j + 1 : Nat) : Int) a b c d x.f0 x.f1 x.f2)))) else (some 123))) else (some 123))) r →
          Ev (fun k => net_edges.l1 k d (d.length : Int) (i : Int) x.f2 (x.f2.length : Int) (j : Int) a b c d x.f0 x.f1 x.f2) r :=
        fun hr2 => Ev.step (fun k => by rw [net_edges.l1, if_pos hin2.1, if_pos hin2.2.1, if_pos hin2.1, hr, hin2.2.2]) hr2
      apply st
      unfold net_edges_1.f badE
      simp only [Option.bind_some]
      cases decide (0 ≤ e.f0) && decide (e.f0 < (x.f1.length : Int)) with
      | false => exact Ev.congr (fun k => by rw [if_neg (by decide)]) (by simpa using Ev.now (123 : Int))
      | true =>
        cases decide (0 ≤ e.f1) && decide (e.f1 < (x.f1.length : Int)) with
        | false => exact Ev.congr (fun k => by rw [if_pos rfl, if_neg (by decide)]) (by simpa using Ev.now (123 : Int))
        | true =>
          by_cases h4 : e.f4 < 0
          · exact Ev.congr (fun k => by rw [if_pos rfl, if_pos rfl, if_pos h4]) (by rw [decide_eq_true h4]; simpa using Ev.now (123 : Int))
          by_cases h5 : e.f4 > (c.length : Int)
          · exact Ev.congr (fun k => by rw [if_pos rfl, if_pos rfl, if_neg h4, if_pos h5]) (by rw [decide_eq_true h5]; simpa using Ev.now (123 : Int))
          rw [decide_eq_false h4, decide_eq_false h5]
          cases e.f5 with
          | false => exact Ev.congr (fun k => by rw [if_pos rfl, if_pos rfl, if_neg h4, if_neg h5, if_neg (by decide)]) (by simpa [badE] using ih2)
          | true =>
            by_cases h6 : e.f4 = 0
            · exact Ev.congr (fun k => by rw [if_pos rfl, if_pos rfl, if_neg h4, if_neg h5, if_pos rfl, if_pos h6]) (by rw [decide_eq_true h6]; simpa using Ev.now (123 : Int))
            · exact Ev.congr (fun k => by rw [if_pos rfl, if_pos rfl, if_neg h4, if_neg h5, if_pos rfl, if_neg h6]) (by rw [decide_eq_false h6]; simpa [badE] using ih2)
/-! Guards and sets, all in one row -/
def guardsL (d : List S61) : List S118 := d.flatMap fun x => (x.f1.flatMap fun l => l.f2) ++ x.f2.flatMap fun e => e.f2
def setsL (d : List S61) : List S92 := d.flatMap fun x => x.f2.flatMap fun e => e.f6
/-- Few enough of all. -/
structure Few (d : List S61) : Prop where
  dd : d.length ≤ 8
  l : ∀ x ∈ d, x.f1.length ≤ 64
  e : ∀ x ∈ d, x.f2.length ≤ 256
  i : ∀ x ∈ d, ∀ l ∈ x.f1, l.f2.length ≤ 16
  g : ∀ x ∈ d, ∀ e ∈ x.f2, e.f2.length ≤ 16
  s : ∀ x ∈ d, ∀ e ∈ x.f2, e.f6.length ≤ 16
  t : ∀ x ∈ d, ∀ e ∈ x.f2, e.f3.length ≤ 64
  n : ∀ x ∈ d, ∀ e ∈ x.f2, ∀ s ∈ e.f6, s.f3.length ≤ 64
theorem guards_len {d : List S61} (h : Few d) : (guardsL d).length ≤ 40960 := by
  have h1 : ∀ x ∈ d, ((x.f1.flatMap fun l => l.f2) ++ x.f2.flatMap fun e => e.f2).length ≤ 5120 := fun x hx => by
    have a1 := flatMap_len (f := fun l : S57 => l.f2) (m := 16) (xs := x.f1) (h.i x hx)
    have a2 := flatMap_len (f := fun e : S90 => e.f2) (m := 16) (xs := x.f2) (h.g x hx)
    have := h.l x hx
    have := h.e x hx
    rw [List.length_append]
    omega
  have := flatMap_len h1
  have := h.dd
  unfold guardsL
  omega
theorem sets_len {d : List S61} (h : Few d) : (setsL d).length ≤ 32768 := by
  have h1 : ∀ x ∈ d, (x.f2.flatMap fun e => e.f6).length ≤ 4096 := fun x hx => by
    have a2 := flatMap_len (f := fun e : S90 => e.f6) (m := 16) (xs := x.f2) (h.s x hx)
    have := h.e x hx
    omega
  have := flatMap_len h1
  have := h.dd
  unfold setsL
  omega
theorem guards_ev {a b c} {d : List S61} (h : Few d) : Ev (fun k => net_guards.f k a b c d) (guardsL d) := by
  have hB := guards_len h
  show Ev (fun k => net_guards.l0 k [] d (d.length : Int) 0) _
  refine collect0 (xs := d) (L := fun k acc i => net_guards.l0 k acc d (d.length : Int) i) (fun x => (x.f1.flatMap fun l => l.f2) ++ x.f2.flatMap fun e => e.f2) 40960 (guardsL d) ?_ ?_ hB (by simp [guardsL])
  · exact Ev.step (fun k => by rw [net_guards.l0, if_neg (by omega)]) (Ev.now _)
  · intro acc i x t hdr hlen ih
    have hd8 := h.dd
    have hin := inside hdr (by omega)
    have hx := List.mem_of_getElem? (drop_at hdr).2.1
    have hl := h.l x hx
    have he := h.e x hx
    refine Ev.step (fun k => by rw [net_guards.l0, if_pos hin.1, if_pos hin.2.1, if_pos hin.1, show rd_T61 d (i : Int) = x from getD_at hdr _]) ?_
    rw [List.length_append, List.length_append] at hlen
    refine collect0 (xs := x.f1) (L := fun k acc2 j => net_guards.l1 k acc2 d (d.length : Int) (i : Int) x.f1 (x.f1.length : Int) j x.f0 x.f1 x.f2) (fun l => l.f2) 40960 (acc ++ x.f1.flatMap fun l => l.f2) ?_ ?_ (by rw [List.length_append]; omega) (by simp)
    · refine Ev.step (fun k => by rw [net_guards.l1, if_neg (by omega)]) ?_
      refine collect0 (xs := x.f2) (L := fun k acc2 j => net_guards.l2 k acc2 d (d.length : Int) (i : Int) x.f2 (x.f2.length : Int) j) (fun e => e.f2) 40960 ((acc ++ x.f1.flatMap fun l => l.f2) ++ x.f2.flatMap fun e => e.f2) ?_ ?_ (by rw [List.length_append, List.length_append]; omega) (by simp)
      · refine Ev.step (fun k => by rw [net_guards.l2, if_neg (by omega), hin.2.2]) ?_
        rw [List.append_assoc]
        exact ih
      · intro acc2 j e u hde hlen2 ih2
        have hin2 := inside hde (by omega)
        rw [List.length_append] at hlen2
        exact Ev.step (fun k => by rw [net_guards.l2, if_pos hin2.1, if_pos hin2.2.1, if_pos hin2.1, show rd_T90 x.f2 (j : Int) = e from getD_at hde _, if_pos (by omega), hin2.2.2]) ih2
    · intro acc2 j l u hdl hlen2 ih2
      have hin2 := inside hdl (by omega)
      rw [List.length_append] at hlen2
      exact Ev.step (fun k => by rw [net_guards.l1, if_pos hin2.1, if_pos hin2.2.1, if_pos hin2.1, show rd_T57 x.f1 (j : Int) = l from getD_at hdl _, if_pos (by omega), hin2.2.2]) ih2
theorem sets_ev {a b c} {d : List S61} (h : Few d) : Ev (fun k => net_sets.f k a b c d) (setsL d) := by
  have hB := sets_len h
  show Ev (fun k => net_sets.l0 k [] d (d.length : Int) 0) _
  refine collect0 (xs := d) (L := fun k acc i => net_sets.l0 k acc d (d.length : Int) i) (fun x => x.f2.flatMap fun e => e.f6) 32768 (setsL d) ?_ ?_ hB (by simp [setsL])
  · exact Ev.step (fun k => by rw [net_sets.l0, if_neg (by omega)]) (Ev.now _)
  · intro acc i x t hdr hlen ih
    have hd8 := h.dd
    have hin := inside hdr (by omega)
    have hx := List.mem_of_getElem? (drop_at hdr).2.1
    have he := h.e x hx
    refine Ev.step (fun k => by rw [net_sets.l0, if_pos hin.1, if_pos hin.2.1, if_pos hin.1, show rd_T61 d (i : Int) = x from getD_at hdr _]) ?_
    rw [List.length_append] at hlen
    refine collect0 (xs := x.f2) (L := fun k acc2 j => net_sets.l1 k acc2 d (d.length : Int) (i : Int) x.f2 (x.f2.length : Int) j) (fun e => e.f6) 32768 (acc ++ x.f2.flatMap fun e => e.f6) ?_ ?_ (by rw [List.length_append]; omega) (by simp)
    · exact Ev.step (fun k => by rw [net_sets.l1, if_neg (by omega), hin.2.2]) ih
    · intro acc2 j e u hde hlen2 ih2
      have hin2 := inside hde (by omega)
      rw [List.length_append] at hlen2
      exact Ev.step (fun k => by rw [net_sets.l1, if_pos hin2.1, if_pos hin2.2.1, if_pos hin2.1, show rd_T90 x.f2 (j : Int) = e from getD_at hde _, if_pos (by omega), hin2.2.2]) ih2
/-! Clocks -/
def isC (n : Nat) (c : Int) : Bool := decide (c ≥ 1) && decide (c ≤ (n : Int))
theorem isC_eq {a : List ByteArray} {b c d} (x : Int) : net_isClock.f a b c d x = some (isC a.length x) := by
  unfold net_isClock.f isC
  by_cases h : x ≥ 1
  · rw [if_pos h, decide_eq_true h, Bool.true_and]
  · rw [if_neg h, decide_eq_false h, Bool.false_and]
def badC (n : Nat) (g : S118) : Bool := !isC n g.f0 || (!decide (g.f1 = 0) && !isC n g.f1)
theorem clocksOf_ev {a b c d} {gs : List S118} (hg : gs.length ≤ cap) : Ev (fun k => net_clocksOf.f k a b c d gs) (if gs.any (badC a.length) then 12 else 0) := by
  refine scan0 (xs := gs) (L := fun k i => net_clocksOf.l0 k gs (gs.length : Int) i a b c d) (fun t => if t.any (badC a.length) then 12 else 0) ?_ ?_
  · exact Ev.step (fun k => by rw [net_clocksOf.l0, if_neg (by omega)]; rfl) (Ev.now _)
  · intro i x t hdr ih
    have hin := inside hdr hg
    refine Ev.step (fun k => by rw [net_clocksOf.l0, if_pos hin.1, if_pos hin.2.1, if_pos hin.1, show rd_T118 gs (i : Int) = x from getD_at hdr _, isC_eq, isC_eq, Option.bind_some, Option.bind_some, hin.2.2]) ?_
    rw [any_cons_if]
    unfold badC
    cases isC a.length x.f0 with
    | false => exact Ev.congr (fun k => by rw [if_neg (by decide)]) (by simpa using Ev.now (12 : Int))
    | true =>
      by_cases h0 : x.f1 = 0
      · exact Ev.congr (fun k => by rw [if_pos rfl, if_pos h0]) (by rw [decide_eq_true h0]; simpa [badC] using ih)
      · rw [decide_eq_false h0]
        cases isC a.length x.f1 with
        | false => exact Ev.congr (fun k => by rw [if_pos rfl, if_neg h0, if_neg (by decide)]) (by simpa using Ev.now (12 : Int))
        | true => exact Ev.congr (fun k => by rw [if_pos rfl, if_neg h0, if_pos rfl]) (by simpa [badC] using ih)
def badS (n : Nat) (s : S92) : Bool := !decide (s.f0 = 0) && !isC n s.f0
def sClocks (a : List ByteArray) (d : List S61) : Int := if (guardsL d).any (badC a.length) then 12 else if (setsL d).any (badS a.length) then 12 else 0
theorem clocks_ev {a : List ByteArray} {b c} {d : List S61} (h : Few d) : Ev (fun k => net_clocks.f k a b c d) (sClocks a d) := by
  have l1 := guards_len h
  have l2 := sets_len h
  have hcl := clocksOf_ev (a := a) (b := b) (c := c) (d := d) (gs := guardsL d) (show _ ≤ 140737488351232 by omega)
  unfold sClocks
  cases hb : (guardsL d).any (badC a.length) with
  | true =>
    rw [hb, if_pos rfl] at hcl
    rw [if_pos rfl]
    refine Ev.congr (fun k => by rw [net_clocks.f]) (Ev.bind (guards_ev h) (Ev.bind hcl ?_))
    exact Ev.congr (fun k => by rw [if_neg (by decide)]) (Ev.now _)
  | false =>
    rw [hb, if_neg (by decide)] at hcl
    rw [if_neg (by decide)]
    refine Ev.congr (fun k => by rw [net_clocks.f]) (Ev.bind (guards_ev h) (Ev.bind hcl ?_))
    refine Ev.congr (fun k => by rw [if_pos rfl]) ?_
    refine Ev.bind (sets_ev h) ?_
    refine scan0 (xs := setsL d) (L := fun k i => net_clocks.l0 k (setsL d) ((setsL d).length : Int) i a b c d) (fun t => if t.any (badS a.length) then 12 else 0) ?_ ?_
    · exact Ev.step (fun k => by rw [net_clocks.l0, if_neg (by omega)]; rfl) (Ev.now _)
    · intro i x t hdr ih
      have hin := inside hdr (by omega)
      refine Ev.step (fun k => by rw [net_clocks.l0, if_pos hin.1, if_pos hin.2.1, if_pos hin.1, show rd_T92 (setsL d) (i : Int) = x from getD_at hdr _, isC_eq, Option.bind_some, hin.2.2]) ?_
      rw [any_cons_if]
      unfold badS
      by_cases h0 : x.f0 = 0
      · exact Ev.congr (fun k => by rw [if_pos h0]) (by rw [decide_eq_true h0]; simpa [badS] using ih)
      · rw [decide_eq_false h0]
        cases isC a.length x.f0 with
        | false => exact Ev.congr (fun k => by rw [if_neg h0, if_neg (by decide)]) (by simpa using Ev.now (12 : Int))
        | true => exact Ev.congr (fun k => by rw [if_neg h0, if_pos rfl]) (by simpa [badS] using ih)
/-! Forms -/
def badF (g : S118) : Bool := decide (g.f2 < 1) || decide (g.f2 > 5)
theorem cmps_ev {gs : List S118} (hg : gs.length ≤ cap) : Ev (fun k => net_cmps.f k gs) (if gs.any badF then 7 else 0) := by
  refine scan0 (xs := gs) (L := fun k i => net_cmps.l0 k gs (gs.length : Int) i) (fun t => if t.any badF then 7 else 0) ?_ ?_
  · exact Ev.step (fun k => by rw [net_cmps.l0, if_neg (by omega)]; rfl) (Ev.now _)
  · intro i x t hdr ih
    have hin := inside hdr hg
    refine Ev.step (fun k => by rw [net_cmps.l0, if_pos hin.1, if_pos hin.2.1, if_pos hin.1, show rd_T118 gs (i : Int) = x from getD_at hdr _, hin.2.2]) ?_
    rw [any_cons_if]
    unfold badF
    by_cases h1 : x.f2 < 1
    · exact Ev.congr (fun k => by rw [if_pos h1]) (by rw [decide_eq_true h1]; simpa using Ev.now (7 : Int))
    by_cases h2 : x.f2 > 5
    · exact Ev.congr (fun k => by rw [if_neg h1, if_pos h2]) (by rw [decide_eq_true h2]; simpa using Ev.now (7 : Int))
    · exact Ev.congr (fun k => by rw [if_neg h1, if_neg h2]) (by rw [decide_eq_false h1, decide_eq_false h2]; simpa [badF] using ih)
def badG (s : S92) : Bool := (decide (s.f0 = 0) && !decide (s.f1 = 0)) || (!decide (s.f0 = 0) && (!decide (s.f2 = 0) || decide (s.f3.length > 0)))
def sForms (d : List S61) : Int := if (guardsL d).any badF then 7 else if (setsL d).any badG then 7 else 0
theorem forms_ev {a b c} {d : List S61} (h : Few d) : Ev (fun k => net_forms.f k a b c d) (sForms d) := by
  have l1 := guards_len h
  have l2 := sets_len h
  have hcl := cmps_ev (gs := guardsL d) (show _ ≤ 140737488351232 by omega)
  unfold sForms
  cases hb : (guardsL d).any badF with
  | true =>
    rw [hb, if_pos rfl] at hcl
    rw [if_pos rfl]
    refine Ev.congr (fun k => by rw [net_forms.f]) (Ev.bind (guards_ev h) (Ev.bind hcl ?_))
    exact Ev.congr (fun k => by rw [if_neg (by decide)]) (Ev.now _)
  | false =>
    rw [hb, if_neg (by decide)] at hcl
    rw [if_neg (by decide)]
    refine Ev.congr (fun k => by rw [net_forms.f]) (Ev.bind (guards_ev h) (Ev.bind hcl ?_))
    refine Ev.congr (fun k => by rw [if_pos rfl]) ?_
    refine Ev.bind (sets_ev h) ?_
    refine scan0 (xs := setsL d) (L := fun k i => net_forms.l0 k (setsL d) ((setsL d).length : Int) i) (fun t => if t.any badG then 7 else 0) ?_ ?_
    · exact Ev.step (fun k => by rw [net_forms.l0, if_neg (by omega)]; rfl) (Ev.now _)
    · intro i x t hdr ih
      have hin := inside hdr (by omega)
      refine Ev.step (fun k => by rw [net_forms.l0, if_pos hin.1, if_pos hin.2.1, if_pos hin.1, show rd_T92 (setsL d) (i : Int) = x from getD_at hdr _, hin.2.2]) ?_
      rw [any_cons_if]
      unfold badG
      by_cases h0 : x.f0 = 0
      · rw [decide_eq_true h0]
        by_cases h1 : x.f1 = 0
        · exact Ev.congr (fun k => by rw [if_pos h0, if_pos h1]) (by rw [decide_eq_true h1]; simpa [badG] using ih)
        · exact Ev.congr (fun k => by rw [if_pos h0, if_neg h1]) (by rw [decide_eq_false h1]; simpa using Ev.now (7 : Int))
      · rw [decide_eq_false h0]
        by_cases h1 : x.f2 = 0
        · by_cases h2 : x.f3.length > 0
          · exact Ev.congr (fun k => by rw [if_neg h0, if_pos h1, if_pos (by omega)]) (by rw [decide_eq_true h1, decide_eq_true h2]; simpa using Ev.now (7 : Int))
          · exact Ev.congr (fun k => by rw [if_neg h0, if_pos h1, if_neg (by omega)]) (by rw [decide_eq_true h1, decide_eq_false h2]; simpa [badG] using ih)
        · exact Ev.congr (fun k => by rw [if_neg h0, if_neg h1]) (by rw [decide_eq_false h1]; simpa using Ev.now (7 : Int))
/-! Tests -/
open Classical in
noncomputable def sRight (l : List S122) (n : Int) : Int := if Good l n then 0 else 121
theorem right_ev {l : List S122} (ho : opsOk l) {n : Int} (hn : 0 ≤ n ∧ n ≤ 140737488355328) : Ev (fun k => expr_Right.f k l n) (sRight l n) := by
  obtain ⟨c, h1, _, h3, h4⟩ := right_both ho hn
  unfold sRight
  by_cases hg : Good l n
  · rw [if_pos hg]; rw [← h4.2 hg]; exact h1
  · rw [if_neg hg]
    have : c = 121 := h3.resolve_left fun h => hg (h4.1 h)
    rw [← this]; exact h1
theorem isT_ex (l : List S122) : ∃ v, expr_IsTruth.f l = some v := by
  unfold expr_IsTruth.f
  by_cases h0 : (l.length : Int) = 0
  · rw [if_pos h0]; exact ⟨_, rfl⟩
  · rw [if_neg h0, if_pos (by omega)]
    obtain ⟨r, h1, _⟩ := of_any (rd_T122 l 0).f0
    rw [h1]
    exact ⟨_, rfl⟩
noncomputable def isT (l : List S122) : Bool := Classical.choose (isT_ex l)
theorem isT_eq (l : List S122) : expr_IsTruth.f l = some (isT l) := Classical.choose_spec (isT_ex l)
noncomputable def badT (n : Nat) (l : List S122) : Bool := decide (l.length > 0) && (!decide (sRight l n = 0) || !isT l)
theorem truth_ev {a : List ByteArray} {b : List S50} {c d} {l : List S122} (ho : opsOk l) (hb : b.length ≤ cap) : Ev (fun k => net_truth.f k a b c d l) (if badT b.length l then 121 else 0) := by
  unfold badT
  by_cases h0 : l.length > 0
  · rw [decide_eq_true h0]
    refine Ev.congr (fun k => by (rw [net_truth.f, if_pos (by omega)]; try rfl)) (Ev.bind (right_ev ho ⟨by omega, by have hc : cap = 140737488351232 := rfl; omega⟩) ?_)
    by_cases h1 : sRight l (b.length : Int) = 0
    · rw [decide_eq_true h1]
      refine Ev.congr (fun k => by rw [if_pos h1, isT_eq, Option.bind_some]) ?_
      cases isT l with
      | true => exact Ev.congr (fun k => by rw [if_pos rfl]) (by simpa using Ev.now (0 : Int))
      | false => exact Ev.congr (fun k => by rw [if_neg (by decide)]) (by simpa using Ev.now (121 : Int))
    · exact Ev.congr (fun k => by rw [if_neg h1]) (by rw [decide_eq_false h1]; simpa using Ev.now (121 : Int))
  · exact Ev.congr (fun k => by rw [net_truth.f, if_neg (by omega)]) (by rw [decide_eq_false h0]; simpa using Ev.now (0 : Int))
noncomputable def badX (n : Nat) (s : S92) : Bool := decide (s.f0 = 0) && (decide (s.f2 < 0) || decide (s.f2 ≥ (n : Int)) || !decide (sRight s.f3 n = 0) || isT s.f3)
noncomputable def sTests (b : List S50) (d : List S61) : Int := if d.any (fun x => x.f2.any fun e => badT b.length e.f3) then 121 else if (setsL d).any (badX b.length) then 121 else 0
theorem mem_sets {d : List S61} {s : S92} (h : s ∈ setsL d) : ∃ x ∈ d, ∃ e ∈ x.f2, s ∈ e.f6 := by
  obtain ⟨x, hx, h⟩ := List.mem_flatMap.1 h
  obtain ⟨e, he, h⟩ := List.mem_flatMap.1 h
  exact ⟨x, hx, e, he, h⟩
theorem tests_ev {a : List ByteArray} {b : List S50} {c : List ByteArray} {d : List S61} (h : OkN a b c d) (hf : Few d) : Ev (fun k => net_tests.f k a b c d) (sTests b d) := by
  have l2 := sets_len hf
  have hset : Ev (fun k => net_tests.l2 k (setsL d) ((setsL d).length : Int) 0 a b c d) (if (setsL d).any (badX b.length) then 121 else 0) := by
    refine scan0 (xs := setsL d) (L := fun k i => net_tests.l2 k (setsL d) ((setsL d).length : Int) i a b c d) (fun t => if t.any (badX b.length) then 121 else 0) ?_ ?_
    · exact Ev.step (fun k => by rw [net_tests.l2, if_neg (by omega)]; rfl) (Ev.now _)
    · intro i x t hdr ih
      have hin := inside hdr (by omega)
      obtain ⟨y, hy, e, he, hs⟩ := mem_sets (List.mem_of_getElem? (drop_at hdr).2.1)
      have hops := (((h.each y hy).2.2.2 e he).2.2.2.2 x hs).2
      refine Ev.step (fun k => by rw [net_tests.l2, if_pos hin.1, if_pos hin.2.1, if_pos hin.1, show rd_T92 (setsL d) (i : Int) = x from getD_at hdr _, hin.2.2]) ?_
      rw [any_cons_if]
      unfold badX
      by_cases h0 : x.f0 = 0
      · rw [decide_eq_true h0]
        by_cases h1 : x.f2 < 0
        · exact Ev.congr (fun k => by rw [if_pos h0, if_pos h1]) (by rw [decide_eq_true h1]; simpa using Ev.now (121 : Int))
        by_cases h2 : x.f2 ≥ (b.length : Int)
        · exact Ev.congr (fun k => by rw [if_pos h0, if_neg h1, if_pos h2]) (by rw [decide_eq_true h2]; simpa using Ev.now (121 : Int))
        rw [decide_eq_false h1, decide_eq_false h2]
        refine Ev.congr (fun k => by (rw [if_pos h0, if_neg h1, if_neg h2]; try rfl)) (Ev.bind (right_ev hops ⟨by omega, by have := h.bl; have hc : cap = 140737488351232 := rfl; omega⟩) ?_)
        by_cases h3 : sRight x.f3 (b.length : Int) = 0
        · rw [decide_eq_true h3]
          refine Ev.congr (fun k => by rw [if_pos h3, isT_eq, Option.bind_some]) ?_
          cases isT x.f3 with
          | true => exact Ev.congr (fun k => by rw [if_pos rfl]) (by simpa using Ev.now (121 : Int))
          | false => exact Ev.congr (fun k => by rw [if_neg (by decide)]) (by simpa [badX] using ih)
        · exact Ev.congr (fun k => by rw [if_neg h3]) (by rw [decide_eq_false h3]; simpa using Ev.now (121 : Int))
      · exact Ev.congr (fun k => by rw [if_neg h0]) (by rw [decide_eq_false h0]; simpa [badX] using ih)
  unfold sTests
  refine scan0 (xs := d) (L := fun k i => net_tests.l0 k d (d.length : Int) i a b c d) (fun t => if t.any (fun x => x.f2.any fun e => badT b.length e.f3) then 121 else if (setsL d).any (badX b.length) then 121 else 0) ?_ ?_
  · refine Ev.step (fun k => by (rw [net_tests.l0, if_neg (by omega)]; try rfl)) (Ev.bind (sets_ev hf) ?_)
    simpa using hset
  · intro i x t hdr ih
    have hin := inside hdr h.dl
    have hx := h.each x (List.mem_of_getElem? (drop_at hdr).2.1)
    refine Ev.step (fun k => by rw [net_tests.l0, if_pos hin.1, if_pos hin.2.1, if_pos hin.1, show rd_T61 d (i : Int) = x from getD_at hdr _]) ?_
    rw [any_cons_if]
    refine scan0 (xs := x.f2) (L := fun k j => net_tests.l1 k d (d.length : Int) (i : Int) x.f2 (x.f2.length : Int) j a b c d) (fun es => if (es.any fun e => badT b.length e.f3) = true then 121 else if (t.any (fun x => x.f2.any fun e => badT b.length e.f3)) = true then 121 else if (setsL d).any (badX b.length) = true then 121 else 0) ?_ ?_
    · exact Ev.step (fun k => by rw [net_tests.l1, if_neg (by omega), hin.2.2]) ih
    · intro j e u hde ih2
      have hin2 := inside hde hx.2.1
      have hok := hx.2.2.2 e (List.mem_of_getElem? (drop_at hde).2.1)
      have ht := truth_ev (a := a) (c := c) (d := d) hok.2.2.2.1 h.bl
      rw [any_cons_if]
      cases hb : badT b.length e.f3 with
      | true =>
        rw [hb, if_pos rfl] at ht
        refine Ev.step (fun k => by (rw [net_tests.l1, if_pos hin2.1, if_pos hin2.2.1, if_pos hin2.1, show rd_T90 x.f2 (j : Int) = e from getD_at hde _, hin2.2.2]; try rfl)) (Ev.bind ht ?_)
        exact Ev.congr (fun k => by rw [if_neg (by decide)]) (Ev.now 121)
      | false =>
        rw [hb, if_neg (by decide)] at ht
        refine Ev.step (fun k => by (rw [net_tests.l1, if_pos hin2.1, if_pos hin2.2.1, if_pos hin2.1, show rd_T90 x.f2 (j : Int) = e from getD_at hde _, hin2.2.2]; try rfl)) (Ev.bind ht ?_)
        exact Ev.congr (fun k => by rw [if_pos rfl]) (by simpa using ih2)
/-! The whole -/
theorem few_of {a : List ByteArray} {b : List S50} {c : List ByteArray} {d : List S61} (h : sSizes a b c d = 0) : a.length ≤ 8 ∧ b.length ≤ 16 ∧ c.length ≤ 16 ∧ Few d := by
  unfold sSizes at h
  by_cases h1 : a.length > 8 ∨ b.length > 16 ∨ c.length > 16 ∨ d.length > 8
  · rw [if_pos h1] at h; cases h
  rw [if_neg h1] at h
  have h2 : d.any longA = false := by
    cases hc : d.any longA with
    | false => rfl
    | true => rw [hc] at h; simp at h
  have hA : ∀ x ∈ d, longA x = false := fun x hx => by simpa using List.any_eq_false.1 h2 x hx
  have hA2 : ∀ x ∈ d, x.f1.length ≤ 64 ∧ x.f2.length ≤ 256 ∧ (∀ l ∈ x.f1, l.f2.length ≤ 16) ∧ ∀ e ∈ x.f2, longE e = false := fun x hx => by
    have := hA x hx
    simp only [longA, Bool.or_eq_false_iff, decide_eq_false_iff_not, List.any_eq_false, decide_eq_true_eq] at this
    exact ⟨by omega, by omega, fun l hl => by have := this.1.2 l hl; omega, fun e he => by simpa using this.2 e he⟩
  have hE : ∀ x ∈ d, ∀ e ∈ x.f2, e.f2.length ≤ 16 ∧ e.f6.length ≤ 16 ∧ e.f3.length ≤ 64 ∧ ∀ s ∈ e.f6, s.f3.length ≤ 64 := fun x hx e he => by
    have := (hA2 x hx).2.2.2 e he
    simp only [longE, Bool.or_eq_false_iff, decide_eq_false_iff_not, List.any_eq_false, decide_eq_true_eq] at this
    exact ⟨by omega, by omega, by omega, fun s hs => by have := this.2 s hs; omega⟩
  exact ⟨by omega, by omega, by omega, ⟨by omega, fun x hx => (hA2 x hx).1, fun x hx => (hA2 x hx).2.1, fun x hx => (hA2 x hx).2.2.1, fun x hx e he => (hE x hx e he).1, fun x hx e he => (hE x hx e he).2.1, fun x hx e he => (hE x hx e he).2.2.1, fun x hx e he => (hE x hx e he).2.2.2⟩⟩
/-- The first that isn't 0. -/
def first : List Int → Int
  | [] => 0
  | e :: t => if e = 0 then first t else e
noncomputable def sWhole (a : List ByteArray) (b : List S50) (c : List ByteArray) (d : List S61) : Int :=
  first [sSome d, sSizes a b c d, sNames a b c d, if b.any badV then 124 else 0, if d.any (fun x => x.f1.any fun l => decide (l.f1 > 2)) then 122 else 0, if d.any (fun x => x.f2.any (badE c.length x.f1.length)) then 123 else 0, sClocks a d, sForms d, sTests b d]
theorem tl_next {a b c d} {m : Nat} {e : Int} {t : List Int} (h : Ev (fun k => net_Whole.look k a b c d (8 - m)) e) (k : e = 0 → Ev (fun k => net_Whole.tl k a b c d m) (first t)) : Ev (fun k => net_Whole.tl k a b c d (m + 1)) (first (e :: t)) := by
  refine Ev.congr (fun k => by rw [net_Whole.tl]) (Ev.bind h ?_)
  unfold first
  by_cases h0 : e = 0
  · rw [if_pos h0]; exact Ev.congr (fun n => by rw [if_pos h0]) (k h0)
  · rw [if_neg h0]; exact Ev.congr (fun n => by rw [if_neg h0]) (Ev.now _)
theorem whole_ev {a : List ByteArray} {b : List S50} {c : List ByteArray} {d : List S61} (h : OkN a b c d) : Ev (fun k => net_Whole.f k a b c d) (sWhole a b c d) := by
  refine tl_next (m := 8) (some_ev (a := a) (b := b) (c := c) h.dl) fun _ => ?_
  refine tl_next (m := 7) (sizes_ev h) fun hs => ?_
  obtain ⟨ha, hb, hc, hf⟩ := few_of hs
  refine tl_next (m := 6) (names_ev h ha hb hc hf.dd hf.l) fun _ => ?_
  refine tl_next (m := 5) (vars_ev (a := a) (c := c) (d := d) h.bl) fun _ => ?_
  refine tl_next (m := 4) (locs_ev (a := a) (b := b) (c := c) h.dl fun x hx => (h.each x hx).1) fun _ => ?_
  refine tl_next (m := 3) (edges_ev h) fun _ => ?_
  refine tl_next (m := 2) (clocks_ev (a := a) (b := b) (c := c) hf) fun _ => ?_
  refine tl_next (m := 1) (forms_ev (a := a) (b := b) (c := c) hf) fun _ => ?_
  exact tl_next (m := 0) (tests_ev h hf) fun _ => Ev.now _
theorem first_zero {l : List Int} (h : first l = 0) : ∀ e ∈ l, e = 0 := by
  induction l with
  | nil => intro e he; cases he
  | cons x t ih =>
    unfold first at h
    by_cases h0 : x = 0
    · rw [if_pos h0] at h
      intro e he
      rcases List.mem_cons.1 he with rfl | he
      · exact h0
      · exact ih h e he
    · rw [if_neg h0] at h; exact absurd h h0
/-- What a whole network is. -/
theorem whole_facts {a : List ByteArray} {b : List S50} {c : List ByteArray} {d : List S61} (h : sWhole a b c d = 0) :
    a.length ≤ 8 ∧ b.length ≤ 16 ∧ c.length ≤ 16 ∧ Few d ∧ (∀ v ∈ b, v.f1 ≤ v.f3 ∧ v.f3 ≤ v.f2 ∧ -1048576 ≤ v.f1 ∧ v.f2 ≤ 1048576) ∧ (∀ x ∈ d, 0 < x.f1.length) ∧ 0 < d.length := by
  have hz := first_zero h
  obtain ⟨ha, hb, hc, hf⟩ := few_of (hz (sSizes a b c d) (by simp))
  refine ⟨ha, hb, hc, hf, fun v hv => ?_, ?_⟩
  · have h1 := hz (if b.any badV then 124 else 0) (by simp)
    have h2 : b.any badV = false := by
      cases hc : b.any badV with
      | false => rfl
      | true => rw [hc] at h1; simp at h1
    have h3 : badV v = false := by simpa using List.any_eq_false.1 h2 v hv
    simp only [badV, Bool.or_eq_false_iff, decide_eq_false_iff_not] at h3
    omega
  · have h1 := hz (sSome d) (by simp)
    unfold sSome at h1
    by_cases h0 : d = []
    · rw [if_pos h0] at h1; cases h1
    rw [if_neg h0] at h1
    have h2 : d.any (fun x => x.f1.isEmpty) = false := by
      cases hc : d.any (fun x => x.f1.isEmpty) with
      | false => rfl
      | true => rw [hc] at h1; simp at h1
    refine ⟨fun x hx => ?_, ?_⟩
    · have h3 : ¬ x.f1.isEmpty = true := List.any_eq_false.1 h2 x hx
      rcases Nat.eq_zero_or_pos x.f1.length with h4 | h4
      · exact absurd (List.isEmpty_iff.2 (List.eq_nil_of_length_eq_zero h4)) h3
      · exact h4
    · rcases Nat.eq_zero_or_pos d.length with h4 | h4
      · exact absurd (List.eq_nil_of_length_eq_zero h4) h0
      · exact h4
end Go.Proofs.YtpmhfahligjhaaaDoor.POrd
