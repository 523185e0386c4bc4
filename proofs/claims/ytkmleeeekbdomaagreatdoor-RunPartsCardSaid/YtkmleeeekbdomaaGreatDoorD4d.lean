/-
  A function of the abstract machine is right.
-/
import Derived.Test.YtkmleeeekbdomaaGreatDoorD4b
import Derived.Laws.Sem
set_option linter.unusedSectionVars false
set_option linter.unusedVariables false
set_option linter.unusedSimpArgs false
namespace Go.Den
open Go Go.RowKit
section
variable {P : Program} {gl : GT} {n0 : Nat} {w : World} {G : Mem} {h : Hp}
/-- Where the results of a list of parts come from. -/
theorem rcGet_ok (hm : MemOK gl n0 w G h) {J : Nat → Prop} (hI : ∀ b, G.I b → J b) : ∀ {cs : List RC} {l : List CV} {vs : List Value} {x : (RC.tys cs).den} {go lb : List Nat}, L2 (CellRep w G h) l vs → rcGet h cs l = some (x, [], go, lb) → (∀ b, OB G lb b → J b) →
    (∀ i ∈ go, ∀ b, blkOf (G.μ i) = some b → ¬ J b) → go.Nodup →
    ∃ bs, RcRep w J n0 cs x vs bs ∧ bs.Nodup ∧ ∀ b ∈ bs, ∃ i ∈ go, (∃ C, h i = some C) ∧ blkOf (G.μ i) = some b := by
  have one : ∀ {e : TypeId} {t : Ty} {c : CV} {v : Value} {q : List t.den × List Nat}, CellRep w G h c v → rowGet h e t c = some q → (∀ i ∈ q.2, ∀ b, blkOf (G.μ i) = some b → ¬ J b) →
      ∃ bs, OwnRes w J n0 e t q.1 v bs ∧ bs.Nodup ∧ ∀ b ∈ bs, ∃ i ∈ q.2, (∃ C, h i = some C) ∧ blkOf (G.μ i) = some b := by
    intro e t c v q hc hq hn
    obtain ⟨⟨_, ⟨inner, h1, h2⟩, h3⟩, _⟩ := rowGet_ok hm hc (by rw [show q = (q.1, q.2) from rfl] at hq; exact hq) 0
    have h2' : Reps (K w J t) q.1 inner := h2.imp fun _ _ hK => K_step hI (fun _ _ => rfl) hK
    rcases h3 with h3 | ⟨i, hg, hμ, ver, e', t', xs', hi⟩
    · exact ⟨[], ⟨⟨inner, h1, h2'⟩, .inl ⟨h3, rfl⟩⟩, List.nodup_nil, by simp⟩
    · cases hb : blkOf v with
      | none => exact ⟨[], ⟨⟨inner, h1, h2'⟩, .inl ⟨hb, rfl⟩⟩, List.nodup_nil, by simp⟩
      | some b =>
        have hb' : blkOf (G.μ i) = some b := by
          have hμ' : G.μ i = v := hμ
          rw [hμ']; exact hb
        obtain ⟨o1, o2, _, _⟩ := hm.own i _ b hi hb'
        refine ⟨[b], ⟨⟨inner, h1, h2'⟩, .inr ⟨b, hb, rfl, o1, o2, hn i (by rw [hg]; simp) b hb'⟩⟩, by simp, fun b' hb2 => ?_⟩
        simp only [List.mem_singleton] at hb2
        subst hb2
        exact ⟨i, by rw [hg]; simp, ⟨_, hi⟩, hb'⟩
  have data : ∀ {t : Ty} {l : List CV} {vs : List Value} {q : t.den × List CV}, L2 (CellRep w G h) l vs → toTy h t l = some q → (∀ b, OB G (owns (l.take t.sz)) b → J b) → ∃ v1 v2, vs = v1 ++ v2 ∧ K w J t q.1 v1 ∧ L2 (CellRep w G h) q.2 v2 := by
    intro t l vs q hL hq hO
    obtain ⟨c1, v1, v2, hc1, hv1, hL1, hL2, hK⟩ := toTy_ok hm hL (by rw [show q = (q.1, q.2) from rfl] at hq; exact hq)
    have ht : l.take t.sz = c1 := by rw [hc1, ← K_len hK, ← hL1.len, List.take_left]
    rw [ht] at hO
    exact ⟨v1, v2, hv1, K_step (fun b hb => hb.elim (hI b) (hO b)) (fun _ _ => rfl) hK, hL2⟩
  intro cs
  induction cs with
  | nil =>
    intro l vs x go lb hL hr _ _ _
    simp only [rcGet, Option.some.injEq, Prod.mk.injEq] at hr
    obtain ⟨_, rfl, rfl, _⟩ := hr
    cases vs with
    | nil => exact ⟨[], ⟨rfl, rfl⟩, List.nodup_nil, by simp⟩
    | cons => exact hL.elim
  | cons c r ih =>
    intro l vs x go lb hL hr hO hn hnd
    cases c with
    | v t =>
      cases r with
      | nil =>
        simp only [rcGet] at hr
        obtain ⟨q, hq, hr⟩ := Option.bind_eq_some_iff.1 hr
        simp only [Option.some.injEq, Prod.mk.injEq] at hr
        obtain ⟨rfl, hr2, rfl, rfl⟩ := hr
        obtain ⟨v1, v2, hv, hK, hL2⟩ := data hL hq hO
        rw [hr2] at hL2
        have : v2 = [] := by cases v2 with | nil => rfl | cons => exact hL2.elim
        subst this
        rw [List.append_nil] at hv
        subst hv
        exact ⟨[], ⟨hK, rfl⟩, List.nodup_nil, by simp⟩
      | cons c r =>
        simp only [rcGet] at hr
        obtain ⟨q, hq, hr⟩ := Option.bind_eq_some_iff.1 hr
        obtain ⟨s, hs, hr⟩ := Option.bind_eq_some_iff.1 hr
        simp only [Option.some.injEq, Prod.mk.injEq] at hr
        obtain ⟨rfl, hr2, rfl, rfl⟩ := hr
        obtain ⟨v1, v2, hv, hK, hL2⟩ := data hL hq (fun b hb => hO b (OB_mono (fun i hi => List.mem_append_left _ hi) hb))
        obtain ⟨bs, h1, h2, h3⟩ := ih (x := s.1) (go := s.2.2.1) (lb := s.2.2.2) hL2 (by rw [hs, ← hr2]) (fun b hb => hO b (OB_mono (fun i hi => List.mem_append_right _ hi) hb)) hn hnd
        exact ⟨bs, ⟨v1, v2, hv, hK, h1⟩, h2, h3⟩
    | o e t =>
      cases l with
      | nil => cases r <;> simp [rcGet] at hr
      | cons d l =>
        cases vs with
        | nil => exact hL.elim
        | cons v vs =>
        cases r with
        | nil =>
          simp only [rcGet] at hr
          obtain ⟨q, hq, hr⟩ := Option.bind_eq_some_iff.1 hr
          simp only [Option.some.injEq, Prod.mk.injEq] at hr
          obtain ⟨rfl, rfl, rfl, _⟩ := hr
          obtain ⟨bs, h1, h2, h3⟩ := one hL.1 hq hn
          have : vs = [] := by cases vs with | nil => rfl | cons => exact hL.2.elim
          subst this
          exact ⟨bs, ⟨v, rfl, h1⟩, h2, h3⟩
        | cons c r =>
          simp only [rcGet] at hr
          obtain ⟨q, hq, hr⟩ := Option.bind_eq_some_iff.1 hr
          obtain ⟨s, hs, hr⟩ := Option.bind_eq_some_iff.1 hr
          simp only [Option.some.injEq, Prod.mk.injEq] at hr
          obtain ⟨rfl, hr2, rfl, rfl⟩ := hr
          have hnd' := List.nodup_append.1 hnd
          obtain ⟨b1, h1, h2, h3⟩ := one hL.1 hq (fun i hi => hn i (List.mem_append_left _ hi))
          obtain ⟨b2, g1, g2, g3⟩ := ih (x := s.1) (go := s.2.2.1) (lb := s.2.2.2) hL.2 (by rw [hs, ← hr2]) hO (fun i hi => hn i (List.mem_append_right _ hi)) hnd'.2.1
          refine ⟨b1 ++ b2, ⟨v, vs, b1, b2, rfl, h1, g1, rfl⟩, List.nodup_append.2 ⟨h2, g2, fun a ha b hb he => ?_⟩, fun b hb => ?_⟩
          · subst he
            obtain ⟨i, hi, ⟨C, hC⟩, hbi⟩ := h3 a ha
            obtain ⟨j, hj, ⟨D, hD⟩, hbj⟩ := g3 a hb
            exact hnd'.2.2 i hi j hj (hm.inj i j C D a hC hD hbi hbj)
          · rcases List.mem_append.1 hb with hb | hb
            · obtain ⟨i, hi, rest⟩ := h3 b hb; exact ⟨i, List.mem_append_left _ hi, rest⟩
            · obtain ⟨i, hi, rest⟩ := g3 b hb; exact ⟨i, List.mem_append_right _ hi, rest⟩
theorem rcLets (hm : MemOK gl n0 w G h) : ∀ {cs : List RC} {l : List CV} {vs : List Value} {x : (RC.tys cs).den} {r : List CV} {go lb : List Nat}, L2 (CellRep w G h) l vs → rcGet h cs l = some (x, r, go, lb) →
    (∀ i ∈ lb, ∃ v f e t xs, h i = some (.row v f e t xs)) ∧ (∀ i ∈ go, ∃ v e t xs, h i = some (.row v false e t xs)) := by
  have row : ∀ {e : TypeId} {t : Ty} {c : CV} {q : List t.den × List Nat}, rowGet h e t c = some q → ∀ i ∈ q.2, ∃ v e t xs, h i = some (.row v false e t xs) := by
    intro e t c q hq i hi
    unfold rowGet at hq
    split at hq
    · cases hq; cases hi
    · split at hq
      · rename_i hrow
        obtain ⟨_, hq⟩ := bifs hq
        obtain ⟨y, _, hq⟩ := Option.bind_eq_some_iff.1 hq
        cases hq
        simp only [List.mem_singleton] at hi
        subst hi
        exact ⟨_, _, _, _, hrow⟩
      · cases hq
    · cases hq
  have tk : ∀ {l : List CV} {vs : List Value} {n i : Nat}, L2 (CellRep w G h) l vs → i ∈ owns (l.take n) → ∃ v f e t xs, h i = some (.row v f e t xs) := fun {l vs n i} hL hi => ownsMem (hL.take n) hi
  intro cs
  induction cs with
  | nil =>
    intro l vs x r go lb hL hr
    simp only [rcGet, Option.some.injEq, Prod.mk.injEq] at hr
    obtain ⟨_, _, rfl, rfl⟩ := hr
    exact ⟨by simp, by simp⟩
  | cons c r ih =>
    intro l vs x r' go lb hL hr
    cases c with
    | v t =>
      cases r with
      | nil =>
        simp only [rcGet] at hr
        obtain ⟨q, hq, hr⟩ := Option.bind_eq_some_iff.1 hr
        simp only [Option.some.injEq, Prod.mk.injEq] at hr
        obtain ⟨_, _, rfl, rfl⟩ := hr
        exact ⟨fun i hi => tk hL hi, by simp⟩
      | cons c r =>
        simp only [rcGet] at hr
        obtain ⟨q, hq, hr⟩ := Option.bind_eq_some_iff.1 hr
        obtain ⟨s, hs, hr⟩ := Option.bind_eq_some_iff.1 hr
        simp only [Option.some.injEq, Prod.mk.injEq] at hr
        obtain ⟨_, _, rfl, rfl⟩ := hr
        obtain ⟨c1, v1, v2, hc1, hv1, hL1, hL2, hK⟩ := toTy_ok hm hL (by rw [show q = (q.1, q.2) from rfl] at hq; exact hq)
        obtain ⟨h1, h2⟩ := ih (x := s.1) (r := s.2.1) (go := s.2.2.1) (lb := s.2.2.2) hL2 hs
        exact ⟨fun i hi => (List.mem_append.1 hi).elim (tk hL) (h1 i), h2⟩
    | o e t =>
      cases l with
      | nil => cases r <;> simp [rcGet] at hr
      | cons d l =>
        cases vs with
        | nil => exact hL.elim
        | cons v vs =>
        cases r with
        | nil =>
          simp only [rcGet] at hr
          obtain ⟨q, hq, hr⟩ := Option.bind_eq_some_iff.1 hr
          simp only [Option.some.injEq, Prod.mk.injEq] at hr
          obtain ⟨_, _, rfl, rfl⟩ := hr
          exact ⟨by simp, row hq⟩
        | cons c r =>
          simp only [rcGet] at hr
          obtain ⟨q, hq, hr⟩ := Option.bind_eq_some_iff.1 hr
          obtain ⟨s, hs, hr⟩ := Option.bind_eq_some_iff.1 hr
          simp only [Option.some.injEq, Prod.mk.injEq] at hr
          obtain ⟨_, _, rfl, rfl⟩ := hr
          obtain ⟨h1, h2⟩ := ih (x := s.1) (r := s.2.1) (go := s.2.2.1) (lb := s.2.2.2) hL.2 hs
          exact ⟨h1, fun i hi => (List.mem_append.1 hi).elim (row hq i) (h2 i)⟩
theorem resCells_ok : ∀ {rts : List RT} {vs : List SV} {us : List Value} {cs : List CV}, L2 (SVRep w G h) vs us → resCells rts vs = some cs → ∃ ds, L2 (CellRep w G h) cs ds ∧ ResParts rts ds us
  | [], [], [], cs, hL, hr => by simp only [resCells, Option.some.injEq] at hr; subst hr; exact ⟨[], trivial, rfl, rfl⟩
  | [], _ :: _, _, cs, hL, hr => by simp [resCells] at hr
  | _ :: _, [], _, cs, hL, hr => by simp [resCells] at hr
  | a :: r, v :: vs, u :: us, cs, hL, hr => by
    simp only [resCells] at hr
    obtain ⟨c1, h1, hr⟩ := Option.bind_eq_some_iff.1 hr
    obtain ⟨hl, hr⟩ := bifs hr
    obtain ⟨l, h2, hr⟩ := Option.bind_eq_some_iff.1 hr
    cases hr
    obtain ⟨ds, hds, hp⟩ := resCells_ok hL.2 h2
    have hlen := nbeq hl
    split at h1
    · rename_i c hag
      cases h1
      exact ⟨u :: ds, ⟨hL.1, hds⟩, [u], ds, u, us, rfl, hlen, rfl, by rw [hag], hp⟩
    · rename_i cs' hag
      cases h1
      obtain ⟨d, hu, hd⟩ := hL.1
      exact ⟨d ++ ds, hd.app hds, d, ds, u, us, rfl, by rw [← hd.len]; exact hlen, rfl, by rw [hag]; exact hu, hp⟩
    · cases h1
def resF (tmps : Array Value) : ResultVar → Sem Value
  | .tmp t => pure (tmps.getD t undef)
  | .cell x t => do loadVar t (← asAddr (tmps.getD x undef))
theorem results_eq (fn : Func) (tmps : Array Value) : results fn tmps = (do let vs ← fn.results.mapM (resF tmps); pure (if h : vs.size = 1 then vs[0] else .tuple vs)) := by
  unfold results
  congr 1
theorem resSV_ok {E : EnvC} (hE : EnvOK P gl E) (hm : MemOK gl n0 w G h) {σ : AS} (hh : σ.heap = h) {a : Act} (hs : ∀ t, SVRep w G h (σ.slots t) (a.tmps.getD t undef)) : ∀ {rs : List ResultVar} {vs : List SV}, resSV E.tt σ rs = some vs →
    ∃ us, L2 (SVRep w G h) vs us ∧ (rs.mapM (m := Sem) (resF a.tmps)).run P w = .ok us w
  | [], vs, hr => by cases hr; exact ⟨[], trivial, by simp [Sem.run]⟩
  | .tmp t :: r, vs, hr => by
    simp only [resSV] at hr
    obtain ⟨l, hl, hr⟩ := Option.bind_eq_some_iff.1 hr
    cases hr
    obtain ⟨us, h1, h2⟩ := resSV_ok hE hm hh hs hl
    exact ⟨_ :: us, ⟨hs t, h1⟩, by
      rw [List.mapM_cons]
      simp only [resF, pure_bind, Sem.run_bind, h2, Result.andThen]
      simp [Sem.run]⟩
  | .cell x t :: r, vs, hr => by
    simp only [resSV] at hr
    obtain ⟨i, hi, hr⟩ := Option.bind_eq_some_iff.1 hr
    have hx := hs x
    split at hr
    · rename_i c hc
      rw [hc] at hx
      obtain ⟨cs, hcs, hr⟩ := Option.bind_eq_some_iff.1 hr
      obtain ⟨v, hv, hr⟩ := Option.bind_eq_some_iff.1 hr
      obtain ⟨l, hl, hr⟩ := Option.bind_eq_some_iff.1 hr
      cases hr
      obtain ⟨us, h1, h2⟩ := resSV_ok hE hm hh hs hl
      rw [hh] at hcs
      obtain ⟨A, d, hA, hL, hlen, hC⟩ := readAt_ok hm hx hcs
      obtain ⟨u, hu, hS⟩ := aggSV_ok hL hv
      have hrun := run_loadAt (P := P) (hE.tt _ _ hi) hC hlen hu
      have hrun : (loadVar t A).run P w = .ok u w := by simpa only [Instr.loadAt, Instr.sureAddr, pure_bind] using hrun
      refine ⟨u :: us, ⟨hS, h1⟩, ?_⟩
      rw [List.mapM_cons]
      have h3 : (resF a.tmps (.cell x t)).run P w = .ok u w := by
        show (do loadVar t (← asAddr (a.tmps.getD x undef)) : Sem Value).run P w = _
        rw [hA]
        simp only [asAddr, pure_bind, hrun]
      simp only [Sem.run_bind, h3, Result.andThen, h2]
      simp [Sem.run]
    · cases hr
theorem run_results {fn : Func} {tmps : Array Value} {us : List Value} (hr : (fn.results.toList.mapM (m := Sem) (resF tmps)).run P w = .ok us w) : (results fn tmps).run P w = .ok (oneOf us) w := by
  rw [results_eq, Array.mapM_eq_mapM_toList]
  simp only [map_eq_pure_bind, bind_assoc, Sem.run_bind, hr, Result.andThen, pure_bind]
  match us with
  | [] => simp [oneOf, Sem.run]
  | [u] => simp [oneOf, Sem.run]
  | u :: v :: r => simp [oneOf, Sem.run]
theorem argSV_rep {J : Nat → Prop} {a : AT} {x : a.t.den} {v : Value} (hI : ∀ b, J b → G.I b) (ha : ArgRep w J a x v) : SVRep w G h (argSV a x) v := by
  unfold ArgRep at ha
  unfold argSV
  cases hag : a.agg with
  | true =>
    rw [hag] at ha
    obtain ⟨l, hv, hK⟩ := ha
    exact ⟨l, hv, ofTy_ok hI hK⟩
  | false =>
    rw [hag] at ha
    simp only
    have hL := ofTy_ok (h := h) hI ha
    generalize ofTy a.t x = z at hL
    match z, hL with
    | [c], hL => exact hL.1
theorem argSVs_rep {J : Nat → Prop} (hI : ∀ b, J b → G.I b) : ∀ {ats : List AT} {x : AT.dens ats} {vs : List Value}, ArgsRep w J ats x vs → L2 (SVRep w G h) (argSVs ats x) vs
  | [], x, vs, ha => by cases ha; trivial
  | [a], x, vs, ha => by obtain ⟨v, rfl, ha⟩ := ha; exact ⟨argSV_rep hI ha, trivial⟩
  | a :: b :: r, x, vs, ha => by obtain ⟨v, q, rfl, h1, h2⟩ := ha; exact ⟨argSV_rep hI h1, argSVs_rep hI h2⟩
theorem argSVs_len : ∀ {ats : List AT} {x : AT.dens ats}, (argSVs ats x).length = ats.length
  | [], _ => rfl
  | [a], _ => rfl
  | a :: b :: r, x => by simp only [argSVs, List.length_cons, argSVs_len (ats := b :: r)]
end
theorem call_ok' {P : Program} {gl : GT} {f : FuncId} {fn : Func} {c : Code} {ats : List AT} {rts : List RT} (F : Fam (RT.dens rts)) (hf : P.funcs[f]? = some fn) (hb : fn.body = some c) (hmo : P.follows .mixedOrders = true) (hname : (fn.name == "runtime.NumGoroutine") = false)
    (k : Nat) (hE : ∀ n, n ≤ k → EnvOK P gl (F.c n)) (hcuts : F.cuts.all (fun p => shapeOk p.2.sh) = true) (hc : codeOk fn.ntmps c = true) (hats : Nat.ble ats.length fn.ntmps = true)
    (ho : Obl F c fun k => retK (F.c k) fn.results.toList rts) {g : Nat → AT.dens ats → Option (RT.dens rts)} (hg : ∀ k x, g k x = den F k c (startAS ats x) (retK (F.c k) fn.results.toList rts)) : CallOK P gl f ⟨ats, rts, g k⟩ where
  there := ⟨fn, hf, hname, by rw [hb]; rfl⟩
  calls := by
    intro x r hx w J args hJ hglob hargs
    have hx : den F k c (startAS ats x) (retK (F.c k) fn.results.toList rts) = some r := by rw [← hg]; exact hx
    have hats := Nat.le_of_ble_eq_true hats
    let G : Mem := ⟨fun _ => undef, J, J⟩
    have hL := argSVs_rep (G := G) (h := fun _ => none) (fun _ h => h) hargs
    have hlen : args.length = ats.length := by rw [← hL.len, argSVs_len]
    refine calls_of_wp hf hb ?_
    have hA : At gl fn.ntmps w.heap.size w J (startAS ats x) { tmps := args.toArray ++ Array.replicate (fn.ntmps - args.toArray.size) undef, defers := [] } w G := {
      rel := {
        mem := ⟨hJ, fun _ _ h => (by cases h), fun _ _ _ h => (by cases h), fun _ _ _ _ _ h => (by cases h), hglob, Nat.le_refl _, fun _ h => .inl h⟩
        slots := fun t => by
          show SVRep w G (fun _ => none) (match (argSVs ats x)[t]? with | some v => v | none => .undef) _
          have hget : ({ tmps := args.toArray ++ Array.replicate (fn.ntmps - args.toArray.size) undef, defers := [] } : Act).tmps.getD t undef = (args[t]?).getD undef := by
            simp only [Array.getD_eq_getD_getElem?, Array.getElem?_append, List.size_toArray, List.getElem?_toArray, Array.getElem?_replicate]
            split
            · rfl
            · rename_i hlt
              rw [List.getElem?_eq_none (by omega)]
              split <;> rfl
          rw [hget]
          cases hv : (argSVs ats x)[t]? with
          | none =>
            have : args[t]? = none := by
              rw [List.getElem?_eq_none_iff] at hv ⊢
              rw [← hL.len]; exact hv
            rw [this]; rfl
          | some v =>
            obtain ⟨u, hu, hr⟩ := L2.get hL hv
            rw [hu]; exact hr
        defers := rfl }
      size := by simp; omega
      below := Below.refl _ _
      J := rfl }
    have hcut : ∀ k c, findCut F.cuts k = some c → AbsOK gl c.sh := by
      intro k c hk
      have : ∀ {l : List (Nat × CutE (RT.dens rts))}, l.all (fun p => shapeOk p.2.sh) = true → findCut l k = some c → shapeOk c.sh = true := by
        intro l
        induction l with
        | nil => intro _ h; cases h
        | cons p l ih =>
          intro hal hfc
          obtain ⟨n, c'⟩ := p
          simp only [List.all_cons, Bool.and_eq_true] at hal
          simp only [findCut] at hfc
          cases hb : Nat.beq n k with
          | true => rw [hb] at hfc; cases hfc; exact hal.1
          | false => rw [hb] at hfc; exact ih hal.2 hfc
      exact abs_ok gl (this hcuts hk)
    refine wp_mono (den_ok (F := F) (r := r) hmo hE hcut c (fun k => retK (F.c k) fn.results.toList rts) hc ho k (Nat.le_refl _) _ _ w G hA hx) ?_
    rintro e a' w' ⟨m, hm, z, σ', G', he, hA', hk⟩
    have fin : (z = .normal ∨ z = .ret) → a'.defers = [] ∧ ∃ v, (results fn a'.tmps).run P w' = .ok v w' ∧ ∃ u, Ending.returned v = .returned u ∧ Below w.heap.size w w' ∧ ResRep w.heap.size w' J rts r u := by
      intro hz
      have hmem := hA'.rel.mem
      have hk : ((resSV (F.c m).tt σ' fn.results.toList).bind fun vs => (resGet σ'.heap rts vs).bind fun q => bif nodup q.2.1 && q.2.1.all (fun i => !(q.2.2.any (Nat.beq i))) then some q.1 else none) = some r := by
        rcases hz with rfl | rfl <;> exact hk
      obtain ⟨vs, hvs, hk⟩ := Option.bind_eq_some_iff.1 hk
      obtain ⟨q, hq, hk⟩ := Option.bind_eq_some_iff.1 hk
      obtain ⟨hchk, hk⟩ := bifs hk
      cases hk
      obtain ⟨us, hus, hrun⟩ := resSV_ok (hE m hm) hmem rfl hA'.rel.slots hvs
      unfold resGet at hq
      obtain ⟨cs, hcs, hq⟩ := Option.bind_eq_some_iff.1 hq
      obtain ⟨q', hq', hq⟩ := Option.bind_eq_some_iff.1 hq
      split at hq
      · rename_i hnil
        cases hq
        obtain ⟨ds, hds, hparts⟩ := resCells_ok hus hcs
        simp only [Bool.and_eq_true] at hchk
        have hnd := nodup_ok hchk.1
        have hdis : ∀ i ∈ q'.2.2.1, i ∉ q'.2.2.2 := fun i hi hi' => by
          have := List.all_eq_true.1 hchk.2 i hi
          simp only [Bool.not_eq_true'] at this
          have := List.any_eq_false.1 this i hi'
          simp [Nat.beq_refl] at this
        have hq2 : rcGet σ'.heap (flatRC rts) cs = some (q'.1, [], q'.2.2.1, q'.2.2.2) := by rw [hq', ← hnil]
        obtain ⟨hlb, hgo⟩ := rcLets hmem hds hq2
        have hJ' : ∀ b, (G'.I b ∨ OB G' q'.2.2.2 b) → J b ∨ (w.heap.size ≤ b ∧ b < w'.heap.size) := fun b hb => by
          rcases hb with hb | ⟨i, hi, hb⟩
          · rcases hmem.new b hb with h | h
            · rw [hA'.J] at h; exact .inl h
            · exact .inr ⟨h, hmem.bound b hb⟩
          · obtain ⟨v, f, e, t, xs, hh⟩ := hlb i hi
            obtain ⟨o1, o2, _, _⟩ := hmem.own i _ b hh hb
            exact .inr ⟨o1, o2⟩
        obtain ⟨bs, hRc, hbs, _⟩ := rcGet_ok hmem (J := fun b => G'.I b ∨ OB G' q'.2.2.2 b) (fun _ h => .inl h) hds hq2 (fun _ h => .inr h) (fun i hi b hb hJ => by
          obtain ⟨v, e, t, xs, hh⟩ := hgo i hi
          rcases hJ with hJ | ⟨j, hj, hJ⟩
          · exact (hmem.own i _ b hh hb).2.2.1 rfl hJ
          · obtain ⟨v', f', e', t', xs', hh'⟩ := hlb j hj
            obtain rfl := hmem.inj i j _ _ b hh hh' hb hJ
            exact hdis i hi hj) hnd
        exact ⟨hA'.rel.defers, oneOf us, run_results hrun, oneOf us, rfl, hA'.below, ⟨_, ds, bs, us, hJ', hRc, hbs, hparts, rfl⟩⟩
      · cases hq
    cases e with
    | normal => cases he; exact fin (.inl rfl)
    | ret => cases he; exact fin (.inr rfl)
    | exit i => cases he; cases hk
    | goto => cases he
    | panic => cases he
    | outgrown => cases he
theorem call_ok {P : Program} {gl : GT} {f : FuncId} {fn : Func} {c : Code} {ats : List AT} {rts : List RT} (F : Fam (RT.dens rts)) (hf : P.funcs[f]? = some fn) (hb : fn.body = some c) (hmo : P.follows .mixedOrders = true) (hname : (fn.name == "runtime.NumGoroutine") = false)
    (hE : ∀ n, EnvOK P gl (F.c n)) (hcuts : F.cuts.all (fun p => shapeOk p.2.sh) = true) (hc : codeOk fn.ntmps c = true) (hats : Nat.ble ats.length fn.ntmps = true)
    (ho : Obl F c fun k => retK (F.c k) fn.results.toList rts) {g : Nat → AT.dens ats → Option (RT.dens rts)} (hg : ∀ k x, g k x = den F k c (startAS ats x) (retK (F.c k) fn.results.toList rts)) (k : Nat) : CallOK P gl f ⟨ats, rts, g k⟩ :=
  call_ok' F hf hb hmo hname k (fun n _ => hE n) hcuts hc hats ho hg
/-- A function that calls itself: with fewer rounds. -/
theorem rec_ok {P : Program} {gl : GT} {f : FuncId} {ce ce' : Nat → CallE} (h0 : CallOK P gl f (ce' 0)) (hs : ∀ k, ce' (k + 1) = ce k) (step : ∀ k, (∀ n, n ≤ k → CallOK P gl f (ce' n)) → CallOK P gl f (ce k)) : ∀ k, CallOK P gl f (ce k) := by
  intro k
  induction k using Nat.strongRecOn with
  | _ k ih =>
    refine step k fun n hn => ?_
    cases n with
    | zero => exact h0
    | succ n => rw [hs]; exact ih n (by omega)
theorem zero_ok {P : Program} {gl : GT} {f : FuncId} {fn : Func} {c : Code} {ats : List AT} {rts : List RT} (hf : P.funcs[f]? = some fn) (hb : fn.body = some c) (hname : (fn.name == "runtime.NumGoroutine") = false) : CallOK P gl f ⟨ats, rts, fun _ => none⟩ where
  there := ⟨fn, hf, hname, by rw [hb]; rfl⟩
  calls := fun x r h => by cases h
end Go.Den
