/-
  A function of the abstract machine is right.
-/
import Derived.Test.YtbjkfkifkglplaaGreatDoorD4b
import Derived.Laws.Sem
set_option linter.unusedSectionVars false
set_option linter.unusedVariables false
set_option linter.unusedSimpArgs false
namespace Go.Den
open Go Go.RowKit
section
variable {P : Program} {gl : GT} {n0 : Nat} {w : World} {G : Mem} {h : Hp}
theorem resCells_ok : ∀ {rts : List RT} {vs : List SV} {us : List Value} {cs : List CV}, L2 (SVRep w G h) vs us → resCells rts vs = some cs → ∃ ds, L2 (CellRep w G h) cs ds ∧ ResParts rts ds us
  | [], [], [], cs, hL, hr => by simp only [resCells, Option.some.injEq] at hr; subst hr; exact ⟨[], trivial, rfl, rfl⟩
  | [], _ :: _, _, cs, hL, hr => by simp [resCells] at hr
  | _ :: _, [], _, cs, hL, hr => by simp [resCells] at hr
  | a :: r, v :: vs, u :: us, cs, hL, hr => by
    simp only [resCells] at hr
    obtain ⟨c1, h1, hr⟩ := Option.bind_eq_some_iff.1 hr
    obtain ⟨hl, hr⟩ := bifs hr
    obtain ⟨l, h2, hr⟩ := Option.bind_eq_some_iff.1 hr
    cases hr
    obtain ⟨ds, hds, hp⟩ := resCells_ok hL.2 h2
    have hlen := nbeq hl
    split at h1
    · rename_i c hag
      cases h1
      exact ⟨u :: ds, ⟨hL.1, hds⟩, [u], ds, u, us, rfl, hlen, rfl, by rw [hag], hp⟩
    · rename_i cs' hag
      cases h1
      obtain ⟨d, hu, hd⟩ := hL.1
      exact ⟨d ++ ds, hd.app hds, d, ds, u, us, rfl, by rw [← hd.len]; exact hlen, rfl, by rw [hag]; exact hu, hp⟩
    · cases h1
def resF (tmps : Array Value) : ResultVar → Sem Value
  | .tmp t => pure (tmps.getD t undef)
  | .cell x t => do loadVar t (← asAddr (tmps.getD x undef))
theorem results_eq (fn : Func) (tmps : Array Value) : results fn tmps = (do let vs ← fn.results.mapM (resF tmps); pure (if h : vs.size = 1 then vs[0] else .tuple vs)) := by
  unfold results
  congr 1
theorem resSV_ok {E : EnvC} (hE : EnvOK P gl E) (hm : MemOK gl n0 w G h) {σ : AS} (hh : σ.heap = h) {a : Act} (hs : ∀ t, SVRep w G h (σ.slots t) (a.tmps.getD t undef)) : ∀ {rs : List ResultVar} {vs : List SV}, resSV E.tt σ rs = some vs →
    ∃ us, L2 (SVRep w G h) vs us ∧ (rs.mapM (m := Sem) (resF a.tmps)).run P w = .ok us w
  | [], vs, hr => by cases hr; exact ⟨[], trivial, by simp [Sem.run]⟩
  | .tmp t :: r, vs, hr => by
    simp only [resSV] at hr
    obtain ⟨l, hl, hr⟩ := Option.bind_eq_some_iff.1 hr
    cases hr
    obtain ⟨us, h1, h2⟩ := resSV_ok hE hm hh hs hl
    exact ⟨_ :: us, ⟨hs t, h1⟩, by
      rw [List.mapM_cons]
      simp only [resF, pure_bind, Sem.run_bind, h2, Result.andThen]
      simp [Sem.run]⟩
  | .cell x t :: r, vs, hr => by
    simp only [resSV] at hr
    obtain ⟨i, hi, hr⟩ := Option.bind_eq_some_iff.1 hr
    have hx := hs x
    split at hr
    · rename_i c hc
      rw [hc] at hx
      obtain ⟨cs, hcs, hr⟩ := Option.bind_eq_some_iff.1 hr
      obtain ⟨v, hv, hr⟩ := Option.bind_eq_some_iff.1 hr
      obtain ⟨l, hl, hr⟩ := Option.bind_eq_some_iff.1 hr
      cases hr
      obtain ⟨us, h1, h2⟩ := resSV_ok hE hm hh hs hl
      rw [hh] at hcs
      obtain ⟨A, d, hA, hL, hlen, hC⟩ := readAt_ok hm hx hcs
      obtain ⟨u, hu, hS⟩ := aggSV_ok hL hv
      have hrun := run_loadAt (P := P) (hE.tt _ _ hi) hC hlen hu
      have hrun : (loadVar t A).run P w = .ok u w := by simpa only [Instr.loadAt, Instr.sureAddr, pure_bind] using hrun
      refine ⟨u :: us, ⟨hS, h1⟩, ?_⟩
      rw [List.mapM_cons]
      have h3 : (resF a.tmps (.cell x t)).run P w = .ok u w := by
        show (do loadVar t (← asAddr (a.tmps.getD x undef)) : Sem Value).run P w = _
        rw [hA]
        simp only [asAddr, pure_bind, hrun]
      simp only [Sem.run_bind, h3, Result.andThen, h2]
      simp [Sem.run]
    · cases hr
theorem run_results {fn : Func} {tmps : Array Value} {us : List Value} (hr : (fn.results.toList.mapM (m := Sem) (resF tmps)).run P w = .ok us w) : (results fn tmps).run P w = .ok (oneOf us) w := by
  rw [results_eq, Array.mapM_eq_mapM_toList]
  simp only [map_eq_pure_bind, bind_assoc, Sem.run_bind, hr, Result.andThen, pure_bind]
  match us with
  | [] => simp [oneOf, Sem.run]
  | [u] => simp [oneOf, Sem.run]
  | u :: v :: r => simp [oneOf, Sem.run]
theorem argSV_rep {J : Nat → Prop} {a : AT} {x : a.t.den} {v : Value} (hI : ∀ b, J b → G.I b) (ha : ArgRep w J a x v) : SVRep w G h (argSV a x) v := by
  unfold ArgRep at ha
  unfold argSV
  cases hag : a.agg with
  | true =>
    rw [hag] at ha
    obtain ⟨l, hv, hK⟩ := ha
    exact ⟨l, hv, ofTy_ok hI hK⟩
  | false =>
    rw [hag] at ha
    simp only
    have hL := ofTy_ok (h := h) hI ha
    generalize ofTy a.t x = z at hL
    match z, hL with
    | [c], hL => exact hL.1
theorem argSVs_rep {J : Nat → Prop} (hI : ∀ b, J b → G.I b) : ∀ {ats : List AT} {x : AT.dens ats} {vs : List Value}, ArgsRep w J ats x vs → L2 (SVRep w G h) (argSVs ats x) vs
  | [], x, vs, ha => by cases ha; trivial
  | [a], x, vs, ha => by obtain ⟨v, rfl, ha⟩ := ha; exact ⟨argSV_rep hI ha, trivial⟩
  | a :: b :: r, x, vs, ha => by obtain ⟨v, q, rfl, h1, h2⟩ := ha; exact ⟨argSV_rep hI h1, argSVs_rep hI h2⟩
theorem argSVs_len : ∀ {ats : List AT} {x : AT.dens ats}, (argSVs ats x).length = ats.length
  | [], _ => rfl
  | [a], _ => rfl
  | a :: b :: r, x => by simp only [argSVs, List.length_cons, argSVs_len (ats := b :: r)]
end
theorem call_ok' {P : Program} {gl : GT} {f : FuncId} {fn : Func} {c : Code} {ats : List AT} {rts : List RT} (F : Fam (RT.dens rts)) (hf : P.funcs[f]? = some fn) (hb : fn.body = some c) (hmo : P.follows .mixedOrders = true) (hname : (fn.name == "runtime.NumGoroutine") = false)
    (k : Nat) (hE : ∀ n, n ≤ k → EnvOK P gl (F.c n)) (hcuts : F.cuts.all (fun p => shapeOk p.2.sh) = true) (hc : codeOk fn.ntmps c = true) (hats : Nat.ble ats.length fn.ntmps = true)
    (ho : Obl F c fun k => retK (F.c k) fn.results.toList rts) {g : Nat → AT.dens ats → Option (RT.dens rts)} (hg : ∀ k x, g k x = den F k c (startAS ats x) (retK (F.c k) fn.results.toList rts)) : CallOK P gl f ⟨ats, rts, g k⟩ where
  there := ⟨fn, hf, hname, by rw [hb]; rfl⟩
  calls := by
    intro x r hx w J args hJ hglob hargs
    have hx : den F k c (startAS ats x) (retK (F.c k) fn.results.toList rts) = some r := by rw [← hg]; exact hx
    have hats := Nat.le_of_ble_eq_true hats
    let J2 : Nat → Nat → Prop := fun | 0 => J | _ => fun _ => False
    let G : Mem := ⟨fun _ => undef, J, J2⟩
    have hL := argSVs_rep (G := G) (h := fun _ => none) (fun _ h => h) hargs
    have hlen : args.length = ats.length := by rw [← hL.len, argSVs_len]
    refine calls_of_wp hf hb ?_
    have hA : At gl fn.ntmps w.heap.size w J2 (startAS ats x) { tmps := args.toArray ++ Array.replicate (fn.ntmps - args.toArray.size) undef, defers := [] } w G := {
      rel := {
        mem := ⟨hJ, fun _ _ h => (by cases h), fun _ _ _ h => (by cases h), fun _ _ _ _ _ h => (by cases h), hglob, Nat.le_refl _, fun _ h => .inl h, fun _ h => h.elim, (fun _ _ _ h => by cases h), fun _ h => h.elim⟩
        slots := fun t => by
          show SVRep w G (fun _ => none) (match (argSVs ats x)[t]? with | some v => v | none => .undef) _
          have hget : ({ tmps := args.toArray ++ Array.replicate (fn.ntmps - args.toArray.size) undef, defers := [] } : Act).tmps.getD t undef = (args[t]?).getD undef := by
            simp only [Array.getD_eq_getD_getElem?, Array.getElem?_append, List.size_toArray, List.getElem?_toArray, Array.getElem?_replicate]
            split
            · rfl
            · rename_i hlt
              rw [List.getElem?_eq_none (by omega)]
              split <;> rfl
          rw [hget]
          cases hv : (argSVs ats x)[t]? with
          | none =>
            have : args[t]? = none := by
              rw [List.getElem?_eq_none_iff] at hv ⊢
              rw [← hL.len]; exact hv
            rw [this]; rfl
          | some v =>
            obtain ⟨u, hu, hr⟩ := L2.get hL hv
            rw [hu]; exact hr
        defers := rfl }
      size := by simp; omega
      below := Below.refl _ _
      J := rfl
      kept := fun _ _ => rfl }
    have hcut : ∀ k c, findCut F.cuts k = some c → AbsOK gl c.sh ∧ ((∀ k, ¬ J2 2 k) ∨ IOid ∈ c.sh.boxes.map (·.1)) := by
      intro k c hk
      refine ⟨?_, .inl fun _ h => h⟩
      have : ∀ {l : List (Nat × CutE (RT.dens rts))}, l.all (fun p => shapeOk p.2.sh) = true → findCut l k = some c → shapeOk c.sh = true := by
        intro l
        induction l with
        | nil => intro _ h; cases h
        | cons p l ih =>
          intro hal hfc
          obtain ⟨n, c'⟩ := p
          simp only [List.all_cons, Bool.and_eq_true] at hal
          simp only [findCut] at hfc
          cases hb : Nat.beq n k with
          | true => rw [hb] at hfc; cases hfc; exact hal.1
          | false => rw [hb] at hfc; exact ih hal.2 hfc
      exact abs_ok gl (this hcuts hk)
    refine wp_mono (den_ok (F := F) (r := r) hmo hE hcut c (fun k => retK (F.c k) fn.results.toList rts) hc ho k (Nat.le_refl _) _ _ w G hA hx) ?_
    rintro e a' w' ⟨m, hm, z, σ', G', he, hA', hk⟩
    have fin : (z = .normal ∨ z = .ret) → a'.defers = [] ∧ ∃ v, (results fn a'.tmps).run P w' = .ok v w' ∧ ∃ u, Ending.returned v = .returned u ∧ Below w.heap.size w w' ∧ ResRep w.heap.size w' J rts r u := by
      intro hz
      have hmem := hA'.rel.mem
      have hk : ((resSV (F.c m).tt σ' fn.results.toList).bind fun vs => (resGet σ'.heap rts vs).bind fun q => bif nodup q.2.1 && q.2.1.all (fun i => !(q.2.2.any (Nat.beq i))) then some q.1 else none) = some r := by
        rcases hz with rfl | rfl <;> exact hk
      obtain ⟨vs, hvs, hk⟩ := Option.bind_eq_some_iff.1 hk
      obtain ⟨q, hq, hk⟩ := Option.bind_eq_some_iff.1 hk
      obtain ⟨hchk, hk⟩ := bifs hk
      cases hk
      obtain ⟨us, hus, hrun⟩ := resSV_ok (hE m hm) hmem rfl hA'.rel.slots hvs
      unfold resGet at hq
      obtain ⟨cs, hcs, hq⟩ := Option.bind_eq_some_iff.1 hq
      obtain ⟨q', hq', hq⟩ := Option.bind_eq_some_iff.1 hq
      split at hq
      · rename_i hnil
        cases hq
        obtain ⟨ds, hds, hparts⟩ := resCells_ok hus hcs
        simp only [Bool.and_eq_true] at hchk
        have hnd := nodup_ok hchk.1
        have hdis : ∀ i ∈ q'.2.2.1, i ∉ q'.2.2.2 := fun i hi hi' => by
          have := List.all_eq_true.1 hchk.2 i hi
          simp only [Bool.not_eq_true'] at this
          have := List.any_eq_false.1 this i hi'
          simp [Nat.beq_refl] at this
        have hq2 : rcGet σ'.heap (flatRC rts) cs = some (q'.1, [], q'.2.2.1, q'.2.2.2) := by rw [hq', ← hnil]
        obtain ⟨hlb, hgo⟩ := rcLets hmem hds hq2
        have hJ' : ∀ b, (G'.I b ∨ OB G' q'.2.2.2 b) → J b ∨ (w.heap.size ≤ b ∧ b < w'.heap.size) := fun b hb => by
          rcases hb with hb | ⟨i, hi, hb⟩
          · rcases hmem.new b hb with h | h
            · rw [hA'.J] at h; exact .inl h
            · exact .inr ⟨h.1, hmem.bound b hb⟩
          · obtain ⟨v, f, e, t, xs, hh⟩ := hlb i hi
            obtain ⟨o1, o2, _, _⟩ := hmem.own i _ b hh hb
            exact .inr ⟨o1, o2⟩
        obtain ⟨bs, hRc, hbs, _⟩ := rcGet_ok hmem (J := fun b => G'.I b ∨ OB G' q'.2.2.2 b) (fun _ h => .inl h) hds hq2 (fun _ h => .inr h) (fun i hi b hb hJ => by
          obtain ⟨v, e, t, xs, hh⟩ := hgo i hi
          rcases hJ with hJ | ⟨j, hj, hJ⟩
          · exact (hmem.own i _ b hh hb).2.2.1 rfl hJ
          · obtain ⟨v', f', e', t', xs', hh'⟩ := hlb j hj
            obtain rfl := hmem.inj i j _ _ b hh hh' hb hJ
            exact hdis i hi hj) hnd
        exact ⟨hA'.rel.defers, oneOf us, run_results hrun, oneOf us, rfl, hA'.below, ⟨_, ds, bs, us, hJ', hRc, hbs, hparts, rfl⟩⟩
      · cases hq
    cases e with
    | normal => cases he; exact fin (.inl rfl)
    | ret => cases he; exact fin (.inr rfl)
    | exit i => cases he; cases hk
    | goto => cases he
    | panic => cases he
    | outgrown => cases he
theorem call_ok {P : Program} {gl : GT} {f : FuncId} {fn : Func} {c : Code} {ats : List AT} {rts : List RT} (F : Fam (RT.dens rts)) (hf : P.funcs[f]? = some fn) (hb : fn.body = some c) (hmo : P.follows .mixedOrders = true) (hname : (fn.name == "runtime.NumGoroutine") = false)
    (hE : ∀ n, EnvOK P gl (F.c n)) (hcuts : F.cuts.all (fun p => shapeOk p.2.sh) = true) (hc : codeOk fn.ntmps c = true) (hats : Nat.ble ats.length fn.ntmps = true)
    (ho : Obl F c fun k => retK (F.c k) fn.results.toList rts) {g : Nat → AT.dens ats → Option (RT.dens rts)} (hg : ∀ k x, g k x = den F k c (startAS ats x) (retK (F.c k) fn.results.toList rts)) (k : Nat) : CallOK P gl f ⟨ats, rts, g k⟩ :=
  call_ok' F hf hb hmo hname k (fun n _ => hE n) hcuts hc hats ho hg
/-- A function that calls itself: with fewer rounds. -/
theorem rec_ok {P : Program} {gl : GT} {f : FuncId} {ce ce' : Nat → CallE} (h0 : CallOK P gl f (ce' 0)) (hs : ∀ k, ce' (k + 1) = ce k) (step : ∀ k, (∀ n, n ≤ k → CallOK P gl f (ce' n)) → CallOK P gl f (ce k)) : ∀ k, CallOK P gl f (ce k) := by
  intro k
  induction k using Nat.strongRecOn with
  | _ k ih =>
    refine step k fun n hn => ?_
    cases n with
    | zero => exact h0
    | succ n => rw [hs]; exact ih n (by omega)
/-- Two functions that call one another. -/
theorem rec2_ok {P : Program} {gl : GT} {f g : FuncId} {ce ce' de de' : Nat → CallE} (h0 : CallOK P gl f (ce' 0)) (g0 : CallOK P gl g (de' 0)) (hs : ∀ k, ce' (k + 1) = ce k) (gs : ∀ k, de' (k + 1) = de k) (step : ∀ k, (∀ n, n ≤ k → CallOK P gl f (ce' n)) → (∀ n, n ≤ k → CallOK P gl g (de' n)) → CallOK P gl f (ce k))
    (gstep : ∀ k, (∀ n, n ≤ k → CallOK P gl f (ce' n)) → (∀ n, n ≤ k → CallOK P gl g (de' n)) → CallOK P gl g (de k)) : ∀ k, CallOK P gl f (ce k) ∧ CallOK P gl g (de k) := by
  intro k
  induction k using Nat.strongRecOn with
  | _ k ih =>
    have a : ∀ n, n ≤ k → CallOK P gl f (ce' n) := fun n hn => by
      cases n with
      | zero => exact h0
      | succ n => rw [hs]; exact (ih n (by omega)).1
    have b : ∀ n, n ≤ k → CallOK P gl g (de' n) := fun n hn => by
      cases n with
      | zero => exact g0
      | succ n => rw [gs]; exact (ih n (by omega)).2
    exact ⟨step k a b, gstep k a b⟩
theorem zero_ok {P : Program} {gl : GT} {f : FuncId} {fn : Func} {c : Code} {ats : List AT} {rts : List RT} (hf : P.funcs[f]? = some fn) (hb : fn.body = some c) (hname : (fn.name == "runtime.NumGoroutine") = false) : CallOK P gl f ⟨ats, rts, fun _ => none⟩ where
  there := ⟨fn, hf, hname, by rw [hb]; rfl⟩
  calls := fun x r h => by cases h
end Go.Den
