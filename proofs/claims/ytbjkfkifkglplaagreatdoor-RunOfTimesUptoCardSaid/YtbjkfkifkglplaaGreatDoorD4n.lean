/-
  Calls that write through a pointer to a block of the caller's own: what is asked of the callee.
-/
import Derived.Test.YtbjkfkifkglplaaGreatDoorD4d
set_option linter.unusedSectionVars false
set_option linter.unusedVariables false
set_option linter.unusedSimpArgs false
namespace Go.Den
open Go Go.RowKit
/-! What a cell says hangs on the start's sets no way. -/
theorem CellRep.reJ {w : World} {G : Mem} {h : Hp} (J' : Nat → Nat → Prop) {c : CV} {v : Value} (hc : CellRep w G h c v) : CellRep w ⟨G.μ, G.I, J'⟩ h c v := by
  cases c <;> exact hc
theorem BlkRep.reJ {w : World} {G : Mem} {h : Hp} (J' : Nat → Nat → Prop) {id : Nat} {B : Blk} (hb : BlkRep w G h id B) : BlkRep w ⟨G.μ, G.I, J'⟩ h id B := by
  cases B with
  | box cs => obtain ⟨b, e, l, h1, h2, h3, h4⟩ := hb; exact ⟨b, e, l, h1, h2, h3.imp fun _ _ hc => hc.reJ J', h4⟩
  | fbox cs => obtain ⟨b, e, l, h1, h2, h3, h4⟩ := hb; exact ⟨b, e, l, h1, h2, h3.imp fun _ _ hc => hc.reJ J', h4⟩
  | set ks => exact hb
  | row v f e t xs => exact hb
theorem MemOK.reJ {gl : GT} {n0 : Nat} {w : World} {G : Mem} {h : Hp} (hm : MemOK gl n0 w G h) {J' : Nat → Nat → Prop} (h0 : J' 0 = G.J 0) (h1 : ∀ k, J' 1 k → G.J 1 k) (h2 : ∀ k, J' 2 k → HasBox h IOid ∧ blkOf (G.μ IOid) = some k) : MemOK gl n0 w ⟨G.μ, G.I, J'⟩ h where
  bound := hm.bound
  rep := fun id B hi => (hm.rep id B hi).reJ J'
  own := hm.own
  inj := hm.inj
  glob := hm.glob
  le := hm.le
  new := fun b hb => by show J' 0 b ∨ (n0 ≤ b ∧ ¬ J' 1 b); rw [h0]; exact (hm.new b hb).imp id fun h => ⟨h.1, fun hF => h.2 (h1 b hF)⟩
  fb := fun b hb => hm.fb b (h1 b hb)
  foe := fun id B b hi hb hF => hm.foe id B b hi hb (h1 b hF)
  anc := h2
def sqCV : Option TypeId → List CV
  | some T => [.sq T IOid]
  | none => []
/-- Where a callee with a box starts. -/
def startIO (io : IOE) (y : (RC.tys io.bx).den) (x : AT.dens io.ats) : AS :=
  { slots := fun n => match (SV.one (.ptr IOid 0) :: argSVs io.ats x)[n]? with | some v => v | none => .undef,
    heap := hset (effs (fun _ => none) (rcOf 100001 0 io.bx y).2) IOid (.box (sqCV io.sq ++ (rcOf 100001 0 io.bx y).1)) }
/-- The sets that stay through the callee's run. -/
def ioJ (w : World) (J : Nat → Prop) (b : Nat) (bs : List Nat) : Nat → Nat → Prop
  | 0 => J
  | 1 => fun k => k < w.heap.size ∧ k ≠ b ∧ k ∉ bs
  | 2 => fun k => k = b
  | _ => fun _ => False
theorem SVRep.reJ {w : World} {G : Mem} {h : Hp} (J' : Nat → Nat → Prop) {s : SV} {v : Value} (hs : SVRep w G h s v) : SVRep w ⟨G.μ, G.I, J'⟩ h s v := by
  cases s with
  | one c => exact CellRep.reJ J' hs
  | agg cs => obtain ⟨l, h1, h2⟩ := hs; exact ⟨l, h1, h2.imp fun _ _ hc => hc.reJ J'⟩
  | _ => exact hs
theorem io_start {gl : GT} {w : World} {J : Nat → Prop} {b : Nat} {io : IOE} {y : (RC.tys io.bx).den} {x : AT.dens io.ats} {vs : List Value} {bs : List Nat} {args : List Value} (hJ : ∀ b, J b → b < w.heap.size) (hglob : GlobOK gl w J) (hargs : ArgsRep w J io.ats x args)
    (hbox : BoxIs w b io.sq vs) (hrc : RcRep w J 0 io.bx y vs bs) (hnd : bs.Nodup) (hbn : b ∉ bs) (hJb : ¬ J b) :
    ∃ G, MemOK gl 0 w G (startIO io y x).heap ∧ G.J = ioJ w J b bs ∧ ∀ t, SVRep w G (startIO io y x).heap ((startIO io y x).slots t) (((Value.pointer (some ⟨b, 0, none⟩) :: args)[t]?).getD undef) := by
  let J4 : Nat → Nat → Prop := fun | 0 => J | 1 => fun k => k < w.heap.size ∧ k ≠ b ∧ k ∉ bs | _ => fun _ => False
  let G0 : Mem := ⟨fun _ => undef, J, J4⟩
  have m0 : MemOK gl 0 w G0 (fun _ => none) := ⟨hJ, fun _ _ h => (by cases h), fun _ _ _ h => (by cases h), fun _ _ _ _ _ h => (by cases h), hglob, Nat.zero_le _, fun _ h => .inl h, fun _ h => h.1, (fun _ _ _ h => by cases h), fun _ h => h.elim⟩
  obtain ⟨G1, m1, E1, hL, hI, hB⟩ := rc_ok 100001 (j := 0) m0 (J := J) (fun _ h => h) hrc hnd (fun c hc => ⟨Nat.zero_le _, (rcRep_bs hrc c hc).2.2, fun hF => hF.2.2 hc⟩) (fun _ _ _ _ h => by cases h) (fun _ _ _ => rfl)
  have hG1 : G1.J = J4 := E1.J
  have hno : effs (fun _ => none) (rcOf 100001 0 io.bx y).2 IOid = none := effs_other _ _ _ fun p hp he => by
    obtain ⟨k, h1, _, h3⟩ := eff_ids 100001 p hp
    rw [he] at h3
    unfold IOid newId at h3
    omega
  obtain ⟨l0, e, hb, hsq⟩ : ∃ l0 e, w.heap[b]? = some (.cells (l0 ++ vs).toArray e (0, 0)) ∧ (match io.sq with | none => l0 = [] | some T => e = T ∧ ∃ v, l0 = [v] ∧ (v = .pointer none ∨ v = .pointer (some ⟨b, 0, none⟩))) := by
    unfold BoxIs at hbox
    cases hq : io.sq with
    | none => rw [hq] at hbox; obtain ⟨e, hb⟩ := hbox; exact ⟨[], e, hb, rfl⟩
    | some T => rw [hq] at hbox; obtain ⟨v, hv, hb⟩ := hbox; exact ⟨[v], T, hb, rfl, v, rfl, hv⟩
  have hblt := (Array.getElem?_eq_some_iff.1 hb).1
  have hn : ∀ i C, effs (fun _ => none) (rcOf 100001 0 io.bx y).2 i = some C → blkOf (G1.μ i) ≠ some b := fun i C h1 h2 => by
    rcases hB i C b h1 h2 with ⟨_, h, _⟩ | h
    · cases h
    · exact hbn h
  have E2 := evo_set (h := effs (fun _ => none) (rcOf 100001 0 io.bx y).2) (G := G1) (id := IOid) (B := .box (sqCV io.sq ++ (rcOf 100001 0 io.bx y).1)) (v0 := .pointer (some ⟨b, 0, none⟩)) (fun _ _ => rfl : ∀ k, G1.I k → w.heap[k]? = w.heap[k]?) (fun _ _ => rfl) (fun C hC => by rw [hno] at hC; cases hC)
  have hbx : HasBox (startIO io y x).heap IOid := ⟨.box (sqCV io.sq ++ (rcOf 100001 0 io.bx y).1), _, hset_same (effs (fun _ => none) (rcOf 100001 0 io.bx y).2) IOid _, rfl⟩
  have hL0 : ∀ (H : Hp) (G : Mem), HasBox H IOid → G.μ IOid = .pointer (some ⟨b, 0, none⟩) → L2 (CellRep w G H) (sqCV io.sq) l0 := fun H G h1 h2 => by
    unfold sqCV
    cases hq : io.sq with
    | none => rw [hq] at hsq; rw [hsq]; trivial
    | some T => rw [hq] at hsq; obtain ⟨_, v, rfl, hv⟩ := hsq; exact ⟨⟨b, h1, h2, hv⟩, trivial⟩
  obtain ⟨m2, _⟩ := mem_set m1 (id := IOid) (B := .box (sqCV io.sq ++ (rcOf 100001 0 io.bx y).1)) (v0 := .pointer (some ⟨b, 0, none⟩)) (fun _ _ => rfl)
    (fun k hk => ⟨rfl, fun he => by rw [hG1] at hk; cases he; exact hk.2.1 rfl⟩) (fun _ _ _ _ _ _ => rfl) (Nat.le_refl _) (fun C hC => by rw [hno] at hC; cases hC)
    ⟨b, e, l0 ++ vs, Mem.set_same _ _ _, hb, by
      exact (hL0 _ _ hbx (Mem.set_same _ _ _)).app (hL.imp fun _ _ hc => hc.evo E2), by
      unfold sqCV
      cases hq : io.sq with
      | none => exact rc_ty
      | some T => rw [hq] at hsq; exact hsq.1⟩
    (fun k hk => by
      cases hk
      exact ⟨Nat.zero_le _, hblt, fun _ hI' => by rw [hI] at hI'; exact hJb hI', fun hf => (by cases hf), fun i C _ hi => hn i C hi⟩)
  have m3 := m2.reJ (J' := ioJ w J b bs) (by show J = G1.J 0; rw [hG1]; rfl) (fun k hk => by show G1.J 1 k; rw [hG1]; exact hk) (fun k hk => ⟨hbx, by rw [Mem.set_same]; cases hk; rfl⟩)
  have hL3 := argSVs_rep (w := w) (G := ⟨(G1.set IOid (.pointer (some ⟨b, 0, none⟩))).μ, (G1.set IOid (.pointer (some ⟨b, 0, none⟩))).I, ioJ w J b bs⟩) (h := (startIO io y x).heap) (J := J) (fun k hk => E1.I k hk) hargs
  refine ⟨_, m3, rfl, fun t => ?_⟩
  show SVRep w _ _ (match (SV.one (.ptr IOid 0) :: argSVs io.ats x)[t]? with | some v => v | none => .undef) _
  cases t with
  | zero => exact ⟨b, hbx, Mem.set_same G1 IOid _, rfl⟩
  | succ t =>
    simp only [List.getElem?_cons_succ]
    cases hv : (argSVs io.ats x)[t]? with
    | none =>
      have : args[t]? = none := by
        rw [List.getElem?_eq_none_iff] at hv ⊢
        rw [← hL3.len]; exact hv
      rw [this]; rfl
    | some v =>
      obtain ⟨u, hu, hr⟩ := L2.get hL3 hv
      rw [hu]; exact hr
def dropSq : Option TypeId → List CV → Option (List CV)
  | none, cs => some cs
  | some T, .sq T' i :: r => bif Nat.beq T' T && Nat.beq i IOid then some r else none
  | _, _ => none
def noRest : List CV → Bool
  | [] => true
  | _ => false
/-- The end of such a body: the box, and the results. -/
def retIO (E : EnvC) (res : List ResultVar) (io : IOE) : Ex → AS → Option ((RC.tys io.bx).den × RT.dens io.rts)
  | .exit _, _ => none
  | _, σ => match σ.heap IOid with
    | some (.box cs) => (dropSq io.sq cs).bind fun cs => (rcGet σ.heap io.bx cs).bind fun q => (resSV E.tt σ res).bind fun vs => (resGet σ.heap io.rts vs).bind fun q2 =>
      bif noRest q.2.1 && (nodup (q.2.2.1 ++ q2.2.1) && (q.2.2.1 ++ q2.2.1).all (fun i => !((q.2.2.2 ++ q2.2.2).any (Nat.beq i)))) then some (q.1, q2.1) else none
    | _ => none
section
variable {gl : GT} {w w' : World} {J : Nat → Prop} {b : Nat} {bs : List Nat} {G : Mem} {h : Hp}
theorem io_box (hm : MemOK gl 0 w' G h) (hJ : G.J = ioJ w J b bs) {cs cs' : List CV} (hc : h IOid = some (.box cs)) {sq : Option TypeId} (hd : dropSq sq cs = some cs') : ∃ vs, BoxIs w' b sq vs ∧ L2 (CellRep w' G h) cs' vs := by
  obtain ⟨b', e, l, h1, h2, h3, h4⟩ := hm.rep _ _ hc
  have hb : blkOf (G.μ IOid) = some b := (hm.anc b (by rw [hJ]; rfl)).2
  rw [h1] at hb
  cases hb
  cases sq with
  | none => cases hd; exact ⟨l, ⟨e, h2⟩, h3⟩
  | some T =>
    cases cs with
    | nil => cases hd
    | cons c r =>
      cases c
      case sq T' i =>
        obtain ⟨hq, hd⟩ := bifs (show (bif Nat.beq T' T && Nat.beq i IOid then some r else none) = some cs' from hd)
        cases hd
        simp only [Bool.and_eq_true] at hq
        obtain rfl := nbeq hq.1
        obtain rfl := nbeq hq.2
        cases l with
        | nil => exact h3.elim
        | cons v l =>
          obtain ⟨b2, _, g2, g3⟩ := h3.1
          rw [h1] at g2
          cases g2
          have h4 : e = T' := h4
          subst h4
          exact ⟨l, ⟨v, g3, h2⟩, h3.2⟩
      all_goals cases hd
theorem io_blk (hm : MemOK gl 0 w' G h) (hJ : G.J = ioJ w J b bs) {cs : List CV} (hc : h IOid = some (.box cs)) : ∀ i v f e t xs c, h i = some (.row v f e t xs) → blkOf (G.μ i) = some c → (c ∈ bs ∨ w.heap.size ≤ c) ∧ c < w'.heap.size ∧ c ≠ b := fun i v f e t xs c hi hb => by
  have hne : c ≠ b := fun he => by
    subst he
    have hb2 : blkOf (G.μ IOid) = some c := (hm.anc c (by rw [hJ]; rfl)).2
    obtain rfl := hm.inj i IOid _ _ c hi hc hb hb2
    rw [hc] at hi; cases hi
  refine ⟨?_, (hm.own i _ c hi hb).2.1, hne⟩
  have hF := hm.foe i _ c hi hb
  rw [hJ] at hF
  by_cases h1 : c ∈ bs
  · exact .inl h1
  · refine .inr (Nat.le_of_not_lt fun hlt => hF ⟨hlt, hne, h1⟩)
theorem io_data (hm : MemOK gl 0 w' G h) (hJ : G.J = ioJ w J b bs) {cs : List CV} (hc : h IOid = some (.box cs)) : ∀ c, G.I c → (J c ∨ c ∈ bs ∨ (w.heap.size ≤ c ∧ c < w'.heap.size)) ∧ c ≠ b := fun c hI => by
  have hne : c ≠ b := fun he => by
    subst he
    have hb2 : blkOf (G.μ IOid) = some c := (hm.anc c (by rw [hJ]; rfl)).2
    exact (hm.own IOid _ c hc hb2).2.2.1 rfl hI
  refine ⟨?_, hne⟩
  rcases hm.new c hI with h1 | ⟨_, hF⟩
  · rw [hJ] at h1; exact .inl h1
  · rw [hJ] at hF
    by_cases h1 : c ∈ bs
    · exact .inr (.inl h1)
    · exact .inr (.inr ⟨Nat.le_of_not_lt fun hlt => hF ⟨hlt, hne, h1⟩, hm.bound c hI⟩)
end
theorem io_ok {P : Program} {gl : GT} {f : FuncId} {fn : Func} {c : Code} {io : IOE} (F : Fam ((RC.tys io.bx).den × RT.dens io.rts)) (hf : P.funcs[f]? = some fn) (hb : fn.body = some c) (hmo : P.follows .mixedOrders = true) (hname : (fn.name == "runtime.NumGoroutine") = false)
    (k : Nat) (hE : ∀ n, n ≤ k → EnvOK P gl (F.c n)) (hcuts : F.cuts.all (fun p => shapeOk p.2.sh && (p.2.sh.boxes.map (·.1)).any (Nat.beq IOid)) = true) (hc : codeOk fn.ntmps c = true) (hats : Nat.ble (io.ats.length + 1) fn.ntmps = true)
    (ho : Obl F c fun k => retIO (F.c k) fn.results.toList io) (hg : ∀ y x, io.fn y x = den F k c (startIO io y x) (retIO (F.c k) fn.results.toList io)) : IOOK P gl f io where
  there := ⟨fn, hf, hname, by rw [hb]; rfl⟩
  calls := by
    intro y x y' r hx w J b vs bs args hJ hglob hargs hbox hrc hnd hbn hJb
    rw [hg] at hx
    have hats := Nat.le_of_ble_eq_true hats
    obtain ⟨G, m0, hGJ, hS⟩ := io_start hJ hglob hargs hbox hrc hnd hbn hJb
    have hlen : args.length = io.ats.length := by
      have hL := argSVs_rep (w := w) (G := ⟨fun _ => undef, J, fun _ _ => False⟩) (h := fun _ => none) (J := J) (fun _ h => h) hargs
      rw [← hL.len, argSVs_len]
    refine calls_of_wp hf hb ?_
    have hA : At gl fn.ntmps 0 w (ioJ w J b bs) (startIO io y x) { tmps := (Value.pointer (some ⟨b, 0, none⟩) :: args).toArray ++ Array.replicate (fn.ntmps - (Value.pointer (some ⟨b, 0, none⟩) :: args).toArray.size) undef, defers := [] } w G := {
      rel := {
        mem := m0
        slots := fun t => by
          have hget : ({ tmps := (Value.pointer (some ⟨b, 0, none⟩) :: args).toArray ++ Array.replicate (fn.ntmps - (Value.pointer (some ⟨b, 0, none⟩) :: args).toArray.size) undef, defers := [] } : Act).tmps.getD t undef = ((Value.pointer (some ⟨b, 0, none⟩) :: args)[t]?).getD undef := by
            simp only [Array.getD_eq_getD_getElem?, Array.getElem?_append, List.size_toArray, List.getElem?_toArray, Array.getElem?_replicate]
            split
            · rfl
            · rename_i hlt
              rw [List.getElem?_eq_none (by omega)]
              split <;> rfl
          rw [hget]
          exact hS t
        defers := rfl }
      size := by simp; omega
      below := Below.refl _ _
      J := hGJ
      kept := fun _ _ => rfl }
    have hcut : ∀ k c, findCut F.cuts k = some c → AbsOK gl c.sh ∧ ((∀ k, ¬ ioJ w J b bs 2 k) ∨ IOid ∈ c.sh.boxes.map (·.1)) := by
      intro k c hk
      have : ∀ {l : List (Nat × CutE ((RC.tys io.bx).den × RT.dens io.rts))}, l.all (fun p => shapeOk p.2.sh && (p.2.sh.boxes.map (·.1)).any (Nat.beq IOid)) = true → findCut l k = some c → shapeOk c.sh = true ∧ (c.sh.boxes.map (·.1)).any (Nat.beq IOid) = true := by
        intro l
        induction l with
        | nil => intro _ h; cases h
        | cons p l ih =>
          intro hal hfc
          obtain ⟨n, c'⟩ := p
          simp only [List.all_cons, Bool.and_eq_true] at hal
          simp only [findCut] at hfc
          cases hb : Nat.beq n k with
          | true => rw [hb] at hfc; cases hfc; exact hal.1
          | false => rw [hb] at hfc; exact ih (by simpa only [Bool.and_eq_true] using hal.2) hfc
      obtain ⟨h1, h2⟩ := this hcuts hk
      refine ⟨abs_ok gl h1, .inr ?_⟩
      obtain ⟨i, hi, he⟩ := List.any_eq_true.1 h2
      rw [nbeq he]; exact hi
    refine wp_mono (den_ok (F := F) (r := (y', r)) hmo hE hcut c (fun k => retIO (F.c k) fn.results.toList io) hc ho k (Nat.le_refl _) _ _ w G hA hx) ?_
    rintro e a' w' ⟨m, hm, z, σ', G', he, hA', hk⟩
    have fin : (z = .normal ∨ z = .ret) → a'.defers = [] ∧ ∃ v, (results fn a'.tmps).run P w' = .ok v w' ∧ ∃ (u : Value) (vs' : List Value) (bs' : List Nat) (J' : Nat → Prop), Ending.returned v = .returned u ∧ Below 0 w w' ∧ (∀ k, k < w.heap.size → k ≠ b → k ∉ bs → w'.heap[k]? = w.heap[k]?) ∧
      BoxIs w' b io.sq vs' ∧ RcRep w' J' 0 io.bx y' vs' bs' ∧ bs'.Nodup ∧ b ∉ bs' ∧ ¬ J' b ∧ (∀ c, J' c → J c ∨ c ∈ bs ∨ (w.heap.size ≤ c ∧ c < w'.heap.size)) ∧ (∀ c ∈ bs', c ∈ bs ∨ w.heap.size ≤ c) ∧
      ∃ (ds : List Value) (bsr : List Nat) (us : List Value), RcRep w' J' 0 (flatRC io.rts) r ds bsr ∧ bsr.Nodup ∧ (∀ c ∈ bsr, (c ∈ bs ∨ w.heap.size ≤ c) ∧ c ∉ bs' ∧ c ≠ b) ∧ ResParts io.rts ds us ∧ u = oneOf us := by
      intro hz
      have hmem := hA'.rel.mem
      have hk : (match σ'.heap IOid with
        | some (.box cs) => (dropSq io.sq cs).bind fun cs => (rcGet σ'.heap io.bx cs).bind fun q => (resSV (F.c m).tt σ' fn.results.toList).bind fun vs => (resGet σ'.heap io.rts vs).bind fun q2 =>
          bif noRest q.2.1 && (nodup (q.2.2.1 ++ q2.2.1) && (q.2.2.1 ++ q2.2.1).all (fun i => !((q.2.2.2 ++ q2.2.2).any (Nat.beq i)))) then some (q.1, q2.1) else none
        | _ => none) = some (y', r) := by
        rcases hz with rfl | rfl <;> exact hk
      split at hk
      · rename_i cs hcs0
        obtain ⟨cs1, hd, hk⟩ := Option.bind_eq_some_iff.1 hk
        obtain ⟨q, hq, hk⟩ := Option.bind_eq_some_iff.1 hk
        obtain ⟨svs, hvs, hk⟩ := Option.bind_eq_some_iff.1 hk
        obtain ⟨q2, hq2, hk⟩ := Option.bind_eq_some_iff.1 hk
        obtain ⟨hchk, hk⟩ := bifs hk
        cases hk
        simp only [Bool.and_eq_true] at hchk
        obtain ⟨hnr, hnd2, hdis⟩ := hchk
        have hnd2 := nodup_ok hnd2
        obtain ⟨n1, n2, n3⟩ := List.nodup_append.1 hnd2
        have hdis : ∀ i ∈ q.2.2.1 ++ q2.2.1, i ∉ q.2.2.2 ++ q2.2.2 := fun i hi hi' => by
          have := List.all_eq_true.1 hdis i hi
          simp only [Bool.not_eq_true'] at this
          have := List.any_eq_false.1 this i hi'
          simp [Nat.beq_refl] at this
        obtain ⟨bvs, hbx, hbL⟩ := io_box hmem hA'.J hcs0 hd
        obtain ⟨us, hus, hrun⟩ := resSV_ok (hE m hm) hmem rfl hA'.rel.slots hvs
        unfold resGet at hq2
        obtain ⟨rcs, hrcs, hq2⟩ := Option.bind_eq_some_iff.1 hq2
        obtain ⟨q', hq', hq2⟩ := Option.bind_eq_some_iff.1 hq2
        split at hq2
        · rename_i hnil
          cases hq2
          obtain ⟨ds, hds, hparts⟩ := resCells_ok hus hrcs
          have hq1 : rcGet σ'.heap io.bx cs1 = some (q.1, [], q.2.2.1, q.2.2.2) := by
            rw [hq]
            have : q.2.1 = [] := by cases hqr : q.2.1 with | nil => rfl | cons => rw [hqr] at hnr; cases hnr
            rw [← this]
          have hq2' : rcGet σ'.heap (flatRC io.rts) rcs = some (q'.1, [], q'.2.2.1, q'.2.2.2) := by rw [hq', ← hnil]
          obtain ⟨lb1, go1⟩ := rcLets hmem hbL hq1
          obtain ⟨lb2, go2⟩ := rcLets hmem hds hq2'
          have hlb : ∀ i ∈ q.2.2.2 ++ q'.2.2.2, ∃ v f e t xs, σ'.heap i = some (.row v f e t xs) := fun i hi => (List.mem_append.1 hi).elim (lb1 i) (lb2 i)
          have hgo : ∀ i ∈ q.2.2.1 ++ q'.2.2.1, ∃ v e t xs, σ'.heap i = some (.row v false e t xs) := fun i hi => (List.mem_append.1 hi).elim (go1 i) (go2 i)
          let J' : Nat → Prop := fun c => G'.I c ∨ OB G' (q.2.2.2 ++ q'.2.2.2) c
          have hnot : ∀ i ∈ q.2.2.1 ++ q'.2.2.1, ∀ c, blkOf (G'.μ i) = some c → ¬ J' c := fun i hi c hb hJ => by
            obtain ⟨v, e, t, xs, hh⟩ := hgo i hi
            rcases hJ with hJ | ⟨j, hj, hJ⟩
            · exact (hmem.own i _ c hh hb).2.2.1 rfl hJ
            · obtain ⟨v', f', e', t', xs', hh'⟩ := hlb j hj
              obtain rfl := hmem.inj i j _ _ c hh hh' hb hJ
              exact hdis i hi hj
          obtain ⟨bs1, hR1, hn1, hs1⟩ := rcGet_ok hmem (J := J') (fun _ h => .inl h) hbL hq1 (fun c hc => .inr (OB_mono (fun i hi => List.mem_append_left _ hi) hc)) (fun i hi => hnot i (List.mem_append_left _ hi)) n1
          obtain ⟨bs2, hR2, hn2, hs2⟩ := rcGet_ok hmem (J := J') (fun _ h => .inl h) hds hq2' (fun c hc => .inr (OB_mono (fun i hi => List.mem_append_right _ hi) hc)) (fun i hi => hnot i (List.mem_append_right _ hi)) n2
          have blk := io_blk hmem hA'.J hcs0
          have b1 : ∀ c ∈ bs1, (c ∈ bs ∨ w.heap.size ≤ c) ∧ c < w'.heap.size ∧ c ≠ b := fun c hc => by
            obtain ⟨i, hi, _, hb⟩ := hs1 c hc
            obtain ⟨v, e, t, xs, hh⟩ := go1 i hi
            exact blk i v false e t xs c hh hb
          have b2 : ∀ c ∈ bs2, (c ∈ bs ∨ w.heap.size ≤ c) ∧ c < w'.heap.size ∧ c ≠ b := fun c hc => by
            obtain ⟨i, hi, _, hb⟩ := hs2 c hc
            obtain ⟨v, e, t, xs, hh⟩ := go2 i hi
            exact blk i v false e t xs c hh hb
          refine ⟨hA'.rel.defers, oneOf us, run_results hrun, oneOf us, bvs, bs1, J', rfl, hA'.below, fun k h1 h2 h3 => hA'.kept k (by rw [hA'.J]; exact ⟨h1, h2, h3⟩), hbx, hR1, hn1, fun h => (b1 b h).2.2 rfl, ?_, ?_, fun c hc => (b1 c hc).1, ds, bs2, us, hR2, hn2, fun c hc => ⟨(b2 c hc).1, fun h => ?_, (b2 c hc).2.2⟩, hparts, rfl⟩
          · rintro (h | ⟨j, hj, h⟩)
            · exact (io_data hmem hA'.J hcs0 b h).2 rfl
            · obtain ⟨v', f', e', t', xs', hh'⟩ := hlb j hj
              exact (blk j _ _ _ _ _ b hh' h).2.2 rfl
          · rintro c (h | ⟨j, hj, h⟩)
            · exact (io_data hmem hA'.J hcs0 c h).1
            · obtain ⟨v', f', e', t', xs', hh'⟩ := hlb j hj
              obtain ⟨h1, h2, _⟩ := blk j _ _ _ _ _ c hh' h
              exact .inr (h1.imp id fun h1 => ⟨h1, h2⟩)
          · obtain ⟨i, hi, _, hbi⟩ := hs1 c h
            obtain ⟨j, hj, _, hbj⟩ := hs2 c hc
            obtain ⟨v, e, t, xs, hh⟩ := go1 i hi
            obtain ⟨v2, e2, t2, xs2, hh2⟩ := go2 j hj
            obtain rfl := hmem.inj i j _ _ c hh hh2 hbi hbj
            exact n3 i hi i hj rfl
        · cases hq2
      · cases hk
    cases e with
    | normal => cases he; exact fin (.inl rfl)
    | ret => cases he; exact fin (.inr rfl)
    | exit i => cases he; cases hk
    | goto => cases he
    | panic => cases he
    | outgrown => cases he
/-! The caller's side. -/
end Go.Den
