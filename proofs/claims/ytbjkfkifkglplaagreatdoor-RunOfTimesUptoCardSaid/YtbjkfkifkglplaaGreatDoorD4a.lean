/-
  A region of the abstract machine is right.
-/
import Derived.Test.YtbjkfkifkglplaaGreatDoorD3r
import Derived.Test.YtbjkfkifkglplaaGreatDoorD1c
import Derived.Tactics2
set_option linter.unusedSectionVars false
set_option linter.unusedVariables false
set_option linter.unusedSimpArgs false
namespace Go.Den
open Go Go.RowKit
/-- The machine stands where the abstract one stands. -/
structure At (gl : GT) (N n0 : Nat) (w0 : World) (J : Nat → Nat → Prop) (σ : AS) (a : Act) (w : World) (G : Mem) : Prop where
  rel : Rel gl n0 σ a w G
  size : a.tmps.size = N
  below : Below n0 w0 w
  J : G.J = J
  kept : ∀ b, G.J 1 b → w.heap[b]? = w0.heap[b]?
def dstOK (N : Nat) (o : Oper) : Bool := match o.dst with | some d => Nat.blt d N | none => true
theorem nblt {a b : Nat} (h : Nat.blt a b = true) : a < b := Nat.le_of_ble_eq_true h
theorem nbeq_ne {a b : Nat} (h : a ≠ b) : Nat.beq a b = false := by
  cases hb : Nat.beq a b with
  | false => rfl
  | true => exact absurd (nbeq hb) h
section
variable {P : Program} {gl : GT} {N n0 : Nat} {w0 : World} {J : Nat → Nat → Prop} {σ : AS} {a : Act} {w : World} {G : Mem} {E : EnvC} {R : Type} {r : R}
theorem getD_put {a : Act} {d t : Nat} {v : Value} (hd : d < a.tmps.size) : (a.put (some d) v).tmps.getD t undef = if t = d then v else a.tmps.getD t undef := by
  simp only [Act.put, Array.getD_eq_getD_getElem?, Array.getElem?_setIfInBounds]
  by_cases h : d = t
  · subst h; simp [hd]
  · have h' : ¬ t = d := fun e => h e.symm
    simp [h, h']
theorem put_ok (hA : At gl N n0 w0 J σ a w G) {o : Oper} (hd : dstOK N o = true) {v : SV} {e : List (Nat × Blk)} {u : Value} {w' : World} {G' : Mem}
    (hm : MemOK gl n0 w' G' (effs σ.heap e)) (Ev : Evo w w' G G' σ.heap (effs σ.heap e)) (B : Below n0 w w') (hs : SVRep w' G' (effs σ.heap e) v u) :
    At gl N n0 w0 J ((σ.put o.dst v).eff e) (a.put o.dst u) w' G' where
  rel := {
    mem := by rw [AS.eff_heap, AS.put_heap]; exact hm
    slots := fun t => by
      rw [AS.eff_heap, AS.put_heap, AS.eff_slots]
      cases hdst : o.dst with
      | none => exact (hA.rel.slots t).evo Ev
      | some d =>
        have hlt : d < a.tmps.size := by
          rw [hA.size]
          simp only [dstOK, hdst] at hd
          exact nblt hd
        rw [getD_put hlt]
        show SVRep w' G' _ (bif Nat.beq t d then v else σ.slots t) _
        by_cases h : t = d
        · subst h; simpa [Nat.beq_refl] using hs
        · have : Nat.beq t d = false := by
            cases hb : Nat.beq t d with
            | false => rfl
            | true => exact absurd (nbeq hb) h
          rw [this, if_neg h]
          exact (hA.rel.slots t).evo Ev
    defers := by
      have : (a.put o.dst u).defers = a.defers := by cases o.dst <;> rfl
      rw [this]; exact hA.rel.defers }
  size := by
    have : (a.put o.dst u).tmps.size = a.tmps.size := by cases o.dst <;> simp [Act.put]
    rw [this]; exact hA.size
  below := hA.below.trans B
  J := Ev.J.trans hA.J
  kept := fun b hb => by rw [Ev.J] at hb; exact (Ev.keepF b hb).trans (hA.kept b hb)
theorem put0_ok (hA : At gl N n0 w0 J σ a w G) {o : Oper} (hd : dstOK N o = true) {v : SV} {u : Value} (hs : SVRep w G σ.heap v u) : At gl N n0 w0 J (σ.put o.dst v) (a.put o.dst u) w G :=
  put_ok hA hd (e := []) hA.rel.mem (Evo.refl _ _ _) (Below.refl _ _) hs
theorem chk_some {cs : List Cnd} {k : Option R} (h : chk cs k = some r) : (∀ c ∈ cs, c.p) ∧ k = some r := by
  induction cs with
  | nil => exact ⟨by simp, h⟩
  | cons c cs ih =>
    simp only [chk] at h
    by_cases hp : c.p
    · rw [@if_pos _ c.d hp] at h
      obtain ⟨h1, h2⟩ := ih h
      refine ⟨fun x hx => ?_, h2⟩
      rcases List.mem_cons.1 hx with rfl | hx
      · exact hp
      · exact h1 x hx
    · rw [@if_neg _ c.d hp] at h; cases h
/-- A Bool's two ways. -/
theorem both_some {h : Hp} {c : CV} {v : Value} {x y : Option R} (hc : CellRep w G h c v) (hb : both c x y = some r) : ∃ t : Bool, v = .bool t ∧ (if t then x else y) = some r := by
  cases c <;> simp only [both] at hb
  case b t =>
    simp only [CellRep] at hc
    refine ⟨t, hc, ?_⟩
    cases t
    · rw [@if_neg _ _ (by simp)] at hb; simpa using hb
    · rw [@if_pos _ _ rfl] at hb; simpa using hb
  case p p d =>
    simp only [CellRep] at hc
    by_cases hp : p
    · rw [@if_pos _ d hp] at hb; exact ⟨true, by simp [hc, hp], by simpa using hb⟩
    · rw [@if_neg _ d hp] at hb; exact ⟨false, by simp [hc, hp], by simpa using hb⟩
  case q p d =>
    simp only [CellRep] at hc
    by_cases hp : p
    · rw [@if_pos _ d hp] at hb; exact ⟨false, by simp [hc, hp], by simpa using hb⟩
    · rw [@if_neg _ d hp] at hb; exact ⟨true, by simp [hc, hp], by simpa using hb⟩
  all_goals cases hb
theorem opK_ok (hE : EnvOK P gl E) (hA : At gl N n0 w0 J σ a w G) {o : Oper} (hd : dstOK N o = true) {K : AS → Option R} (hk : opK E o σ.heap σ K = some r) {next : Act → World → Prop} {Q : Exit → Act → World → Prop}
    (hn : ∀ σ' a' w' G', At gl N n0 w0 J σ' a' w' G' → K σ' = some r → next a' w') : o.wp P a w next Q := by
  have hval : ∀ {op}, o.op = op → ((match op1 E (o.dst.getD 0) (evO E σ.slots) σ.heap op with
    | some (.val cs v e) => chk cs (v.force fun v => forceEff e fun e => K ((σ.put o.dst v).eff e))
    | _ => none) = some r) → o.wp P a w next Q := by
    intro op hop h
    split at h
    · rename_i cs v e h1
      obtain ⟨hc, h⟩ := chk_some h
      rw [SV.force_eq, forceEff_eq] at h
      rw [← hop] at h1
      exact op1_val (o := o) hE hA.rel.mem hA.rel.slots h1 hc next Q fun u w' G' hm Ev B hs => hn _ _ _ _ (put_ok hA hd hm Ev B hs) h
    · cases h
  unfold opK at hk
  split at hk
  · rename_i c x y hop
    split at hk
    · rename_i cv hcv
      have hc : CellRep w G σ.heap cv (a.eval c) := by
        have := evO_ok hE hA.rel.mem hA.rel.slots c
        rw [hcv] at this; exact this
      obtain ⟨t, hv, hb⟩ := both_some hc hk
      unfold Oper.wp
      have hr : (execOp a.eval o).run P w = .ok (.value (if t then a.eval x else a.eval y)) w := by
        simp [execOp, hop, hv, asBool]
        try cases t <;> rfl
      rw [hr]
      cases t
      · simp only [Bool.false_eq_true, if_false, SV.force_eq] at hb
        exact hn _ _ _ _ (put0_ok hA hd (evO_ok hE hA.rel.mem hA.rel.slots y)) hb
      · simp only [if_true, SV.force_eq] at hb
        exact hn _ _ _ _ (put0_ok hA hd (evO_ok hE hA.rel.mem hA.rel.slots x)) hb
    · cases hk
  · rename_i f as ts hop
    split at hk
    · rename_i α comp res eff h1
      obtain ⟨y, hy, hk⟩ := Option.bind_eq_some_iff.1 hk
      rw [SV.force_eq, forceEff_eq] at hk
      exact op1_call (o := o) hE hA.rel.mem hA.rel.slots hop h1 hy next Q fun u w' G' hm Ev B hs => hn _ _ _ _ (put_ok hA hd hm Ev B hs) hk
    · cases hk
  · exact hval rfl hk
theorem wanted_ok (hA : At gl N n0 w0 J σ a w G) {ops : Array Oper} {o : Oper} {b : Bool} (h : wantedAt ops.toList σ o = some b) : Region.wanted o (yielded ops a.tmps) = b := by
  unfold wantedAt at h
  unfold Region.wanted
  split at h
  · rename_i hg; rw [hg]; simpa using h
  · rename_i j want hg
    rw [hg]
    have hy : yielded ops a.tmps j = match (dstAt ops.toList j).bind (a.tmps[·]?) with
      | some (.bool b) => some b
      | _ => none := by
      unfold yielded dstAt
      rw [Array.getElem?_toList]
      rfl
    simp only [hy]
    split at h
    · rename_i hd; rw [hd]; cases h; rfl
    · rename_i t hd
      rw [hd]
      have hs := hA.rel.slots t
      simp only [Option.bind_some]
      rw [Array.getD_eq_getD_getElem?] at hs
      split at h
      · rename_i hsl
        rw [hsl] at hs
        cases hx : a.tmps[t]? with
        | none => rw [hx] at hs; simp [SVRep, CellRep, undef] at hs
        | some v => rw [hx] at hs; simp only [SVRep, CellRep, Option.getD_some] at hs; subst hs; cases h; simp [beq_iff_eq]
      · rename_i hsl
        rw [hsl] at hs
        cases hx : a.tmps[t]? with
        | none => rw [hx] at hs; simp [SVRep, CellRep, undef] at hs
        | some v => rw [hx] at hs; simp only [SVRep, CellRep, Option.getD_some] at hs; subst hs; cases h; cases want <;> rfl
      · rename_i hsl
        rw [hsl] at hs
        cases hx : a.tmps[t]? with
        | none => cases h; rfl
        | some v => rw [hx] at hs; simp only [SVRep, Option.getD_some] at hs; subst hs; cases h; rfl
      · cases h
theorem split_ok (hA : At gl N n0 w0 J σ a w G) {t : Tmp} {K : AS → Option R} (h : splitB σ t K = some r) : ∃ σ', At gl N n0 w0 J σ' a w G ∧ K σ' = some r := by
  have hset : ∀ (b : Bool), a.tmps.getD t undef = .bool b → At gl N n0 w0 J (σ.put (some t) (.one (.b b))) a w G := fun b hb => {
    rel := {
      mem := by rw [AS.put_heap]; exact hA.rel.mem
      slots := fun u => by
        rw [AS.put_heap]
        show SVRep w G σ.heap (bif Nat.beq u t then _ else σ.slots u) _
        cases hu : Nat.beq u t with
        | false => exact hA.rel.slots u
        | true => rw [nbeq hu]; exact hb
      defers := hA.rel.defers }
    size := hA.size
    below := hA.below
    J := hA.J
    kept := hA.kept }
  unfold splitB at h
  have hs := hA.rel.slots t
  split at h
  · rename_i c hc
    rw [hc] at hs
    obtain ⟨b, hv, hb⟩ := both_some (w := w) (G := G) (h := σ.heap) hs h
    cases b
    · exact ⟨_, hset false hv, by simpa using hb⟩
    · exact ⟨_, hset true hv, by simpa using hb⟩
  · exact ⟨σ, hA, h⟩
  · cases h
theorem runOps_ok (hE : EnvOK P gl E) {ops : Array Oper} {Q : Exit → Act → World → Prop} {K : AS → Option R} (hn : ∀ σ' a' w' G', At gl N n0 w0 J σ' a' w' G' → K σ' = some r → Q .normal a' w') :
    ∀ (l : List Oper) (i : Nat) {σ : AS} {a : Act} {w : World} {G : Mem}, l.all (dstOK N) = true → At gl N n0 w0 J σ a w G → runOps E ops.toList i l σ K = some r → wpList P ops Q l a w
  | [], _, σ, a, w, G, _, hA, h => hn _ _ _ _ hA h
  | o :: l, i, σ, a, w, G, hd, hA, h => by
    simp only [List.all_cons, Bool.and_eq_true] at hd
    simp only [runOps] at h
    split at h
    · rename_i hw
      have hw := wanted_ok hA hw
      unfold wpList
      rw [if_pos hw]
      refine .inl (opK_ok hE hA hd.1 h fun σ' a' w' G' hA' h' => ?_)
      split at h'
      · obtain ⟨σ'', hA'', h''⟩ := split_ok hA' h'
        exact runOps_ok hE hn l (i + 1) hd.2 hA'' h''
      · cases h'
      · exact runOps_ok hE hn l (i + 1) hd.2 hA' h'
    · rename_i hw
      refine wpList_skip (wanted_ok hA hw) (runOps_ok hE hn l (i + 1) hd.2 (put0_ok hA hd.1 (v := .undef) (u := undef) rfl) h)
    · cases h
end
end Go.Den
