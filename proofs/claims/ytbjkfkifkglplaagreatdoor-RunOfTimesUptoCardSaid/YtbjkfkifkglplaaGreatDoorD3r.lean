/-
  A callee with a box that goes in and comes out: the caller's side.
-/
import Derived.Test.YtbjkfkifkglplaaGreatDoorD3k
set_option linter.unusedVariables false
set_option linter.unusedSimpArgs false
set_option linter.unusedSectionVars false
namespace Go.Den
open Go Go.RowKit
section
variable {P : Program} {gl : GT} {n0 : Nat} {o : Oper} {a : Act} {w : World} {G : Mem} {h : Hp} {E : EnvC} {s : Nat → SV} {d : Nat} {cs : List Cnd} {v : SV} {e : List (Nat × Blk)}
theorem nodup_ok : ∀ {l : List Nat}, nodup l = true → l.Nodup
  | [], _ => List.nodup_nil
  | a :: r, h => by
    simp only [nodup, Bool.and_eq_true, Bool.not_eq_true'] at h
    rw [List.nodup_cons]
    refine ⟨fun hm => ?_, nodup_ok h.2⟩
    have := List.any_eq_false.1 h.1 a hm
    simp [Nat.beq_refl] at this
theorem OB_mono {l l' : List Nat} {b : Nat} (hs : ∀ i ∈ l, i ∈ l') (h : OB G l b) : OB G l' b := by obtain ⟨i, hi, hb⟩ := h; exact ⟨i, hs i hi, hb⟩
theorem ownsMem : ∀ {cs : List CV} {vs : List Value} {i : Nat}, L2 (CellRep w G h) cs vs → i ∈ owns cs → ∃ v f e t xs, h i = some (.row v f e t xs)
  | c :: cs, v :: vs, i, hL, hi => by
    cases c
    case own id ver =>
      simp only [owns, List.mem_cons] at hi
      rcases hi with rfl | hi
      · obtain ⟨_, cur, fro, e, t, xs, hh, _⟩ := hL.1
        exact ⟨cur, fro, e, t, xs, hh⟩
      · exact ownsMem hL.2 hi
    all_goals exact ownsMem (cs := cs) hL.2 (by simpa only [owns] using hi)
theorem ofTy_ty : ∀ {t : Ty} {x : t.den} {r : List CV} {e : TypeId}, boxTy (ofTy t x ++ r) e
  | .int _, _, _, _ | .bool, _, _, _ | .str, _, _, _ | .list _, _, _, _ | .fn _ _ _, _, _, _ | .alt _ _, _, _, _ | .fz, _, _, _ | .ref _, _, _, _ | .nl, _, _, _ | .rl _, _, _, _ => trivial
  | .prod a b, x, r, e => by
    simp only [ofTy, List.append_assoc]
    exact ofTy_ty
theorem rowGet_own (hm : MemOK gl n0 w G h) {e : TypeId} {t : Ty} {c : CV} {v : Value} {y : List t.den} {g : List Nat} (hc : CellRep w G h c v) (hg : rowGet h e t c = some (y, g)) : (∃ inner, w.ownsRow 0 e t.sz v (List.length y) inner ∧ Reps (K w G.I t) y inner) ∧
      (blkOf v = none ∨ ∃ i, g = [i] ∧ G.μ i = v ∧ ∃ v e t xs, h i = some (.row v false e t xs)) := by
  unfold rowGet at hg
  split at hg
  · cases hg
    simp only [CellRep] at hc
    subst hc
    exact ⟨⟨[], World.ownsRow_nil _ _ _ _, by trivial⟩, .inl rfl⟩
  · rename_i id ver
    split at hg
    · rename_i v' e' u xs hi
      cases hb : (Nat.beq v' ver && Nat.beq e e') with
      | false => rw [hb] at hg; cases hg
      | true =>
        rw [hb] at hg
        simp only [cond_true] at hg
        obtain ⟨y', hy, hg⟩ := Option.bind_eq_some_iff.1 hg
        simp only [Bool.and_eq_true] at hb
        cases hg
        have he := nbeq hb.2
        have hv := nbeq hb.1
        obtain ⟨ht, hx⟩ := castTo_eq hy
        cases ht
        cases hx
        subst he
        obtain ⟨_, cur, fro, e2, t2, xs2, hi2, _, hmu⟩ := hc
        rw [hi] at hi2; cases hi2
        have hmu := hmu hv.symm
        subst hmu
        exact ⟨hm.rep id _ hi, .inr ⟨id, rfl, rfl, _, _, _, _, hi⟩⟩
    · cases hg
  · cases hg
/-- Where the results of a list of parts come from. -/
theorem rcGet_ok (hm : MemOK gl n0 w G h) {J : Nat → Prop} (hI : ∀ b, G.I b → J b) : ∀ {cs : List RC} {l : List CV} {vs : List Value} {x : (RC.tys cs).den} {go lb : List Nat}, L2 (CellRep w G h) l vs → rcGet h cs l = some (x, [], go, lb) → (∀ b, OB G lb b → J b) →
    (∀ i ∈ go, ∀ b, blkOf (G.μ i) = some b → ¬ J b) → go.Nodup →
    ∃ bs, RcRep w J n0 cs x vs bs ∧ bs.Nodup ∧ ∀ b ∈ bs, ∃ i ∈ go, (∃ C, h i = some C) ∧ blkOf (G.μ i) = some b := by
  have one : ∀ {e : TypeId} {t : Ty} {c : CV} {v : Value} {q : List t.den × List Nat}, CellRep w G h c v → rowGet h e t c = some q → (∀ i ∈ q.2, ∀ b, blkOf (G.μ i) = some b → ¬ J b) →
      ∃ bs, OwnRes w J n0 e t q.1 v bs ∧ bs.Nodup ∧ ∀ b ∈ bs, ∃ i ∈ q.2, (∃ C, h i = some C) ∧ blkOf (G.μ i) = some b := by
    intro e t c v q hc hq hn
    obtain ⟨⟨inner, h1, h2⟩, h3⟩ := rowGet_own hm hc (by rw [show q = (q.1, q.2) from rfl] at hq; exact hq)
    have h2' : Reps (K w J t) q.1 inner := h2.imp fun _ _ hK => K_step hI (fun _ _ => rfl) hK
    rcases h3 with h3 | ⟨i, hg, hμ, ver, e', t', xs', hi⟩
    · exact ⟨[], ⟨⟨inner, h1, h2'⟩, .inl ⟨h3, rfl⟩⟩, List.nodup_nil, by simp⟩
    · cases hb : blkOf v with
      | none => exact ⟨[], ⟨⟨inner, h1, h2'⟩, .inl ⟨hb, rfl⟩⟩, List.nodup_nil, by simp⟩
      | some b =>
        have hb' : blkOf (G.μ i) = some b := by
          have hμ' : G.μ i = v := hμ
          rw [hμ']; exact hb
        obtain ⟨o1, o2, _, _⟩ := hm.own i _ b hi hb'
        refine ⟨[b], ⟨⟨inner, h1, h2'⟩, .inr ⟨b, hb, rfl, o1, o2, hn i (by rw [hg]; simp) b hb'⟩⟩, by simp, fun b' hb2 => ?_⟩
        simp only [List.mem_singleton] at hb2
        subst hb2
        exact ⟨i, by rw [hg]; simp, ⟨_, hi⟩, hb'⟩
  have data : ∀ {t : Ty} {l : List CV} {vs : List Value} {q : t.den × List CV}, L2 (CellRep w G h) l vs → toTy h t l = some q → (∀ b, OB G (owns (l.take t.sz)) b → J b) → ∃ v1 v2, vs = v1 ++ v2 ∧ K w J t q.1 v1 ∧ L2 (CellRep w G h) q.2 v2 := by
    intro t l vs q hL hq hO
    obtain ⟨c1, v1, v2, hc1, hv1, hL1, hL2, hK⟩ := toTy_ok hm hL (by rw [show q = (q.1, q.2) from rfl] at hq; exact hq)
    have ht : l.take t.sz = c1 := by rw [hc1, ← K_len hK, ← hL1.len, List.take_left]
    rw [ht] at hO
    exact ⟨v1, v2, hv1, K_step (fun b hb => hb.elim (hI b) (hO b)) (fun _ _ => rfl) hK, hL2⟩
  intro cs
  induction cs with
  | nil =>
    intro l vs x go lb hL hr _ _ _
    simp only [rcGet, Option.some.injEq, Prod.mk.injEq] at hr
    obtain ⟨_, rfl, rfl, _⟩ := hr
    cases vs with
    | nil => exact ⟨[], ⟨rfl, rfl⟩, List.nodup_nil, by simp⟩
    | cons => exact hL.elim
  | cons c r ih =>
    intro l vs x go lb hL hr hO hn hnd
    cases c with
    | v t =>
      cases r with
      | nil =>
        simp only [rcGet] at hr
        obtain ⟨q, hq, hr⟩ := Option.bind_eq_some_iff.1 hr
        simp only [Option.some.injEq, Prod.mk.injEq] at hr
        obtain ⟨rfl, hr2, rfl, rfl⟩ := hr
        obtain ⟨v1, v2, hv, hK, hL2⟩ := data hL hq hO
        rw [hr2] at hL2
        have : v2 = [] := by cases v2 with | nil => rfl | cons => exact hL2.elim
        subst this
        rw [List.append_nil] at hv
        subst hv
        exact ⟨[], ⟨hK, rfl⟩, List.nodup_nil, by simp⟩
      | cons c r =>
        simp only [rcGet] at hr
        obtain ⟨q, hq, hr⟩ := Option.bind_eq_some_iff.1 hr
        obtain ⟨s, hs, hr⟩ := Option.bind_eq_some_iff.1 hr
        simp only [Option.some.injEq, Prod.mk.injEq] at hr
        obtain ⟨rfl, hr2, rfl, rfl⟩ := hr
        obtain ⟨v1, v2, hv, hK, hL2⟩ := data hL hq (fun b hb => hO b (OB_mono (fun i hi => List.mem_append_left _ hi) hb))
        obtain ⟨bs, h1, h2, h3⟩ := ih (x := s.1) (go := s.2.2.1) (lb := s.2.2.2) hL2 (by rw [hs, ← hr2]) (fun b hb => hO b (OB_mono (fun i hi => List.mem_append_right _ hi) hb)) hn hnd
        exact ⟨bs, ⟨v1, v2, hv, hK, h1⟩, h2, h3⟩
    | o e t =>
      cases l with
      | nil => cases r <;> simp [rcGet] at hr
      | cons d l =>
        cases vs with
        | nil => exact hL.elim
        | cons v vs =>
        cases r with
        | nil =>
          simp only [rcGet] at hr
          obtain ⟨q, hq, hr⟩ := Option.bind_eq_some_iff.1 hr
          simp only [Option.some.injEq, Prod.mk.injEq] at hr
          obtain ⟨rfl, rfl, rfl, _⟩ := hr
          obtain ⟨bs, h1, h2, h3⟩ := one hL.1 hq hn
          have : vs = [] := by cases vs with | nil => rfl | cons => exact hL.2.elim
          subst this
          exact ⟨bs, ⟨v, rfl, h1⟩, h2, h3⟩
        | cons c r =>
          simp only [rcGet] at hr
          obtain ⟨q, hq, hr⟩ := Option.bind_eq_some_iff.1 hr
          obtain ⟨s, hs, hr⟩ := Option.bind_eq_some_iff.1 hr
          simp only [Option.some.injEq, Prod.mk.injEq] at hr
          obtain ⟨rfl, hr2, rfl, rfl⟩ := hr
          have hnd' := List.nodup_append.1 hnd
          obtain ⟨b1, h1, h2, h3⟩ := one hL.1 hq (fun i hi => hn i (List.mem_append_left _ hi))
          obtain ⟨b2, g1, g2, g3⟩ := ih (x := s.1) (go := s.2.2.1) (lb := s.2.2.2) hL.2 (by rw [hs, ← hr2]) hO (fun i hi => hn i (List.mem_append_right _ hi)) hnd'.2.1
          refine ⟨b1 ++ b2, ⟨v, vs, b1, b2, rfl, h1, g1, rfl⟩, List.nodup_append.2 ⟨h2, g2, fun a ha b hb he => ?_⟩, fun b hb => ?_⟩
          · subst he
            obtain ⟨i, hi, ⟨C, hC⟩, hbi⟩ := h3 a ha
            obtain ⟨j, hj, ⟨D, hD⟩, hbj⟩ := g3 a hb
            exact hnd'.2.2 i hi j hj (hm.inj i j C D a hC hD hbi hbj)
          · rcases List.mem_append.1 hb with hb | hb
            · obtain ⟨i, hi, rest⟩ := h3 b hb; exact ⟨i, List.mem_append_left _ hi, rest⟩
            · obtain ⟨i, hi, rest⟩ := g3 b hb; exact ⟨i, List.mem_append_right _ hi, rest⟩
theorem rcLets (hm : MemOK gl n0 w G h) : ∀ {cs : List RC} {l : List CV} {vs : List Value} {x : (RC.tys cs).den} {r : List CV} {go lb : List Nat}, L2 (CellRep w G h) l vs → rcGet h cs l = some (x, r, go, lb) →
    (∀ i ∈ lb, ∃ v f e t xs, h i = some (.row v f e t xs)) ∧ (∀ i ∈ go, ∃ v e t xs, h i = some (.row v false e t xs)) := by
  have row : ∀ {e : TypeId} {t : Ty} {c : CV} {q : List t.den × List Nat}, rowGet h e t c = some q → ∀ i ∈ q.2, ∃ v e t xs, h i = some (.row v false e t xs) := by
    intro e t c q hq i hi
    unfold rowGet at hq
    split at hq
    · cases hq; cases hi
    · split at hq
      · rename_i hrow
        obtain ⟨_, hq⟩ := bifs hq
        obtain ⟨y, _, hq⟩ := Option.bind_eq_some_iff.1 hq
        cases hq
        simp only [List.mem_singleton] at hi
        subst hi
        exact ⟨_, _, _, _, hrow⟩
      · cases hq
    · cases hq
  have tk : ∀ {l : List CV} {vs : List Value} {n i : Nat}, L2 (CellRep w G h) l vs → i ∈ owns (l.take n) → ∃ v f e t xs, h i = some (.row v f e t xs) := fun {l vs n i} hL hi => ownsMem (hL.take n) hi
  intro cs
  induction cs with
  | nil =>
    intro l vs x r go lb hL hr
    simp only [rcGet, Option.some.injEq, Prod.mk.injEq] at hr
    obtain ⟨_, _, rfl, rfl⟩ := hr
    exact ⟨by simp, by simp⟩
  | cons c r ih =>
    intro l vs x r' go lb hL hr
    cases c with
    | v t =>
      cases r with
      | nil =>
        simp only [rcGet] at hr
        obtain ⟨q, hq, hr⟩ := Option.bind_eq_some_iff.1 hr
        simp only [Option.some.injEq, Prod.mk.injEq] at hr
        obtain ⟨_, _, rfl, rfl⟩ := hr
        exact ⟨fun i hi => tk hL hi, by simp⟩
      | cons c r =>
        simp only [rcGet] at hr
        obtain ⟨q, hq, hr⟩ := Option.bind_eq_some_iff.1 hr
        obtain ⟨s, hs, hr⟩ := Option.bind_eq_some_iff.1 hr
        simp only [Option.some.injEq, Prod.mk.injEq] at hr
        obtain ⟨_, _, rfl, rfl⟩ := hr
        obtain ⟨c1, v1, v2, hc1, hv1, hL1, hL2, hK⟩ := toTy_ok hm hL (by rw [show q = (q.1, q.2) from rfl] at hq; exact hq)
        obtain ⟨h1, h2⟩ := ih (x := s.1) (r := s.2.1) (go := s.2.2.1) (lb := s.2.2.2) hL2 hs
        exact ⟨fun i hi => (List.mem_append.1 hi).elim (tk hL) (h1 i), h2⟩
    | o e t =>
      cases l with
      | nil => cases r <;> simp [rcGet] at hr
      | cons d l =>
        cases vs with
        | nil => exact hL.elim
        | cons v vs =>
        cases r with
        | nil =>
          simp only [rcGet] at hr
          obtain ⟨q, hq, hr⟩ := Option.bind_eq_some_iff.1 hr
          simp only [Option.some.injEq, Prod.mk.injEq] at hr
          obtain ⟨_, _, rfl, rfl⟩ := hr
          exact ⟨by simp, row hq⟩
        | cons c r =>
          simp only [rcGet] at hr
          obtain ⟨q, hq, hr⟩ := Option.bind_eq_some_iff.1 hr
          obtain ⟨s, hs, hr⟩ := Option.bind_eq_some_iff.1 hr
          simp only [Option.some.injEq, Prod.mk.injEq] at hr
          obtain ⟨_, _, rfl, rfl⟩ := hr
          obtain ⟨h1, h2⟩ := ih (x := s.1) (r := s.2.1) (go := s.2.2.1) (lb := s.2.2.2) hL.2 hs
          exact ⟨h1, fun i hi => (List.mem_append.1 hi).elim (row hq i) (h2 i)⟩
/-- The rows' blocks of a list of parts. -/
theorem rcRep_bs {w : World} {J : Nat → Prop} {m : Nat} : ∀ {cs : List RC} {x : (RC.tys cs).den} {vs : List Value} {bs : List Nat}, RcRep w J m cs x vs bs → ∀ b ∈ bs, m ≤ b ∧ b < w.heap.size ∧ ¬ J b := by
  intro cs
  induction cs with
  | nil => intro x vs bs hr b hb; obtain ⟨_, rfl⟩ := hr; cases hb
  | cons c r ih =>
    intro x vs bs hr b hb
    cases c with
    | v t =>
      cases r with
      | nil => obtain ⟨_, rfl⟩ := hr; cases hb
      | cons c r => obtain ⟨_, _, _, _, hr⟩ := hr; exact ih hr b hb
    | o e t =>
      cases r with
      | nil =>
        obtain ⟨_, _, _, hr⟩ := hr
        rcases hr with ⟨_, rfl⟩ | ⟨b', _, rfl, h2, h3, h4⟩
        · cases hb
        · simp only [List.mem_singleton] at hb; subst hb; exact ⟨h2, h3, h4⟩
      | cons c r =>
        obtain ⟨_, _, b1, b2, _, ⟨_, ho⟩, hr, rfl⟩ := hr
        rcases List.mem_append.1 hb with hb | hb
        · rcases ho with ⟨_, rfl⟩ | ⟨b', _, rfl, h2, h3, h4⟩
          · cases hb
          · simp only [List.mem_singleton] at hb; subst hb; exact ⟨h2, h3, h4⟩
        · exact ih hr b hb
theorem rc_ty {d : Nat} {e : TypeId} : ∀ {cs : List RC} {j : Nat} {x : (RC.tys cs).den}, boxTy (rcOf d j cs x).1 e
  | [], _, _ => trivial
  | [.v t], _, x => by have := ofTy_ty (t := t) (x := x) (r := []) (e := e); rw [List.append_nil] at this; exact this
  | [.o _ _], _, _ => trivial
  | .v t :: c :: r, _, x => ofTy_ty
  | .o _ _ :: c :: r, _, _ => trivial
/-- The world goes on; what is known and what is mapped stays. -/
theorem mem_worldM {gl : GT} {n0 : Nat} {w w' : World} {G : Mem} {h : Hp} (hm : MemOK gl n0 w G h) (hI : ∀ b, G.I b → w'.heap[b]? = w.heap[b]?) (hF : ∀ b, G.J 1 b → w'.heap[b]? = w.heap[b]?) (ho : ∀ i C b, h i = some C → blkOf (G.μ i) = some b → w'.heap[b]? = w.heap[b]?) (hsz : w.heap.size ≤ w'.heap.size) :
    MemOK gl n0 w' G h ∧ Evo w w' G G h h := by
  have E : Evo w w' G G h h := ⟨fun _ h => h, hI, fun id hi => ⟨hi, rfl⟩, fun id v f e t xs hi => ⟨v, f, e, xs, hi, Nat.le_refl _, fun _ => ⟨rfl, rfl⟩⟩, rfl, fun _ ks h => ⟨⟨ks, h⟩, rfl⟩, hF⟩
  refine ⟨⟨fun b hb => Nat.lt_of_lt_of_le (hm.bound b hb) hsz, fun i C hi => BlkRep.keep E rfl (fun b hb => ho i C b hi hb) (hm.rep i C hi), fun i C b hi hb => ?_, hm.inj, fun g x hg => ?_, ?_, hm.new, fun b hb => Nat.lt_of_lt_of_le (hm.fb b hb) hsz, hm.foe, hm.anc⟩, E⟩
  · obtain ⟨h1, h2, h3, h4⟩ := hm.own i C b hi hb
    exact ⟨h1, Nat.lt_of_lt_of_le h2 hsz, h3, h4⟩
  · exact (hm.glob g x hg).step (fun _ h => h) hI
  · exact Nat.le_trans hm.le hsz
theorem mem_drop1 {gl : GT} {n0 : Nat} {w : World} {G : Mem} {h : Hp} (hm : MemOK gl n0 w G h) {id v : Nat} {e : TypeId} {t : Ty} {xs : List t.den} (hi : h id = some (.row v false e t xs)) :
    ∃ G', MemOK gl n0 w G' (hset h id (.row (v + 1) false e t [])) ∧ Evo w w G G' h (hset h id (.row (v + 1) false e t [])) ∧ blkOf (G'.μ id) = none ∧ (∀ i, i ≠ id → G'.μ i = G.μ i) ∧ G'.I = G.I := by
  obtain ⟨m1, E1⟩ := mem_set hm (id := id) (B := .row (v + 1) false e t []) (v0 := .slice none 0 0) (fun _ _ => rfl) (fun k hk => ⟨rfl, fun he => by cases he⟩) (fun _ _ _ _ _ _ => rfl) (Nat.le_refl _)
    (fun C hC => by rw [hi] at hC; cases hC; exact ⟨rfl, Nat.le_succ _, fun he => by omega⟩)
    ⟨[], by rw [Mem.set_same]; exact ⟨by simp, .inl ⟨rfl, rfl⟩⟩, rfl⟩ (fun k hk => by cases hk)
  exact ⟨_, m1, E1, by rw [Mem.set_same]; rfl, fun i hne => Mem.set_ne _ _ hne, rfl⟩
theorem dropRows_eq {h h' : Hp} : ∀ {l : List Nat}, (∀ i ∈ l, h i = h' i) → dropRows h l = dropRows h' l
  | [], _ => rfl
  | i :: r, hh => by
    simp only [dropRows]
    rw [hh i List.mem_cons_self, dropRows_eq fun j hj => hh j (List.mem_cons_of_mem _ hj)]
theorem mem_drop {gl : GT} {n0 : Nat} {w : World} : ∀ (ids : List Nat) {G : Mem} {h : Hp}, MemOK gl n0 w G h → (∀ i ∈ ids, ∃ v e t xs, h i = some (.row v false e t xs)) → ids.Nodup →
    ∃ G', MemOK gl n0 w G' (effs h (dropRows h ids)) ∧ Evo w w G G' h (effs h (dropRows h ids)) ∧ (∀ i ∈ ids, blkOf (G'.μ i) = none) ∧ (∀ i, i ∉ ids → G'.μ i = G.μ i ∧ effs h (dropRows h ids) i = h i) ∧ G'.I = G.I
  | [], G, h, hm, _, _ => ⟨G, hm, Evo.refl _ _ _, fun i hi => (by cases hi), fun _ _ => ⟨rfl, rfl⟩, rfl⟩
  | id :: r, G, h, hm, hr, hnd => by
    obtain ⟨v, e, t, xs, hi⟩ := hr id List.mem_cons_self
    obtain ⟨h1, h2⟩ := List.nodup_cons.1 hnd
    obtain ⟨G1, m1, E1, b1, o1, I1⟩ := mem_drop1 hm hi
    have hoth : ∀ i ∈ r, h i = hset h id (.row (v + 1) false e t []) i := fun i hir => (hset_ne _ _ (fun he : i = id => h1 (by rw [← he]; exact hir))).symm
    obtain ⟨G2, m2, E2, b2, o2, I2⟩ := mem_drop r m1 (fun i hir => by rw [← hoth i hir]; exact hr i (List.mem_cons_of_mem _ hir)) h2
    have hd : dropRows h (id :: r) = (id, .row (v + 1) false e t []) :: dropRows (hset h id (.row (v + 1) false e t [])) r := by
      simp only [dropRows, hi]
      rw [dropRows_eq hoth]
    rw [hd]
    refine ⟨G2, m2, E1.trans E2, fun i hir => ?_, fun i hni => ?_, I2.trans I1⟩
    · rcases List.mem_cons.1 hir with rfl | hir
      · rw [(o2 i h1).1]; exact b1
      · exact b2 i hir
    · have hne : i ≠ id := fun he => hni (by rw [he]; exact List.mem_cons_self)
      have hnr : i ∉ r := fun hir => hni (List.mem_cons_of_mem _ hir)
      exact ⟨(o2 i hnr).1.trans (o1 i hne), by show effs (hset h id _) _ i = h i; rw [(o2 i hnr).2, hset_ne _ _ hne]⟩
theorem OwnRes.weak {w : World} {J : Nat → Prop} {m m' : Nat} {e : TypeId} {t : Ty} {xs : List t.den} {v : Value} {bs : List Nat} (hm : ∀ b ∈ bs, m' ≤ b) (h : OwnRes w J m e t xs v bs) : OwnRes w J m' e t xs v bs := by
  refine ⟨h.1, h.2.imp id ?_⟩
  rintro ⟨b, h1, h2, _, h3⟩
  exact ⟨b, h1, h2, hm b (by rw [h2]; simp), h3⟩
theorem RcRep.weak {w : World} {J : Nat → Prop} {m m' : Nat} : ∀ {cs : List RC} {x : (RC.tys cs).den} {vs : List Value} {bs : List Nat}, (∀ b ∈ bs, m' ≤ b) → RcRep w J m cs x vs bs → RcRep w J m' cs x vs bs := by
  intro cs
  induction cs with
  | nil => intro x vs bs _ hr; exact hr
  | cons c r ih =>
    intro x vs bs hb hr
    cases c with
    | v t =>
      cases r with
      | nil => exact hr
      | cons c r => obtain ⟨a, b, h1, h2, hr⟩ := hr; exact ⟨a, b, h1, h2, ih hb hr⟩
    | o e t =>
      cases r with
      | nil => obtain ⟨v, h1, h2⟩ := hr; exact ⟨v, h1, h2.weak hb⟩
      | cons c r =>
        obtain ⟨v, b, b1, b2, h1, h2, hr, rfl⟩ := hr
        exact ⟨v, b, b1, b2, h1, h2.weak fun k hk => hb k (List.mem_append_left _ hk), ih (fun k hk => hb k (List.mem_append_right _ hk)) hr, rfl⟩
theorem RcRep.world {w w1 : World} {J : Nat → Prop} {m : Nat} (hsz : w.heap.size ≤ w1.heap.size) : ∀ {cs : List RC} {x : (RC.tys cs).den} {vs : List Value} {bs : List Nat}, (∀ k, J k ∨ k ∈ bs → w1.heap[k]? = w.heap[k]?) → RcRep w J m cs x vs bs → RcRep w1 J m cs x vs bs := by
  have one : ∀ {e : TypeId} {t : Ty} {xs : List t.den} {v : Value} {bs : List Nat}, (∀ k, J k ∨ k ∈ bs → w1.heap[k]? = w.heap[k]?) → OwnRes w J m e t xs v bs → OwnRes w1 J m e t xs v bs := by
    rintro e t xs v bs hk ⟨⟨inner, h1, h2⟩, h3⟩
    refine ⟨⟨inner, ownsRow_block h1 fun b hb => hk b ?_, h2.imp fun _ _ hK => K_step (fun _ h => h) (fun b hb => hk b (.inl hb)) hK⟩, h3.imp id ?_⟩
    · rcases h3 with ⟨h3, _⟩ | ⟨b', h3, rfl, _⟩
      · rw [h3] at hb; cases hb
      · rw [h3] at hb; cases hb; exact .inr (by simp)
    · rintro ⟨b, g1, g2, g3, g4, g5⟩
      exact ⟨b, g1, g2, g3, Nat.lt_of_lt_of_le g4 hsz, g5⟩
  intro cs
  induction cs with
  | nil => intro x vs bs _ hr; exact hr
  | cons c r ih =>
    intro x vs bs hk hr
    cases c with
    | v t =>
      cases r with
      | nil => exact ⟨K_step (fun _ h => h) (fun b hb => hk b (.inl hb)) hr.1, hr.2⟩
      | cons c r => obtain ⟨a, b, h1, h2, hr⟩ := hr; exact ⟨a, b, h1, K_step (fun _ h => h) (fun b hb => hk b (.inl hb)) h2, ih hk hr⟩
    | o e t =>
      cases r with
      | nil => obtain ⟨v, h1, h2⟩ := hr; exact ⟨v, h1, one hk h2⟩
      | cons c r =>
        obtain ⟨v, b, b1, b2, h1, h2, hr, rfl⟩ := hr
        exact ⟨v, b, b1, b2, h1, one (fun k hkk => hk k (hkk.imp id fun h => List.mem_append_left _ h)) h2, ih (fun k hkk => hk k (hkk.imp id fun h => List.mem_append_right _ h)) hr, rfl⟩
theorem sqGet_ok {id b : Nat} {cs : List CV} {l : List Value} {e : TypeId} (hμ : G.μ id = .pointer (some ⟨b, 0, none⟩)) (hb : w.heap[b]? = some (.cells l.toArray e (0, 0))) (hL : L2 (CellRep w G h) cs l) (ht : boxTy cs e) {sq : Option TypeId} {s : List CV × List CV} (hs : sqGet id sq cs = some s) :
    ∃ vs, BoxIs w b sq vs ∧ L2 (CellRep w G h) s.2 vs := by
  cases sq with
  | none => cases hs; exact ⟨l, ⟨e, hb⟩, hL⟩
  | some T =>
    cases cs with
    | nil => cases hs
    | cons c r =>
      cases c
      case sq T' i =>
        obtain ⟨hq, hs⟩ := bifs (show (bif Nat.beq T' T && Nat.beq i id then some ([CV.sq T id], r) else none) = some s from hs)
        cases hs
        simp only [Bool.and_eq_true] at hq
        obtain rfl := nbeq hq.1
        obtain rfl := nbeq hq.2
        cases l with
        | nil => exact hL.elim
        | cons v l =>
          obtain ⟨b2, _, g2, g3⟩ := hL.1
          rw [hμ] at g2
          cases g2
          have ht : e = T' := ht
          subst ht
          exact ⟨l, ⟨v, g3, hb⟩, hL.2⟩
      all_goals cases hs
theorem sqPut_ok {w' : World} {G' : Mem} {h' : Hp} {id b : Nat} {cs cs' : List CV} {vs' : List Value} {sq : Option TypeId} {s : List CV × List CV} (hs : sqGet id sq cs = some s) (hbx : BoxIs w' b sq vs') (hL : L2 (CellRep w' G' h') cs' vs') (hid : HasBox h' id) (hμ : G'.μ id = .pointer (some ⟨b, 0, none⟩)) (hty : ∀ e, boxTy cs' e) :
    ∃ e l, w'.heap[b]? = some (.cells (List.toArray l) e (0, 0)) ∧ L2 (CellRep w' G' h') (s.1 ++ cs') l ∧ boxTy (s.1 ++ cs') e := by
  cases sq with
  | none => cases hs; obtain ⟨e, hb⟩ := hbx; exact ⟨e, vs', hb, hL, hty e⟩
  | some T =>
    cases cs with
    | nil => cases hs
    | cons c r =>
      cases c
      case sq T' i =>
        obtain ⟨hq, hs⟩ := bifs (show (bif Nat.beq T' T && Nat.beq i id then some ([CV.sq T id], r) else none) = some s from hs)
        cases hs
        obtain ⟨v, hv, hb⟩ := hbx
        exact ⟨T, v :: vs', hb, ⟨⟨b, hid, hμ, hv⟩, hL⟩, rfl⟩
      all_goals cases hs
theorem io_call {io : IOE} {fid : FuncId} (hIO : IOOK P gl fid io) (hm : MemOK gl n0 w G h) {f : Operand} {as : Array Operand} {tys : Array TypeId} (ho : o.op = .call { callee := .value f, args := as, argTypes := tys }) (hfv : a.eval f = .func (.func fid) #[] #[])
    {args : List SV} (hLa : L2 (SVRep w G h) args (as.toList.map a.eval)) {α : Type} {comp : Option α} {res : α → SV} {eff : α → List (Nat × Blk)} (h1 : ioCall h d io args = some (.call α comp res eff)) {y : α} (hy : comp = some y) : OpOK P gl n0 o a w G h (res y) (effs h (eff y)) := by
  unfold ioCall at h1
  split at h1
  rotate_left
  · cases h1
  rename_i id args'
  generalize hus : as.toList.map a.eval = us at hLa
  match us, hLa with
  | u0 :: us', hLa =>
  obtain ⟨⟨b, _, hμ, rfl⟩, hLa⟩ := hLa
  split at h1
  rotate_left
  · cases h1
  rename_i cs hid
  obtain ⟨sq, hsq, h1⟩ := Option.bind_eq_some_iff.1 h1
  obtain ⟨q, hq, h1⟩ := Option.bind_eq_some_iff.1 h1
  split at h1
  rotate_left
  · cases h1
  rename_i hnil
  obtain ⟨x, hx, h1⟩ := Option.bind_eq_some_iff.1 h1
  have hchk := (bifs h1).1
  replace h1 := (bifs h1).2
  cases h1
  simp only [Bool.and_eq_true] at hchk
  obtain ⟨_, hfr, _, hnd, hdis⟩ := hchk
  have hfr := freshN_ok hfr
  have hnd := nodup_ok hnd
  generalize hids : argOwns args' ++ q.2.2.2 = ids at *
  generalize hgo : q.2.2.1 = go at *
  have hdis : ∀ i ∈ go, i ∉ ids := fun i hi hi' => by
    have := List.all_eq_true.1 hdis i hi
    simp only [Bool.not_eq_true'] at this
    have := List.any_eq_false.1 this i hi'
    simp [Nat.beq_refl] at this
  have hq' : rcGet h io.bx sq.2 = some (q.1, [], go, q.2.2.2) := by rw [hq, ← hnil, ← hgo]
  obtain ⟨b0, e0, l0, g1, g2, g3, g4⟩ := hm.rep _ _ hid
  rw [hμ] at g1
  simp only [Value.pointer.injEq, Option.some.injEq, Addr.mk.injEq, and_true] at g1
  subst g1
  have hblk : blkOf (G.μ id) = some b := by rw [hμ]; rfl
  obtain ⟨o1, o2, o3, _⟩ := hm.own id _ b hid hblk
  obtain ⟨vs, hbx, hLb⟩ := sqGet_ok hμ g2 g3 g4 hsq
  obtain ⟨lbrow, gorow⟩ := rcLets hm hLb hq'
  have idrow : ∀ i ∈ ids, ∃ v f e t xs, h i = some (.row v f e t xs) := fun i hi => by
    rw [← hids] at hi
    exact (List.mem_append.1 hi).elim (args_row hLa i) (lbrow i)
  have J0b : ∀ c, (G.I c ∨ OB G ids c) → c < w.heap.size := fun c hc => by
    rcases hc with hc | ⟨i, hi, hc⟩
    · exact hm.bound c hc
    · obtain ⟨v, f, e, t, xs, hh⟩ := idrow i hi
      exact (hm.own i _ c hh hc).2.1
  have hargs := args_ok hm (J := fun c => G.I c ∨ OB G ids c) (fun _ h => .inl h) hLa hx (fun c hc => .inr (OB_mono (fun i hi => by rw [← hids]; exact List.mem_append_left _ hi) hc))
  obtain ⟨bs, hR, hn, hs⟩ := rcGet_ok hm (J := fun c => G.I c ∨ OB G ids c) (fun _ h => .inl h) hLb hq' (fun c hc => .inr (OB_mono (fun i hi => by rw [← hids]; exact List.mem_append_right _ hi) hc))
    (fun i hi c hb hJ => by
      obtain ⟨v, e, t, xs, hh⟩ := gorow i hi
      rcases hJ with hJ | ⟨j, hj, hJ⟩
      · exact (hm.own i _ c hh hb).2.2.1 rfl hJ
      · obtain ⟨v', f', e', t', xs', hh'⟩ := idrow j hj
        obtain rfl := hm.inj i j _ _ c hh hh' hb hJ
        exact hdis i hi hj) hnd
  have hbs := rcRep_bs hR
  have hbn : b ∉ bs := fun hb => by
    obtain ⟨i, hi, _, hbi⟩ := hs b hb
    obtain ⟨v, e, t, xs, hh⟩ := gorow i hi
    obtain rfl := hm.inj i id _ _ b hh hid hbi hblk
    rw [hid] at hh; cases hh
  have hJb : ¬ (G.I b ∨ OB G ids b) := fun hJ => by
    rcases hJ with hJ | ⟨j, hj, hJ⟩
    · exact o3 rfl hJ
    · obtain ⟨v', f', e', t', xs', hh'⟩ := idrow j hj
      obtain rfl := hm.inj j id _ _ b hh' hid hJ hblk
      rw [hid] at hh'; cases hh'
  intro next Q hnx
  refine call_wp ho hfv hIO.there hus (hIO.calls q.1 x y.1 y.2 hy w (fun c => G.I c ∨ OB G ids c) b vs bs us' J0b (fun g gv hg => (hm.glob g gv hg).step (fun _ h => .inl h) (fun _ _ => rfl)) hargs hbx (hR.weak fun _ _ => Nat.zero_le _) hn hbn hJb) ?_
  rintro e w' ⟨v, vs', bs', J', rfl, hB, hk, hbx', hR', hn', hbn', hJb', hJ', hbs', ds, bsr, us, hRr, hnr, hbr, hps, rfl⟩
  have hsz := hB.size
  obtain ⟨G1, m1, E1, hμ1, i1, i2, i3⟩ := mem_frzU hm ids
  have fz_in : ∀ p ∈ freeze h (unf h ids), h p.1 ≠ none ∧ p.1 ∈ ids := fun p hp => ⟨(freeze_ids _ p hp).1, (List.mem_filter.1 (freeze_ids _ p hp).2).1⟩
  have hgo1 : ∀ i ∈ go, effs h (freeze h (unf h ids)) i = h i := fun i hi => effs_other _ _ _ fun p hp he => hdis i hi (he ▸ (fz_in p hp).2)
  obtain ⟨G2, m2, E2, bn2, oth2, I2⟩ := mem_drop go m1 (fun i hi => by rw [hgo1 i hi]; exact gorow i hi) hnd
  rw [dropRows_eq hgo1] at m2 E2 oth2
  have hJ2 : G2.J = G.J := E2.J.trans E1.J
  -- what is mapped now
  have map2 : ∀ i C c, effs (effs h (freeze h (unf h ids))) (dropRows h go) i = some C → blkOf (G2.μ i) = some c → i ∉ go ∧ blkOf (G.μ i) = some c ∧ ∃ D, h i = some D := fun i C c hi hb => by
    have hni : i ∉ go := fun hi' => by rw [bn2 i hi'] at hb; cases hb
    obtain ⟨p1, p2⟩ := oth2 i hni
    refine ⟨hni, by rw [← hμ1, ← p1]; exact hb, ?_⟩
    rw [p2] at hi
    cases hh : h i with
    | some D => exact ⟨D, rfl⟩
    | none =>
      rw [effs_other _ _ _ fun p hp he => (fz_in p hp).1 (by rw [he]; exact hh), hh] at hi
      cases hi
  have J0I : ∀ c, (G.I c ∨ OB G ids c) → G2.I c := fun c hc => by
    rw [I2]
    rcases hc with hc | ⟨i, hi, hc⟩
    · exact i1 c hc
    · obtain ⟨v, f, e, t, xs, hh⟩ := idrow i hi
      exact i3 i hi v f e t xs c hh hc
  have newC : ∀ c, (c ∈ bs ∨ w.heap.size ≤ c) → n0 ≤ c ∧ ¬ G2.J 1 c ∧ ¬ G2.I c ∧ ∀ i C, effs (effs h (freeze h (unf h ids))) (dropRows h go) i = some C → blkOf (G2.μ i) ≠ some c := fun c hc => by
    rcases hc with hc | hc
    · obtain ⟨j, hj, ⟨D, hD⟩, hbj⟩ := hs c hc
      refine ⟨(hbs c hc).1, fun hF => hm.foe j D c hD hbj (by rw [← hJ2]; exact hF), fun hI => (hbs c hc).2.2 (i2 c (by rw [← I2]; exact hI)), fun i C hi hb => ?_⟩
      obtain ⟨p1, p2, D', hD'⟩ := map2 i C c hi hb
      obtain rfl := hm.inj i j D' D c hD' hD p2 hbj
      exact p1 hj
    · refine ⟨Nat.le_trans hm.le hc, fun hF => ?_, fun hI => ?_, fun i C hi hb => ?_⟩
      · have := m2.fb c hF; omega
      · have := m2.bound c hI; omega
      · have := (m2.own i C c hi hb).2.1; omega
  have get1 := asWas_get g2 hsz
  have sz1 : (asWas w w' b).heap.size = w'.heap.size := asWas_size
  have keep1 : ∀ k, k < w.heap.size → k ∉ bs → (asWas w w' b).heap[k]? = w.heap[k]? := fun k h1 h2 => by
    rw [get1 k]
    by_cases e : k = b
    · rw [if_pos e, e]
    · rw [if_neg e]; exact hk k h1 e h2
  have keep' : ∀ k, k ≠ b → (asWas w w' b).heap[k]? = w'.heap[k]? := fun k hkb => by rw [get1 k, if_neg hkb]
  obtain ⟨m3, E3⟩ := mem_worldM m2 (w' := asWas w w' b) (fun c hc => keep1 c (m2.bound c hc) fun hcb => (newC c (.inl hcb)).2.2.1 hc) (fun c hc => keep1 c (m2.fb c hc) fun hcb => (newC c (.inl hcb)).2.1 hc)
    (fun i C c hi hb => keep1 c (m2.own i C c hi hb).2.1 fun hcb => (newC c (.inl hcb)).2.2.2 i C hi hb) (by rw [sz1]; exact hsz)
  obtain ⟨m4, E4⟩ := mem_more m3 (fun c => G2.I c ∨ J' c) (fun _ h => .inl h) (fun c hc => by
      rw [sz1]
      rcases hc with hc | hc
      · exact Nat.lt_of_lt_of_le (m2.bound c hc) hsz
      · rcases hJ' c hc with hc | hc | hc
        · exact Nat.lt_of_lt_of_le (J0b c hc) hsz
        · exact Nat.lt_of_lt_of_le (hbs c hc).2.1 hsz
        · exact hc.2)
    (fun i C c hi hf hb hJ => by
      rcases hJ with hJ | hJ
      · exact (m2.own i C c hi hb).2.2.1 hf hJ
      · rcases hJ' c hJ with hc | hc | hc
        · exact (m2.own i C c hi hb).2.2.1 hf (J0I c hc)
        · exact (newC c (.inl hc)).2.2.2 i C hi hb
        · exact (newC c (.inr hc.1)).2.2.2 i C hi hb)
    (fun c hc => by
      rcases hc with hc | hc
      · exact m2.new c hc
      · rcases hJ' c hc with hc | hc | hc
        · exact m2.new c (J0I c hc)
        · exact .inr ⟨(newC c (.inl hc)).1, (newC c (.inl hc)).2.1⟩
        · exact .inr ⟨(newC c (.inr hc.1)).1, (newC c (.inr hc.1)).2.1⟩)
  have fresh2 : ∀ k, 0 < k → k ≤ nOwn (flatRC io.rts) + nOwn io.bx → effs (effs h (freeze h (unf h ids))) (dropRows h go) (newId d k) = none := fun k h1 h2 => by
    have hn := hfr k h1 h2
    have hng : newId d k ∉ go := fun hg => by obtain ⟨v, e, t, xs, hh⟩ := gorow _ hg; rw [hn] at hh; cases hh
    rw [(oth2 _ hng).2, effs_other _ _ _ fun p hp he => (fz_in p hp).1 (by rw [he]; exact hn)]
    exact hn
  have hRr1 : RcRep (asWas w w' b) J' 0 (flatRC io.rts) y.2 ds bsr := hRr.world (Nat.le_of_eq sz1.symm) fun k hkk => keep' k fun e => by
    subst e
    exact hkk.elim hJb' fun h => (hbr k h).2.2 rfl
  have hR'1 : RcRep (asWas w w' b) J' 0 io.bx y.1 vs' bs' := hR'.world (Nat.le_of_eq sz1.symm) fun k hkk => keep' k fun e => by
    subst e
    exact hkk.elim hJb' hbn'
  obtain ⟨G5, m5, E5, L5, I5, B5⟩ := rc_ok d (j := 0) m4 (fun _ h => .inr h) hRr1 hnr (fun c hc => ⟨(newC c (hbr c hc).1).1, fun hI => hI.elim (newC c (hbr c hc).1).2.2.1 (rcRep_bs hRr c hc).2.2, (newC c (hbr c hc).1).2.1⟩)
    (fun c hc i C hi => (newC c (hbr c hc).1).2.2.2 i C hi) (fun k h1 h2 => fresh2 k h1 (by omega))
  have hJ5 : G5.J = G2.J := E5.J.trans (E4.J.trans E3.J)
  obtain ⟨G6, m6, E6, L6, I6, B6⟩ := rc_ok d (j := nOwn (flatRC io.rts)) m5 (fun c hc => by rw [I5]; exact .inr hc) hR'1 hn' (fun c hc => ⟨(newC c (hbs' c hc)).1, fun hI => by rw [I5] at hI; exact hI.elim (newC c (hbs' c hc)).2.2.1 (rcRep_bs hR' c hc).2.2, fun hF => by rw [hJ5] at hF; exact (newC c (hbs' c hc)).2.1 hF⟩)
    (fun c hc i C hi hb => by
      rcases B5 i C c hi hb with ⟨D, p1, p2⟩ | p
      · exact (newC c (hbs' c hc)).2.2.2 i D p1 p2
      · exact (hbr c p).2.1 hc)
    (fun k h1 h2 => by
      rw [effs_other _ _ _ fun p hp he => ?_]
      · exact fresh2 k (by omega) h2
      · obtain ⟨k', q1, q2, q3⟩ := eff_ids d p hp
        rw [q3] at he
        unfold newId at he
        omega)
  have EE := (((E1.trans E2).trans E3).trans E4).trans (E5.trans E6)
  have hbx6 := EE.box id ⟨_, _, hid, rfl⟩
  have hμ6 : G6.μ id = .pointer (some ⟨b, 0, none⟩) := hbx6.2.trans hμ
  have hnid : ∀ k, 0 < k → k ≤ nOwn (flatRC io.rts) + nOwn io.bx → newId d k ≠ id := fun k h1 h2 he => by have := hfr k h1 h2; rw [he, hid] at this; cases this
  have hid6 : effs (effs (effs (effs h (freeze h (unf h ids))) (dropRows h go)) (rcOf d 0 (flatRC io.rts) y.2).2) (rcOf d (nOwn (flatRC io.rts)) io.bx y.1).2 id = some (.box cs) := by
    rw [effs_other _ _ _ fun p hp he => ?_, effs_other _ _ _ fun p hp he => ?_]
    · have hng : id ∉ go := fun hg => by obtain ⟨v, e, t, xs, hh⟩ := gorow _ hg; rw [hid] at hh; cases hh
      rw [(oth2 _ hng).2, effs_other _ _ _ fun p hp he => by
        obtain ⟨v, f, e, t, xs, hh⟩ := idrow _ (fz_in p hp).2
        rw [he, hid] at hh; cases hh]
      exact hid
    · obtain ⟨k', q1, q2, q3⟩ := eff_ids d p hp
      exact hnid k' (by omega) (by omega) (q3 ▸ he)
    · obtain ⟨k', q1, q2, q3⟩ := eff_ids d p hp
      exact hnid k' (by omega) (by omega) (q3 ▸ he)
  have hblk6 : blkOf (G6.μ id) = some b := by rw [hμ6]; rfl
  obtain ⟨r1, r2, r3, _⟩ := m6.own id _ b hid6 hblk6
  have hI6 : ∀ c, G6.I c → w'.heap[c]? = (asWas w w' b).heap[c]? := fun c hc => (keep' c fun e => r3 rfl (e ▸ hc)).symm
  have hF6 : ∀ c, G6.J 1 c → w'.heap[c]? = (asWas w w' b).heap[c]? := fun c hc => (keep' c fun e => m6.foe id _ b hid6 hblk6 (e ▸ hc)).symm
  have hfol : ∀ C, effs (effs (effs (effs h (freeze h (unf h ids))) (dropRows h go)) (rcOf d 0 (flatRC io.rts) y.2).2) (rcOf d (nOwn (flatRC io.rts)) io.bx y.1).2 id = some C → Follows C (.box (sq.1 ++ (rcOf d (nOwn (flatRC io.rts)) io.bx y.1).1)) (G6.μ id) (.pointer (some ⟨b, 0, none⟩)) := fun C hC => by
    rw [hid6] at hC; cases hC; exact hμ6.symm
  have E7' := evo_set (B := .box (sq.1 ++ (rcOf d (nOwn (flatRC io.rts)) io.bx y.1).1)) (v0 := .pointer (some ⟨b, 0, none⟩)) hI6 hF6 hfol
  obtain ⟨e7, l7, t1, t2, t3⟩ := sqPut_ok (cs' := (rcOf d (nOwn (flatRC io.rts)) io.bx y.1).1) hsq hbx' (L6.imp fun _ _ hc => hc.evo E7') ⟨_, _, hset_same _ _ _, rfl⟩ (Mem.set_same _ _ _) (fun _ => rc_ty)
  obtain ⟨m7, E7⟩ := mem_set m6 (w' := w') (id := id) (B := .box (sq.1 ++ (rcOf d (nOwn (flatRC io.rts)) io.bx y.1).1)) (v0 := .pointer (some ⟨b, 0, none⟩)) hI6 (fun c hc => ⟨hF6 c hc, fun he => by cases he; exact m6.foe id _ b hid6 hblk6 hc⟩)
    (fun i C c hne hi hb => (keep' c fun e => by subst e; exact hne (m6.inj i id _ _ c hi hid6 hb hblk6)).symm) (Nat.le_of_eq sz1) hfol
    ⟨b, e7, l7, Mem.set_same _ _ _, t1, t2, t3⟩
    (fun c hc => by
      cases hc
      exact ⟨r1, by rw [← sz1]; exact r2, fun _ => r3 rfl, fun hf => by simp [Blk.fro] at hf, fun i C hne hi hb => hne (m6.inj i id _ _ b hi hid6 hb hblk6)⟩)
  have heff : effs h (ioEff h d id io sq.1 ids go y) = hset (effs (effs (effs (effs h (freeze h (unf h ids))) (dropRows h go)) (rcOf d 0 (flatRC io.rts) y.2).2) (rcOf d (nOwn (flatRC io.rts)) io.bx y.1).2) id (.box (sq.1 ++ (rcOf d (nOwn (flatRC io.rts)) io.bx y.1).1)) := by
    unfold ioEff
    rw [effs_app, effs_app, effs_app, effs_app]; rfl
  refine ⟨_, rfl, hnx _ w' _ (by rw [heff]; exact m7) (by rw [heff]; exact EE.trans E7) ⟨hB.os, hB.tape, hB.output, hsz, fun k hk0 => hk k (Nat.lt_of_lt_of_le hk0 hm.le) (fun e => by omega) fun hkb => by have := (hbs k hkb).1; omega⟩ (by rw [heff]; exact rtSV_ok (res_form (L5.imp fun _ _ hc => (hc.evo E6).evo E7) hps))⟩
theorem op1_call (hE : EnvOK P gl E) (hm : MemOK gl n0 w G h) (hs : ∀ t, SVRep w G h (s t) (a.tmps.getD t undef)) {α : Type} {comp : Option α} {res : α → SV} {eff : α → List (Nat × Blk)} {f : Operand} {as : Array Operand} {tys : Array TypeId} (ho : o.op = .call { callee := .value f, args := as, argTypes := tys }) (h1 : op1 E d (evO E s) h (.call { callee := .value f, args := as, argTypes := tys }) = some (.call α comp res eff)) {y : α} (hy : comp = some y) : OpOK P gl n0 o a w G h (res y) (effs h (eff y)) := by
  simp only [op1] at h1
  have hev := evO_ok hE hm hs
  have hf := hev f
  have hLa : L2 (SVRep w G h) (as.toList.map (evO E s)) (as.toList.map a.eval) := by
    induction as.toList with
    | nil => trivial
    | cons z l ih => exact ⟨hev z, ih⟩
  have enter : ∀ {fid : FuncId} {caps : List Value} {rts : List RT} {z : RT.dens rts}, a.eval f = .func (.func fid) #[] caps.toArray → CallsRes P w (fun b => G.I b ∨ OB G (argOwns (as.toList.map (evO E s))) b) fid (as.toList.map a.eval ++ caps) rts z →
      ∀ (next : Act → World → Prop) (Q : Exit → Act → World → Prop), (∀ v w', Below w.heap.size w w' → ResRep w.heap.size w' (fun b => G.I b ∨ OB G (argOwns (as.toList.map (evO E s))) b) rts z v → next (a.put o.dst v) w') → o.wp P a w next Q := by
    intro fid caps rts z hfv hres next Q hn
    rcases hres with ⟨⟨fn, hfn, hname, hbody⟩, hC⟩ | ⟨v, hv, hR⟩
    rotate_left
    · have hrun : (execOp a.eval o).run P w = .ok (.value v) w := by
        have he : (as.toList.map a.eval ++ caps).toArray = as.map a.eval ++ caps.toArray := by simp
        rw [he] at hv
        simp only [execOp, ho, resolve, hfv, Deferred.ofValue, pure_bind, invoke]
        rw [← hv]
        simp [Sem.run, Result.andThen]
      unfold Oper.wp
      rw [hrun, Oper.upon_value]
      exact hn v w (Below.refl _ _) hR
    have henter : (execOp a.eval o).run P w = .ok (.enter fid (as.toList.map a.eval ++ caps).toArray) w := by
      simp only [execOp, ho, resolve, hfv, Deferred.ofValue, pure_bind, invoke, callFunc, Sem.run_bind]
      have hbn : fn.body.isNone = false := by cases hb : fn.body <;> simp_all
      simp [hfn, hname, hbn, program, Sem.run, Result.andThen]
      try rw [← Array.toList_map, Array.toArray_toList]
    unfold Oper.wp
    rw [henter, Oper.upon_enter]
    refine hC.mono ?_
    rintro e w' ⟨v, rfl, hB, hR⟩
    exact hn v w' hB hR
  split at h1
  · rename_i fid hfe
    rw [hfe] at hf
    obtain ⟨hfv, _⟩ := hf
    split at h1
    · rename_i q hq
      obtain ⟨hb, rfl⟩ := bldSel_ok hq
      exact bldWrite_ok (hE.bld _ hb) hm ho hfv hLa h1 hy
    · rename_i q hq
      obtain ⟨hb, rfl⟩ := bldSel_ok hq
      exact bldString_ok (hE.bld _ hb) hm ho hfv hLa h1 hy
    split at h1
    · rename_i io hio
      exact io_call (hE.io _ _ hio) hm ho hfv hLa h1 hy
    obtain ⟨ce, hce, h1⟩ := Option.bind_eq_some_iff.1 h1
    obtain ⟨hfr, h1⟩ := bifs h1
    obtain ⟨x, hx, h1⟩ := Option.bind_eq_some_iff.1 h1
    simp only [Bool.and_eq_true] at hfr
    have hfr := freshN_ok hfr.2
    have hC := hE.call _ _ _ hce
    have hargs := args_ok hm (J := fun b => G.I b ∨ OB G (argOwns (as.toList.map (evO E s))) b) (fun _ h => .inl h) hLa hx (fun _ h => .inr h)
    exact call_fin hm hLa hfr h1 hy fun z hz => enter (caps := []) hfv (by
      rw [CallsRes, List.append_nil]
      rcases hC with hC | hC
      · exact .inl ⟨hC.there, hC.calls x z hz w _ _ (args_bound hm hLa) (fun g gv hg => (hm.glob g gv hg).step (fun _ h => .inl h) (fun _ _ => rfl)) hargs⟩
      · exact .inr (hC x z hz w _ _ hargs))
  · rename_i t x hfe
    rw [hfe] at hf
    obtain ⟨rts, hrts, h1⟩ := Option.bind_eq_some_iff.1 h1
    obtain ⟨hfr, h1⟩ := bifs h1
    obtain ⟨g, hg, h1⟩ := Option.bind_eq_some_iff.1 h1
    simp only [Bool.and_eq_true] at hfr
    have hfr := freshN_ok hfr.2.1
    refine call_fin hm hLa hfr h1 hy fun z hz => ?_
    obtain ⟨fid, caps, hfv, hC⟩ := callees_ok hE hm (J := fun b => G.I b ∨ OB G (argOwns (as.toList.map (evO E s))) b) (fun _ h => .inl h) (args_bound hm hLa) hLa (fun _ h => .inr h) hg hf hz
    exact enter hfv hC
  · cases h1
end
end Go.Den
