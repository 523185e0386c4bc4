/-
  An operation sees no more than what it asks for: in a larger heap it does the same.
-/
import Derived.Test.YtbjkfkifkglplaaGreatDoorD4a
set_option linter.unusedVariables false
set_option linter.unusedSimpArgs false
set_option linter.unusedSectionVars false
namespace Go.Den
open Go Go.RowKit
def Sub (h h' : Hp) : Prop := ∀ id B, h id = some B → h' id = some B
section
variable [Wr] {h h' : Hp} {E : EnvC} {d : Nat} {ev : Operand → SV}
theorem fnGet_owns {f : Nat} {gs : List (Bool × Nat)} {t : Ty} {c : CV} {y : t.den} (hy : fnGet f gs t c = some y) : owns [c] = [] := by
  unfold fnGet at hy
  split at hy
  · rfl
  · rfl
  · cases hy
theorem altGet_owns {a b : Ty} {c : CV} {y : a.den ⊕ b.den} (hy : altGet a b c = some y) : owns [c] = [] := by
  unfold altGet at hy
  split at hy
  · rfl
  · cases hy
theorem toTy_mono (hs : Sub h h') : ∀ {t : Ty} {cs : List CV} {q : t.den × List CV}, toTy h t cs = some q → toTy h' t cs = some q ∧ ∃ c1, cs = c1 ++ q.2 ∧ ∀ id ∈ owns c1, ∃ B, h id = some B := by
  intro t
  induction t with
  | int k =>
    intro cs q hq
    cases cs with
    | nil => simp [toTy] at hq
    | cons c r =>
      cases c <;> simp only [toTy] at hq ⊢ <;> try (cases hq; done)
      split at hq
      · rename_i hk
        cases hq
        exact ⟨by rw [if_pos hk], [_], rfl, by simp [owns]⟩
      · cases hq
  | bool =>
    intro cs q hq
    cases cs with
    | nil => simp [toTy] at hq
    | cons c r =>
      cases c <;> simp only [toTy] at hq ⊢ <;> try (cases hq; done)
      all_goals (cases hq; exact ⟨rfl, [_], rfl, by simp [owns]⟩)
  | str =>
    intro cs q hq
    cases cs with
    | nil => simp [toTy] at hq
    | cons c r =>
      cases c <;> simp only [toTy] at hq ⊢ <;> try (cases hq; done)
      all_goals (cases hq; exact ⟨rfl, [_], rfl, by simp [owns]⟩)
  | list t _ =>
    intro cs q hq
    cases cs with
    | nil => simp [toTy] at hq
    | cons c r =>
      cases c <;> simp only [toTy] at hq ⊢ <;> try (cases hq; done)
      case l =>
        obtain ⟨y, hy, hq⟩ := Option.bind_eq_some_iff.1 hq
        cases hq
        exact ⟨Option.bind_eq_some_iff.2 ⟨y, hy, rfl⟩, [_], rfl, by simp [owns]⟩
      case nl => cases hq; exact ⟨rfl, [_], rfl, by simp [owns]⟩
      case d =>
        obtain ⟨y, hy, hq⟩ := Option.bind_eq_some_iff.1 hq
        cases hq
        exact ⟨Option.bind_eq_some_iff.2 ⟨y, hy, rfl⟩, [_], rfl, by simp [owns]⟩
      case own id ver =>
        split at hq
        · rename_i hi
          rw [hs _ _ hi]
          refine ⟨hq, ?_⟩
          obtain ⟨_, hq⟩ := bifs hq
          obtain ⟨y, hy, hq⟩ := Option.bind_eq_some_iff.1 hq
          cases hq
          refine ⟨[_], rfl, fun i hi' => ?_⟩
          simp only [owns, List.mem_singleton] at hi'
          subst hi'
          exact ⟨_, hi⟩
        · cases hq
  | rl t _ =>
    intro cs q hq
    cases cs with
    | nil => simp [toTy] at hq
    | cons c r =>
      cases c <;> simp only [toTy] at hq ⊢ <;> try (cases hq; done)
      obtain ⟨y, hy, hq⟩ := Option.bind_eq_some_iff.1 hq
      cases hq
      exact ⟨Option.bind_eq_some_iff.2 ⟨y, hy, rfl⟩, [_], rfl, by simp [owns]⟩
  | nl =>
    intro cs q hq
    cases cs with
    | nil => simp [toTy] at hq
    | cons c r =>
      cases c <;> simp only [toTy] at hq ⊢ <;> try (cases hq; done)
      all_goals (cases hq; exact ⟨rfl, [_], rfl, by simp [owns]⟩)
  | fz =>
    intro cs q hq
    cases cs with
    | nil => simp [toTy] at hq
    | cons c r =>
      cases c <;> simp only [toTy] at hq ⊢ <;> try (cases hq; done)
      all_goals (cases hq; exact ⟨rfl, [_], rfl, by simp [owns]⟩)
  | ref t ih =>
    intro cs q hq
    cases cs with
    | nil => simp [toTy] at hq
    | cons c r =>
      cases c <;> simp only [toTy] at hq ⊢ <;> try (cases hq; done)
      case eptr =>
        obtain ⟨hb, hq⟩ := bifs hq
        rw [hb]
        obtain ⟨y, hy, hq⟩ := Option.bind_eq_some_iff.1 hq
        cases hq
        exact ⟨Option.bind_eq_some_iff.2 ⟨y, hy, rfl⟩, [_], rfl, by simp [owns]⟩
      case ptr =>
        obtain ⟨hb, hq⟩ := bifs hq
        rw [hb]
        simp only [cond_true]
        split at hq
        · rename_i hi
          rw [hs _ _ hi]
          obtain ⟨ho, hq⟩ := bifs hq
          simp only [ho, cond_true]
          obtain ⟨p, hp, hq⟩ := Option.bind_eq_some_iff.1 hq
          split at hq
          · rename_i hp2
            cases hq
            exact ⟨Option.bind_eq_some_iff.2 ⟨p, (ih hp).1, by rw [hp2]⟩, [_], rfl, by simp [owns]⟩
          · cases hq
        · cases hq
  | fn f gs t _ =>
    intro cs q hq
    cases cs with
    | nil => simp [toTy] at hq
    | cons c r =>
      simp only [toTy] at hq ⊢
      refine ⟨hq, ?_⟩
      obtain ⟨y, hy, hq⟩ := Option.bind_eq_some_iff.1 hq
      cases hq
      exact ⟨[c], rfl, by rw [fnGet_owns hy]; simp⟩
  | alt a b _ ihb =>
    intro cs q hq
    cases a with
    | fn f gs t =>
      cases cs with
      | nil => simp [toTy] at hq
      | cons c r =>
        simp only [toTy] at hq ⊢
        split at hq
        · rename_i y hy
          cases hq
          exact ⟨rfl, [c], rfl, by rw [altGet_owns hy]; simp⟩
        · split at hq
          · rename_i y hy
            cases hq
            exact ⟨rfl, [c], rfl, by rw [fnGet_owns hy]; simp⟩
          · obtain ⟨p, hp, hq⟩ := Option.bind_eq_some_iff.1 hq
            split at hq
            · rename_i hp2
              cases hq
              obtain ⟨h1, c1, e1, l1⟩ := ihb hp
              rw [hp2, List.append_nil] at e1
              refine ⟨Option.bind_eq_some_iff.2 ⟨p, h1, by rw [hp2]⟩, [c], rfl, ?_⟩
              rw [e1]; exact l1
            · cases hq
    | _ => cases cs <;> simp [toTy] at hq
  | prod a b iha ihb =>
    intro cs q hq
    simp only [toTy] at hq ⊢
    obtain ⟨p, hp, hq⟩ := Option.bind_eq_some_iff.1 hq
    obtain ⟨p', hp', hq⟩ := Option.bind_eq_some_iff.1 hq
    cases hq
    obtain ⟨h1, c1, e1, l1⟩ := iha hp
    obtain ⟨h2, c2, e2, l2⟩ := ihb hp'
    refine ⟨by rw [h1, Option.bind_some]; exact Option.bind_eq_some_iff.2 ⟨p', h2, rfl⟩, c1 ++ c2, by rw [e1, List.append_assoc, ← e2], fun i hi => ?_⟩
    rw [owns_append] at hi
    exact (List.mem_append.1 hi).elim (l1 i) (l2 i)
theorem toTy_live (hs : Sub h h') {t : Ty} {cs : List CV} {q : t.den × List CV} (hq : toTy h t cs = some q) (hr : q.2 = []) : ∀ id ∈ owns cs, ∃ B, h id = some B := by
  obtain ⟨_, c1, e1, l1⟩ := toTy_mono hs hq
  rw [hr, List.append_nil] at e1
  rw [e1]; exact l1
theorem freeze_mono (hs : Sub h h') : ∀ {ids : List Nat}, (∀ id ∈ ids, ∃ B, h id = some B) → freeze h' ids = freeze h ids
  | [], _ => rfl
  | id :: r, hl => by
    obtain ⟨B, hB⟩ := hl id (List.mem_cons_self ..)
    simp only [freeze, hB, hs _ _ hB]
    rw [freeze_mono hs fun i hi => hl i (List.mem_cons_of_mem _ hi)]
theorem readAt_mono (hs : Sub h h') {n : Nat} {c : CV} {r : List CV} (hr : readAt h n c = some r) : readAt h' n c = some r := by
  cases c <;> simp only [readAt] at hr ⊢ <;> first | exact hr | skip
  · split at hr
    · rename_i hi; rw [hs _ _ hi]; exact hr
    · rename_i hi; rw [hs _ _ hi]; exact hr
    · cases hr
  · split at hr
    · rename_i hi; rw [hs _ _ hi]; exact hr
    · cases hr
theorem addOff_mono (hs : Sub h h') {n : Nat} {c r : CV} (hr : addOff h n c = some r) : addOff h' n c = some r := by
  cases c <;> simp only [addOff] at hr ⊢ <;> first | exact hr | skip
  split at hr
  · rename_i hi; rw [hs _ _ hi]; exact hr
  · cases hr
theorem listOf_mono (hs : Sub h h') {t : Ty} {c : CV} {r : List t.den} (hr : listOf h t c = some r) : listOf h' t c = some r := by
  unfold listOf at hr ⊢
  obtain ⟨q, hq, hr⟩ := Option.bind_eq_some_iff.1 hr
  exact Option.bind_eq_some_iff.2 ⟨q, (toTy_mono hs hq).1, hr⟩
theorem lits_mono (hs : Sub h h') {t : Ty} : ∀ {l : List (Nat × List CV)} {xs r : List t.den}, lits h t xs l = some r → lits h' t xs l = some r ∧ ∀ id ∈ owns (l.flatMap (·.2)), ∃ B, h id = some B
  | [], xs, r, hr => ⟨hr, by simp [owns]⟩
  | (j, cs) :: l, xs, r, hr => by
    simp only [lits] at hr ⊢
    obtain ⟨hb, hr⟩ := bifs hr
    obtain ⟨q, hq, hr⟩ := Option.bind_eq_some_iff.1 hr
    split at hr
    · rename_i hq2
      obtain ⟨h1, h2⟩ := lits_mono hs hr
      refine ⟨?_, fun i hi => ?_⟩
      · rw [hb, (toTy_mono hs hq).1]
        simp only [cond_true, Option.bind_some, hq2]
        exact h1
      · rw [List.flatMap_cons, owns_append] at hi
        exact (List.mem_append.1 hi).elim (toTy_live hs hq hq2 i) (h2 i)
    · cases hr
theorem argGet_mono (hs : Sub h h') {a : AT} {v : SV} {x : a.t.den} (hx : argGet h a v = some x) : argGet h' a v = some x ∧ ∀ id ∈ svOwns v, ∃ B, h id = some B := by
  have data : ∀ {cs : List CV}, ((toTy h a.t cs).bind fun q => match q.2 with | [] => some q.1 | _ => none) = some x → ((toTy h' a.t cs).bind fun q => match q.2 with | [] => some q.1 | _ => none) = some x ∧ ∀ id ∈ owns cs, ∃ B, h id = some B := fun hx => by
    obtain ⟨q, hq, hx⟩ := Option.bind_eq_some_iff.1 hx
    split at hx
    · rename_i hq2
      exact ⟨Option.bind_eq_some_iff.2 ⟨q, (toTy_mono hs hq).1, by rw [hq2]; exact hx⟩, toTy_live hs hq hq2⟩
    · cases hx
  unfold argGet at hx ⊢
  cases v <;> cases hag : a.agg <;> rw [hag] at hx <;> simp only at hx ⊢ <;> first | (cases hx; done) | exact data hx
theorem argsOf_mono (hs : Sub h h') : ∀ {ats : List AT} {vs : List SV} {x : AT.dens ats}, argsOf h ats vs = some x → argsOf h' ats vs = some x ∧ ∀ id ∈ argOwns vs, ∃ B, h id = some B
  | [], [], x, hx => ⟨hx, by simp [argOwns]⟩
  | [a], [v], x, hx => by
    simp only [argsOf] at hx ⊢
    obtain ⟨h1, h2⟩ := argGet_mono hs hx
    exact ⟨h1, by rw [argOwns_cons]; simpa [argOwns] using h2⟩
  | a :: b :: r, v :: vs, x, hx => by
    simp only [argsOf] at hx ⊢
    obtain ⟨y, hy, hx⟩ := Option.bind_eq_some_iff.1 hx
    obtain ⟨z, hz, hx⟩ := Option.bind_eq_some_iff.1 hx
    obtain ⟨h1, h2⟩ := argGet_mono hs hy
    obtain ⟨g1, g2⟩ := argsOf_mono hs hz
    refine ⟨by rw [h1, Option.bind_some]; exact Option.bind_eq_some_iff.2 ⟨z, g1, hx⟩, fun i hi => ?_⟩
    rw [argOwns_cons] at hi
    exact (List.mem_append.1 hi).elim (h2 i) (g2 i)
theorem fresh_mono {id : Nat} (hf : h id = none → h' id = none) (hi : isFresh h id = true) : isFresh h' id = true := by
  unfold isFresh at hi ⊢
  cases hh : h id with
  | none => rw [hf hh]
  | some => rw [hh] at hi; cases hi
theorem freshN_mono {d : Nat} (hf : ∀ k, k < 64 → h (newId d k) = none → h' (newId d k) = none) : ∀ {n : Nat}, n ≤ 62 → freshN h d n = true → freshN h' d n = true
  | 0, _, _ => rfl
  | n + 1, hn, hi => by
    simp only [freshN, Bool.and_eq_true] at hi ⊢
    exact ⟨fresh_mono (hf _ (by omega)) hi.1, freshN_mono hf (by omega) hi.2⟩
theorem callOut_mono (hs : Sub h h') {rts : List RT} {comp : Option (RT.dens rts)} {args : List SV} (hl : ∀ id ∈ argOwns args, ∃ B, h id = some B) {o : Out} (hx : callOut h d rts comp args = some o) : callOut h' d rts comp args = some o := by
  unfold callOut at hx ⊢
  have hu : unf h' (argOwns args) = unf h (argOwns args) := List.filter_congr fun i hi => by
    obtain ⟨B, hB⟩ := hl i hi
    unfold isFrz
    rw [hB, hs _ _ hB]
  have hfz : freeze h' (unf h (argOwns args)) = freeze h (unf h (argOwns args)) := freeze_mono hs fun i hi => hl i (List.mem_filter.1 hi).1
  rw [hu, hfz]
  exact hx
theorem hset_sub (hs : Sub h h') (id : Nat) (B : Blk) : Sub (hset h id B) (hset h' id B) := fun n C hn => by
  by_cases he : n = id
  · subst he; rw [hset_same] at hn ⊢; exact hn
  · rw [hset_ne _ _ he] at hn ⊢; exact hs _ _ hn
theorem effs_sub : ∀ {h h' : Hp} (hs : Sub h h') (l : List (Nat × Blk)), Sub (effs h l) (effs h' l)
  | _, _, hs, [] => hs
  | _, _, hs, (id, B) :: r => effs_sub (hset_sub hs id B) r
theorem cellTy_mono (hs : Sub h h') {c : CV} {t : Ty} (hc : cellTy h c = some t) : cellTy h' c = some t ∧ ∀ id off, c = .ptr id off → ∃ B, h id = some B := by
  cases c <;> simp only [cellTy] at hc ⊢ <;> first | exact ⟨hc, fun _ _ he => by cases he⟩ | skip
  split at hc
  · rename_i hi; rw [hs _ _ hi]; exact ⟨hc, fun _ _ he => by cases he; exact ⟨_, hi⟩⟩
  · rename_i hi; rw [hs _ _ hi]; exact ⟨hc, fun _ _ he => by cases he; exact ⟨_, hi⟩⟩
  · cases hc
theorem cellsTy_mono (hs : Sub h h') : ∀ {l : List CV} {t : Ty}, cellsTy h l = some t → cellsTy h' l = some t ∧ ∀ id off, .ptr id off ∈ l → ∃ B, h id = some B
  | [], t, hc => by cases hc
  | [c], t, hc => by
    obtain ⟨h1, h2⟩ := cellTy_mono hs (show cellTy h c = some t from hc)
    exact ⟨h1, fun id off hm => h2 id off (List.mem_singleton.1 hm).symm⟩
  | c :: d :: r, t, hc => by
    simp only [cellsTy] at hc ⊢
    obtain ⟨a, h1, hc⟩ := Option.bind_eq_some_iff.1 hc
    obtain ⟨b, h2, hc⟩ := Option.bind_eq_some_iff.1 hc
    obtain ⟨g1, g2⟩ := cellTy_mono hs h1
    obtain ⟨g3, g4⟩ := cellsTy_mono (l := d :: r) hs h2
    refine ⟨Option.bind_eq_some_iff.2 ⟨a, g1, Option.bind_eq_some_iff.2 ⟨b, g3, hc⟩⟩, fun id off hm => ?_⟩
    rcases List.mem_cons.1 hm with hm | hm
    · exact g2 id off hm.symm
    · exact g4 id off hm
theorem frzB_mono : ∀ {l : List CV} {h h' : Hp}, Sub h h' → (∀ id off, .ptr id off ∈ l → ∃ B, h id = some B) → frzB h' l = frzB h l
  | [], _, _, _, _ => rfl
  | c :: r, h, h', hs, hl => by
    have hr := frzB_mono (l := r) hs fun id off hm => hl id off (List.mem_cons_of_mem _ hm)
    cases c <;> try exact hr
    rename_i id off
    obtain ⟨B, hB⟩ := hl id off List.mem_cons_self
    simp only [frzB, hB, hs _ _ hB]
    cases B
    case box cs =>
      simp only
      rw [frzB_mono (l := r) (hset_sub hs id _) fun i o hm => ?_]
      obtain ⟨C, hC⟩ := hl i o (List.mem_cons_of_mem _ hm)
      by_cases he : i = id
      · exact ⟨_, by rw [he, hset_same]⟩
      · exact ⟨C, by rw [hset_ne _ _ he]; exact hC⟩
    all_goals exact hr
theorem ready_cons {c : CV} {r : List CV} (hr : ready h (c :: r) = true) : ready h [c] = true ∧ ready h r = true := by
  cases c <;> simp only [ready, Bool.and_eq_true, and_true] at hr ⊢ <;> first | exact hr | exact ⟨rfl, hr⟩ | exact ⟨trivial, hr⟩
theorem ready_none : ∀ {cs : List CV}, calm cs = true → ready h cs = true
  | [], _ => rfl
  | c :: r, ho => by cases c <;> simp only [calm] at ho <;> first | (cases ho; done) | exact ready_none (cs := r) ho
theorem calm_app : ∀ {a b : List CV}, calm (a ++ b) = true ↔ calm a = true ∧ calm b = true
  | [], b => by simp [calm]
  | c :: r, b => by cases c <;> simp only [List.cons_append, calm, Bool.false_eq_true, false_and] <;> exact calm_app
theorem calm_ofTy : ∀ {t : Ty} {x : t.den}, calm (ofTy t x) = true
  | .int _, _ | .bool, _ | .str, _ | .list _, _ | .fn _ _ _, _ | .alt _ _, _ | .fz, _ | .ref _, _ | .nl, _ | .rl _, _ => rfl
  | .prod a b, x => by simp only [ofTy]; exact calm_app.2 ⟨calm_ofTy, calm_ofTy⟩
theorem calm_take {cs : List CV} {n : Nat} (h : calm cs = true) : calm (cs.take n) = true ∧ calm (cs.drop n) = true := by
  rw [← List.take_append_drop n cs] at h
  exact calm_app.1 h
theorem ready_mono (hs : Sub h h') : ∀ {cs : List CV}, ready h cs = true → ready h' cs = true
  | [], _ => rfl
  | c :: r, hr => by
    have h2 := ready_mono hs (ready_cons hr).2
    have h1 := (ready_cons hr).1
    cases c <;> simp only [ready, Bool.and_eq_true, and_true] at h1 ⊢ <;> try exact h2
    all_goals
      refine ⟨?_, h2⟩
      split at h1
      · rename_i hi; rw [hs _ _ hi]; try exact h1
      · cases h1
theorem ready_live : ∀ {cs : List CV}, ready h cs = true → ∀ id ∈ owns cs, ∃ B, h id = some B
  | [], _ => by simp [owns]
  | c :: r, hr => by
    have h2 := ready_live (ready_cons hr).2
    have h1 := (ready_cons hr).1
    cases c <;> simp only [owns] <;> try exact h2
    intro id hid
    rcases List.mem_cons.1 hid with rfl | hid
    · simp only [ready, Bool.and_eq_true, and_true] at h1
      split at h1
      · rename_i hi; exact ⟨_, hi⟩
      · cases h1
    · exact h2 id hid
theorem toTy_ready (hs : Sub h h') : ∀ {t : Ty} {cs : List CV}, ready h cs = true → toTy h' t cs = toTy h t cs ∧ ∀ q, toTy h t cs = some q → ready h q.2 = true := by
  intro t
  induction t with
  | int k =>
    intro cs hr
    cases cs with
    | nil => exact ⟨by first | rfl | trivial, fun q hq => by simp [toTy] at hq⟩
    | cons c r =>
      have h2 := (ready_cons hr).2
      cases c <;> simp only [toTy] <;> refine ⟨by first | rfl | trivial, fun q hq => ?_⟩ <;> first | (cases hq; done) | skip
      split at hq
      · cases hq; exact h2
      · cases hq
  | bool | str | fz | nl =>
    intro cs hr
    cases cs with
    | nil => exact ⟨by first | rfl | trivial, fun q hq => by simp [toTy] at hq⟩
    | cons c r =>
      have h2 := (ready_cons hr).2
      cases c <;> simp only [toTy] <;> refine ⟨by first | rfl | trivial, fun q hq => ?_⟩ <;> first | (cases hq; done) | (cases hq; exact h2)
  | rl t _ =>
    intro cs hr
    cases cs with
    | nil => exact ⟨by first | rfl | trivial, fun q hq => by simp [toTy] at hq⟩
    | cons c r =>
      have h2 := (ready_cons hr).2
      cases c
      case d =>
        simp only [toTy]
        refine ⟨by first | rfl | trivial, fun q hq => ?_⟩
        obtain ⟨y, hy, hq⟩ := Option.bind_eq_some_iff.1 hq
        cases hq; exact h2
      all_goals (simp only [toTy]; exact ⟨by first | rfl | trivial, fun q hq => by cases hq⟩)
  | list t _ =>
    intro cs hr
    cases cs with
    | nil => exact ⟨by first | rfl | trivial, fun q hq => by simp [toTy] at hq⟩
    | cons c r =>
      have h2 := (ready_cons hr).2
      cases c
      case l => 
        simp only [toTy]
        refine ⟨by first | rfl | trivial, fun q hq => ?_⟩
        obtain ⟨y, hy, hq⟩ := Option.bind_eq_some_iff.1 hq
        cases hq; exact h2
      case nl => simp only [toTy]; exact ⟨by first | rfl | trivial, fun q hq => by cases hq; exact h2⟩
      case d =>
        simp only [toTy]
        refine ⟨by first | rfl | trivial, fun q hq => ?_⟩
        obtain ⟨y, hy, hq⟩ := Option.bind_eq_some_iff.1 hq
        cases hq; exact h2
      case own id ver =>
        have h1 := (ready_cons hr).1
        simp only [ready, Bool.and_eq_true, and_true] at h1
        split at h1
        · rename_i hi
          simp only [toTy, hi, hs _ _ hi]
          refine ⟨by first | rfl | trivial, fun q hq => ?_⟩
          obtain ⟨_, hq⟩ := bifs hq
          obtain ⟨y, hy, hq⟩ := Option.bind_eq_some_iff.1 hq
          cases hq; exact h2
        · cases h1
      all_goals (simp only [toTy]; exact ⟨by first | rfl | trivial, fun q hq => by cases hq⟩)
  | ref t ih =>
    intro cs hr
    cases cs with
    | nil => exact ⟨rfl, fun q hq => by simp [toTy] at hq⟩
    | cons c r =>
      have h2 := (ready_cons hr).2
      cases c
      case eptr =>
        simp only [toTy]
        refine ⟨by first | rfl | trivial, fun q hq => ?_⟩
        obtain ⟨_, hq⟩ := bifs hq
        obtain ⟨y, hy, hq⟩ := Option.bind_eq_some_iff.1 hq
        cases hq; exact h2
      case ptr id off =>
        have h1 := (ready_cons hr).1
        simp only [ready, Bool.and_eq_true, and_true] at h1
        split at h1
        · rename_i B hi
          simp only [toTy, hi, hs _ _ hi]
          refine ⟨?_, fun q hq => ?_⟩
          · cases B <;> try rfl
            rename_i cs
            show (bif Nat.beq off 0 then bif calm cs then _ else _ else _) = (bif Nat.beq off 0 then bif calm cs then _ else _ else _)
            cases ho : calm cs with
            | true => simp only [cond_true]; rw [(ih (ready_none ho)).1]
            | false => rfl
          · obtain ⟨_, hq⟩ := bifs hq
            split at hq
            · obtain ⟨_, hq⟩ := bifs hq
              obtain ⟨p, hp, hq⟩ := Option.bind_eq_some_iff.1 hq
              split at hq
              · cases hq; exact h2
              · cases hq
            · cases hq
        · cases h1
      all_goals (simp only [toTy]; exact ⟨by first | rfl | trivial, fun q hq => by cases hq⟩)
  | fn f gs t _ =>
    intro cs hr
    cases cs with
    | nil => exact ⟨by first | rfl | trivial, fun q hq => by simp [toTy] at hq⟩
    | cons c r =>
      simp only [toTy]
      refine ⟨by first | rfl | trivial, fun q hq => ?_⟩
      obtain ⟨y, hy, hq⟩ := Option.bind_eq_some_iff.1 hq
      cases hq; exact (ready_cons hr).2
  | alt a b _ ihb =>
    intro cs hr
    cases a with
    | fn f gs t =>
      cases cs with
      | nil => exact ⟨by first | rfl | trivial, fun q hq => by simp [toTy] at hq⟩
      | cons c r =>
        have h2 := (ready_cons hr).2
        simp only [toTy, (ihb (ready_cons hr).1).1]
        refine ⟨by first | rfl | trivial, fun q hq => ?_⟩
        split at hq
        · cases hq; exact h2
        · split at hq
          · cases hq; exact h2
          · obtain ⟨p, hp, hq⟩ := Option.bind_eq_some_iff.1 hq
            split at hq
            · cases hq; exact h2
            · cases hq
    | _ => exact ⟨by cases cs <;> simp [toTy], fun q hq => by cases cs <;> simp [toTy] at hq⟩
  | prod a b iha ihb =>
    intro cs hr
    obtain ⟨ha, ha2⟩ := iha hr
    simp only [toTy]
    rw [ha]
    cases hp : toTy h a cs with
    | none => exact ⟨by first | rfl | trivial, fun q hq => by cases hq⟩
    | some p =>
      obtain ⟨hb, hb2⟩ := ihb (ha2 p hp)
      simp only [Option.bind_some]
      rw [hb]
      refine ⟨by first | rfl | trivial, fun q hq => ?_⟩
      obtain ⟨r, hr', hq⟩ := Option.bind_eq_some_iff.1 hq
      cases hq
      exact hb2 r hr'
theorem readyA_cons {v : SV} {r : List SV} (hr : readyA h (v :: r) = true) : readyA h [v] = true ∧ readyA h r = true := by
  cases v <;> simp only [readyA, Bool.and_eq_true, and_true] at hr ⊢ <;> first | exact hr | exact ⟨rfl, hr⟩ | exact ⟨trivial, hr⟩
theorem readyA_mono (hs : Sub h h') : ∀ {vs : List SV}, readyA h vs = true → readyA h' vs = true
  | [], _ => rfl
  | v :: r, hr => by
    have h2 := readyA_mono hs (readyA_cons hr).2
    have h1 := (readyA_cons hr).1
    cases v <;> simp only [readyA, Bool.and_eq_true, and_true] at h1 ⊢ <;> first | exact ⟨ready_mono hs h1, h2⟩ | exact h2
theorem readyA_live : ∀ {vs : List SV}, readyA h vs = true → ∀ id ∈ argOwns vs, ∃ B, h id = some B
  | [], _ => by simp [argOwns]
  | v :: r, hr => by
    have h2 := readyA_live (readyA_cons hr).2
    have h1 := (readyA_cons hr).1
    cases v <;> simp only [readyA, Bool.and_eq_true, and_true] at h1 <;> simp only [argOwns] <;> first | exact h2 | skip
    all_goals exact fun id hid => (List.mem_append.1 hid).elim (ready_live h1 id) (h2 id)
theorem argGet_ready (hs : Sub h h') {a : AT} {v : SV} (hr : readyA h [v] = true) : argGet h' a v = argGet h a v := by
  unfold argGet
  cases v <;> cases a.agg <;> simp only [readyA, Bool.and_eq_true, and_true] at hr ⊢ <;> rw [(toTy_ready hs hr).1]
theorem argsOf_ready (hs : Sub h h') : ∀ {ats : List AT} {vs : List SV}, readyA h vs = true → argsOf h' ats vs = argsOf h ats vs
  | [], [], _ => rfl
  | [], _ :: _, _ => rfl
  | [a], [], _ => rfl
  | [a], [v], hr => argGet_ready hs hr
  | [a], _ :: _ :: _, _ => rfl
  | a :: b :: r, [], _ => rfl
  | a :: b :: r, v :: vs, hr => by
    simp only [argsOf]
    rw [argGet_ready hs (readyA_cons hr).1, argsOf_ready hs (readyA_cons hr).2]
theorem readyA_app : ∀ {vs ws : List SV}, readyA h vs = true → readyA h ws = true → readyA h (vs ++ ws) = true
  | [], _, _, h2 => h2
  | v :: r, ws, hr, h2 => by
    have h3 := readyA_app (readyA_cons hr).2 h2
    have h1 := (readyA_cons hr).1
    cases v <;> simp only [List.cons_append, readyA, Bool.and_eq_true, and_true] at h1 ⊢ <;> first | exact ⟨h1, h3⟩ | exact h3
theorem capSV_ready : ∀ {gs : List (Bool × Nat)} {cs : List CV} {caps : List SV}, calm cs = true → capSV gs cs = some caps → readyA h caps = true
  | [], [], caps, _, hc => by simp only [capSV] at hc; cases hc; rfl
  | [], _ :: _, _, _, hc => by simp [capSV] at hc
  | (true, n) :: r, cs, caps, ho, hc => by
    simp only [capSV] at hc
    obtain ⟨c, h1, hc⟩ := Option.bind_eq_some_iff.1 hc
    obtain ⟨q, h2, hc⟩ := Option.bind_eq_some_iff.1 hc
    cases hc
    obtain ⟨rfl, hlen⟩ := cut_ok h1
    simp only [readyA, Bool.and_eq_true]
    exact ⟨ready_none (by rw [List.drop_zero]; exact (calm_take ho).1), capSV_ready (calm_take ho).2 h2⟩
  | (false, n) :: r, [], _, _, hc => by simp [capSV] at hc
  | (false, n) :: r, c :: cs, caps, ho, hc => by
    simp only [capSV] at hc
    obtain ⟨q, h2, hc⟩ := Option.bind_eq_some_iff.1 hc
    cases hc
    have ho' : calm [c] = true ∧ calm cs = true := calm_app.1 (show calm ([c] ++ cs) = true from ho)
    simp only [readyA, Bool.and_eq_true]
    exact ⟨ready_none ho'.1, capSV_ready ho'.2 h2⟩
theorem callees_mono (hs : Sub h h') {key : List Nat} {args : List SV} {rts : List RT} (hr : readyA h args = true) : ∀ {t : Ty}, callees E h key args rts t = callees E h' key args rts t
  | .fn f gs t => by
    simp only [callees]
    congr 1
    funext ce
    congr 1
    funext x
    cases hc : capsOf gs t x with
    | none => rfl
    | some caps =>
      simp only [Option.bind_some]
      rw [argsOf_ready hs (readyA_app hr _)]
      unfold capsOf at hc
      split at hc
      · cases hc; rfl
      · exact capSV_ready calm_ofTy hc
  | .alt a b => by
    simp only [callees]
    rw [callees_mono hs hr, callees_mono (t := b) hs hr]
  | .fz | .int _ | .bool | .str | .list _ | .prod _ _ | .ref _ | .nl | .rl _ => rfl
theorem idx1_mono (hs : Sub h h') {tt : TT} {T : TypeId} {n : Int} {c : CV} {o : Out} (hx : idx1 tt T h n c = some o) : idx1 tt T h' n c = some o := by
  cases c <;> simp only [idx1] at hx ⊢ <;> first | exact hx | skip
  split at hx
  · rename_i hi; rw [hs _ _ hi]; exact hx
  · cases hx
theorem elems_mono (hs : Sub h h') {t : Ty} : ∀ {m : Nat} {c : List CV} {xs : List t.den}, elems h t m c = some xs → elems h' t m c = some xs
  | 0, [], _, he => he
  | 0, _ :: _, _, he => by simp [elems] at he
  | m + 1, c, xs, he => by
    simp only [elems] at he ⊢
    obtain ⟨q, hq, he⟩ := Option.bind_eq_some_iff.1 he
    obtain ⟨ys, hys, he⟩ := Option.bind_eq_some_iff.1 he
    exact Option.bind_eq_some_iff.2 ⟨q, (toTy_mono hs hq).1, Option.bind_eq_some_iff.2 ⟨ys, elems_mono hs hys, he⟩⟩
theorem dynA_mono (hs : Sub h h') {t : Ty} {n : Int} {m off : Nat} {c : List CV} {ef : List (Nat × Blk)} {o : Out} (hx : dynA h t n m off c ef = some o) : dynA h' t n m off c ef = some o := by
  unfold dynA at hx ⊢
  obtain ⟨hb, hx⟩ := bifs hx
  rw [hb]
  obtain ⟨r, h1, hx⟩ := Option.bind_eq_some_iff.1 hx
  obtain ⟨xs, h2, hx⟩ := Option.bind_eq_some_iff.1 hx
  exact Option.bind_eq_some_iff.2 ⟨r, h1, Option.bind_eq_some_iff.2 ⟨xs, elems_mono hs h2, hx⟩⟩
theorem idxA_mono (hs : Sub h h') {tt : TT} {T : TypeId} {n : Int} {j : Option Nat} {c : CV} {o : Out} (hx : idxA tt T h n j c = some o) : idxA tt T h' n j c = some o := by
  cases c
  case ptr id off =>
    simp only [idxA] at hx ⊢
    split at hx
    · rename_i hk
      try simp only [hk]
      obtain ⟨ei, h1, hx⟩ := Option.bind_eq_some_iff.1 hx
      refine Option.bind_eq_some_iff.2 ⟨ei, h1, ?_⟩
      cases j with
      | some j => exact hx
      | none =>
        obtain ⟨t, h2, hx⟩ := Option.bind_eq_some_iff.1 hx
        refine Option.bind_eq_some_iff.2 ⟨t, h2, ?_⟩
        split at hx
        · rename_i hi; rw [hs _ _ hi]; exact dynA_mono (hset_sub hs _ _) hx
        · rename_i hi; rw [hs _ _ hi]; exact dynA_mono hs hx
        · cases hx
    · cases hx
  case eptr u x off =>
    simp only [idxA] at hx ⊢
    split at hx
    · rename_i hk
      try simp only [hk]
      obtain ⟨ei, h1, hx⟩ := Option.bind_eq_some_iff.1 hx
      refine Option.bind_eq_some_iff.2 ⟨ei, h1, ?_⟩
      cases j with
      | some j => exact hx
      | none =>
        obtain ⟨t, h2, hx⟩ := Option.bind_eq_some_iff.1 hx
        exact Option.bind_eq_some_iff.2 ⟨t, h2, dynA_mono hs hx⟩
    · cases hx
  all_goals (simp only [idxA] at hx ⊢; exact idx1_mono hs hx)
theorem append1_mono (hs : Sub h h') (hf : ∀ k, k < 64 → h (newId d k) = none → h' (newId d k) = none) {tys : List TypeId} {s x : CV} {o : Out} (hx : append1 E h d tys s x = some o) : append1 E h' d tys s x = some o := by
  unfold append1 at hx ⊢
  split at hx
  · obtain ⟨hb, hx⟩ := bifs hx
    rw [hb]
    simp only [cond_true]
    split at hx
    · rename_i hk
      try simp only [hk]
      obtain ⟨ei, h1, hx⟩ := Option.bind_eq_some_iff.1 hx
      obtain ⟨t, h2, hx⟩ := Option.bind_eq_some_iff.1 hx
      obtain ⟨ys, h3, hx⟩ := Option.bind_eq_some_iff.1 hx
      refine Option.bind_eq_some_iff.2 ⟨ei, h1, Option.bind_eq_some_iff.2 ⟨t, h2, Option.bind_eq_some_iff.2 ⟨ys, listOf_mono hs h3, ?_⟩⟩⟩
      split at hx
      · obtain ⟨hfr, hx⟩ := bifs hx
        try simp only
        rw [fresh_mono (hf 0 (by decide)) hfr]
        exact hx
      · split at hx
        · rename_i hi
          simp only [hs _ _ hi]
          exact hx
        · cases hx
      · cases hx
    · cases hx
  · cases hx
theorem appendZ_mono (hf : ∀ k, k < 64 → h (newId d k) = none → h' (newId d k) = none) {tys : List TypeId} {n : Int} {o : Out} (hx : appendZ E h d tys n = some o) : appendZ E h' d tys n = some o := by
  unfold appendZ at hx ⊢
  split at hx
  · split at hx
    · rename_i hk hk'
      try simp only [hk, hk']
      obtain ⟨ei, h1, hx⟩ := Option.bind_eq_some_iff.1 hx
      obtain ⟨t, h2, hx⟩ := Option.bind_eq_some_iff.1 hx
      obtain ⟨hfr, hx⟩ := bifs hx
      refine Option.bind_eq_some_iff.2 ⟨ei, h1, Option.bind_eq_some_iff.2 ⟨t, h2, ?_⟩⟩
      rw [fresh_mono (hf 0 (by decide)) hfr]
      exact hx
    · cases hx
  · cases hx
theorem bldWrite_mono {h h' : Hp} (hs : Sub h h') {q : BldC} {d : Nat} (hf : ∀ k, k < 64 → h (newId d k) = none → h' (newId d k) = none) {args : List SV} {x : Out} (hx : bldWrite q h d args = some x) : bldWrite q h' d args = some x := by
  unfold bldWrite at hx ⊢
  split at hx
  · rename_i id s
    split at hx
    · rename_i T i c hid
      simp only [hs _ _ hid]
      have h1 := (bifs hx).1
      replace hx := (bifs hx).2
      rw [h1]
      simp only [cond_true]
      split at hx
      · have h2 := (bifs hx).1
        replace hx := (bifs hx).2
        rw [fresh_mono (hf 1 (by decide)) h2]
        exact hx
      · rename_i rid ver
        split at hx
        · rename_i v e xs hrid
          simp only [hs _ _ hrid]
          exact hx
        · cases hx
      · cases hx
    · cases hx
  · cases hx
theorem bldString_mono {h h' : Hp} (hs : Sub h h') {q : BldC} {args : List SV} {x : Out} (hx : bldString q h args = some x) : bldString q h' args = some x := by
  unfold bldString at hx ⊢
  split at hx
  · rename_i id
    split at hx
    · rename_i T i c hid
      simp only [hs _ _ hid]
      have h1 := (bifs hx).1
      replace hx := (bifs hx).2
      rw [h1]
      simp only [cond_true]
      split at hx
      · exact hx
      · rename_i rid ver
        split at hx
        · rename_i v e xs hrid
          simp only [hs _ _ hrid]
          exact hx
        · cases hx
      · cases hx
    · cases hx
  · cases hx
/-- An operation that writes no place of what is there. -/
def notStore : Op → Bool
  | .store .. | .mapUpdate .. => false
  | _ => true
theorem rowGet_mono {h h' : Hp} (hs : Sub h h') {e : TypeId} {t : Ty} {c : CV} {q : List t.den × List Nat} (hq : rowGet h e t c = some q) : rowGet h' e t c = some q ∧ ∀ i ∈ q.2, ∃ B, h i = some B := by
  unfold rowGet at hq ⊢
  split at hq
  · cases hq; exact ⟨rfl, fun i hi => by cases hi⟩
  · split at hq
    · rename_i hi
      rw [hs _ _ hi]
      refine ⟨hq, fun i hii => ?_⟩
      obtain ⟨_, hq⟩ := bifs hq
      obtain ⟨y, _, hq⟩ := Option.bind_eq_some_iff.1 hq
      cases hq
      simp only [List.mem_singleton] at hii
      subst hii
      exact ⟨_, hi⟩
    · cases hq
  · cases hq
theorem owns_sub {l : List CV} {n i : Nat} (hi : i ∈ owns (l.take n)) : i ∈ owns l := by
  have := List.take_append_drop n l
  rw [← this, owns_append]
  exact List.mem_append_left _ hi
theorem rcGet_mono {h h' : Hp} (hs : Sub h h') : ∀ {cs : List RC} {l : List CV} {q : (RC.tys cs).den × List CV × List Nat × List Nat}, rcGet h cs l = some q → rcGet h' cs l = some q ∧ (∀ i ∈ q.2.2.2, i ∈ owns l) ∧ ∀ i ∈ q.2.2.1, ∃ B, h i = some B
  | [], l, q, hq => by
    simp only [rcGet] at hq
    cases hq
    exact ⟨rfl, fun i hi => (by cases hi), fun i hi => (by cases hi)⟩
  | [.v t], l, q, hq => by
    simp only [rcGet] at hq ⊢
    obtain ⟨p, hp, hq⟩ := Option.bind_eq_some_iff.1 hq
    cases hq
    exact ⟨Option.bind_eq_some_iff.2 ⟨p, (toTy_mono hs hp).1, rfl⟩, fun i hi => owns_sub hi, fun i hi => by cases hi⟩
  | [.o e t], [], q, hq => by simp [rcGet] at hq
  | [.o e t], c :: r, q, hq => by
    simp only [rcGet] at hq ⊢
    obtain ⟨p, hp, hq⟩ := Option.bind_eq_some_iff.1 hq
    cases hq
    obtain ⟨h1, h2⟩ := rowGet_mono hs hp
    exact ⟨Option.bind_eq_some_iff.2 ⟨p, h1, rfl⟩, fun i hi => (by cases hi), h2⟩
  | .v t :: c :: r', l, q, hq => by
    simp only [rcGet] at hq ⊢
    obtain ⟨p, hp, hq⟩ := Option.bind_eq_some_iff.1 hq
    obtain ⟨s, hss, hq⟩ := Option.bind_eq_some_iff.1 hq
    cases hq
    obtain ⟨g1, c1, g2, _⟩ := toTy_mono hs hp
    obtain ⟨h1, h2, h3⟩ := rcGet_mono hs hss
    refine ⟨Option.bind_eq_some_iff.2 ⟨p, g1, Option.bind_eq_some_iff.2 ⟨s, h1, rfl⟩⟩, fun i hi => ?_, h3⟩
    rcases List.mem_append.1 hi with hi | hi
    · exact owns_sub hi
    · rw [g2, owns_append]; exact List.mem_append_right _ (h2 i hi)
  | .o e t :: c :: r', [], q, hq => by simp [rcGet] at hq
  | .o e t :: c :: r', d :: r, q, hq => by
    simp only [rcGet] at hq ⊢
    obtain ⟨p, hp, hq⟩ := Option.bind_eq_some_iff.1 hq
    obtain ⟨s, hss, hq⟩ := Option.bind_eq_some_iff.1 hq
    cases hq
    obtain ⟨g1, g2⟩ := rowGet_mono hs hp
    obtain ⟨h1, h2, h3⟩ := rcGet_mono hs hss
    exact ⟨Option.bind_eq_some_iff.2 ⟨p, g1, Option.bind_eq_some_iff.2 ⟨s, h1, rfl⟩⟩, fun i hi => owns_mono (h2 i hi), fun i hi => (List.mem_append.1 hi).elim (g2 i) (h3 i)⟩
theorem ioCall_mono {h h' : Hp} (hs : Sub h h') {d : Nat} (hf : ∀ k, k < 64 → h (newId d k) = none → h' (newId d k) = none) {io : IOE} {args : List SV} {o : Out} (hx : ioCall h d io args = some o) : ioCall h' d io args = some o := by
  unfold ioCall at hx ⊢
  split at hx
  · rename_i id args'
    split at hx
    · rename_i cs hid
      simp only [hs _ _ hid]
      obtain ⟨sq, hsq, hx⟩ := Option.bind_eq_some_iff.1 hx
      obtain ⟨q, hq, hx⟩ := Option.bind_eq_some_iff.1 hx
      obtain ⟨hq', hin, hgo⟩ := rcGet_mono hs hq
      refine Option.bind_eq_some_iff.2 ⟨sq, hsq, Option.bind_eq_some_iff.2 ⟨q, hq', ?_⟩⟩
      split at hx
      · obtain ⟨x, hx1, hx⟩ := Option.bind_eq_some_iff.1 hx
        obtain ⟨hx1', hl⟩ := argsOf_mono hs hx1
        refine Option.bind_eq_some_iff.2 ⟨x, hx1', ?_⟩
        obtain ⟨hc, hx⟩ := bifs hx
        simp only [Bool.and_eq_true] at hc
        obtain ⟨hc1, hc2, hc3, hc4, hc5⟩ := hc
        have hlive : ∀ i ∈ argOwns args' ++ q.2.2.2, ∃ B, h i = some B := fun i hi => (List.mem_append.1 hi).elim (hl i) fun hi => ready_live hc3 i (hin i hi)
        rw [freshN_mono hf (Nat.le_of_ble_eq_true hc1) hc2, hc1, ready_mono hs hc3, hc4, hc5]
        have hu : unf h' (argOwns args' ++ q.2.2.2) = unf h (argOwns args' ++ q.2.2.2) := List.filter_congr fun i hi => by
          obtain ⟨B, hB⟩ := hlive i hi
          unfold isFrz
          rw [hB, hs _ _ hB]
        have hfz : freeze h' (unf h (argOwns args' ++ q.2.2.2)) = freeze h (unf h (argOwns args' ++ q.2.2.2)) := freeze_mono hs fun i hi => hlive i (List.mem_filter.1 hi).1
        have he : ioEff h' d id io sq.1 (argOwns args' ++ q.2.2.2) q.2.2.1 = ioEff h d id io sq.1 (argOwns args' ++ q.2.2.2) q.2.2.1 := by
          funext z
          unfold ioEff
          rw [hu, hfz, dropRows_eq (h := h') (h' := h) fun i hi => by obtain ⟨B, hB⟩ := hgo i hi; rw [hB, hs _ _ hB]]
        rw [he]
        exact hx
      · cases hx
    · cases hx
  · cases hx
theorem op1_mono (hs : Sub h h') (hf : ∀ k, k < 64 → h (newId d k) = none → h' (newId d k) = none) {op : Op} (hn : notStore op = true) {o : Out} (hx : op1 E d ev h op = some o) : op1 E d ev h' op = some o := by
  have alloc : ∀ {y : Option Out}, (bif isFresh h (newId d 0) then y else none) = some o → (bif isFresh h' (newId d 0) then y else none) = some o := fun hy => by
    obtain ⟨h1, h2⟩ := bifs hy
    rw [fresh_mono (hf 0 (by decide)) h1]; exact h2
  cases op
  case store => cases hn
  case mapUpdate => cases hn
  case alloc t =>
    simp only [op1] at hx ⊢
    obtain ⟨i, h1, hx⟩ := Option.bind_eq_some_iff.1 hx
    exact Option.bind_eq_some_iff.2 ⟨i, h1, alloc hx⟩
  case box t x =>
    simp only [op1] at hx ⊢
    obtain ⟨i, h1, hx⟩ := Option.bind_eq_some_iff.1 hx
    obtain ⟨h2, hx⟩ := bifs hx
    simp only [Bool.and_eq_true] at h2
    refine Option.bind_eq_some_iff.2 ⟨i, h1, ?_⟩
    rw [fresh_mono (hf 0 (by decide)) h2.1, h2.2]
    exact hx
  case load t x =>
    simp only [op1] at hx ⊢
    obtain ⟨i, h1, hx⟩ := Option.bind_eq_some_iff.1 hx
    refine Option.bind_eq_some_iff.2 ⟨i, h1, ?_⟩
    split at hx
    · obtain ⟨cs, h2, hx⟩ := Option.bind_eq_some_iff.1 hx
      exact Option.bind_eq_some_iff.2 ⟨cs, readAt_mono hs h2, hx⟩
    · cases hx
  case fieldAddr t x f =>
    simp only [op1] at hx ⊢
    obtain ⟨i, h1, hx⟩ := Option.bind_eq_some_iff.1 hx
    refine Option.bind_eq_some_iff.2 ⟨i, h1, ?_⟩
    split at hx
    · obtain ⟨p, h2, hx⟩ := Option.bind_eq_some_iff.1 hx
      obtain ⟨fi, h3, hx⟩ := Option.bind_eq_some_iff.1 hx
      refine Option.bind_eq_some_iff.2 ⟨p, h2, Option.bind_eq_some_iff.2 ⟨fi, h3, ?_⟩⟩
      cases hz : Nat.beq fi.sz 0 with
      | true => rw [hz] at hx; cases hx
      | false =>
        rw [hz] at hx
        obtain ⟨c, h4, hx⟩ := Option.bind_eq_some_iff.1 hx
        exact Option.bind_eq_some_iff.2 ⟨c, addOff_mono hs h4, hx⟩
    · cases hx
  case indexAddr T x ix =>
    simp only [op1] at hx ⊢
    split at hx
    · exact idxA_mono hs hx
    · cases hx
  case convert s t x =>
    simp only [op1] at hx ⊢
    obtain ⟨si, h1, hx⟩ := Option.bind_eq_some_iff.1 hx
    obtain ⟨ti, h2, hx⟩ := Option.bind_eq_some_iff.1 hx
    refine Option.bind_eq_some_iff.2 ⟨si, h1, Option.bind_eq_some_iff.2 ⟨ti, h2, ?_⟩⟩
    split at hx
    · exact hx
    · exact hx
    · split at hx
      · rename_i hk
        try simp only [hk]
        split at hx
        · rename_i hk2
          try simp only [hk2]
          obtain ⟨xs, h3, hx⟩ := Option.bind_eq_some_iff.1 hx
          exact Option.bind_eq_some_iff.2 ⟨xs, listOf_mono hs h3, hx⟩
        · cases hx
      · cases hx
    · cases hx
  case makeSlice t l c =>
    simp only [op1] at hx ⊢
    obtain ⟨i, h1, hx⟩ := Option.bind_eq_some_iff.1 hx
    refine Option.bind_eq_some_iff.2 ⟨i, h1, ?_⟩
    split at hx
    · obtain ⟨ei, h2, hx⟩ := Option.bind_eq_some_iff.1 hx
      obtain ⟨ty, h3, hx⟩ := Option.bind_eq_some_iff.1 hx
      refine Option.bind_eq_some_iff.2 ⟨ei, h2, Option.bind_eq_some_iff.2 ⟨ty, h3, ?_⟩⟩
      obtain ⟨hb, hx⟩ := bifs hx
      simp only [Bool.and_eq_true] at hb
      rw [fresh_mono (hf 0 (by decide)) hb.1, hb.2]
      exact hx
    · cases hx
  case buildSlice t n parts =>
    simp only [op1] at hx ⊢
    obtain ⟨i, h1, hx⟩ := Option.bind_eq_some_iff.1 hx
    refine Option.bind_eq_some_iff.2 ⟨i, h1, ?_⟩
    split at hx
    · obtain ⟨ei, h2, hx⟩ := Option.bind_eq_some_iff.1 hx
      refine Option.bind_eq_some_iff.2 ⟨ei, h2, ?_⟩
      obtain ⟨hb, hx⟩ := bifs hx
      rw [hb]
      simp only [cond_true]
      obtain ⟨l, h4, hx⟩ := Option.bind_eq_some_iff.1 hx
      obtain ⟨ty, h3, hx⟩ := Option.bind_eq_some_iff.1 hx
      obtain ⟨xs, h5, hx⟩ := Option.bind_eq_some_iff.1 hx
      obtain ⟨g1, g2⟩ := lits_mono hs h5
      refine Option.bind_eq_some_iff.2 ⟨l, h4, Option.bind_eq_some_iff.2 ⟨ty, h3, Option.bind_eq_some_iff.2 ⟨xs, g1, ?_⟩⟩⟩
      rw [freeze_mono hs g2]
      exact alloc hx
    · cases hx
  case slice T x lo hi mx =>
    cases mx
    · simp only [op1] at hx ⊢
      obtain ⟨a, h1, hx⟩ := Option.bind_eq_some_iff.1 hx
      obtain ⟨b, h2, hx⟩ := Option.bind_eq_some_iff.1 hx
      refine Option.bind_eq_some_iff.2 ⟨a, h1, Option.bind_eq_some_iff.2 ⟨b, h2, ?_⟩⟩
      split at hx
      · exact hx
      · exact hx
      · exact hx
      · exact hx
      · exact hx
      · split at hx
        · rename_i hi'
          simp only [hs _ _ hi']
          exact hx
        · cases hx
      · cases hx
    · simp [op1] at hx
  case call c =>
    obtain ⟨cal, as, tys⟩ := c
    cases cal
    case builtin b =>
      cases b
      case len =>
        simp only [op1] at hx ⊢
        split at hx
        · split at hx
          · exact hx
          · exact hx
          · exact hx
          · split at hx
            · rename_i hi'
              simp only [hs _ _ hi']
              exact hx
            · cases hx
          · cases hx
        · cases hx
      case cap => simp only [op1] at hx ⊢; exact hx
      case max => simp only [op1] at hx ⊢; exact hx
      case min => simp only [op1] at hx ⊢; exact hx
      case append =>
        simp only [op1] at hx ⊢
        split at hx
        · split at hx
          · exact appendZ_mono hf hx
          · exact append1_mono hs hf hx
          · cases hx
        · cases hx
      all_goals simp [op1] at hx
    case value f =>
      simp only [op1] at hx ⊢
      split at hx
      · split at hx
        · exact bldWrite_mono hs hf hx
        · exact bldString_mono hs hx
        split at hx
        · exact ioCall_mono hs hf hx
        obtain ⟨ce, h1, hx⟩ := Option.bind_eq_some_iff.1 hx
        refine Option.bind_eq_some_iff.2 ⟨ce, h1, ?_⟩
        obtain ⟨hb, hx⟩ := bifs hx
        simp only [Bool.and_eq_true] at hb
        rw [freshN_mono hf (Nat.le_of_ble_eq_true hb.1) hb.2, hb.1]
        obtain ⟨x, h2, hx⟩ := Option.bind_eq_some_iff.1 hx
        obtain ⟨g1, g2⟩ := argsOf_mono hs h2
        exact Option.bind_eq_some_iff.2 ⟨x, g1, callOut_mono hs g2 hx⟩
      · obtain ⟨rts, h1, hx⟩ := Option.bind_eq_some_iff.1 hx
        refine Option.bind_eq_some_iff.2 ⟨rts, h1, ?_⟩
        obtain ⟨hb, hx⟩ := bifs hx
        simp only [Bool.and_eq_true] at hb
        rw [freshN_mono hf (Nat.le_of_ble_eq_true hb.1) hb.2.1, hb.1, readyA_mono hs hb.2.2]
        obtain ⟨g, h2, hx⟩ := Option.bind_eq_some_iff.1 hx
        exact Option.bind_eq_some_iff.2 ⟨g, by rw [← callees_mono hs hb.2.2]; exact h2, callOut_mono hs (readyA_live hb.2.2) hx⟩
      · cases hx
    case invoke => simp [op1] at hx
  case makeFunc f x y =>
    cases f
    case func =>
      simp only [op1] at hx ⊢
      obtain ⟨hb, hx⟩ := bifs hx
      rw [hb]
      simp only [cond_true]
      split at hx
      · exact hx
      · obtain ⟨q, h1, hx⟩ := Option.bind_eq_some_iff.1 hx
        obtain ⟨t, h2, hx⟩ := Option.bind_eq_some_iff.1 hx
        obtain ⟨y, h3, hx⟩ := Option.bind_eq_some_iff.1 hx
        exact Option.bind_eq_some_iff.2 ⟨q, h1, Option.bind_eq_some_iff.2 ⟨t, (cellsTy_mono hs h2).1, Option.bind_eq_some_iff.2 ⟨y, by rw [frzB_mono hs (cellsTy_mono hs h2).2]; exact (toTy_mono (effs_sub hs _) h3).1, by rw [frzB_mono hs (cellsTy_mono hs h2).2]; exact hx⟩⟩⟩
    all_goals simp [op1] at hx
  case makeMap t r =>
    cases r
    · simp only [op1] at hx ⊢
      obtain ⟨hb, hx⟩ := bifs hx
      simp only [Bool.and_eq_true] at hb
      rw [fresh_mono (hf 0 (by decide)) hb.1, hb.2]
      exact hx
    · simp [op1] at hx
  case lookup t m x c =>
    cases c
    · simp only [op1] at hx ⊢
      split at hx
      · split at hx
        · rename_i hi; rw [hs _ _ hi]; exact hx
        · cases hx
      · cases hx
    · simp [op1] at hx
  case binOp op T x y T' =>
    simp only [op1] at hx ⊢
    split at hx
    · exact hx
    · obtain ⟨t, h1, hx⟩ := Option.bind_eq_some_iff.1 hx
      obtain ⟨p, h2, hx⟩ := Option.bind_eq_some_iff.1 hx
      obtain ⟨q, h3, hx⟩ := Option.bind_eq_some_iff.1 hx
      exact Option.bind_eq_some_iff.2 ⟨t, h1, Option.bind_eq_some_iff.2 ⟨p, (toTy_mono hs h2).1, Option.bind_eq_some_iff.2 ⟨q, (toTy_mono hs h3).1, hx⟩⟩⟩
    · cases hx
  all_goals (first | (simp only [op1] at hx ⊢; exact hx) | exact hx | (simp [op1] at hx))
end
end Go.Den
