/-
  A region whose order is drawn is right: each step, all orders.
-/
import Derived.Test.YtbjkfkifkglplaaGreatDoorD4j
set_option linter.unusedVariables false
set_option linter.unusedSimpArgs false
set_option linter.unusedSectionVars false
namespace Go.Den
open Go Go.RowKit
section
variable {P : Program} {gl : GT} {N n0 : Nat} {w0 : World} {J : Nat → Nat → Prop} {E : EnvC} {ops : Array Oper} {bs : List (List Nat)} {σ0 : AS} {tr : Nat → SV × Eff} {L L' : Nat → Bool} {i : Nat} {o : Oper} {a : Act} {w : World} {G : Mem}
theorem looks_sees {l : List Oper} {t : Nat} (h : t ∈ looks o) : t ∈ sees l o := by
  unfold sees
  split
  · exact h
  · split
    · exact List.mem_cons_of_mem _ h
    · exact h
theorem wantedAt_congr {l : List Oper} {σ σ' : AS} (h : ∀ t ∈ sees l o, σ.slots t = σ'.slots t) : wantedAt l σ o = wantedAt l σ' o := by
  unfold wantedAt
  split
  · rfl
  · rename_i j want hg
    split
    · rfl
    · rename_i t hd
      rw [h t (by unfold sees; rw [hg]; simp only; rw [hd]; simp)]
theorem viewOf_nil (h : Hp) : viewOf h [] = h := rfl
theorem step_ok {Q : Exit → Act → World → Prop} (hD : DrawOK ops.toList bs) (hG : ∀ j p, ops.toList[j]? = some p → GoodAt P gl n0 ops.toList bs σ0 tr j p) (ho : ops.toList[i]? = some o) (hdown : Down bs L) (hB : ∀ j ∈ bs.getD i [], L j = true) (hL : L i = false)
    (hL' : ∀ j, L' j = (L j || Nat.beq j i)) (hA : At gl N n0 w0 J (stF tr L 0 ops.toList σ0) a w G) (hd : dstOK N o = true) {K : Act → World → Prop} (hK : ∀ a' w' G', At gl N n0 w0 J (stF tr L' 0 ops.toList σ0) a' w' G' → K a' w') : wpOp P ops Q i K a w := by
  have hodd : ∀ {j p}, ops.toList[j]? = some p → L j ≠ Nat.blt j i → _ := fun {j p} hp hne => odd hD ho hdown hB hL hp hne
  have hsl : ∀ t ∈ sees ops.toList o, (stF tr L 0 ops.toList σ0).slots t = (pre tr ops.toList σ0 i).slots t := fun t ht => at_slots hD ho hdown hB hL ht
  have hmore : stF tr L' 0 ops.toList σ0 = app1 (stF tr L 0 ops.toList σ0) o (tr i) := stF_more ho hL hL' σ0 fun j p hj hp hLj => by
    have hne : L j ≠ Nat.blt j i := by rw [hLj, blt_eq, decide_eq_false (by omega)]; simp
    obtain ⟨_, ff, _⟩ := hodd hp hne
    refine ⟨fun t ht hq => (odd_slots hD ho hdown hB hL hp hne hq).2 ht, fun q hq q' hq' he => ?_⟩
    · have hsp : freeOp p = false := by
        cases hb : freeOp p with
        | false => rfl
        | true => rw [(hG j p hp).slot hb] at hq'; cases hq'
      have hso : freeOp o = false := by
        cases hb : freeOp o with
        | false => rfl
        | true => rw [(hG i o ho).slot hb] at hq; cases hq
      have hso' : slotOnly o.op = false := by unfold freeOp at hso; exact (Bool.or_eq_false_iff.1 hso).1
      obtain ⟨f1, f2⟩ : fullOrd ops.toList j bs = false ∧ fullOrd ops.toList i bs = false := by
        rcases ff with (h | h) | h
        · rw [free_slot h] at hsp; cases hsp
        · rw [hso'] at h; cases h
        · exact h
      rcases odd_dst hD ho hdown hB hL hp hne hsp hso' with ⟨x, y, h1, h2, h3, _⟩ | ⟨hl, _⟩
      · rcases odd_eff hG ho f2 hq with ⟨d, e0, e1, _⟩ | ⟨e0, _⟩
        · rcases odd_eff hG hp f1 hq' with ⟨d', e0', e2, _⟩ | ⟨e0', _⟩
          · rw [h2] at e0; rw [h1] at e0'
            cases e0; cases e0'
            rw [he, e2] at e1
            exact h3 e1
          · rw [h1] at e0'; cases e0'
        · rw [h2] at e0; cases e0
      · unfold freeOp at hso; rw [hl, Bool.or_true] at hso; cases hso
  have hoA : ops[i]? = some o := by rw [← Array.getElem?_toList]; exact ho
  have hw : wantedAt ops.toList (stF tr L 0 ops.toList σ0) o = wantedAt ops.toList (pre tr ops.toList σ0 i) o := wantedAt_congr hsl
  unfold wpOp
  simp only [hoA]
  rcases hG i o ho with ⟨hwt, hDid, _⟩ | ⟨hwf, htr⟩
  · rw [← hw] at hwt
    rw [if_pos (wanted_ok hA hwt)]
    refine .inl (hDid (stF tr L 0 ops.toList σ0).heap ?_ a w G hA.rel.mem (fun t => ?_) K Q fun v w' G' hm Ev B hs => ?_)
    · cases hso : slotOnly o.op with
      | true => exact .inl rfl
      | false =>
      right
      cases hns : notStore o.op with
      | true =>
        right
        have hgr : ∀ (n : Nat), memN (n / 64) (hides ops.toList i (bs.getD i []) ++ groups ops.toList (pre tr ops.toList σ0 i).slots i bs) = false → ∀ j g, loadOnly o.op = true → j < ops.toList.length → (j < i → j ∉ bs.getD i []) → (i < j → i ∉ bs.getD j []) → grpAt ops.toList σ0.slots j = some g → (∃ b, o.dst = some b ∧ b ≠ g) → n / 64 = g → False := fun n hv j g hl hj h1 h2 hg hbd hng => by
          have hld : (loadOnly o.op && hasDst o) = true := by
            obtain ⟨b, hb, _⟩ := hbd
            rw [hl]; unfold hasDst; rw [hb]; rfl
          have hm : n / 64 ∈ groups ops.toList (pre tr ops.toList σ0 i).slots i bs := by
            unfold groups
            rw [ho]
            simp only [hld, cond_true]
            rw [List.mem_filterMap]
            refine ⟨j, List.mem_range.2 hj, ?_⟩
            have nm : ∀ {a : Nat} {l : List Nat}, a ∉ l → memN a l = false := fun {a l} h => by
              cases hb : memN a l with
              | false => rfl
              | true => exact absurd (memN_mem.1 hb) h
            have hc : (bif Nat.blt j i then memN j (bs.getD i []) else memN i (bs.getD j [])) = false := by
              rw [blt_eq]
              by_cases hlt : j < i
              · rw [decide_eq_true hlt, cond_true]; exact nm (h1 hlt)
              · rw [decide_eq_false hlt, cond_false]
                refine nm fun hm => ?_
                by_cases hij : i < j
                · exact h2 hij hm
                · have : j = i := by omega
                  subst this
                  obtain ⟨_, _, p, hp, hd, hf⟩ := grp_ok (s' := σ0.slots) (fun _ _ => rfl) hg
                  rw [ho] at hp; cases hp
                  unfold freeOp at hf; rw [hl, Bool.or_true] at hf; cases hf
            rw [hc, cond_false, hng]
            exact (grp_ok (s' := (pre tr ops.toList σ0 i).slots) (fun t ht => (pre_still ht).symm) hg).1
          have := memN_mem.2 (List.mem_append_right (hides ops.toList i (bs.getD i [])) hm)
          rw [hv] at this; cases this
        refine ⟨rfl, fun n C hn => ?_, fun k hk hn => ?_⟩
        · have hv : memN (n / 64) (hides ops.toList i (bs.getD i []) ++ groups ops.toList (pre tr ops.toList σ0 i).slots i bs) = false ∧ (pre tr ops.toList σ0 i).heap n = some C := by
            unfold viewOf at hn
            cases hb : memN (n / 64) (hides ops.toList i (bs.getD i []) ++ groups ops.toList (pre tr ops.toList σ0 i).slots i bs) with
            | true => rw [hb] at hn; cases hn
            | false => rw [hb] at hn; exact ⟨rfl, hn⟩
          rw [at_heap hso hD hG ho hdown hB hL (n := n) (fun j p x y hp hsp hx hy hxy hnx => ⟨fun hlt hnb => ?_, fun hgt hnone => ?_⟩) (hgr n hv.1)]
          · exact hv.2
          · have : n / 64 ∈ hides ops.toList i (bs.getD i []) := by
              unfold hides
              rw [List.mem_filterMap]
              refine ⟨j, List.mem_range.2 hlt, ?_⟩
              have hf : memN j (bs.getD i []) = false := by
                cases hb : memN j (bs.getD i []) with
                | false => rfl
                | true => exact absurd (memN_mem.1 hb) hnb
              rw [hf, freeAt_eq hp, hsp]
              show dstAt ops.toList j = _
              unfold dstAt
              rw [hp, hnx]; exact hx
            have := memN_mem.2 (List.mem_append_left (groups ops.toList (pre tr ops.toList σ0 i).slots i bs) this)
            rw [hv.1] at this; cases this
          · exact pre_grow (Nat.le_of_lt hgt) (by rw [hv.2]; simp) hnone
        · have hdiv : newId (o.dst.getD 0) k / 64 = o.dst.getD 0 := by unfold newId; omega
          rw [at_heap hso hD hG ho hdown hB hL (n := newId (o.dst.getD 0) k) (fun j p x y hp hsp hx hy hxy hnx => by
            rw [hdiv, hy] at hnx
            exact absurd hnx.symm hxy) (fun j g _ _ _ _ _ hb hng => by
            obtain ⟨b, hb, hbg⟩ := hb
            rw [hdiv, hb] at hng
            exact hbg hng)]
          unfold viewOf at hn
          cases hb : memN (newId (o.dst.getD 0) k / 64) (hides ops.toList i (bs.getD i []) ++ groups ops.toList (pre tr ops.toList σ0 i).slots i bs) with
          | false => rw [hb] at hn; exact hn
          | true =>
            have hm := memN_mem.1 hb
            rcases List.mem_append.1 hm with hm | hm
            · unfold hides at hm
              rw [List.mem_filterMap] at hm
              obtain ⟨j, hj, hm⟩ := hm
              cases hb2 : (memN j (bs.getD i []) || freeAt ops.toList j) with
              | true => rw [hb2] at hm; cases hm
              | false =>
                rw [hb2] at hm
                rw [Bool.or_eq_false_iff] at hb2
                have hm : dstAt ops.toList j = some (newId (o.dst.getD 0) k / 64) := hm
                unfold dstAt at hm
                obtain ⟨p, hp, hpd⟩ := Option.bind_eq_some_iff.1 hm
                have hfp : freeOp p = false := by rw [← freeAt_eq hp]; exact hb2.2
                have hsp : slotOnly p.op = false := by unfold freeOp at hfp; exact (Bool.or_eq_false_iff.1 hfp).1
                have hlp : loadOnly p.op = false := by unfold freeOp at hfp; exact (Bool.or_eq_false_iff.1 hfp).2
                rcases hD.apart i o j p ho (List.mem_range.1 hj) hp with h | h
                · rw [memN_mem.2 h] at hb2; cases hb2.1
                · rcases apartD_ok h hsp hso with ⟨x, y, h1, h2, h3, _⟩ | ⟨h, _⟩ | ⟨_, h1, _⟩
                  · rw [h1, hdiv, h2] at hpd
                    simp only [Option.getD_some, Option.some.injEq] at hpd
                    exact absurd hpd h3
                  · rw [hlp] at h; cases h
                  · rw [h1] at hpd; cases hpd
            · unfold groups at hm
              rw [ho] at hm
              simp only at hm
              cases hl : (loadOnly o.op && hasDst o) with
              | false => rw [hl] at hm; cases hm
              | true =>
                rw [hl, cond_true, List.mem_filterMap] at hm
                obtain ⟨j, hj, hm⟩ := hm
                cases hc : (bif Nat.blt j i then memN j (bs.getD i []) else memN i (bs.getD j [])) with
                | true => rw [hc] at hm; cases hm
                | false =>
                  rw [hc, cond_false] at hm
                  obtain ⟨_, hnd, _⟩ := grp_ok (s' := σ0.slots) (fun t ht => pre_still ht) hm
                  rw [hdiv] at hnd
                  cases hod : o.dst with
                  | some b => exact absurd (by rw [hod]; rfl) (hnd o (List.mem_of_getElem? ho))
                  | none => unfold hasDst at hl; rw [hod, Bool.and_false] at hl; cases hl
      | false =>
        left
        have hfull : relOrd ops.toList i bs = true := (hD.store i o ho).resolve_left (by rw [hns]; decide)
        have hlo : loadOnly o.op = false := by
          cases hop : o.op <;> first | rfl | (rw [hop] at hns; cases hns)
        have hhid : hides ops.toList i (bs.getD i []) ++ groups ops.toList (pre tr ops.toList σ0 i).slots i bs = [] := by
          have e1 : hides ops.toList i (bs.getD i []) = [] := by
            unfold hides
            rw [List.filterMap_eq_nil_iff]
            intro j hj
            rcases (relOrd_ok hfull).1 j (List.mem_range.1 hj) with h | h
            · rw [h, Bool.or_true]; rfl
            · rw [memN_mem.2 h]; rfl
          have e2 : groups ops.toList (pre tr ops.toList σ0 i).slots i bs = [] := by
            unfold groups
            rw [ho]
            simp only [hlo, Bool.false_and, cond_false]
          rw [e1, e2]; rfl
        rw [hhid, viewOf_nil]
        funext n
        exact stF_heap n ops.toList 0 σ0 σ0 rfl fun j hj he => by
          rw [Nat.zero_add] at he ⊢
          apply Classical.byContradiction
          intro hne
          have hp : ops.toList[j]? = some ops.toList[j] := List.getElem?_eq_getElem hj
          obtain ⟨_, _, hji, h1, h2⟩ := hodd hp hne
          have hfree : freeAt ops.toList j = true := by
            rcases Nat.lt_or_gt_of_ne hji with hlt | hgt
            · exact ((relOrd_ok hfull).1 j hlt).resolve_right (h1 hlt).2
            · refine ((relOrd_ok hfull).2 j hgt hj).resolve_right fun hm => ?_
              have := hdown j (h2 hgt) i hm
              rw [hL] at this; cases this
          obtain ⟨q, hq, _⟩ := he
          rw [freeAt_eq hp] at hfree
          rw [(hG j _ hp).slot hfree] at hq; cases hq
    · show SVRep w G _ (bif memN t (looks o) then (pre tr ops.toList σ0 i).slots t else .any) _
      cases hb : memN t (looks o) with
      | false => trivial
      | true =>
        rw [cond_true, ← hsl t (looks_sees (memN_mem.1 hb))]
        exact hA.rel.slots t
    · refine hK _ _ G' ?_
      rw [hmore]
      exact put_ok hA hd hm Ev B hs
  · rw [← hw] at hwf
    rw [if_neg (by rw [wanted_ok hA hwf]; simp)]
    refine hK _ _ G ?_
    rw [hmore, htr]
    exact put0_ok hA hd (v := .undef) (u := undef) rfl
/-! All orders. -/
def cntF : List Bool → Nat
  | [] => 0
  | true :: r => cntF r
  | false :: r => cntF r + 1
theorem cntF_set : ∀ {l : List Bool} {i : Nat}, l[i]? = some false → cntF (l.set i true) + 1 = cntF l
  | false :: r, 0, _ => rfl
  | b :: r, i + 1, h => by
    have := cntF_set (l := r) (i := i) (by simpa using h)
    cases b <;> simp only [List.set_cons_succ, cntF] <;> omega
theorem cntF_zero : ∀ {l : List Bool} {i : Nat}, cntF l = 0 → l[i]? ≠ some false
  | true :: r, 0, _ => by simp
  | true :: r, i + 1, h => by simpa using cntF_zero (l := r) (i := i) h
  | false :: r, _, h => by simp [cntF] at h
  | [], _, _ => by simp
theorem edges_iff {j : Nat} : j ∈ edgesOf o ↔ ∃ e ∈ o.after.toList, Region.binds .any e = true ∧ e.on = j := by
  unfold edgesOf
  generalize o.after.toList = l
  induction l with
  | nil => simp
  | cons x l ih =>
    simp only [List.foldr_cons]
    have yes : ∀ m : List Nat, (j ∈ m ↔ ∃ e ∈ l, Region.binds .any e = true ∧ e.on = j) → Region.binds .any x = true → (j ∈ x.on :: m ↔ ∃ e ∈ x :: l, Region.binds .any e = true ∧ e.on = j) := fun m ih hb => by
      rw [List.mem_cons, ih]
      constructor
      · rintro (rfl | ⟨e, he, h⟩)
        · exact ⟨x, List.mem_cons_self .., hb, rfl⟩
        · exact ⟨e, List.mem_cons_of_mem _ he, h⟩
      · rintro ⟨e, he, h⟩
        rcases List.mem_cons.1 he with rfl | he
        · exact .inl h.2.symm
        · exact .inr ⟨e, he, h⟩
    have no : ∀ m : List Nat, (j ∈ m ↔ ∃ e ∈ l, Region.binds .any e = true ∧ e.on = j) → Region.binds .any x = false → (j ∈ m ↔ ∃ e ∈ x :: l, Region.binds .any e = true ∧ e.on = j) := fun m ih hb => by
      rw [ih]
      constructor
      · rintro ⟨e, he, h⟩; exact ⟨e, List.mem_cons_of_mem _ he, h⟩
      · rintro ⟨e, he, h⟩
        rcases List.mem_cons.1 he with rfl | he
        · rw [hb] at h; cases h.1
        · exact ⟨e, he, h⟩
    cases hg : x.ground
    case textOnly => exact no _ ih (by simp only [Region.binds, hg]; rfl)
    case gcOnly => exact no _ ih (by simp only [Region.binds, hg]; rfl)
    all_goals exact yes _ ih (by simp only [Region.binds, hg])
theorem any_ok {Q : Exit → Act → World → Prop} (hD : DrawOK ops.toList bs) (hG : ∀ j p, ops.toList[j]? = some p → GoodAt P gl n0 ops.toList bs σ0 tr j p) (hd : ops.toList.all (dstOK N) = true)
    (hQ : ∀ a w G, At gl N n0 w0 J (pre tr ops.toList σ0 ops.toList.length) a w G → Q .normal a w) :
    ∀ (fuel : Nat) (listed : Array Bool) (a : Act) (w : World) (G : Mem), listed.size = ops.size → cntF listed.toList ≤ fuel → Down bs (fun j => listed.getD j false) → At gl N n0 w0 J (stF tr (fun j => listed.getD j false) 0 ops.toList σ0) a w G → wpAny P .any ops Q fuel listed a w := by
  have done : ∀ (listed : Array Bool) (a : Act) (w : World) (G : Mem), listed.size = ops.size → At gl N n0 w0 J (stF tr (fun j => listed.getD j false) 0 ops.toList σ0) a w G → (∀ i, i < ops.size → listed.getD i false = true) → Q .normal a w := fun listed a w G hs hA hall => by
    refine hQ a w G ?_
    have : pre tr ops.toList σ0 ops.toList.length = stF tr (fun j => listed.getD j false) 0 ops.toList σ0 := stF_congr ops.toList 0 σ0 (fun j _ hj => by
      have hj' : j < ops.size := by simpa using hj
      rw [hall j hj', blt_eq, decide_eq_true (by simpa using hj')]) (fun _ _ _ _ => rfl)
    rw [this]; exact hA
  have rdy : ∀ (listed : Array Bool) (i : Nat), listed.size = ops.size → (i ∈ Region.ready .any ops listed ↔ ∃ o, ops[i]? = some o ∧ listed.getD i false = false ∧ ∀ j ∈ edgesOf o, listed.getD j false = true) := fun listed i hs => by
    unfold Region.ready
    rw [List.mem_filter, List.mem_range]
    constructor
    · rintro ⟨hlt, h⟩
      simp only [Bool.and_eq_true, Bool.not_eq_true'] at h
      obtain ⟨h1, h2⟩ := h
      have ho : ops[i]? = some ops[i] := Array.getElem?_eq_getElem hlt
      refine ⟨_, ho, ?_, fun j hj => ?_⟩
      · rw [Array.getD_eq_getD_getElem?, Array.getElem?_eq_getElem (by omega)] at h1 ⊢; exact h1
      · rw [ho] at h2
        simp only [Option.map_some, Option.getD_some] at h2
        obtain ⟨e, he, hb, rfl⟩ := edges_iff.1 hj
        have := Array.all_eq_true_iff_forall_mem.1 h2 e (Array.mem_toList_iff.1 he)
        simpa [hb] using this
    · rintro ⟨o, ho, h1, h2⟩
      have hlt := (Array.getElem?_eq_some_iff.1 ho).1
      refine ⟨hlt, ?_⟩
      simp only [Bool.and_eq_true, Bool.not_eq_true']
      constructor
      · rw [Array.getD_eq_getD_getElem?, Array.getElem?_eq_getElem (by omega)] at h1 ⊢; exact h1
      · rw [ho]
        simp only [Option.map_some, Option.getD_some]
        refine Array.all_eq_true_iff_forall_mem.2 fun e he => ?_
        cases hb : Region.binds .any e with
        | false => rfl
        | true => exact h2 e.on (edges_iff.2 ⟨e, Array.mem_toList_iff.2 he, hb, rfl⟩)
  have all : ∀ (listed : Array Bool), listed.size = ops.size → Region.ready .any ops listed = [] → ∀ i, i < ops.size → listed.getD i false = true := fun listed hs hr i => by
    induction i using Nat.strongRecOn with
    | _ i ih =>
      intro hlt
      cases hb : listed.getD i false with
      | true => rfl
      | false =>
        have ho : ops[i]? = some ops[i] := Array.getElem?_eq_getElem hlt
        have hm := (rdy listed i hs).2 ⟨_, ho, hb, fun j hj => by
          have hji := hD.edge i _ (by rw [Array.getElem?_toList]; exact ho) j hj
          exact ih j hji (by omega)⟩
        rw [hr] at hm; cases hm
  intro fuel
  induction fuel with
  | zero =>
    intro listed a w G hs hc hdown hA
    have hr : Region.ready .any ops listed = [] := by
      cases hr : Region.ready .any ops listed with
      | nil => rfl
      | cons i l =>
        obtain ⟨o, ho, h1, _⟩ := (rdy listed i hs).1 (by rw [hr]; simp)
        have hlt := (Array.getElem?_eq_some_iff.1 ho).1
        refine absurd ?_ (cntF_zero (l := listed.toList) (i := i) (by omega))
        rw [Array.getD_eq_getD_getElem?, Array.getElem?_eq_getElem (by omega)] at h1
        rw [Array.getElem?_toList, Array.getElem?_eq_getElem (by omega)]
        exact congrArg some h1
    exact ⟨hr, done listed a w G hs hA (all listed hs hr)⟩
  | succ fuel ih =>
    intro listed a w G hs hc hdown hA
    refine ⟨fun hr => done listed a w G hs hA (all listed hs hr), fun i hi => ?_⟩
    obtain ⟨o, ho, h1, h2⟩ := (rdy listed i hs).1 hi
    have hlt := (Array.getElem?_eq_some_iff.1 ho).1
    have hoL : ops.toList[i]? = some o := by rw [Array.getElem?_toList]; exact ho
    have hB : ∀ j ∈ bs.getD i [], listed.getD j false = true := fun j hj => by
      rcases ahead_mem (hD.bef i o hoL j hj) with h | ⟨k, hk, h⟩
      · exact h2 j h
      · exact hdown k (h2 k hk) j h
    have hL' : ∀ j, (listed.setIfInBounds i true).getD j false = (listed.getD j false || Nat.beq j i) := fun j => by
      rw [Array.getD_eq_getD_getElem?, Array.getD_eq_getD_getElem?, Array.getElem?_setIfInBounds]
      by_cases hj : i = j
      · subst hj
        have : i < listed.size := by omega
        simp [this, Nat.beq_refl]
      · rw [if_neg hj, nbeq_ne (fun e => hj e.symm), Bool.or_false]
    have hdo : dstOK N o = true := List.all_eq_true.1 hd o (List.mem_of_getElem? hoL)
    refine step_ok (L := fun j => listed.getD j false) (L' := fun j => (listed.setIfInBounds i true).getD j false) hD hG hoL hdown hB h1 hL' hA hdo fun a' w' G' hA' => ?_
    refine ih _ a' w' G' (by simp [hs]) ?_ (fun k hk j hj => ?_) hA'
    · have hget : listed.toList[i]? = some false := by
        rw [Array.getD_eq_getD_getElem?, Array.getElem?_eq_getElem (by omega)] at h1
        rw [Array.getElem?_toList, Array.getElem?_eq_getElem (by omega)]
        exact congrArg some h1
      have := cntF_set hget
      rw [Array.toList_setIfInBounds]
      omega
    · have hk : (listed.setIfInBounds i true).getD k false = true := hk
      show (listed.setIfInBounds i true).getD j false = true
      rw [hL'] at hk ⊢
      simp only [Bool.or_eq_true] at hk ⊢
      rcases hk with hk | hk
      · exact .inl (hdown k hk j hj)
      · rw [nbeq hk] at hj
        exact .inl (hB j hj)
theorem cntF_rep : ∀ n, cntF (List.replicate n false) = n
  | 0 => rfl
  | n + 1 => by rw [List.replicate_succ]; simp only [cntF, cntF_rep n]
theorem region_draw_ok {R : Type} {r : R} {Q : Exit → Act → World → Prop} {id : Nat} {K : AS → Option R} (hm : P.follows .mixedOrders = true) (hE : EnvOK P gl E) (hdo : drawOk ops.toList = true) (hd : ops.toList.all (dstOK N) = true) (hA : At gl N n0 w0 J σ0 a w G)
    (hk : runD E ops.toList (befs ops.toList) 0 ops.toList σ0 K = some r) (hQ : ∀ σ' a' w' G', At gl N n0 w0 J σ' a' w' G' → K σ' = some r → Q .normal a' w') : (Code.region id ops true).wp P Q a w := by
  have hp0 : ∀ tr : Nat → SV × Eff, pre tr ops.toList σ0 0 = σ0 := fun tr => stF_none ops.toList 0 σ0 fun j _ => by rw [blt_eq, decide_eq_false (by omega)]
  obtain ⟨tr, hG, hfin⟩ := runD_tr (n0 := n0) (ops := ops.toList) (σ0 := σ0) (bs := befs ops.toList) hE ops.toList 0 (fun _ => (.undef, [])) (by simp) (fun j o hj => absurd hj (by omega)) (by rw [hp0]; exact hk)
  refine wp_region_any hm (any_ok (J := J) (w0 := w0) (drawOk_ok hdo) hG hd (fun a' w' G' hA' => hQ _ a' w' G' hA' hfin) ops.size _ a _ G (by simp) (by rw [Array.toList_replicate, cntF_rep]; exact Nat.le_refl _) (fun k hk => by
    have hk : (Array.replicate ops.size false).getD k false = true := hk
    rw [Array.getD_eq_getD_getElem?, Array.getElem?_replicate] at hk
    split at hk <;> cases hk) ?_)
  have hst : stF tr (fun j => (Array.replicate ops.size false).getD j false) 0 ops.toList σ0 = σ0 := stF_none _ 0 σ0 fun j _ => by
    rw [Array.getD_eq_getD_getElem?, Array.getElem?_replicate]
    split <;> rfl
  rw [hst]
  obtain ⟨m1, E1⟩ := mem_world (w' := { w with drawn := w.drawn + 1 }) hA.rel.mem (fun _ _ => rfl) (Nat.le_refl _)
  exact ⟨⟨m1, fun t => (hA.rel.slots t).evo E1, hA.rel.defers⟩, hA.size, hA.below.trans ⟨rfl, rfl, rfl, Nat.le_refl _, fun _ _ => rfl⟩, hA.J, hA.kept⟩
end
end Go.Den
