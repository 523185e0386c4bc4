/-
  One operation of the abstract machine is right: calls; all.
-/
import Derived.Test.YtbjkfkifkglplaaGreatDoorD3j
import Derived.Test.YtbjkfkifkglplaaGreatDoorD3n
import Derived.Test.YtbjkfkifkglplaaGreatDoorD3q
set_option linter.unusedSectionVars false
set_option linter.unusedVariables false
set_option linter.unusedSimpArgs false
namespace Go.Den
open Go Go.RowKit
section
variable {P : Program} {gl : GT} {n0 : Nat} {o : Oper} {a : Act} {w : World} {G : Mem} {h : Hp} {E : EnvC} {s : Nat → SV} {d : Nat} {cs : List Cnd} {v : SV} {e : List (Nat × Blk)}
theorem callOut_val {rts : List RT} {comp : Option (RT.dens rts)} {args : List SV} (h1 : callOut h d rts comp args = some (.val cs v e)) : False := by
  unfold callOut at h1
  cases hb : (rts.all fun r => r.cs.all RC.plain) with
  | true => rw [hb] at h1; cases h1
  | false => rw [hb] at h1; cases h1
theorem ioCall_val {io : IOE} {args : List SV} (h1 : ioCall h d io args = some (.val cs v e)) : False := by
  unfold ioCall at h1
  split at h1
  · split at h1
    · obtain ⟨_, _, h1⟩ := Option.bind_eq_some_iff.1 h1
      obtain ⟨_, _, h1⟩ := Option.bind_eq_some_iff.1 h1
      split at h1
      · obtain ⟨_, _, h1⟩ := Option.bind_eq_some_iff.1 h1
        replace h1 := (bifs h1).2
        cases h1
      · cases h1
    · cases h1
  · cases h1
theorem op1_val (hE : EnvOK P gl E) (hm : MemOK gl n0 w G h) (hs : ∀ t, SVRep w G h (s t) (a.tmps.getD t undef)) (h1 : op1 E d (evO E s) h o.op = some (.val cs v e)) (hc : ∀ c ∈ cs, c.p) : OpOK P gl n0 o a w G h v (effs h e) := by
  cases ho : o.op <;> rw [ho] at h1
  case move x => exact op_move hE hm hs (.inl ho) h1
  case assign x => exact op_move hE hm hs (.inr ho) h1
  case alloc t => exact op_alloc hE hm ho h1
  case box t x => exact op_box hE hm hs ho h1
  case build t p => exact op_build hE hm hs ho h1
  case buildSlice t n p => exact op_buildSlice hE hm hs ho h1
  case load t x => exact op_load hE hm hs ho h1
  case store t x y => exact op_store hE hm hs ho h1
  case nilCheck x => exact op_nil hE hm hs ho h1 hc
  case binOp op t x y u => exact op_bin hE hm hs ho h1 hc
  case unOp op t x => exact op_un hE hm hs ho h1
  case convert t u x => exact op_convert hE hm hs ho h1
  case makeFunc f x y =>
    cases f
    case func => exact op_makeFunc hE hs hm ho h1
    all_goals simp [op1] at h1
  case makeSlice t x y => exact op_make hE hm hs ho h1 hc
  case slice t x lo hi mx =>
    cases mx
    · exact op_slice hE hm hs ho h1 hc
    · simp [op1] at h1
  case fieldAddr t x f => exact op_fieldAddr hE hm hs ho h1
  case field t x f => exact op_field hE hm hs ho h1
  case indexAddr t x i => exact op_indexAddr hE hm hs ho h1 hc
  case index t x i => exact op_index hE hm hs ho h1 hc
  case extract x i => exact op_extract hE hm hs ho h1
  case makeMap t r =>
    cases r
    · exact op_makeMap hE hm ho h1
    · simp [op1] at h1
  case lookup t m x c =>
    cases c
    · exact op_lookup hE hm hs ho h1 hc
    · simp [op1] at h1
  case mapUpdate t m x y => exact op_mapUpdate hE hm hs ho h1 hc
  case call c =>
    obtain ⟨cal, as, tys⟩ := c
    cases cal
    case builtin b =>
      cases b
      case len => exact op_len hE hm hs ho h1
      case append => exact op_append hE hm hs ho h1 hc
      case cap => exact op_cap hE hm hs ho h1
      case max => exact op_max hE hm hs ho h1
      case min => exact op_min hE hm hs ho h1
      all_goals simp [op1] at h1
    case value f =>
      simp only [op1] at h1
      split at h1
      · split at h1
        · exact (bldWrite_val h1).elim
        · exact (bldString_val h1).elim
        split at h1
        · exact (ioCall_val h1).elim
        obtain ⟨ce, _, h1⟩ := Option.bind_eq_some_iff.1 h1
        obtain ⟨_, h1⟩ := bifs h1
        obtain ⟨x, _, h1⟩ := Option.bind_eq_some_iff.1 h1
        exact (callOut_val h1).elim
      · obtain ⟨rts, _, h1⟩ := Option.bind_eq_some_iff.1 h1
        obtain ⟨_, h1⟩ := bifs h1
        obtain ⟨x, _, h1⟩ := Option.bind_eq_some_iff.1 h1
        exact (callOut_val h1).elim
      · cases h1
    case invoke => simp [op1] at h1
  all_goals simp [op1] at h1
theorem toTy_all (hm : MemOK gl n0 w G h) {t : Ty} {cs : List CV} {l : List Value} {q : t.den × List CV} (hL : L2 (CellRep w G h) cs l) (hq : toTy h t cs = some q) (hr : q.2 = []) {J : Nat → Prop} (hJ : ∀ b, G.I b → J b) (hO : ∀ b, OB G (owns cs) b → J b) : K w J t q.1 l := by
  obtain ⟨c1, v1, v2, hc1, hv1, hL1, hL2, hK⟩ := toTy_ok hm hL (by rw [show q = (q.1, q.2) from rfl] at hq; exact hq)
  rw [hr] at hc1 hL2
  have hv2 : v2 = [] := by cases v2 with | nil => rfl | cons => exact hL2.elim
  subst hv2
  simp only [List.append_nil] at hc1 hv1
  subst hc1; subst hv1
  exact K_step (fun b hb => hb.elim (hJ b) (hO b)) (fun _ _ => rfl) hK
def svOwns : SV → List Nat | .one c => owns [c] | .agg cs => owns cs | _ => []
theorem argOwns_cons (v : SV) (r : List SV) : argOwns (v :: r) = svOwns v ++ argOwns r := by cases v <;> rfl
theorem arg_ok (hm : MemOK gl n0 w G h) {a : AT} {v : SV} {u : Value} {x : a.t.den} (hv : SVRep w G h v u) (hx : argGet h a v = some x) {J : Nat → Prop} (hJ : ∀ b, G.I b → J b) (hO : ∀ b, OB G (svOwns v) b → J b) : ArgRep w J a x u := by
  unfold argGet at hx
  unfold ArgRep
  cases v with
  | one c =>
    cases hag : a.agg with
    | true => rw [hag] at hx; cases hx
    | false =>
      rw [hag] at hx
      simp only at hx
      obtain ⟨q, hq, hx⟩ := Option.bind_eq_some_iff.1 hx
      split at hx
      · rename_i hr
        cases hx
        exact toTy_all hm (cs := [c]) (l := [u]) ⟨hv, trivial⟩ hq hr hJ hO
      · cases hx
  | agg cs =>
    cases hag : a.agg with
    | false => rw [hag] at hx; cases hx
    | true =>
      rw [hag] at hx
      simp only at hx
      obtain ⟨q, hq, hx⟩ := Option.bind_eq_some_iff.1 hx
      split at hx
      · rename_i hr
        cases hx
        obtain ⟨l, rfl, hl⟩ := hv
        exact ⟨l, rfl, toTy_all hm hl hq hr hJ hO⟩
      · cases hx
  | tup => simp at hx
  | undef => simp at hx
  | any => simp at hx
theorem args_ok (hm : MemOK gl n0 w G h) {J : Nat → Prop} (hJ : ∀ b, G.I b → J b) : ∀ {ats : List AT} {vs : List SV} {us : List Value} {x : AT.dens ats}, L2 (SVRep w G h) vs us → argsOf h ats vs = some x → (∀ b, OB G (argOwns vs) b → J b) → ArgsRep w J ats x us
  | [], [], [], x, _, hx, _ => rfl
  | [a], [v], [u], x, hL, hx, hO => by
    simp only [argsOf] at hx
    exact ⟨u, rfl, arg_ok hm hL.1 hx hJ (fun b ⟨i, hi, hb⟩ => hO b ⟨i, by rw [argOwns_cons]; exact List.mem_append_left _ hi, hb⟩)⟩
  | a :: b :: r, v :: vs, u :: us, x, hL, hx, hO => by
    simp only [argsOf] at hx
    obtain ⟨y, hy, hx⟩ := Option.bind_eq_some_iff.1 hx
    obtain ⟨z, hz, hx⟩ := Option.bind_eq_some_iff.1 hx
    cases hx
    exact ⟨u, us, rfl, arg_ok hm hL.1 hy hJ (fun b ⟨i, hi, hb⟩ => hO b ⟨i, by rw [argOwns_cons]; exact List.mem_append_left _ hi, hb⟩),
      args_ok hm hJ hL.2 hz (fun b ⟨i, hi, hb⟩ => hO b ⟨i, by rw [argOwns_cons]; exact List.mem_append_right _ hi, hb⟩)⟩
theorem K_plain {I J : Nat → Prop} {w : World} : ∀ {t : Ty} {x : t.den} {l : List Value}, t.plain = true → K w I t x l → K w J t x l
  | .int _, _, _, _, h => h
  | .bool, _, _, _, h => h
  | .str, _, _, _, h => h
  | .list _, _, _, hp, _ => by simp [Ty.plain] at hp
  | .fn _ _ _, _, _, hp, _ => by simp [Ty.plain] at hp
  | .alt _ _, _, _, hp, _ => by simp [Ty.plain] at hp
  | .fz, _, _, _, h => h
  | .nl, _, _, _, h => h
  | .rl _, _, _, hp, _ => by simp [Ty.plain] at hp
  | .prod a b, _, _, hp, h => by
    simp only [Ty.plain, Bool.and_eq_true] at hp
    obtain ⟨c, d, hl, h1, h2⟩ := h
    exact ⟨c, d, hl, K_plain hp.1 h1, K_plain hp.2 h2⟩
/-- A result's cells, in the caller's memory. -/
theorem rc_ok (d : Nat) : ∀ {cs : List RC} {j : Nat} {x : (RC.tys cs).den} {vs : List Value} {bs : List Nat} {m : Nat} {G : Mem} {h : Hp} {J : Nat → Prop}, MemOK gl n0 w G h → (∀ b, J b → G.I b) → RcRep w J m cs x vs bs → bs.Nodup → (∀ b ∈ bs, n0 ≤ b ∧ ¬ G.I b ∧ ¬ G.J 1 b) →
    (∀ b ∈ bs, ∀ i C, h i = some C → blkOf (G.μ i) ≠ some b) → (∀ k, j < k → k ≤ j + nOwn cs → h (newId d k) = none) →
    ∃ G', MemOK gl n0 w G' (effs h (rcOf d j cs x).2) ∧ Evo w w G G' h (effs h (rcOf d j cs x).2) ∧ L2 (CellRep w G' (effs h (rcOf d j cs x).2)) (rcOf d j cs x).1 vs ∧ G'.I = G.I ∧
      ∀ i C k, effs h (rcOf d j cs x).2 i = some C → blkOf (G'.μ i) = some k → (∃ D, h i = some D ∧ blkOf (G.μ i) = some k) ∨ k ∈ bs
  | [], j, x, vs, bs, m, G, h, J, hm, _, hr, _, _, _, _ => by
    obtain ⟨rfl, rfl⟩ := hr
    exact ⟨G, hm, Evo.refl _ _ _, trivial, rfl, fun i C k h1 h2 => .inl ⟨C, h1, h2⟩⟩
  | [.v t], j, x, vs, bs, m, G, h, J, hm, hJ, hr, _, _, _, _ => by
    obtain ⟨hK, rfl⟩ := hr
    exact ⟨G, hm, Evo.refl _ _ _, ofTy_ok hJ hK, rfl, fun i C k h1 h2 => .inl ⟨C, h1, h2⟩⟩
  | [.o e t], j, x, vs, bs, m, G, h, J, hm, hJ, hr, hnd, hb1, hb2, hf => by
    obtain ⟨v, rfl, ⟨inner, hown, hre⟩, hbs⟩ := hr
    have hfr := hf (j + 1) (Nat.lt_succ_self _) (by simp [nOwn])
    have hblk : ∀ b, blkOf v = some b → b ∈ bs ∧ b < w.heap.size := fun b hb => by
      rcases hbs with ⟨h1, _⟩ | ⟨b', h1, rfl, _, h2, _⟩
      · rw [h1] at hb; cases hb
      · rw [h1] at hb; cases hb; exact ⟨by simp, h2⟩
    obtain ⟨m1, E1⟩ := mem_set hm (id := newId d (j + 1)) (B := .row 0 false e t x) (v0 := v) (fun _ _ => rfl) (fun b hb => ⟨rfl, fun he => (hb1 b (hblk b he).1).2.2 hb⟩) (fun _ _ _ _ _ _ => rfl) (Nat.le_refl _) (fun C hC => by rw [hfr] at hC; cases hC)
      ⟨inner, by rw [Mem.set_same]; exact hown, hre.imp fun _ _ hK => K_step hJ (fun _ _ => rfl) hK⟩
      (fun b hb => ⟨(hb1 b (hblk b hb).1).1, (hblk b hb).2, fun _ => (hb1 b (hblk b hb).1).2.1, fun hf => by simp [Blk.fro] at hf, fun i C _ hi => hb2 b (hblk b hb).1 i C hi⟩)
    refine ⟨_, m1, E1, ⟨⟨?_, 0, false, e, t, x, hset_same _ _ _, Nat.le_refl _, fun _ => (Mem.set_same _ _ _).symm⟩, trivial⟩, rfl, fun i C k h1 h2 => ?_⟩
    rotate_left
    · by_cases he : i = newId d (j + 1)
      · subst he; rw [Mem.set_same] at h2; exact .inr (hblk k h2).1
      · rw [Mem.set_ne _ _ he] at h2
        refine .inl ⟨C, ?_, h2⟩
        have h1 : hset h (newId d (j + 1)) (.row 0 false e t x) i = some C := h1
        rw [hset_ne _ _ he] at h1; exact h1
    rcases hown.2 with ⟨rfl, _⟩ | ⟨g, cap, cur, rfl, _⟩ <;> rfl
  | .v t :: c :: r, j, x, vs, bs, m, G, h, J, hm, hJ, hr, hnd, hb1, hb2, hf => by
    obtain ⟨a, b, rfl, hK, hr⟩ := hr
    obtain ⟨G', m1, E1, hL, hI', hB⟩ := rc_ok d (cs := c :: r) (j := j) (x := x.2) hm hJ hr hnd hb1 hb2 (fun k h1 h2 => hf k h1 (by simpa [nOwn] using h2))
    exact ⟨G', m1, E1, ((ofTy_ok (G := G) (h := h) hJ hK).imp fun _ _ hc => hc.evo E1).app hL, hI', hB⟩
  | .o e t :: c :: r, j, x, vs, bs, m, G, h, J, hm, hJ, hr, hnd, hb1, hb2, hf => by
    obtain ⟨v, b, b1, b2, rfl, ⟨⟨inner, hown, hre⟩, hbs⟩, hr, rfl⟩ := hr
    have hfr := hf (j + 1) (Nat.lt_succ_self _) (by simp only [nOwn]; omega)
    have hblk : ∀ b, blkOf v = some b → b ∈ b1 ∧ b < w.heap.size := fun b hb => by
      rcases hbs with ⟨h1, _⟩ | ⟨b', h1, rfl, _, h2, _⟩
      · rw [h1] at hb; cases hb
      · rw [h1] at hb; cases hb; exact ⟨by simp, h2⟩
    have hnd' := List.nodup_append.1 hnd
    obtain ⟨m1, E1⟩ := mem_set hm (id := newId d (j + 1)) (B := .row 0 false e t x.1) (v0 := v) (fun _ _ => rfl) (fun b hb => ⟨rfl, fun he => (hb1 b (List.mem_append_left _ (hblk b he).1)).2.2 hb⟩) (fun _ _ _ _ _ _ => rfl) (Nat.le_refl _) (fun C hC => by rw [hfr] at hC; cases hC)
      ⟨inner, by rw [Mem.set_same]; exact hown, hre.imp fun _ _ hK => K_step hJ (fun _ _ => rfl) hK⟩
      (fun b hb => ⟨(hb1 b (List.mem_append_left _ (hblk b hb).1)).1, (hblk b hb).2, fun _ => (hb1 b (List.mem_append_left _ (hblk b hb).1)).2.1, fun hf => by simp [Blk.fro] at hf, fun i C _ hi => hb2 b (List.mem_append_left _ (hblk b hb).1) i C hi⟩)
    obtain ⟨G', m2, E2, hL, hI', hB⟩ := rc_ok d (cs := c :: r) (j := j + 1) (x := x.2) m1 hJ hr hnd'.2.1 (fun k hk => hb1 k (List.mem_append_right _ hk))
      (fun k hk i C hi hbi => by
        by_cases he : i = newId d (j + 1)
        · subst he
          rw [Mem.set_same] at hbi
          exact hnd'.2.2 k (hblk k hbi).1 k hk rfl
        · rw [hset_ne _ _ he] at hi
          rw [Mem.set_ne _ _ he] at hbi
          exact hb2 k (List.mem_append_right _ hk) i C hi hbi)
      (fun k h1 h2 => by
        rw [hset_ne _ _ (by unfold newId; omega)]
        exact hf k (by omega) (by simp only [nOwn]; omega))
    refine ⟨G', m2, E1.trans E2, ⟨?_, hL⟩, hI', fun i C k h1 h2 => ?_⟩
    rotate_left
    · rcases hB i C k h1 h2 with ⟨D, g1, g2⟩ | g
      · by_cases he : i = newId d (j + 1)
        · subst he; rw [Mem.set_same] at g2; exact .inr (List.mem_append_left _ (hblk k g2).1)
        · rw [Mem.set_ne _ _ he] at g2; rw [hset_ne _ _ he] at g1; exact .inl ⟨D, g1, g2⟩
      · exact .inr (List.mem_append_right _ g)
    have c0 : CellRep w (G.set (newId d (j + 1)) v) (hset h (newId d (j + 1)) (.row 0 false e t x.1)) (.own (newId d (j + 1)) 0) v := by
      refine ⟨?_, 0, false, e, t, x.1, hset_same _ _ _, Nat.le_refl _, fun _ => (Mem.set_same _ _ _).symm⟩
      rcases hown.2 with ⟨rfl, _⟩ | ⟨g, cap, cur, rfl, _⟩ <;> rfl
    exact c0.evo E2
theorem eff_ids (d : Nat) : ∀ {cs : List RC} {j : Nat} {x : (RC.tys cs).den} (p : Nat × Blk), p ∈ (rcOf d j cs x).2 → ∃ k, j < k ∧ k ≤ j + nOwn cs ∧ p.1 = newId d k
  | [], _, _, p, hp => by cases hp
  | [.v t], _, _, p, hp => by cases hp
  | [.o e t], j, x, p, hp => by
    simp only [rcOf, List.mem_singleton] at hp
    subst hp
    exact ⟨j + 1, Nat.lt_succ_self _, by simp [nOwn], rfl⟩
  | .v t :: c :: r, j, x, p, hp => by
    obtain ⟨k, h1, h2, h3⟩ := eff_ids d (cs := c :: r) (j := j) (x := x.2) p hp
    exact ⟨k, h1, by simpa [nOwn] using h2, h3⟩
  | .o e t :: c :: r, j, x, p, hp => by
    simp only [rcOf, List.mem_cons] at hp
    rcases hp with rfl | hp
    · exact ⟨j + 1, Nat.lt_succ_self _, by simp only [nOwn]; omega, rfl⟩
    · obtain ⟨k, h1, h2, h3⟩ := eff_ids d (cs := c :: r) (j := j + 1) (x := x.2) p hp
      exact ⟨k, by omega, by simp only [nOwn]; omega, h3⟩
theorem freshN_ok {d n : Nat} (hf : freshN h d n = true) : ∀ k, 0 < k → k ≤ n → h (newId d k) = none := by
  induction n with
  | zero => intro k h1 h2; omega
  | succ n ih =>
    simp only [freshN, Bool.and_eq_true] at hf
    intro k h1 h2
    by_cases he : k = n + 1
    · subst he; exact fresh_ok hf.1
    · exact ih hf.2 k h1 (by omega)
/-- A result's parts, from its cells. -/
theorem res_form : ∀ {rts : List RT} {cs : List CV} {vs ps : List Value}, L2 (CellRep w G h) cs vs → ResParts rts vs ps → L2 (fun (p : Bool × List CV) u => PartRep w G h p.1 p.2 u) (rtCut rts cs) ps
  | [], cs, vs, ps, _, hr => by obtain ⟨_, rfl⟩ := hr; trivial
  | a :: r, cs, vs, ps, hL, hr => by
    obtain ⟨c, d, p, q, rfl, hcl, rfl, hp, hr⟩ := hr
    have h1 := hL.take a.sz
    have h2 := hL.drop a.sz
    rw [← hcl, List.take_left] at h1
    rw [← hcl, List.drop_left] at h2
    rw [hcl] at h1 h2
    refine ⟨?_, res_form h2 hr⟩
    show PartRep w G h a.agg (cs.take a.sz) p
    unfold PartRep
    cases hag : a.agg with
    | true => rw [hag] at hp; simp only at hp; exact ⟨c, hp, h1⟩
    | false =>
      rw [hag] at hp
      simp only at hp
      subst hp
      generalize hg : cs.take a.sz = l at h1
      match l, h1 with
      | [c'], h1 => exact ⟨c', rfl, h1.1⟩
theorem rtSV_ok {l : List (Bool × List CV)} {ps : List Value} (hL : L2 (fun (p : Bool × List CV) u => PartRep w G h p.1 p.2 u) l ps) : SVRep w G h (rtSV l) (oneOf ps) := by
  match l, ps, hL with
  | [], [], _ => exact ⟨[], rfl, trivial⟩
  | [(true, cs)], [p], hL => exact hL.1
  | [(false, [c])], [p], hL =>
    obtain ⟨c', hc, hp⟩ := hL.1
    cases hc
    exact hp
  | [(false, [])], [p], hL => obtain ⟨c', hc, hp⟩ := hL.1; cases hc
  | [(false, _ :: _ :: _)], [p], hL => obtain ⟨c', hc, hp⟩ := hL.1; cases hc
  | a :: b :: r, p :: q :: ps, hL =>
    have he : rtSV (a :: b :: r) = .tup (a :: b :: r) := by simp [rtSV]
    rw [he]
    exact ⟨p :: q :: ps, rfl, hL⟩
theorem rc_plain {cs : List RC} (hp : cs.all RC.plain = true) : ∀ {d j : Nat} {x : (RC.tys cs).den} {vs : List Value} {bs : List Nat} {m : Nat} {J : Nat → Prop}, RcRep w J m cs x vs bs → L2 (CellRep w G h) (rcOf d j cs x).1 vs := by
  induction cs with
  | nil => intro d j x vs bs m J hr; obtain ⟨rfl, _⟩ := hr; trivial
  | cons c r ih =>
    simp only [List.all_cons, Bool.and_eq_true] at hp
    intro d j x vs bs m J hr
    cases c with
    | o e t => simp [RC.plain] at hp
    | v t =>
      have ht : t.plain = true := hp.1
      cases r with
      | nil => obtain ⟨hK, _⟩ := hr; exact ofTy_ok (I := G.I) (fun _ h => h) (K_plain ht hK)
      | cons c r =>
        obtain ⟨a, b, rfl, hK, hr⟩ := hr
        exact (ofTy_ok (I := G.I) (G := G) (h := h) (fun _ h => h) (K_plain ht hK)).app (ih hp.2 hr)
theorem owns_ofTy : ∀ {t : Ty} {x : t.den}, owns (ofTy t x) = []
  | .int _, _ | .bool, _ | .str, _ | .list _, _ | .fn _ _ _, _ | .alt _ _, _ | .fz, _ | .ref _, _ | .nl, _ | .rl _, _ => rfl
  | .prod a b, x => by simp only [ofTy]; rw [owns_append, owns_ofTy, owns_ofTy]; rfl
theorem owns_take {cs : List CV} {n : Nat} (h : owns cs = []) : owns (cs.take n) = [] ∧ owns (cs.drop n) = [] := by
  have := owns_append (cs.take n) (cs.drop n)
  rw [List.take_append_drop, h] at this
  exact List.append_eq_nil_iff.1 this.symm
theorem capSV_ok : ∀ {gs : List (Bool × Nat)} {cs : List CV} {l us : List Value} {caps : List SV}, owns cs = [] → L2 (CellRep w G h) cs l → Parts gs l us → capSV gs cs = some caps → L2 (SVRep w G h) caps us ∧ argOwns caps = []
  | [], [], l, us, caps, _, _, hp, hc => by simp only [capSV] at hc; cases hc; obtain ⟨_, rfl⟩ := hp; exact ⟨trivial, rfl⟩
  | [], _ :: _, _, _, _, _, _, _, hc => by simp [capSV] at hc
  | (true, n) :: r, cs, l, us, caps, ho, hL, hp, hc => by
    simp only [capSV] at hc
    obtain ⟨c, h1, hc⟩ := Option.bind_eq_some_iff.1 hc
    obtain ⟨q, h2, hc⟩ := Option.bind_eq_some_iff.1 hc
    cases hc
    obtain ⟨rfl, hlen⟩ := cut_ok h1
    obtain ⟨c1, d1, p, us', rfl, hn, rfl, hpp, hp⟩ := hp
    rw [List.drop_zero] at hlen ⊢
    have hlt := hL.take n
    have hld := hL.drop n
    rw [← hn, List.take_left] at hlt
    rw [← hn, List.drop_left] at hld
    rw [hn] at hlt hld
    obtain ⟨h3, h4⟩ := capSV_ok (owns_take ho).2 hld hp h2
    refine ⟨⟨⟨c1, hpp, hlt⟩, h3⟩, ?_⟩
    rw [argOwns_cons, h4]
    simp [svOwns, (owns_take ho).1]
  | (false, n) :: r, [], _, _, _, _, _, _, hc => by simp [capSV] at hc
  | (false, n) :: r, c :: cs, l, us, caps, ho, hL, hp, hc => by
    simp only [capSV] at hc
    obtain ⟨q, h2, hc⟩ := Option.bind_eq_some_iff.1 hc
    cases hc
    obtain ⟨c1, d1, p, us', rfl, hn, rfl, hpp, hp⟩ := hp
    simp only at hpp
    subst hpp
    have ho' : owns [c] = [] ∧ owns cs = [] := by
      have := owns_append [c] cs
      rw [show [c] ++ cs = c :: cs from rfl, ho] at this
      exact List.append_eq_nil_iff.1 this.symm
    obtain ⟨h3, h4⟩ := capSV_ok ho'.2 hL.2 hp h2
    refine ⟨⟨hL.1, h3⟩, ?_⟩
    rw [argOwns_cons, h4]
    simp [svOwns, ho'.1]
theorem argOwns_app : ∀ (l r : List SV), argOwns (l ++ r) = argOwns l ++ argOwns r
  | [], _ => rfl
  | v :: l, r => by rw [List.cons_append, argOwns_cons, argOwns_cons, argOwns_app l r, List.append_assoc]
theorem castR_ok {a b : List RT} {x : Option (RT.dens a)} {z : RT.dens b} (h : castR b x = some z) : ∃ e : a = b, e ▸ x = some z := by
  unfold castR at h
  split at h
  · rename_i hb; exact ⟨rtsBeq_eq hb, h⟩
  · cases h
def CallsRes (P : Program) (w : World) (J : Nat → Prop) (f : FuncId) (args : List Value) (rts : List RT) (z : RT.dens rts) : Prop :=
  ((∃ fn, P.funcs[f]? = some fn ∧ (fn.name == "runtime.NumGoroutine") = false ∧ fn.body.isSome = true) ∧
  Calls P f args.toArray w fun e w' => ∃ v, e = .returned v ∧ Below w.heap.size w w' ∧ ResRep w.heap.size w' J rts z v) ∨
  ∃ v, (callFunc f args.toArray).run P w = .ok (.value v) w ∧ ResRep w.heap.size w J rts z v
theorem callees_ok (hE : EnvOK P gl E) (hm : MemOK gl n0 w G h) {J : Nat → Prop} (hJ : ∀ b, G.I b → J b) (hJb : ∀ b, J b → b < w.heap.size) {key : List Nat} {args : List SV} {us : List Value} (hL : L2 (SVRep w G h) args us) (hO : ∀ b, OB G (argOwns args) b → J b) {rts : List RT} :
    ∀ {t : Ty} {g : t.den → Option (RT.dens rts)} {x : t.den} {u : Value} {z : RT.dens rts}, callees E h key args rts t = some g → K w G.I t x [u] → g x = some z →
      ∃ fid caps, u = .func (.func fid) #[] (List.toArray caps) ∧ CallsRes P w J fid (us ++ caps) rts z
  | .fn f gs t, g, x, u, z, hg, hK, hz => by
    simp only [callees] at hg
    obtain ⟨ce, hce, hg⟩ := Option.bind_eq_some_iff.1 hg
    cases hg
    obtain ⟨caps, hcaps, hz⟩ := Option.bind_eq_some_iff.1 hz
    obtain ⟨y, hy, hz⟩ := Option.bind_eq_some_iff.1 hz
    obtain ⟨l, cv, hu, hp, hKt⟩ := hK
    simp only [List.cons.injEq, and_true] at hu
    have hcap : L2 (SVRep w G h) caps cv ∧ argOwns caps = [] := by
      unfold capsOf at hcaps
      split at hcaps
      · cases hcaps
        obtain ⟨_, rfl⟩ := hp
        exact ⟨trivial, rfl⟩
      · rename_i hne
        rcases hKt with h0 | hKt
        · exact absurd h0 (by intro h0; exact hne h0)
        · exact capSV_ok owns_ofTy (ofTy_ok (fun _ h => h) hKt) hp hcaps
    have hC := hE.call _ _ _ hce
    obtain ⟨e, hz⟩ := castR_ok hz
    obtain ⟨ats, rts', fn'⟩ := ce
    simp only at e
    subst e
    have hA := args_ok hm hJ (hL.app hcap.1) hy (fun b hb => hO b (by rw [argOwns_app, hcap.2, List.append_nil] at hb; exact hb))
    refine ⟨f, cv, hu, ?_⟩
    rcases hC with hC | hC
    · exact .inl ⟨hC.there, hC.calls y z hz w J _ hJb (fun g gv hg => (hm.glob g gv hg).step hJ (fun _ _ => rfl)) hA⟩
    · exact .inr (hC y z hz w J _ hA)
  | .alt a b, g, x, u, z, hg, hK, hz => by
    simp only [callees] at hg
    obtain ⟨ga, hga, hg⟩ := Option.bind_eq_some_iff.1 hg
    obtain ⟨gb, hgb, hg⟩ := Option.bind_eq_some_iff.1 hg
    cases hg
    cases x with
    | inl y => exact callees_ok hE hm hJ hJb hL hO hga hK.2 hz
    | inr y => exact callees_ok hE hm hJ hJb hL hO hgb hK.2 hz
  | .fz, g, x, u, z, hg, hK, hz => by simp only [callees] at hg; cases hg; cases hz
theorem args_row {args : List SV} {us : List Value} (hLa : L2 (SVRep w G h) args us) : ∀ i ∈ argOwns args, ∃ v f e t xs, h i = some (.row v f e t xs) := by
  induction args generalizing us with
  | nil => intro i hi; cases hi
  | cons z l ih =>
    intro i hi
    cases us with
    | nil => exact hLa.elim
    | cons u us =>
      rw [argOwns_cons] at hi
      rcases List.mem_append.1 hi with hi | hi
      · cases z <;> simp only [svOwns] at hi <;> try cases hi
        · exact owns_row (cs := [_]) (l := [u]) ⟨hLa.1, trivial⟩ i hi
        · obtain ⟨l', _, hl'⟩ := hLa.1; exact owns_row hl' i hi
      · exact ih hLa.2 i hi
theorem args_bound (hm : MemOK gl n0 w G h) {args : List SV} {us : List Value} (hLa : L2 (SVRep w G h) args us) : ∀ b, (G.I b ∨ OB G (argOwns args) b) → b < w.heap.size := fun b hb => by
  rcases hb with hb | ⟨i, hi, hb⟩
  · exact hm.bound b hb
  · obtain ⟨v, f, e, t, xs, hh⟩ := args_row hLa i hi
    exact (hm.own i _ b hh hb).2.1
theorem call_fin (hm : MemOK gl n0 w G h) {rts : List RT} {comp : Option (RT.dens rts)} {args : List SV} {us : List Value} (hLa : L2 (SVRep w G h) args us) (hfr : ∀ k, 1 ≤ k → k ≤ nOwn (flatRC rts) → h (newId d k) = none)
    {α : Type} {comp' : Option α} {res : α → SV} {eff : α → List (Nat × Blk)} {y : α} (h1 : callOut h d rts comp args = some (.call α comp' res eff)) (hy : comp' = some y)
    (hcalls : ∀ z, comp = some z → ∀ (next : Act → World → Prop) (Q : Exit → Act → World → Prop), (∀ v w', Below w.heap.size w w' → ResRep w.heap.size w' (fun b => G.I b ∨ OB G (argOwns args) b) rts z v → next (a.put o.dst v) w') → o.wp P a w next Q) : OpOK P gl n0 o a w G h (res y) (effs h (eff y)) := by
        have hrow := args_row hLa
        have hJb := args_bound hm hLa
        unfold callOut at h1
        cases hpl : (rts.all fun r => r.cs.all RC.plain) with
        | true =>
          rw [hpl] at h1
          cases h1
          intro next Q hn
          refine hcalls y hy next Q fun v w' hB hR => ?_
          obtain ⟨J', vs, bs, ps, _, hRc, _, hPs, rfl⟩ := hR
          obtain ⟨m1, E1⟩ := mem_world hm hB.block hB.size
          have hpf : (flatRC rts).all RC.plain = true := by
            clear hcalls hRc hn
            have : ∀ rts : List RT, (rts.all fun r => r.cs.all RC.plain) = true → (flatRC rts).all RC.plain = true := by
              intro rts
              induction rts with
              | nil => intro _; rfl
              | cons r l ih => intro hh; simp only [List.all_cons, Bool.and_eq_true] at hh; simp only [flatRC, List.all_append, Bool.and_eq_true]; exact ⟨hh.1, ih hh.2⟩
            exact this _ hpl
          exact hn _ w' G m1 E1 (hB.mono hm.le) (rtSV_ok (res_form (rc_plain hpf hRc) hPs))
        | false =>
          rw [hpl] at h1
          cases h1
          intro next Q hn
          refine hcalls y hy next Q fun v w' hB hR => ?_
          obtain ⟨J', vs, bs, ps, hJ', hRc, hnd, hPs, rfl⟩ := hR
          obtain ⟨G1, m1, E1, hμ, hI1, hI2, hI3⟩ := mem_frzU hm (argOwns args)
          obtain ⟨m2, E2⟩ := mem_world m1 hB.block hB.size
          have hJ1 : ∀ b, J' b → G1.I b ∨ w.heap.size ≤ b := fun b hb => by
            rcases hJ' b hb with (hb | ⟨i, hi, hb⟩) | hb
            · exact .inl (hI1 b hb)
            · obtain ⟨v, f, e, t, xs, hh⟩ := hrow i hi
              exact .inl (hI3 i hi v f e t xs b hh hb)
            · exact .inr hb.1
          have hJ2 : ∀ b, J' b → b < w'.heap.size := fun b hb => by
            rcases hJ' b hb with hb | hb
            · exact Nat.lt_of_lt_of_le (hJb b hb) hB.size
            · exact hb.2
          obtain ⟨m3, E3⟩ := mem_more m2 (fun b => G1.I b ∨ J' b) (fun _ h => .inl h) (fun b hb => hb.elim (m2.bound b) (hJ2 b)) (fun i C b hi hfro hb hJ => by
            obtain ⟨_, q2, q3, _⟩ := m1.own i C b hi hb
            rcases hJ with hJ | hJ
            · exact q3 hfro hJ
            · rcases hJ1 b hJ with hJ | hJ
              · exact q3 hfro hJ
              · omega) (fun b hb => hb.elim (m2.new b) fun hb => by
                rcases hJ1 b hb with hb | hb
                · exact m2.new b hb
                · exact .inr ⟨Nat.le_trans hm.le hb, fun hF => by have := m1.fb b hF; omega⟩)
          have hbs : ∀ b ∈ bs, w.heap.size ≤ b ∧ ¬ J' b := by
            clear hcalls hn hPs
            have gen : ∀ (cs : List RC) (x : (RC.tys cs).den) (vs : List Value) (bs : List Nat), RcRep w' J' w.heap.size cs x vs bs → ∀ b ∈ bs, w.heap.size ≤ b ∧ ¬ J' b := by
              intro cs
              induction cs with
              | nil => intro x vs bs hr b hb; obtain ⟨_, rfl⟩ := hr; cases hb
              | cons c r ih =>
                intro x vs bs hr b hb
                cases c with
                | v t =>
                  cases r with
                  | nil => obtain ⟨_, rfl⟩ := hr; cases hb
                  | cons c r => obtain ⟨_, _, _, _, hr⟩ := hr; exact ih _ _ _ hr b hb
                | o e t =>
                  cases r with
                  | nil =>
                    obtain ⟨_, _, _, hr⟩ := hr
                    rcases hr with ⟨_, rfl⟩ | ⟨b', _, rfl, h2, _, h3⟩
                    · cases hb
                    · simp only [List.mem_singleton] at hb; subst hb; exact ⟨h2, h3⟩
                  | cons c r =>
                    obtain ⟨_, _, b1, b2, _, ⟨_, ho⟩, hr, rfl⟩ := hr
                    rcases List.mem_append.1 hb with hb | hb
                    · rcases ho with ⟨_, rfl⟩ | ⟨b', _, rfl, h2, _, h3⟩
                      · cases hb
                      · simp only [List.mem_singleton] at hb; subst hb; exact ⟨h2, h3⟩
                    · exact ih _ _ _ hr b hb
            exact gen _ _ _ _ hRc
          obtain ⟨G', m4, E4, hL, _, _⟩ := rc_ok d (j := 0) m3 (fun _ h => .inr h) hRc hnd (fun b hb => ⟨Nat.le_trans hm.le (hbs b hb).1, fun hI => by
              rcases hI with hI | hI
              · have := m1.bound b hI; have := (hbs b hb).1; omega
              · exact (hbs b hb).2 hI, fun hF => by have h1 := m1.fb b hF; have := (hbs b hb).1; omega⟩)
            (fun b hb i C hi hbi => by have := (m1.own i C b hi hbi).2.1; have := (hbs b hb).1; omega)
            (fun k h2 h3 => by
              rw [effs_other _ _ _ (fun p hp he => (freeze_ids _ p hp).1 (by rw [he]; exact hfr k h2 (by omega)))]
              exact hfr k h2 (by omega))
          exact hn _ w' G' (by rw [effs_app]; exact m4) (by rw [effs_app]; exact ((E1.trans E2).trans E3).trans E4) (hB.mono hm.le) (by rw [effs_app]; exact rtSV_ok (res_form hL hPs))
theorem call_wp {f : Operand} {as : Array Operand} {tys : Array TypeId} {fid : FuncId} (ho : o.op = .call { callee := .value f, args := as, argTypes := tys }) (hfv : a.eval f = .func (.func fid) #[] #[])
    (there : ∃ fn, P.funcs[fid]? = some fn ∧ (fn.name == "runtime.NumGoroutine") = false ∧ fn.body.isSome = true) {args : List Value} (ha : as.toList.map a.eval = args) {post : Ending → World → Prop} (hC : Calls P fid args.toArray w post) {next : Act → World → Prop} {Q : Exit → Act → World → Prop}
    (hn : ∀ e w', post e w' → ∃ v, e = .returned v ∧ next (a.put o.dst v) w') : o.wp P a w next Q := by
  obtain ⟨fn, hfn, hname, hbody⟩ := there
  have henter : (execOp a.eval o).run P w = .ok (.enter fid args.toArray) w := by
    subst ha
    simp only [execOp, ho, resolve, hfv, Deferred.ofValue, pure_bind, invoke, callFunc, Sem.run_bind]
    have hbn : fn.body.isNone = false := by cases hb : fn.body <;> simp_all
    simp [hfn, hname, hbn, program, Sem.run, Result.andThen]
    try rw [← Array.toList_map, Array.toArray_toList]
  unfold Oper.wp
  rw [henter, Oper.upon_enter]
  refine hC.mono ?_
  intro e w' hp
  obtain ⟨v, rfl, hx⟩ := hn e w' hp
  exact hx
theorem bldSel_ok {f : FuncId} {q : BldC} {b : Bool} (h : bldSel E f = some (q, b)) : E.bld = some q ∧ f = (if b then q.fw else q.fs) := by
  unfold bldSel at h
  split at h
  · rename_i q' hq
    cases h1 : Nat.beq q'.fw f with
    | true => rw [h1] at h; cases h; exact ⟨hq, (nbeq h1).symm⟩
    | false =>
      rw [h1] at h
      obtain ⟨h2, h⟩ := bifs h
      cases h
      exact ⟨hq, (nbeq h2).symm⟩
  · cases h
theorem bldWrite_ok {q : BldC} (hB : BldOK P q) (hm : MemOK gl n0 w G h) {f : Operand} {as : Array Operand} {tys : Array TypeId} (ho : o.op = .call { callee := .value f, args := as, argTypes := tys }) (hfv : a.eval f = .func (.func q.fw) #[] #[])
    {args : List SV} (hLa : L2 (SVRep w G h) args (as.toList.map a.eval)) {α : Type} {comp : Option α} {res : α → SV} {eff : α → List (Nat × Blk)} (h1 : bldWrite q h d args = some (.call α comp res eff)) {y : α} (hy : comp = some y) : OpOK P gl n0 o a w G h (res y) (effs h (eff y)) := by
  unfold bldWrite at h1
  split at h1
  rotate_left
  · cases h1
  rename_i id s
  generalize hus : as.toList.map a.eval = us at hLa
  match us, hLa with
  | [u1, u2], hLa =>
  obtain ⟨⟨b, _, hμ, rfl⟩, hs2, -⟩ := hLa
  have hs2 : u2 = .string s := hs2
  subst hs2
  split at h1
  rotate_left
  · cases h1
  rename_i T i c rest hid
  have hTi := (bifs h1).1
  replace h1 := (bifs h1).2
  simp only [Bool.and_eq_true] at hTi
  have hT := hTi.1
  have e2 := nbeq hTi.2
  subst e2
  obtain ⟨b', e', l, g1, g2, g3, g4⟩ := hm.rep _ _ hid
  rw [hμ] at g1
  simp only [Value.pointer.injEq, Option.some.injEq, Addr.mk.injEq, and_true] at g1
  subst g1
  have g4 : e' = T := g4
  subst g4
  have hblk : blkOf (G.μ i) = some b := by rw [hμ]; rfl
  match l, g3 with
  | c0 :: v :: lr, g3 =>
  obtain ⟨⟨b2, _, hμ2, hc0⟩, hcv, hrest⟩ := g3
  have hT : q.has e' lr.length = true := by rw [← hrest.len]; exact hT
  rw [hμ] at hμ2
  simp only [Value.pointer.injEq, Option.some.injEq, Addr.mk.injEq, and_true] at hμ2
  subst hμ2
  have fin : ∀ {rid ver n : Nat} {xs ys : List Int} {c : CV}, h i = some (.box (.sq e' i :: c :: rest)) → i ≠ rid → ((h rid = none ∧ blkOf v = none) ∨ ∃ old zs, h rid = some (.row old false q.e (.int .u8) zs) ∧ old < ver ∧ v = G.μ rid) → w.ownsRow 0 q.e 1 v ys.length (ys.map (Value.int .u8)) → blkOf v ≠ some b → ys.length + s.size ≤ 140737488355328 → xs = ys ++ bytesOf s →
      OpOK P gl n0 o a w G h .any (hset (hset h rid (.row ver false q.e (.int .u8) xs)) i (.box (.sq e' i :: .own rid ver :: rest))) := by
    intro rid ver n xs ys c hid hne hrow hown hvb hlen hxs next Q hn
    refine call_wp ho hfv hB.thereW hus (hB.write e' lr hT w b c0 v ys.length _ s g2 hc0 hown hvb hlen) ?_
    rintro e w' ⟨u, v', rfl, k1, k2, k3, k4, k5⟩
    have hl : (bytesOf s).length = s.size := by simp [bytesOf]
    obtain ⟨G', m1, E1, B1⟩ := mem_write hm hrest (ver := ver) (xs := xs) hid hμ hne hrow k1 (by rw [hxs, List.length_append, hl, List.map_append]; exact k2) k3 k4 k5
    exact ⟨u, rfl, hn u w' G' m1 E1 B1 trivial⟩
  split at h1
  · have hf := fresh_ok (bifs h1).1
    replace h1 := (bifs h1).2
    cases h1
    split at hy
    · rename_i hsz
      cases hy
      have hcv : v = .slice none 0 0 := hcv
      subst hcv
      exact fin (rid := newId d 1) (ver := 0) (n := 0) (ys := []) hid (fun e => by rw [e, hf] at hid; cases hid) (.inl ⟨hf, rfl⟩) ⟨rfl, .inl ⟨rfl, rfl⟩⟩ (by simp [blkOf]) (by simpa using hsz) rfl
    · cases hy
  · rename_i rid ver
    split at h1
    · rename_i vv ee xs hrid
      have hve := (bifs h1).1
      replace h1 := (bifs h1).2
      simp only [Bool.and_eq_true] at hve
      have e1 := nbeq hve.1
      have e2 := nbeq hve.2
      subst e1; subst e2
      cases h1
      split at hy
      · rename_i hsz
        cases hy
        obtain ⟨_, cur, fro, e3, t3, xs3, hh, _, hm3⟩ := hcv
        rw [hrid] at hh
        cases hh
        have hv := hm3 rfl
        obtain ⟨inner, hown, hre⟩ := hm.rep _ _ hrid
        rw [bytes_of_K hre, ← hv] at hown
        have hne : i ≠ rid := fun e => by rw [e, hrid] at hid; cases hid
        exact fin (rid := rid) (ver := vv + 1) (n := 0) (ys := xs) hid hne (.inr ⟨vv, xs, hrid, Nat.lt_succ_self _, hv⟩) hown (fun e => hne (hm.inj i rid _ _ b hid hrid hblk (by rw [← hv]; exact e))) hsz rfl
      · cases hy
    · cases h1
  · cases h1
theorem bldString_ok {q : BldC} (hB : BldOK P q) (hm : MemOK gl n0 w G h) {f : Operand} {as : Array Operand} {tys : Array TypeId} (ho : o.op = .call { callee := .value f, args := as, argTypes := tys }) (hfv : a.eval f = .func (.func q.fs) #[] #[])
    {args : List SV} (hLa : L2 (SVRep w G h) args (as.toList.map a.eval)) {α : Type} {comp : Option α} {res : α → SV} {eff : α → List (Nat × Blk)} (h1 : bldString q h args = some (.call α comp res eff)) {y : α} (hy : comp = some y) : OpOK P gl n0 o a w G h (res y) (effs h (eff y)) := by
  unfold bldString at h1
  split at h1
  rotate_left
  · cases h1
  rename_i id
  generalize hus : as.toList.map a.eval = us at hLa
  match us, hLa with
  | [u1], hLa =>
  obtain ⟨⟨b, _, hμ, rfl⟩, -⟩ := hLa
  split at h1
  rotate_left
  · cases h1
  rename_i T i c rest hid
  have hTi := (bifs h1).1
  replace h1 := (bifs h1).2
  simp only [Bool.and_eq_true] at hTi
  have hT := hTi.1
  have e2 := nbeq hTi.2
  subst e2
  obtain ⟨b', e', l, g1, g2, g3, g4⟩ := hm.rep _ _ hid
  rw [hμ] at g1
  simp only [Value.pointer.injEq, Option.some.injEq, Addr.mk.injEq, and_true] at g1
  subst g1
  have g4 : e' = T := g4
  subst g4
  have hblk : blkOf (G.μ i) = some b := by rw [hμ]; rfl
  match l, g3 with
  | c0 :: v :: lr, g3 =>
  obtain ⟨⟨b2, _, hμ2, hc0⟩, hcv, hrest⟩ := g3
  have hT : q.has e' lr.length = true := by rw [← hrest.len]; exact hT
  rw [hμ] at hμ2
  simp only [Value.pointer.injEq, Option.some.injEq, Addr.mk.injEq, and_true] at hμ2
  subst hμ2
  split at h1
  · cases h1
    cases hy
    have hcv : v = .slice none 0 0 := hcv
    subst hcv
    intro next Q hn
    refine call_wp ho hfv hB.thereS hus (hB.str e' lr hT w b c0 _ [] g2 hc0 ⟨rfl, .inl ⟨rfl, rfl⟩⟩ rfl (by simp [blkOf])) ?_
    rintro e w' ⟨rfl, k1, k2⟩
    obtain ⟨m1, E1⟩ := mem_world hm (fun k hk => k1 k hk (by simp [blkOf])) k2.size
    exact ⟨_, rfl, hn _ w' G m1 E1 ⟨k2.os, k2.tape, k2.output, k2.size, fun k hk => k1 k (Nat.lt_of_lt_of_le hk hm.le) (by simp [blkOf])⟩ rfl⟩
  · rename_i rid ver
    split at h1
    · rename_i vv ee xs hrid
      have hve := (bifs h1).1
      replace h1 := (bifs h1).2
      simp only [Bool.and_eq_true] at hve
      have e1 := nbeq hve.1
      have e2 := nbeq hve.2
      subst e1; subst e2
      cases h1
      split at hy
      · rename_i hby
        cases hy
        obtain ⟨_, cur, fro, e3, t3, xs3, hh, _, hm3⟩ := hcv
        rw [hrid] at hh
        cases hh
        have hv := hm3 rfl
        obtain ⟨inner, hown, hre⟩ := hm.rep _ _ hrid
        rw [bytes_of_K hre, ← hv] at hown
        have hne : i ≠ rid := fun e => by rw [e, hrid] at hid; cases hid
        intro next Q hn
        refine call_wp ho hfv hB.thereS hus (hB.str e' lr hT w b c0 v xs g2 hc0 hown hby (fun e => hne (hm.inj i rid _ _ b hid hrid hblk (by rw [← hv]; exact e)))) ?_
        rintro e w' ⟨rfl, k1, k2⟩
        obtain ⟨G', m1, E1, B1⟩ := mem_read hm hrid (fun k hk hb => k1 k hk (by rw [hv]; exact hb)) k2
        exact ⟨_, rfl, hn _ w' G' m1 E1 B1 rfl⟩
      · cases hy
    · cases h1
  · cases h1
end
end Go.Den
