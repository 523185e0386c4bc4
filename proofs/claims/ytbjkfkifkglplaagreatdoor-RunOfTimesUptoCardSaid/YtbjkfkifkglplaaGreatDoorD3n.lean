/-
  One operation of the abstract machine is right: sets of strings.
-/
import Derived.Test.YtbjkfkifkglplaaGreatDoorD3f
set_option linter.unusedSectionVars false
set_option linter.unusedVariables false
set_option linter.unusedSimpArgs false
namespace Go.Den
open Go Go.RowKit
section
variable {P : Program} {gl : GT} {n0 : Nat} {o : Oper} {a : Act} {w : World} {G : Mem} {h : Hp} {E : EnvC} {s : Nat → SV} {d : Nat} {cs : List Cnd} {v : SV} {e : List (Nat × Blk)}
theorem setOf_ok (hE : EnvOK P gl E) {T : TypeId} (hs : setOf E.tt T = true) : ∃ k e, P.underlying T = some (.map k e) ∧ P.underlying k = some .string ∧ P.underlying e = some .bool ∧ (P.info? e).bind (·.zero) = some (.bool false) := by
  unfold setOf at hs
  split at hs
  · rename_i hk
    rcases kdAt_ok hE T with ⟨_, h2⟩ | h2
    · rw [hk] at h2; exact h2
    · rw [hk] at h2; cases h2
  · cases hs
theorem op_makeMap (hE : EnvOK P gl E) (hm : MemOK gl n0 w G h) {T : TypeId} (ho : o.op = .makeMap T none) (h1 : op1 E d (evO E s) h (.makeMap T none) = some (.val cs v e)) : OpOK P gl n0 o a w G h v (effs h e) := by
  simp only [op1] at h1
  obtain ⟨hf, h1⟩ := bifs h1
  obtain ⟨rfl, rfl, rfl⟩ := outOf h1
  simp only [Bool.and_eq_true] at hf
  obtain ⟨k, el, hT, hk, he, _⟩ := setOf_ok hE hf.2
  have hf := fresh_ok hf.1
  have hold : ∀ b, b < w.heap.size → (w.alloc (.map #[] 0)).heap[b]? = w.heap[b]? := fun b hb => Below.heap_alloc _ _ _ hb
  have hsz : (w.alloc (.map #[] 0)).heap.size = w.heap.size + 1 := by show (w.heap.push _).size = _; simp
  have hI : ∀ b, G.I b → (w.alloc (.map #[] 0)).heap[b]? = w.heap[b]? := fun b hb => hold b (hm.bound b hb)
  obtain ⟨m1, E1⟩ := mem_set hm (id := newId d 0) (B := .set []) (v0 := .map (some w.heap.size)) hI (fun b hb => ⟨hold b (hm.fb b hb), fun he => by simp only [blkOf, Option.some.injEq] at he; have := hm.fb b hb; omega⟩) (fun i C b _ hi hb => hold b (hm.own i C b hi hb).2.1) (by omega) (fun C hC => by rw [hf] at hC; cases hC)
    ⟨w.heap.size, Mem.set_same _ _ _, P, k, el, hk, he, Seen.made _ _ _ _⟩
    (fun b hb => by
      simp only [blkOf, Option.some.injEq] at hb
      subst hb
      exact ⟨hm.le, by omega, fun _ hI => Nat.lt_irrefl _ (hm.bound _ hI), fun hfr => by simp [Blk.fro] at hfr, fun i C _ hi hb => Nat.lt_irrefl _ (hm.own i C _ hi hb).2.1⟩)
  refine opOK_at (v := .map (some w.heap.size)) ?_ m1 E1 (below_alloc0 hm _) ⟨(Mem.set_same _ _ _).symm, ⟨_, rfl⟩, [], hset_same _ _ _⟩
  simp [execOp, ho, run_makeMap, Result.andThen]
theorem op_lookup (hE : EnvOK P gl E) (hm : MemOK gl n0 w G h) (hs : ∀ t, SVRep w G h (s t) (a.tmps.getD t undef)) {T : TypeId} {m x : Operand} (ho : o.op = .lookup T m x false) (h1 : op1 E d (evO E s) h (.lookup T m x false) = some (.val cs v e)) (hc : ∀ c ∈ cs, c.p) : OpOK P gl n0 o a w G h v (effs h e) := by
  simp only [op1] at h1
  have hx := evO_ok hE hm hs m
  have hy := evO_ok hE hm hs x
  split at h1
  · rename_i id sb hp hq
    rw [hp] at hx; rw [hq] at hy
    simp only [SVRep, CellRep] at hx hy
    split at h1
    · rename_i ks hi
      obtain ⟨hb, h1⟩ := bifs h1
      simp only [Out.when, Option.some.injEq, Out.val.injEq] at h1
      obtain ⟨rfl, rfl, rfl⟩ := h1
      have h0 := hc _ List.mem_cons_self
      simp only at h0
      obtain ⟨k, el, hT, hk, he, hz⟩ := setOf_ok hE hb
      obtain ⟨b, hμ, P', k', e', hk', he', hS⟩ := hm.rep _ _ hi
      have hS := hS.prog hk' hk he' he
      have hv : a.eval m = .map (some b) := hx.1.trans hμ
      have hzero : (zeroValue el).run P w = .ok (.bool false) w := by
        obtain ⟨i, hi2, hz⟩ := Option.bind_eq_some_iff.1 hz
        simp [zeroValue, typeInfo, hi2, hz]
      refine opOK_pure (v := .bool (hasK sb ks)) ?_ hm rfl
      simp only [execOp, ho, Sem.run_bind, hv, hy, hS.look hk hT he hzero sb (by unfold maxLen; exact h0), Result.andThen]
      rfl
    · cases h1
  · cases h1
theorem op_mapUpdate (hE : EnvOK P gl E) (hm : MemOK gl n0 w G h) (hs : ∀ t, SVRep w G h (s t) (a.tmps.getD t undef)) {T : TypeId} {m x y : Operand} (ho : o.op = .mapUpdate T m x y) (h1 : op1 E d (evO E s) h (.mapUpdate T m x y) = some (.val cs v e)) (hc : ∀ c ∈ cs, c.p) : OpOK P gl n0 o a w G h v (effs h e) := by
  simp only [op1] at h1
  have hx := evO_ok hE hm hs m
  have hy := evO_ok hE hm hs x
  have hz := evO_ok hE hm hs y
  split at h1
  · rename_i id sb hp hq hr
    rw [hp] at hx; rw [hq] at hy; rw [hr] at hz
    simp only [SVRep, CellRep] at hx hy hz
    split at h1
    · rename_i ks hi
      obtain ⟨hb, h1⟩ := bifs h1
      simp only [Out.when, Option.some.injEq, Out.val.injEq] at h1
      obtain ⟨rfl, rfl, rfl⟩ := h1
      have h0 := hc _ List.mem_cons_self
      have h2 := hc _ (List.mem_cons_of_mem _ List.mem_cons_self)
      simp only at h0 h2
      obtain ⟨k, el, hT, hk, he, _⟩ := setOf_ok hE hb
      obtain ⟨b, hμ, P', k', e', hk', he', hS⟩ := hm.rep _ _ hi
      have hS := hS.prog hk' hk he' he
      have hv : a.eval m = .map (some b) := hx.1.trans hμ
      obtain ⟨w', hrun, hS', hg⟩ := hS.put hk hT he (by unfold maxLen; exact h2) sb (by unfold maxLen; exact h0)
      have hbk : blkOf (G.μ id) = some b := by rw [hμ]; rfl
      obtain ⟨p1, p2, p3, _⟩ := hm.own id _ b hi hbk
      have hoth : ∀ c, c ≠ b → c < w.heap.size → w'.heap[c]? = w.heap[c]? := fun c hne hlt => hg.block c hlt (by simpa using hne)
      have hI : ∀ c, G.I c → w'.heap[c]? = w.heap[c]? := fun c hc => hoth c (fun he => p3 rfl (he ▸ hc)) (hm.bound c hc)
      obtain ⟨m1, E1⟩ := mem_set hm (id := id) (B := .set (sb :: ks)) (v0 := G.μ id) hI (fun c hc => ⟨hoth c (fun he => hm.foe id _ b hi hbk (he ▸ hc)) (hm.fb c hc), fun he => hm.foe id _ c hi he hc⟩)
        (fun j C c hne hj hc => hoth c (fun he => hne (hm.inj j id C _ b hj hi (he ▸ hc) hbk)) (hm.own j C c hj hc).2.1) hg.size (fun C hC => by rw [hi] at hC; cases hC; rfl)
        ⟨b, by rw [Mem.set_same]; exact hμ, P, k, el, hk, he, hS'⟩
        (fun c hc => by
          rw [hbk] at hc; cases hc
          exact ⟨p1, Nat.lt_of_lt_of_le p2 hg.size, fun _ => p3 rfl, fun hf => by simp [Blk.fro] at hf, fun j C hne hj hb => hne (hm.inj j id C _ b hj hi hb hbk)⟩)
      refine opOK_skip ?_ m1 E1 ((Below.refl n0 w).grown hg hm.le (fun c hc => by cases hc; exact p1))
      simp only [execOp, ho, Sem.run_bind, hv, hy, hz, hrun, Result.andThen]
      rfl
    · cases h1
  · cases h1
end
end Go.Den
