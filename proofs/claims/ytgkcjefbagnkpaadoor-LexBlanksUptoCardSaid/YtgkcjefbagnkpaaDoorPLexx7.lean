-- written by wip/tools/xprint.py (over the kit's print.py): not trusted, Lean checks it.
import Derived.Test.YtgkcjefbagnkpaaDoorPLexx0
import Derived.Test.YtgkcjefbagnkpaaDoorPLexx2
import Derived.Test.YtgkcjefbagnkpaaDoorPLexx4
namespace Go.Proofs.YtgkcjefbagnkpaaDoor.PLex
open Go.RowKit Go.Proofs.YtgkcjefbagnkpaaDoorW.PrintWords Go.Proofs.YtgkcjefbagnkpaaDoorW.PrintLast Go.Proofs.YtgkcjefbagnkpaaDoorW.PrintMore Go.Proofs.YtgkcjefbagnkpaaDoorXW
attribute [local go_sem high] cell_set_map Option.map_some
attribute [local go_sem] max2_int min2_int max_two min_two max_three min_three max_four min_four   -- for this text's walks alone
set_option linter.unusedVariables false
set_option linter.unusedSimpArgs false

/-! ### lex_All: function 19 -/
section
attribute [local go_sem] Oper.semAt_some
open Go.Shelf
abbrev Tk := S24 × Int × Int
def encTk (x : Tk) : Array Value := #[.agg #[.int .u8 x.1.f0, .string x.1.f1, .int .i64 x.1.f2, .int .i64 x.1.f3], .agg #[.int .i64 x.2.2, .int .i64 x.2.1]]
/-- The tokens from a place on; the last one is the End, or what is none. -/
def lex_All.toks : Nat → ByteArray → Int → Option (List Tk)
  | 0, _, _ => none
  | k + 1, s, at_ => (lex_Next.f k s at_).bind fun r =>
      if r.2.2.2.2.2 ≠ 0 ∨ r.1 = 0 then some [(⟨r.1, r.2.1, r.2.2.1, r.2.2.2.1⟩, r.2.2.2.2.1, r.2.2.2.2.2)]
      else (lex_All.toks k s r.2.2.2.2.1).map ((⟨r.1, r.2.1, r.2.2.1, r.2.2.2.1⟩, r.2.2.2.2.1, r.2.2.2.2.2) :: ·)
theorem toks_mono : ∀ k s at_, LeO (lex_All.toks k s at_) (lex_All.toks (k + 1) s at_)
  | 0, _, _ => fun r h => by simp [lex_All.toks] at h
  | k + 1, s, at_ => by
    unfold lex_All.toks
    refine LeO.bind (lex_Next.mono s at_ k) (fun r => ?_)
    refine LeO.ite (LeO.refl _) ?_
    intro x hx
    obtain ⟨l, hl, rfl⟩ := Option.map_eq_some_iff.1 hx
    rw [toks_mono k s _ l hl]
    rfl
/-- One step: the token at hand, and what comes behind it. -/
theorem toks_step {K : Nat} {s : ByteArray} {at_ : Int} {xs : List Tk} (h : lex_All.toks K s at_ = some xs) :
    ∃ k x rest, xs = x :: rest ∧ lex_Next.f k s at_ = some (x.1.f0, x.1.f1, x.1.f2, x.1.f3, x.2.1, x.2.2) ∧
      ((rest = [] ∧ (x.2.2 ≠ 0 ∨ x.1.f0 = 0)) ∨ (x.2.2 = 0 ∧ x.1.f0 ≠ 0 ∧ lex_All.toks K s x.2.1 = some rest)) := by
  cases K with
  | zero => simp [lex_All.toks] at h
  | succ k =>
    unfold lex_All.toks at h
    obtain ⟨r, hr, h⟩ := Option.bind_eq_some_iff.1 h
    by_cases hc : r.2.2.2.2.2 ≠ 0 ∨ r.1 = 0
    · rw [if_pos hc] at h
      obtain rfl := Option.some.inj h
      exact ⟨k, _, [], rfl, hr, .inl ⟨rfl, hc⟩⟩
    · rw [if_neg hc] at h
      obtain ⟨l, hl, rfl⟩ := Option.map_eq_some_iff.1 h
      exact ⟨k, _, l, rfl, hr, .inr ⟨by have := not_or.1 hc; simpa using this.1, (not_or.1 hc).2, toks_mono k s _ l hl⟩⟩
/-- How many tokens are still to come: for the loop's measure. -/
def left_ (K : Nat) (s : ByteArray) (v : Value) : Nat := match lex_All.toks K s (intOf v) with | some l => l.length | none => 0

/-- What a round keeps, beside a row that the caller collects in the variable at block Bl: all cells but the variable's own block and its row's; the row is new, or the one that it was. -/
structure Keeps (Bl : Nat) (W W' : World) : Prop where
  size : W.heap.size ≤ W'.heap.size
  own : ∀ v k, W'.cell? ⟨Bl, 0, none⟩ = some v → v.ownBlock = some k → (W.heap.size ≤ k ∧ k < W'.heap.size) ∨ ∃ u, W.cell? ⟨Bl, 0, none⟩ = some u ∧ u.ownBlock = some k
  keep : ∀ k o, k ≠ Bl → W.heap[k]? = some o → o.isCells = true → (∀ u, W.cell? ⟨Bl, 0, none⟩ = some u → u.ownBlock ≠ some k) → W'.heap[k]? = some o
theorem heap_lt {W : World} {k : Nat} {o : Obj} (h : W.heap[k]? = some o) : k < W.heap.size := (Array.getElem?_eq_some_iff.1 h).1
theorem Keeps.refl (Bl : Nat) (W : World) : Keeps Bl W W := ⟨Nat.le_refl _, fun v _ h e => .inr ⟨v, h, e⟩, fun _ _ _ h _ _ => h⟩
theorem Keeps.trans {Bl : Nat} {A B C : World} (h : Keeps Bl A B) (k : Keeps Bl B C) : Keeps Bl A C := by
  refine ⟨Nat.le_trans h.size k.size, fun v j hv e => ?_, fun j o hj ho hc hf => ?_⟩
  · rcases k.own v j hv e with ⟨a, b⟩ | ⟨u, hu, e2⟩
    · exact .inl ⟨Nat.le_trans h.size a, b⟩
    · rcases h.own u j hu e2 with ⟨a, b⟩ | r
      · exact .inl ⟨a, Nat.lt_of_lt_of_le b k.size⟩
      · exact .inr r
  · refine k.keep j o hj (h.keep j o hj ho hc hf) hc (fun u hu e => ?_)
    rcases h.own u j hu e with ⟨a, _⟩ | ⟨z, hz, e2⟩
    · exact Nat.lt_irrefl _ (Nat.lt_of_lt_of_le (heap_lt ho) a)
    · exact hf z hz e2
theorem Keeps.putObj {Bl : Nat} (W : World) (l : Nat) (o o' : Obj) (hl : Bl < l) (h : W.heap[l]? = some o) (ho : o.isCells = false) : Keeps Bl W (W.putObj l o') := by
  have hb : (W.putObj l o').cell? ⟨Bl, 0, none⟩ = W.cell? ⟨Bl, 0, none⟩ := by
    unfold World.cell?
    rw [World.putObj_heap_other (show Bl ≠ l by omega)]
  refine ⟨by simp [World.putObj], fun v k hv e => .inr ⟨v, by rw [← hb]; exact hv, e⟩, fun k p hk hp hc _ => ?_⟩
  have : k ≠ l := fun e => by subst e; rw [h] at hp; cases hp; rw [ho] at hc; cases hc
  rw [World.putObj_heap_other this]
  exact hp
theorem cell_of_heap {A B : World} {k o : Nat} (h : B.heap[k]? = A.heap[k]?) : B.cell? ⟨k, o, none⟩ = A.cell? ⟨k, o, none⟩ := by simp [World.cell?, h]
/-- What the iterator knows of the caller's row, between two rounds. -/
def RowOk (Bl Bs : Nat) (s : ByteArray) (W : World) : Prop :=
  Bl < W.heap.size ∧ Bs ≠ Bl ∧ W.heap[Bs]? = some (.cells #[.string s] 9 (0, 0)) ∧ ∀ v k, W.cell? ⟨Bl, 0, none⟩ = some v → v.ownBlock = some k → k < W.heap.size ∧ k ≠ Bs
theorem RowOk.grow {Bl Bs : Nat} {s : ByteArray} {W W1 : World} (h : RowOk Bl Bs s W) (hb : Below W.heap.size W W1) : RowOk Bl Bs s W1 := by
  obtain ⟨h1, h2, h3, h4⟩ := h
  refine ⟨Nat.lt_of_lt_of_le h1 hb.size, h2, (hb.block _ (heap_lt h3)).trans h3, fun v k hv e => ?_⟩
  have := h4 v k ((cell_of_heap (hb.block _ h1)).symm.trans hv) e
  exact ⟨Nat.lt_of_lt_of_le this.1 hb.size, this.2⟩
/-- A round that keeps: the row is told on, and a block that was made since the row was known lies as it lay. -/
theorem RowOk.round {Bl Bs : Nat} {s : ByteArray} {W W1 W3 : World} (h : RowOk Bl Bs s W) (hb : Below W.heap.size W W1) (hk : Keeps Bl W1 W3) :
    RowOk Bl Bs s W3 ∧ ∀ t o, W.heap.size ≤ t → W1.heap[t]? = some o → o.isCells = true → W3.heap[t]? = some o := by
  have g := h.grow hb
  have hcell : W1.cell? ⟨Bl, 0, none⟩ = W.cell? ⟨Bl, 0, none⟩ := cell_of_heap (hb.block _ h.1)
  refine ⟨⟨Nat.lt_of_lt_of_le g.1 hk.size, g.2.1, hk.keep _ _ g.2.1 g.2.2.1 rfl (fun u hu e => (g.2.2.2 u _ hu e).2 rfl), fun v k hv e => ?_⟩, fun t o ht ho hc => ?_⟩
  · rcases hk.own v k hv e with ⟨a, b⟩ | ⟨u, hu, e2⟩
    · exact ⟨b, fun e3 => by subst e3; have := heap_lt g.2.2.1; omega⟩
    · have := g.2.2.2 u k hu e2
      exact ⟨Nat.lt_of_lt_of_le this.1 hk.size, this.2⟩
  · refine hk.keep t o (by have := h.1; omega) ho hc (fun u hu e => ?_)
    rw [hcell] at hu
    have := (h.2.2.2 u t hu e).1
    omega

set_option maxRecDepth 100000 in
set_option maxHeartbeats 2000000 in
theorem tok_iter (n : Nat) (hn : 1 ≤ n) (l Bl Bs : Nat) (s : ByteArray) (K : Nat) (xs : List Tk) (hx : lex_All.toks K s 0 = some xs) (J Jx : List Tk → World → Prop)
    (hY : ∀ pre x W, J pre W → pre.length < xs.length → YieldAt Fence.wide (n - 1) Tryd.prog l (encTk x) W fun e W' =>
      (e = .returned (.bool true) ∧ J (pre ++ [x]) W' ∧ Keeps Bl W W') ∨ (e = .returned (.bool false) ∧ Jx (pre ++ [x]) W'))
    (W : World) (hJ : AbidesFrom W.heap.size J) (hr0 : RowOk Bl Bs s W) (h0 : J [] W) :
    CallsIn Fence.wide n Tryd.prog 67 #[.func (.yield l) #[] #[], .pointer (some ⟨Bs, 0, none⟩)] W fun e W' => (∃ v, e = .returned v) ∧
      ((∃ ys, ys = xs ∧ J ys W') ∨ (∃ pre, pre <+: xs ∧ Jx pre W')) := by
  refine callsIn_of_wp Tryd.func67 rfl trivial ?_ rfl
  simp only [Tryd.ntmps67, List.size_toArray, List.length_cons, List.length_nil, Nat.reduceAdd, Nat.reduceSub, Array.replicate_succ, Array.replicate_zero, List.push_toArray, List.append_toArray, List.nil_append, List.cons_append]
  gi_wp2
  gi_loopw [3] (fun p wr => ∃ (pre rest : List Tk) (at_ : Int), p = .int .i64 at_ ∧ Aside0 (xs = pre ++ rest) ∧ Aside0 (lex_All.toks K s at_ = some rest) ∧ Aside0 (J pre wr) ∧ Aside0 (RowOk Bl Bs s wr) ∧ Aside0 (W.heap.size ≤ wr.heap.size))
    (fun p _ => left_ K s p)
  case atStart =>
    exact ⟨[], xs, 0, rfl, ⟨rfl⟩, ⟨hx⟩, ⟨h0⟩, ⟨hr0⟩, ⟨Nat.le_refl _⟩⟩
  case round =>
    obtain ⟨pre, rest, at_, rfl, hxs, ht, hJs, hRO, hle⟩ := hrel
    obtain ⟨k, x, rest', hre, hf, hcase⟩ := toks_step ht.out
    have hcs : wr.cell? ⟨Bs, 0, none⟩ = some (.string s) := by rw [World.cell?, hRO.out.2.2.1]; rfl
    have HF := Aside0.mk hf
    have HC := Aside0.mk hcase
    have HRE := Aside0.mk hre
    clear hf hcase hre
    obtain ⟨⟨f0, f1, f2, f3⟩, nx, er⟩ := x
    gi_wp2_with (refine ⟨trivial, ?_⟩; gi_at_call 15; refine (callsIn_wide.2 (lex_Next.calls k s at_ f0 f1 f2 f3 nx er _ HF.out)).mono ?_; rintro e w2 ⟨rfl, hb2⟩; obtain ⟨fn, tmps, assign, body, hy, hR⟩ := hY pre (⟨f0, f1, f2, f3⟩, nx, er) (w2.alloc (.cells #[.int .u8 f0, .string f1, .int .i64 f2, .int .i64 f3] 24)) (hJ _ _ _ none hJs.out (by have h3 := (hb2.alloc hb2.size (.cells #[.int .u8 f0, .string f1, .int .i64 f2, .int .i64 f3] 24)); exact ⟨h3.os, h3.tape, h3.output, h3.size, fun k hk _ => h3.block k hk⟩) (fun r e => by cases e)) (by rw [hxs.out, HRE.out]; simp); dsimp only [encTk] at hy)
    refine hR.mono ?_
    rintro e W3 (⟨rfl, hJ3, hk3⟩ | ⟨rfl, hJx3⟩)
    · obtain ⟨hRO3, hkeep⟩ := hRO.out.round (hb2.alloc hb2.size (.cells #[.int .u8 f0, .string f1, .int .i64 f2, .int .i64 f3] 24)) hk3
      have ht3 := hkeep w2.heap.size _ hb2.size (heap_alloc_new w2 _) rfl
      have hc3 : W3.cell? ⟨w2.heap.size, 0, none⟩ = some (.int .u8 f0) := by rw [World.cell?, ht3]; rfl
      have hsz : W.heap.size ≤ W3.heap.size := by have h1 := hle.out; have h2 := hb2.size; have h3 := hk3.size; simp at h3; omega
      have HJ := Aside0.mk hJ3
      have HR3 := Aside0.mk hRO3
      have HS3 := Aside0.mk hsz
      clear hJ3 hRO3 hkeep ht3 hsz hk3 hR hy hJs hRO hle
      by_cases her : er = 0
      · subst her
        by_cases hf0 : f0 = 0
        · subst hf0
          have hend : pre ++ [(⟨0, f1, f2, f3⟩, nx, 0)] = xs := by
            rcases HC.out with ⟨hr, _⟩ | ⟨_, h, _⟩
            · rw [hxs.out, HRE.out, hr]
            · exact absurd rfl h
          have HEND := Aside0.mk hend
          clear hend
          gi_wp2
          refine bodyPost_ret (results_none rfl _ _ _) rfl ?_
          exact ⟨⟨_, rfl⟩, .inl ⟨_, HEND.out, HJ.out⟩⟩
        · have hb0 : (f0 == 0) = false := beq_eq_false_iff_ne.mpr hf0
          have hnext : lex_All.toks K s nx = some rest' := by
            rcases HC.out with ⟨_, h⟩ | ⟨_, _, h⟩
            · rcases h with h | h
              · exact absurd rfl h
              · exact absurd h hf0
            · exact h
          have HN := Aside0.mk hnext
          clear hnext hf0
          gi_wp2
          go_roundw
          case rel => exact ⟨pre ++ [(⟨f0, f1, f2, f3⟩, nx, 0)], rest', nx, rfl, ⟨by rw [hxs.out, HRE.out]; simp⟩, HN, HJ, HR3, HS3⟩
          case measure =>
            have e1 : left_ K s (.int .i64 nx) = rest'.length := by unfold left_; simp only [intOf]; rw [HN.out]
            have e2 : left_ K s (.int .i64 at_) = rest.length := by unfold left_; simp only [intOf]; rw [ht.out]
            rw [e1, e2, HRE.out]; simp
      · have hb0 : (er != 0) = true := bne_iff_ne.mpr her
        have hend : pre ++ [(⟨f0, f1, f2, f3⟩, nx, er)] = xs := by
          rcases HC.out with ⟨hr, _⟩ | ⟨h, _⟩
          · rw [hxs.out, HRE.out, hr]
          · exact absurd h her
        have HEND := Aside0.mk hend
        clear hend her
        gi_wp2
        refine bodyPost_ret (results_none rfl _ _ _) rfl ?_
        exact ⟨⟨_, rfl⟩, .inl ⟨_, HEND.out, HJ.out⟩⟩
    · have HJ := Aside0.mk hJx3
      clear hJx3 hR hy hJs hRO hle
      gi_wp2
      refine bodyPost_ret (results_none rfl _ _ _) rfl ?_
      exact ⟨⟨_, rfl⟩, .inr ⟨pre ++ [(⟨f0, f1, f2, f3⟩, nx, er)], ⟨rest', by rw [hxs.out, HRE.out]; simp⟩, HJ.out⟩⟩

theorem tok_stops (n : Nat) (hn : 1 ≤ n) (Bl Bs : Nat) (s : ByteArray) (K : Nat) (xs : List Tk) (hx : lex_All.toks K s 0 = some xs) (w : World) (hr : RowOk Bl Bs s w) :
    SeqStopsK Fence.wide n Tryd.prog 67 #[.pointer (some ⟨Bs, 0, none⟩)] encTk (Keeps Bl) (fun ys => ys = xs) (fun pre => pre <+: xs) xs.length w := fun l J Jx W hW hJ _ hY h0 =>
  tok_iter n hn l Bl Bs s K xs hx J Jx hY W hJ (hr.grow hW) h0

theorem tokens_calls (s : ByteArray) (w : World) :
    Calls Tryd.prog 50 #[.string s] w fun e w' => e = .returned (.func (.func 67) #[] #[.pointer (some ⟨w.heap.size, 0, none⟩)]) ∧ w' = w.alloc (.cells #[.string s] 9) := by
  go_enter Tryd.func50, Tryd.ntmps50
  go_wp2
  go_ret
  exact ⟨rfl, rfl⟩
theorem info_tok_ : (Tryd.prog.info? 24).map (fun i => (i.zero, i.size, i.bytes)) = some (some (.agg #[.int .u8 0, .string ⟨#[]⟩, .int .i64 0, .int .i64 0]), 4, 40) := by kernel_rfl


abbrev tkVal (t : S24) : Value := .agg #[.int .u8 t.f0, .string t.f1, .int .i64 t.f2, .int .i64 t.f3]
/-- Between two rounds. -/
def LI (b : Nat) (w : World) (n0 : Nat) (pre : List Tk) (W : World) : Prop :=
  ∃ v, Boxed W (b + 3) 35 v ∧ Kd.R k24 24 W b (fun _ => True) v (pre.map (·.1)) ∧ Boxed W b 35 (.slice none 0 0) ∧ Boxed W (b + 1) 25 (.int .i64 0) ∧ Boxed W (b + 2) 3 (.int .i64 0) ∧
    Below b w W ∧ n0 ≤ W.heap.size ∧ (∀ x ∈ pre, x.2.2 = 0)
/-- A round has left the function: by the error. -/
def LX (b : Nat) (w : World) (c : Code) (pre : List Tk) (W : World) : Prop :=
  match c with
  | .ret => ∃ p x, pre = p ++ [x] ∧ x.2.2 ≠ 0 ∧ Boxed W b 35 (.slice none 0 0) ∧ Boxed W (b + 1) 25 (.int .i64 x.2.2) ∧ Boxed W (b + 2) 3 (.int .i64 x.2.1) ∧ Below b w W
  | _ => False
/-- A round's own variables. -/
def LA (n0 : Nat) (s : ByteArray) (b : Nat) (x : Tk) (a' : Act) (W : World) : Prop :=
  ∃ B6 B7, n0 ≤ B6 ∧ n0 ≤ B7 ∧ W.heap[B6]? = some (.cells #[.int .u8 x.1.f0, .string x.1.f1, .int .i64 x.1.f2, .int .i64 x.1.f3] 24 (0, 0)) ∧ W.heap[B7]? = some (.cells #[.int .i64 x.2.2, .int .i64 x.2.1] 82 (0, 0)) ∧
    a' = { tmps := #[.string s, undef, .pointer (some ⟨b, 0, none⟩), .pointer (some ⟨b + 1, 0, none⟩), .pointer (some ⟨b + 1 + 1, 0, none⟩), .pointer (some ⟨b + 1 + 1 + 1, 0, none⟩), .pointer (some ⟨B6, 0, none⟩), .pointer (some ⟨B7, 0, none⟩), .string s,
      .func (.func 67) #[] #[.pointer (some ⟨b + 1 + 1 + 1 + 1, 0, none⟩)], tkVal x.1, .agg #[.int .i64 x.2.2, .int .i64 x.2.1], undef, undef, undef, undef, undef, undef, undef, undef, undef, undef, undef, undef], defers := [] }
theorem keepR {W W' : World} {row : Option Nat} {b : Nat} {v : Value} {l : List S24} (h : Kd.R k24 24 W b (fun _ => True) v l) (hg : W.grownBy W' row) (hr : ∀ r, row = some r → ∃ o : Obj, W.heap[r]? = some o ∧ o.isCells = false) : Kd.R k24 24 W' b (fun _ => True) v l :=
  Kd.R_mono (Kd.R_step (Kd.R_bound h) (fun k hk hlt => hg.block k hlt (fun e => by
    obtain ⟨o, ho, hc⟩ := hr k e.symm
    obtain ⟨_, _, _, q, _, cells, hcells⟩ := hk
    rw [hcells] at ho; cases ho; cases hc))) (fun _ _ => trivial)
theorem keepB {W W' : World} {row : Option Nat} {B : Nat} {cs : Array Value} {t : TypeId} (h : W.heap[B]? = some (.cells cs t (0, 0))) (hg : W.grownBy W' row) (hr : ∀ r, row = some r → ∃ o : Obj, W.heap[r]? = some o ∧ o.isCells = false) : W'.heap[B]? = some (.cells cs t (0, 0)) :=
  (hg.block B (heap_lt h) (fun e => by obtain ⟨o, ho, hc⟩ := hr B e.symm; rw [h] at ho; cases ho; cases hc)).trans h
theorem LI_own (b n0 : Nat) (w : World) (hb : b ≤ n0) : OwnFrom n0 (LI b w n0) := by
  rintro pre W W' row ⟨v, h1, h2, h3, h4, h5, h6, h7, h8⟩ hg hr
  have hr' : ∀ r, row = some r → ∃ o : Obj, W.heap[r]? = some o ∧ o.isCells = false := fun r e => (hr r e).2
  exact ⟨v, keepB h1 hg hr', keepR h2 hg hr', keepB h3 hg hr', keepB h4 hg hr', keepB h5 hg hr', h6.grown hg (by omega) (fun k e => by have := (hr k e).1; omega), Nat.le_trans h7 hg.size, h8⟩
theorem LX_own (b n0 : Nat) (w : World) (hb : b ≤ n0) (hs : b ≤ w.heap.size) (c : Code) : OwnFrom n0 (LX b w c) := by
  rintro pre W W' row h hg hr
  have hr' : ∀ r, row = some r → ∃ o : Obj, W.heap[r]? = some o ∧ o.isCells = false := fun r e => (hr r e).2
  unfold LX at h ⊢
  split at h
  · obtain ⟨p, x, e, hx, h3, h4, h5, h6⟩ := h
    exact ⟨p, x, e, hx, keepB h3 hg hr', keepB h4 hg hr', keepB h5 hg hr', h6.grown hg (Nat.le_trans hs h6.size) (fun k e => by have := (hr k e).1; omega)⟩
  · exact h.elim
theorem LA_own (n0 : Nat) (s : ByteArray) (b : Nat) (x : Tk) (a' : Act) : OwnFrom n0 (fun (_ : Unit) W => LA n0 s b x a' W) := by
  rintro _ W W' row ⟨B6, B7, h1, h2, h3, h4, h5⟩ hg hr
  have hr' : ∀ r, row = some r → ∃ o : Obj, W.heap[r]? = some o ∧ o.isCells = false := fun r e => (hr r e).2
  exact ⟨B6, B7, h1, h2, keepB h3 hg hr', keepB h4 hg hr', h5⟩
/-- What a round that has appended keeps. -/
theorem keeps_append {W w1 : World} {b : Nat} {v v' : Value} {tmp : Obj} {k m : Nat} {xs : List Value} (hb : Boxed W b 35 v) (hg : (W.alloc tmp).grownBy w1 v.ownBlock) (hat : v'.ownBlock = v.ownBlock ∨ v'.ownBlock = some (W.alloc tmp).heap.size)
    (hown : w1.ownsRow k 24 4 v' m xs) (hb1 : Boxed w1 b 35 v) : Keeps b W (w1.setCell ⟨b, 0, none⟩ v') := by
  have hc : W.cell? ⟨b, 0, none⟩ = some v := hb.cell
  have hc' : (w1.setCell ⟨b, 0, none⟩ v').cell? ⟨b, 0, none⟩ = some v' := (hb1.set v').cell
  have hsz : (w1.setCell ⟨b, 0, none⟩ v').heap.size = w1.heap.size := by simp [World.setCell]
  have hgs := hg.size
  rw [World.size_alloc] at hgs
  refine ⟨by omega, fun u j hu e => ?_, fun j o hj ho hcl hf => ?_⟩
  · rw [hc'] at hu
    cases hu
    rcases hat with h | h
    · exact .inr ⟨v, hc, by rw [← h]; exact e⟩
    · rw [h, World.size_alloc] at e
      cases e
      exact .inl ⟨by omega, by rw [hsz]; exact own_lt hown _ (by rw [h, World.size_alloc])⟩
  · have hlt := heap_lt ho
    have h1 : (w1.setCell ⟨b, 0, none⟩ v').heap[j]? = w1.heap[j]? := Below.heap_setCell w1 ⟨b, 0, none⟩ v' j hj
    have h2 : w1.heap[j]? = (W.alloc tmp).heap[j]? := hg.block j (by rw [World.size_alloc]; omega) (fun e => hf v hc e.symm)
    have h3 : (W.alloc tmp).heap[j]? = W.heap[j]? := Below.heap_alloc W tmp j hlt
    rw [h1, h2, h3]
    exact ho

theorem ret_boxes {W w : World} {b : Nat} (h0 : Boxed W b 35 (.slice none 0 0)) (h1 : Boxed W (b + 1) 25 (.int .i64 0)) (h2 : Boxed W (b + 2) 3 (.int .i64 0)) (hB : Below b w W) (er nx : Int) :
    KeepsOthers W (((W.setCell ⟨b, 0, none⟩ (.slice none 0 0)).setCell ⟨b + 1, 0, none⟩ (.int .i64 er)).setCell ⟨b + 1 + 1, 0, none⟩ (.int .i64 nx)) ∧
    Boxed (((W.setCell ⟨b, 0, none⟩ (.slice none 0 0)).setCell ⟨b + 1, 0, none⟩ (.int .i64 er)).setCell ⟨b + 1 + 1, 0, none⟩ (.int .i64 nx)) b 35 (.slice none 0 0) ∧
    Boxed (((W.setCell ⟨b, 0, none⟩ (.slice none 0 0)).setCell ⟨b + 1, 0, none⟩ (.int .i64 er)).setCell ⟨b + 1 + 1, 0, none⟩ (.int .i64 nx)) (b + 1) 25 (.int .i64 er) ∧
    Boxed (((W.setCell ⟨b, 0, none⟩ (.slice none 0 0)).setCell ⟨b + 1, 0, none⟩ (.int .i64 er)).setCell ⟨b + 1 + 1, 0, none⟩ (.int .i64 nx)) (b + 2) 3 (.int .i64 nx) ∧
    Below b w (((W.setCell ⟨b, 0, none⟩ (.slice none 0 0)).setCell ⟨b + 1, 0, none⟩ (.int .i64 er)).setCell ⟨b + 1 + 1, 0, none⟩ (.int .i64 nx)) :=
  ⟨((KeepsOthers.setCell _ _ _).trans (KeepsOthers.setCell _ _ _)).trans (KeepsOthers.setCell _ _ _),
   ((h0.set _).other (by omega) _).other (by omega) _, (((h1.other (by omega) _).set _)).other (by omega) _, ((h2.other (by omega) _).other (by omega) _).set _,
   ((hB.setCell (p := ⟨b, 0, none⟩) (Nat.le_refl _) _).setCell (p := ⟨b + 1, 0, none⟩) (by simp) _).setCell (p := ⟨b + 1 + 1, 0, none⟩) (by simp; omega) _⟩
theorem cells_new (W : World) (l : List Value) (t : TypeId) : ∀ j u, l[j]? = some u → (W.alloc (.cells l.toArray t)).cell? (Addr.add ⟨W.heap.size, 0, none⟩ j) = some u := by
  intro j u h
  have hb : (W.alloc (.cells l.toArray t)).heap[W.heap.size]? = some (.cells l.toArray t (0, 0)) := heap_alloc_new W _
  have at_ : ∀ o : Nat, (W.alloc (.cells l.toArray t)).cell? ⟨W.heap.size, o, none⟩ = l[o]? := by
    intro o
    unfold World.cell?
    rw [hb]
    simp
  unfold Addr.add
  split
  · rename_i e; subst e; rw [at_]; exact h
  · rw [at_]; simpa using h
theorem keepR_set {W : World} {B b t : Nat} {v u x : Value} {l : List S24} (h : Kd.R k24 24 W b (fun _ => True) v l) (hB : Boxed W B t u) (ht : t ≠ 24) : Kd.R k24 24 (W.setCell ⟨B, 0, none⟩ x) b (fun _ => True) v l :=
  Kd.R_mono (Kd.R_step (Kd.R_bound h) (fun k hk _ => Below.heap_setCell W ⟨B, 0, none⟩ x k (fun e => by
    obtain ⟨_, _, _, q, hq, cells, hcells⟩ := hk
    have hB' : W.heap[B]? = some (.cells #[u] t (0, 0)) := hB
    have e' : k = B := e
    rw [e', hB'] at hcells
    have : q = t := by injection hcells with h1; injection h1 with _ h2; exact h2.symm
    subst this
    simp [k24, Kd.iso, Kd.pair, Kd.int, Kd.string, Kd.scalar] at hq
    exact ht hq))) (fun _ _ => trivial)
theorem body_append {b n0 : Nat} {w W w1 : World} {v v' : Value} {pre : List Tk} {f0 f2 f3 nx : Int} {f1 : ByteArray} {inner : List Value}
    (hv : Boxed W (b + 3) 35 v) (h0 : Boxed W b 35 (.slice none 0 0)) (h1 : Boxed W (b + 1) 25 (.int .i64 0)) (h2 : Boxed W (b + 2) 3 (.int .i64 0)) (hB : Below b w W) (hn0 : n0 ≤ W.heap.size) (hall : ∀ x ∈ pre, x.2.2 = 0)
    (ho : (W.alloc (.cells #[.int .u8 f0, .string f1, .int .i64 f2, .int .i64 f3] 24)).ownsRow b 24 4 v pre.length inner)
    (hp : Reps (k24.M (W.alloc (.cells #[.int .u8 f0, .string f1, .int .i64 f2, .int .i64 f3] 24)) b (fun k => True ∧ some k ≠ v.ownBlock)) k24.sz (pre.map (·.1)) inner)
    (hw : w1.ownsRow b 24 4 v' (pre.length + 1) (inner ++ [.int .u8 f0, .string f1, .int .i64 f2, .int .i64 f3])) (hg : (W.alloc (.cells #[.int .u8 f0, .string f1, .int .i64 f2, .int .i64 f3] 24)).grownBy w1 v.ownBlock)
    (hat : v'.ownBlock = v.ownBlock ∨ v'.ownBlock = some (W.alloc (.cells #[.int .u8 f0, .string f1, .int .i64 f2, .int .i64 f3] 24)).heap.size) :
    KeepsFrom n0 W (w1.setCell ⟨b + 3, 0, none⟩ v') ∧ Keeps (b + 3) W (w1.setCell ⟨b + 3, 0, none⟩ v') ∧ LI b w n0 (pre ++ [(⟨f0, f1, f2, f3⟩, nx, 0)]) (w1.setCell ⟨b + 3, 0, none⟩ v') := by
  have hbs : b ≤ W.heap.size := by have := h0.lt; omega
  have nr : ∀ {B : Nat} {t : TypeId} {u : Value}, Boxed W B t u → t ≠ 24 → B ≠ b + 3 → Boxed (w1.setCell ⟨b + 3, 0, none⟩ v') B t u := fun hx ht hne => ((hx.alloc _).kept hg (Boxed.not_row (hx.alloc _) ht ho)).other hne _
  have hv1 : Boxed w1 (b + 3) 35 v := (hv.alloc _).kept hg (Boxed.not_row (hv.alloc _) (by decide) ho)
  have hR : Kd.R k24 24 w1 b (fun _ => True) v' (pre.map (·.1) ++ [⟨f0, f1, f2, f3⟩]) :=
    Kd.R_appended (okp := fun _ => False) (fun _ _ => trivial) hp (k24_mkM _ _ _ ⟨f0, f1, f2, f3⟩) (fun _ h => h.elim) (fun _ _ => trivial) (by rw [List.length_map]; exact hw) hg (hat.imp id (fun h => ⟨_, h, Nat.le_refl _⟩))
  have hgs : W.heap.size ≤ w1.heap.size := by have := hg.size; rw [World.size_alloc] at this; omega
  have hb1 : Below b W w1 := ((Below.refl b W).alloc hbs _).grown hg (by rw [World.size_alloc]; omega) (fun k e => by
    rcases ho.2 with ⟨rfl, _⟩ | ⟨g, cap, cur, rfl, hbg, _⟩
    · simp [Value.ownBlock] at e
    · simp [Value.ownBlock] at e; omega)
  refine ⟨((((KeepsOthers.alloc _ _).trans (KeepsOthers.of_grownBy hg ?_)).trans (KeepsOthers.setCell _ _ _)).from _), keeps_append hv hg hat hw hv1, v', hv1.set v', ?_, nr h0 (by decide) (by omega), nr h1 (by decide) (by omega), nr h2 (by decide) (by omega), (hB.trans hb1).setCell (p := ⟨b + 3, 0, none⟩) (by simp) _, ?_, ?_⟩
  · intro k o hk e
    rcases ho.2 with ⟨rfl, _⟩ | ⟨g, cap, cur, rfl, hbg, hh, _⟩
    · simp [Value.ownBlock] at hk
    · have : g = k := by simpa [Value.ownBlock] using hk
      subst this
      rw [hh] at e; cases e; rfl
  · have := keepR_set (x := v') hR hv1 (by decide)
    simpa using this
  · have : (w1.setCell ⟨b + 3, 0, none⟩ v').heap.size = w1.heap.size := by simp [World.setCell]
    omega
  · intro x hx
    rcases List.mem_append.1 hx with h | h
    · exact hall x h
    · simp at h; subst h; rfl
theorem done_boxes {W w : World} {b : Nat} {u v : Value} {l : List S24} (hR : Kd.R k24 24 W b (fun _ => True) v l) (h0 : Boxed W b 35 u) (h1 : Boxed W (b + 1) 25 (.int .i64 0)) (h2 : Boxed W (b + 2) 3 (.int .i64 0)) (hB : Below b w W) (x : Value) :
    KeepsOthers W (((W.setCell ⟨b, 0, none⟩ x).setCell ⟨b + 1, 0, none⟩ (.int .i64 0)).setCell ⟨b + 1 + 1, 0, none⟩ (.int .i64 0)) ∧
    Boxed (((W.setCell ⟨b, 0, none⟩ x).setCell ⟨b + 1, 0, none⟩ (.int .i64 0)).setCell ⟨b + 1 + 1, 0, none⟩ (.int .i64 0)) b 35 x ∧
    Boxed (((W.setCell ⟨b, 0, none⟩ x).setCell ⟨b + 1, 0, none⟩ (.int .i64 0)).setCell ⟨b + 1 + 1, 0, none⟩ (.int .i64 0)) (b + 1) 25 (.int .i64 0) ∧
    Boxed (((W.setCell ⟨b, 0, none⟩ x).setCell ⟨b + 1, 0, none⟩ (.int .i64 0)).setCell ⟨b + 1 + 1, 0, none⟩ (.int .i64 0)) (b + 2) 3 (.int .i64 0) ∧
    Below b w (((W.setCell ⟨b, 0, none⟩ x).setCell ⟨b + 1, 0, none⟩ (.int .i64 0)).setCell ⟨b + 1 + 1, 0, none⟩ (.int .i64 0)) ∧
    Kd.R k24 24 (((W.setCell ⟨b, 0, none⟩ x).setCell ⟨b + 1, 0, none⟩ (.int .i64 0)).setCell ⟨b + 1 + 1, 0, none⟩ (.int .i64 0)) b (fun _ => True) v l :=
  ⟨((KeepsOthers.setCell _ _ _).trans (KeepsOthers.setCell _ _ _)).trans (KeepsOthers.setCell _ _ _),
   ((h0.set _).other (by omega) _).other (by omega) _, (((h1.other (by omega) _).set _)).other (by omega) _, ((h2.other (by omega) _).other (by omega) _).set _,
   ((hB.setCell (p := ⟨b, 0, none⟩) (Nat.le_refl _) _).setCell (p := ⟨b + 1, 0, none⟩) (by simp) _).setCell (p := ⟨b + 1 + 1, 0, none⟩) (by simp; omega) _,
   keepR_set (keepR_set (keepR_set hR h0 (by decide)) (h1.other (by omega) _) (by decide)) ((h2.other (by omega) _).other (by omega) _) (by decide)⟩
/-- The end: the results' variables are read when the rounds' deferred calls are taken. -/
theorem lex_All_end {W : World} {b : Nat} {tmps : Array Value} {x : Value} {r2 r3 : Int} (h2 : tmps[2]? = some (.pointer (some ⟨b, 0, none⟩))) (h3 : tmps[3]? = some (.pointer (some ⟨b + 1, 0, none⟩))) (h4 : tmps[4]? = some (.pointer (some ⟨b + 1 + 1, 0, none⟩)))
    (hb0 : Boxed W b 35 x) (hb1 : Boxed W (b + 1) 25 (.int .i64 r2)) (hb2 : Boxed W (b + 2) 3 (.int .i64 r3)) :
    (results Tryd.f19 tmps).run Tryd.prog W = .ok (.tuple #[x, .int .i64 r2, .int .i64 r3]) W := by
  have r0 := hb0.cell
  have r1 : W.cell? ⟨b + 1, 0, none⟩ = some (.int .i64 r2) := hb1.cell
  have r2 : W.cell? ⟨b + 1 + 1, 0, none⟩ = some (.int .i64 r3) := hb2.cell
  simp [results, Tryd.results19, go_sem, h2, h3, h4, r0, r1, r2, Array.getD_eq_getD_getElem?]
theorem keeps_grow {b : Nat} {W W' : World} (hb : b < W.heap.size) (h : Below W.heap.size W W') : Keeps b W W' := by
  refine ⟨h.size, fun v k hv e => .inr ⟨v, (cell_of_heap (h.block _ hb)).symm.trans hv, e⟩, fun k o _ ho _ _ => (h.block k (heap_lt ho)).trans ho⟩
set_option maxRecDepth 100000 in
set_option maxHeartbeats 2000000 in
theorem lex_All_in (s : ByteArray) (K : Nat) (xs : List Tk) (hx : lex_All.toks K s 0 = some xs) (hlen : xs.length < 3518437208883) (w : World) :
    Calls Tryd.prog 19 #[.string s] w fun e w' => ∃ v0_ : Value, ∃ r1 r2 r3, e = .returned (.tuple #[v0_, .int .i64 r2, .int .i64 r3]) ∧ Kd.R k24 24 w' w.heap.size (fun _ => True) v0_ r1 ∧ Below w.heap.size w w' ∧
      (((∀ x ∈ xs, x.2.2 = 0) ∧ r1 = xs.map (·.1) ∧ r2 = 0 ∧ r3 = 0) ∨ ∃ pre x, pre ++ [x] <+: xs ∧ x.2.2 ≠ 0 ∧ r1 = [] ∧ r2 = x.2.2 ∧ r3 = x.2.1) := by
  rw [← callsIn_wide (n := 5)]
  obtain ⟨i0, hi, hz0, hz1, hz2⟩ := info_parts info_tok_
  refine callsIn_of_wp_marks Tryd.func19 rfl trivial ?_ rfl
  simp only [Tryd.ntmps19, List.size_toArray, List.length_cons, List.length_nil, Nat.reduceAdd, Nat.reduceSub, Array.replicate_succ, Array.replicate_zero, List.push_toArray, List.append_toArray, List.nil_append, List.cons_append]
  gi_wp2_with (refine ⟨trivial, ?_⟩; gi_at_call 50; refine (callsIn_wide.2 (tokens_calls s _)).mono ?_; rintro e w' ⟨rfl, rfl⟩)
  obtain ⟨b, hb⟩ : ∃ b, w.heap.size = b := ⟨_, rfl⟩
  simp only [hb]
  obtain ⟨W0, hW0⟩ : ∃ W0, (((((w.alloc (Obj.cells #[Value.slice none 0 0] 35)).alloc (Obj.cells #[Value.int IntKind.i64 0] 25)).alloc (Obj.cells #[Value.int IntKind.i64 0] 3)).alloc (Obj.cells #[Value.slice none 0 0] 35)).alloc (Obj.cells #[Value.string s] 9)) = W0 := ⟨_, rfl⟩
  have b0 : Boxed W0 b 35 (.slice none 0 0) := by rw [← hW0, ← hb]; exact ((((Boxed.new w 35 _).alloc _).alloc _).alloc _).alloc _
  have b1 : Boxed W0 (b + 1) 25 (.int .i64 0) := by
    rw [← hW0, ← hb]; have h := Boxed.new (w.alloc (Obj.cells #[Value.slice none 0 0] 35)) 25 (.int .i64 0); rw [World.size_alloc] at h; exact ((h.alloc _).alloc _).alloc _
  have b2 : Boxed W0 (b + 2) 3 (.int .i64 0) := by
    rw [← hW0, ← hb]; have h := Boxed.new ((w.alloc (Obj.cells #[Value.slice none 0 0] 35)).alloc (Obj.cells #[Value.int IntKind.i64 0] 25)) 3 (.int .i64 0); simp only [World.size_alloc] at h; exact (h.alloc _).alloc _
  have b3 : Boxed W0 (b + 3) 35 (.slice none 0 0) := by
    rw [← hW0, ← hb]; have h := Boxed.new (((w.alloc (Obj.cells #[Value.slice none 0 0] 35)).alloc (Obj.cells #[Value.int IntKind.i64 0] 25)).alloc (Obj.cells #[Value.int IntKind.i64 0] 3)) 35 (.slice none 0 0); simp only [World.size_alloc] at h; exact h.alloc _
  have b4 : Boxed W0 (b + 4) 9 (.string s) := by
    rw [← hW0, ← hb]; have h := Boxed.new ((((w.alloc (Obj.cells #[Value.slice none 0 0] 35)).alloc (Obj.cells #[Value.int IntKind.i64 0] 25)).alloc (Obj.cells #[Value.int IntKind.i64 0] 3)).alloc (Obj.cells #[Value.slice none 0 0] 35)) 9 (.string s); simp only [World.size_alloc] at h; exact h
  have hB0 : Below b w W0 := by
    rw [← hW0, ← hb]; exact ((((below_alloc (Below.refl _ w) _).alloc (by simp) _).alloc (by simp; omega) _).alloc (by simp; omega) _).alloc (by simp; omega) _
  have hsz : W0.heap.size = b + 5 := by rw [← hW0, ← hb]; simp [World.size_alloc]
  rw [hW0]
  have hge : b + 5 ≤ W0.heap.size := by omega
  have hgw : b ≤ w.heap.size := by omega
  have HBQ := Aside0.mk hb
  clear hW0 hsz hb
  have hRO : RowOk (b + 3) (b + 4) s W0 := ⟨by omega, by omega, b4, fun v k hv e => by rw [b3.cell] at hv; cases hv; simp [Value.ownBlock] at e⟩
  refine wpIn_rangeFunc_ownH rfl (by omega) (gf := 67) (lb := #[.pointer (some ⟨b + 1 + 1 + 1 + 1, 0, none⟩)]) rfl trivial (enters_of Tryd.func67 (by kernel_rfl) rfl)
    (tok_stops (5 - 1) (by omega) (b + 3) (b + 4) s K xs hx W0 hRO) (fun h k => h.trans k) (fun W l o o' hl h ho _ => Keeps.putObj W l o o' (by omega) h ho) (Below.refl _ _) (fun _ => rfl)
    (LI b w W0.heap.size) (LX b w) (LI_own b _ w (by omega)) (LX_own b _ w (by omega) (by omega)) ⟨_, b3, Kd.R_nil _ _ _ _ _, b0, b1, b2, hB0, Nat.le_refl _, fun x hx => by cases hx⟩
    (LA W0.heap.size s b) (LA_own _ s b) ?assign ?body ?done ?stop
  case assign =>
    rintro l pre x W K hI hK
    dsimp only [encTk]
    gi_wp2
    refine hK _ _ (((KeepsOthers.alloc _ _).trans (KeepsOthers.alloc _ _)).from _) (keeps_grow (by obtain ⟨v, h1, _⟩ := hI; exact h1.lt) ((below_alloc (Below.refl _ W) _).alloc (by simp) _)) (LI_own b _ w (by omega) _ _ _ none (LI_own b _ w (by omega) _ _ _ none hI (World.grownBy_alloc _ _ none) (fun r e => by cases e)) (World.grownBy_alloc _ _ none) (fun r e => by cases e)) ⟨W.heap.size, W.heap.size + 1, ?_, ?_, ?_, ?_, ?_⟩
    · obtain ⟨v, _, _, _, _, _, _, h, _⟩ := hI; exact h
    · obtain ⟨v, _, _, _, _, _, _, h, _⟩ := hI; omega
    · exact (Below.heap_alloc _ _ _ (by simp)).trans (heap_alloc_new W _)
    · have h := heap_alloc_new (W.alloc (.cells #[Value.int IntKind.u8 x.fst.f0, Value.string x.fst.f1, Value.int IntKind.i64 x.fst.f2, Value.int IntKind.i64 x.fst.f3] 24)) (.cells #[Value.int IntKind.i64 x.snd.snd, Value.int IntKind.i64 x.snd.fst] 82)
      rwa [World.size_alloc] at h
    · rfl
  case body =>
    rintro l pre x a' W hl ⟨r, hr⟩ ⟨v, hv, hR, hb0, hb1, hb2, hB, hle, hall⟩ ⟨B6, B7, h6, h7, c6, c7, rfl⟩ hlt
    obtain ⟨⟨f0, f1, f2, f3⟩, nx, er⟩ := x
    dsimp only at c6 c7
    have e0 : W.cell? ⟨B7, 0, none⟩ = some (.int .i64 er) := by simp [World.cell?, c7]
    have e1 : W.cell? ⟨B7, 1, none⟩ = some (.int .i64 nx) := by simp [World.cell?, c7]
    have HV := Aside0.mk hv
    have HR := Aside0.mk hR
    have H0 := Aside0.mk hb0
    have H1 := Aside0.mk hb1
    have H2 := Aside0.mk hb2
    have HB := Aside0.mk hB
    have HA := Aside0.mk hall
    have C6 := Aside0.mk c6
    clear hb0 hb1 hb2 hB hall hr c7 c6 hR hv
    by_cases her : er = 0
    · subst her
      have c60 : W.cell? ⟨B6, 0, none⟩ = some (.int .u8 f0) := by simp [World.cell?, C6.out]
      have c61 : W.cell? ⟨B6, 1, none⟩ = some (.string f1) := by simp [World.cell?, C6.out]
      have c62 : W.cell? ⟨B6, 2, none⟩ = some (.int .i64 f2) := by simp [World.cell?, C6.out]
      have c63 : W.cell? ⟨B6, 3, none⟩ = some (.int .i64 f3) := by simp [World.cell?, C6.out]
      have hc : W.cell? ⟨b + 1 + 1 + 1, 0, none⟩ = some v := HV.out.cell
      obtain ⟨T, hT⟩ : ∃ T : Obj, Obj.cells #[Value.int IntKind.u8 f0, Value.string f1, Value.int IntKind.i64 f2, Value.int IntKind.i64 f3] 24 = T := ⟨_, rfl⟩
      have hR1 : Kd.R k24 24 (W.alloc T) b (fun _ => True) v (pre.map (·.1)) := keepR HR.out (World.grownBy_alloc W T none) (fun r e => by cases e)
      obtain ⟨hk0, inner, hown, hreps⟩ := hR1
      have hown' : (W.alloc T).ownsRow b 24 4 v pre.length inner := by have h := hown; rw [List.length_map] at h; exact h
      have hle' : b ≤ W.heap.size := by omega
      have hl2 : pre.length + 1 ≤ maxLen := by unfold maxLen; omega
      have hl3 : (pre.length + 1) * 40 ≤ 140737488355328 := by omega
      have HO := Aside0.mk hown'
      have HP := Aside0.mk hreps
      subst hT
      clear hown hreps hk0 hown'
      gi_wp2_with (gi_at_builtin; refine wpListIn_append_own_at _ rfl _ _ 35 rfl b 24 i0 (.agg #[.int .u8 0, .string ⟨#[]⟩, .int .i64 0, .int .i64 0]) 4 40 Tryd.underlying35 hi hz0 hz1 hz2 rfl (by decide) _ _ _ rfl HO.out ⟨W.heap.size, 0, none⟩ 1 1 [.int .u8 f0, .string f1, .int .i64 f2, .int .i64 f3] rfl rfl (cells_new W _ 24) (by simp [Value.oneCell']) hl2 hl3 (by simp; omega) ?_; intro v' w1 hown2 hgrow _ hat; obtain ⟨g', cap', rfl⟩ := ownsRow_succ hown2; have HG := Aside0.mk hgrow; have HT := Aside0.mk hat; have HW := Aside0.mk hown2; have hv1 : Boxed w1 (b + 1 + 1 + 1) 35 v := (HV.out.alloc _).kept hgrow (Boxed.not_row (HV.out.alloc _) (by decide) HO.out); have HV1 := Aside0.mk hv1; have hc1 := hv1.cell; have hf1 := hv1.frozen; clear hown2 hgrow hat hv1)
      exact body_append HV.out H0.out H1.out H2.out HB.out hle HA.out HO.out HP.out HW.out HG.out HT.out
    · have hne : (er != 0) = true := bne_iff_ne.mpr her
      have r0 := H0.out.cell
      have r1 : W.cell? ⟨b + 1, 0, none⟩ = some (.int .i64 0) := H1.out.cell
      have r2 : W.cell? ⟨b + 1 + 1, 0, none⟩ = some (.int .i64 0) := H2.out.cell
      have q0 := H0.out.frozen
      have q1 : W.frozen? ⟨b + 1, 0, none⟩ = false := H1.out.frozen
      have q2 : W.frozen? ⟨b + 1 + 1, 0, none⟩ = false := H2.out.frozen
      have n1 : B7 ≠ b := by omega
      have n2 : B7 ≠ b + 1 := by omega
      have n3 : B7 ≠ b + 1 + 1 := by omega
      gi_wp2
      gi_region
      all_goals gi_wp2
      all_goals
        obtain ⟨k1, k2, k3, k4, k5⟩ := ret_boxes H0.out H1.out H2.out HB.out er nx
        exact ⟨(k1.trans (KeepsOthers.drew _)).from _, pre, _, rfl, her, k2, k3, k4, k5.drew⟩
  case done =>
    rintro D ys W hD rfl ⟨v, hv, hR, hb0, hb1, hb2, hB, hle, hall⟩ hK
    obtain ⟨A, c, rfl⟩ := Kd.R_slice hR
    have r0 := hb0.cell
    have r1 : W.cell? ⟨b + 1, 0, none⟩ = some (.int .i64 0) := hb1.cell
    have r2 : W.cell? ⟨b + 1 + 1, 0, none⟩ = some (.int .i64 0) := hb2.cell
    have r3 : W.cell? ⟨b + 1 + 1 + 1, 0, none⟩ = some _ := hv.cell
    have q0 := hb0.frozen
    have q1 : W.frozen? ⟨b + 1, 0, none⟩ = false := hb1.frozen
    have q2 : W.frozen? ⟨b + 1 + 1, 0, none⟩ = false := hb2.frozen
    have HV := Aside0.mk hv
    have HR := Aside0.mk hR
    have H0 := Aside0.mk hb0
    have H1 := Aside0.mk hb1
    have H2 := Aside0.mk hb2
    have HB := Aside0.mk hB
    have HA := Aside0.mk hall
    have HK := Aside0.mk hK
    clear hb0 hb1 hb2 hB hall hR hv hK
    gi_wp2
    obtain ⟨k1, k2, k3, k4, k5, k6⟩ := done_boxes HR.out H0.out H1.out H2.out HB.out (.slice A ys.length c)
    have hK' := k1.same D _ HK.out rfl
    have hDb : b ≤ D := by omega
    have hg := fun r (e : some D = some r) => (⟨.deferred (some []), by cases e; exact hK', rfl⟩ : ∃ o : Obj, (((W.setCell ⟨b, 0, none⟩ (.slice A ys.length c)).setCell ⟨b + 1, 0, none⟩ (.int .i64 0)).setCell ⟨b + 1 + 1, 0, none⟩ (.int .i64 0)).heap[r]? = some o ∧ o.isCells = false)
    refine ⟨by simp, .inl ⟨_, _, rfl, run_takeDeferred hK', ?_⟩⟩
    refine ⟨_, lex_All_end rfl rfl rfl (keepB k2 (grownBy_putObj' _ D _) hg) (keepB k3 (grownBy_putObj' _ D _) hg) (keepB k4 (grownBy_putObj' _ D _) hg), _, _, _, _, rfl, ?_, ?_, .inl ⟨HA.out, rfl, rfl, rfl⟩⟩
    · rw [HBQ.out]; rw [List.length_map] at k6; exact keepR k6 (grownBy_putObj' _ D _) hg
    · rw [HBQ.out]; exact k5.grown (grownBy_putObj' _ D _) (Nat.le_trans hgw k5.size) (fun k e => by cases e; exact hDb)
  case stop =>
    rintro D c pre W hD hp hX hK
    unfold LX at hX
    split at hX
    · obtain ⟨p, x, rfl, hx, h0, h1, h2, hB⟩ := hX
      have H0 := Aside0.mk h0
      have H1 := Aside0.mk h1
      have H2 := Aside0.mk h2
      have HB := Aside0.mk hB
      have HK := Aside0.mk hK
      clear h0 h1 h2 hB hK
      gi_wp2
      have hDb : b ≤ D := by omega
      have hg := fun r (e : some D = some r) => (⟨.deferred (some []), by cases e; exact HK.out, rfl⟩ : ∃ o : Obj, W.heap[r]? = some o ∧ o.isCells = false)
      refine ⟨by simp, .inl ⟨_, _, rfl, run_takeDeferred HK.out, ?_⟩⟩
      refine ⟨_, lex_All_end rfl rfl rfl (keepB H0.out (grownBy_putObj' _ D _) hg) (keepB H1.out (grownBy_putObj' _ D _) hg) (keepB H2.out (grownBy_putObj' _ D _) hg), _, [], _, _, rfl, Kd.R_nil _ _ _ _ _, ?_, .inr ⟨p, x, hp, hx, rfl, rfl, rfl⟩⟩
      rw [HBQ.out]; exact HB.out.grown (grownBy_putObj' _ D _) (Nat.le_trans hgw HB.out.size) (fun k e => by cases e; exact hDb)
    · exact hX.elim
/-- The tokens end in one that is the End, or none; those ahead are neither. -/
theorem toks_shape : ∀ (n : Nat) {K : Nat} {s : ByteArray} {at_ : Int} {xs : List Tk}, xs.length = n → lex_All.toks K s at_ = some xs → ∃ pre x, xs = pre ++ [x] ∧ (∀ y ∈ pre, y.2.2 = 0 ∧ y.1.f0 ≠ 0) ∧ (x.2.2 ≠ 0 ∨ x.1.f0 = 0)
  | n, K, s, at_, xs, hn, h => by
    obtain ⟨k, x, rest, rfl, hf, hc⟩ := toks_step h
    rcases hc with ⟨rfl, hx⟩ | ⟨h1, h2, h3⟩
    · exact ⟨[], x, rfl, fun y hy => (by cases hy), hx⟩
    · obtain ⟨pre, y, e, hp, hy⟩ := toks_shape (n - 1) (by simp at hn; omega) h3
      refine ⟨x :: pre, y, by rw [e]; rfl, fun z hz => ?_, hy⟩
      rcases List.mem_cons.1 hz with rfl | hz
      · exact ⟨h1, h2⟩
      · exact hp z hz
termination_by n => n
decreasing_by simp at hn; omega

/-- What All hands back, out of the tokens. -/
def lex_All.out (xs : List Tk) : Option (List S24 × Int × Int) :=
  if xs.length < 3518437208883 then (xs.getLast?).bind fun x => if x.2.2 = 0 then some (xs.map (·.1), 0, 0) else some ([], x.2.2, x.2.1) else none
def lex_All.f (k : Nat) (a0 : ByteArray) : Option (List S24 × Int × Int) := (lex_All.toks k a0 0).bind lex_All.out
theorem lex_All.mono : ∀ a0 k, LeO (lex_All.f k a0) (lex_All.f (k + 1) a0) := fun a0 k => LeO.bind (toks_mono k a0 0) (fun _ => LeO.refl _)
theorem lex_All.calls (k : Nat) (a0 : ByteArray) (r1 : List S24) (r2 : Int) (r3 : Int) (w : World) (h : lex_All.f k a0 = some (r1, r2, r3)) :
    Calls Tryd.prog 19 #[.string a0] w fun e w' => ∃ v0_ : Value, e = .returned (.tuple #[v0_, .int .i64 r2, .int .i64 r3]) ∧ Kd.R k24 24 w' w.heap.size (fun _ => True) v0_ r1 ∧ Below w.heap.size w w' := by
  obtain ⟨xs, hx, ho⟩ := Option.bind_eq_some_iff.1 h
  unfold lex_All.out at ho
  split at ho
  · rename_i hlen
    obtain ⟨pre, x, rfl, hp, hxx⟩ := toks_shape _ rfl hx
    rw [List.getLast?_concat, Option.bind_some] at ho
    refine (lex_All_in a0 k _ hx hlen w).mono ?_
    rintro e w' ⟨v0, q1, q2, q3, rfl, hR, hB, hq⟩
    have : q1 = r1 ∧ q2 = r2 ∧ q3 = r3 := by
      by_cases h0 : x.2.2 = 0
      · rw [if_pos h0] at ho
        simp only [Option.some.injEq, Prod.mk.injEq] at ho
        rcases hq with ⟨_, e1, e2, e3⟩ | ⟨p, y, hpre, hy, _⟩
        · exact ⟨e1.trans ho.1, e2.trans ho.2.1, e3.trans ho.2.2⟩
        · have hm : y ∈ pre ++ [x] := hpre.subset (by simp)
          rcases List.mem_append.1 hm with hm | hm
          · exact absurd (hp y hm).1 hy
          · simp at hm; subst hm; exact absurd h0 hy
      · rw [if_neg h0] at ho
        simp only [Option.some.injEq, Prod.mk.injEq] at ho
        rcases hq with ⟨hall, _⟩ | ⟨p, y, hpre, hy, e1, e2, e3⟩
        · exact absurd (hall x (by simp)) h0
        · have hm : y ∈ pre ++ [x] := hpre.subset (by simp)
          rcases List.mem_append.1 hm with hm | hm
          · exact absurd (hp y hm).1 hy
          · simp at hm; subst hm; exact ⟨e1.trans ho.1, e2.trans ho.2.1, e3.trans ho.2.2⟩
    obtain ⟨rfl, rfl, rfl⟩ := this
    exact ⟨v0, rfl, hR, hB⟩
  · cases ho
end

/-! ### lex_IsName: function 25 -/
def keptL : List ByteArray := tab_gnomon_lex_kept.map fun v => match v with | .string s => s | _ => ByteArray.empty
def lex_IsName.f (k : Nat) (a0 : ByteArray) : Option Bool :=
  if a0.size = 0 then some false else if a0.size > 16 then some false else
    (lex_of.f k (bt a0 0)).bind fun c => if c = 2 then (lex_word.f k a0).bind fun n => if n = (a0.size : Int) then some (!(Lib.containsS keptL a0)) else some false else some false
theorem lex_IsName.mono : ∀ a0 k, LeO (lex_IsName.f k a0) (lex_IsName.f (k + 1) a0) := by
  intro a0 k
  unfold lex_IsName.f
  refine LeO.ite (LeO.refl _) (LeO.ite (LeO.refl _) (LeO.bind (lex_of.mono _ _) (fun c => LeO.ite (LeO.bind (lex_word.mono _ _) (fun n => LeO.refl _)) (LeO.refl _))))
theorem kept_cells {w : World} (hG : Glob w) : ∀ j, j < keptL.length → w.cell? ⟨0, 0 + j, none⟩ = some (.string (keptL.getD j ByteArray.empty)) := by
  intro j hj
  have h := hG.g_tab_gnomon_lex_kept j hj
  rw [Nat.zero_add, h]
  have hj' : j < 16 := hj
  have : j = 0 ∨ j = 1 ∨ j = 2 ∨ j = 3 ∨ j = 4 ∨ j = 5 ∨ j = 6 ∨ j = 7 ∨ j = 8 ∨ j = 9 ∨ j = 10 ∨ j = 11 ∨ j = 12 ∨ j = 13 ∨ j = 14 ∨ j = 15 := by omega
  rcases this with rfl | rfl | rfl | rfl | rfl | rfl | rfl | rfl | rfl | rfl | rfl | rfl | rfl | rfl | rfl | rfl <;> rfl
set_option maxHeartbeats 1000000 in
theorem lex_IsName.calls (k : Nat) (a0 : ByteArray) (r : Bool) (w : World) (hG : Glob w) (h : lex_IsName.f k a0 = some r) :
    Calls Tryd.prog 25 #[.string a0] w fun e w' => e = .returned (.bool r) ∧ Drawn0 w w' := by
  unfold lex_IsName.f at h
  have HG := Aside0.mk hG
  clear hG
  by_cases h0 : a0.size = 0
  · rw [if_pos h0] at h
    obtain rfl := Option.some.inj h
    obtain rfl : a0 = ⟨#[]⟩ := by
      obtain ⟨⟨l⟩⟩ := a0
      have : l.length = 0 := h0
      rw [List.eq_nil_of_length_eq_zero this]
    clear h h0
    go_enter Tryd.func25, Tryd.ntmps25
    go_wp2
    go_ret
    exact ⟨rfl, Drawn0.refl _⟩
  · rw [if_neg h0] at h
    have e1 : (a0.toList == ([] : List UInt8)) = false := by
      rw [beq_eq_false_iff_ne]; intro e
      have : a0.toList.length = 0 := by rw [e]; rfl
      rw [Lib.toList_data, data_length] at this; exact h0 this
    have e2 : (a0.toList != ([] : List UInt8)) = true := by rw [bne, e1]; rfl
    have e3 : a0.toList.isEmpty = false := by cases hl : a0.toList with
      | nil => rw [hl] at e1; simp at e1
      | cons _ _ => rfl
    by_cases h1 : a0.size > 16
    · rw [if_pos h1] at h
      obtain rfl := Option.some.inj h
      have d1 : decide ((a0.size : Int) ≤ 16) = false := decide_eq_false (by omega)
      have d2 : decide (a0.size ≤ 16) = false := decide_eq_false (by omega)
      clear h h0 h1
      go_enter Tryd.func25, Tryd.ntmps25
      go_wp2
      go_ret
      exact ⟨rfl, Drawn0.refl _⟩
    · rw [if_neg h1] at h
      have d1 : decide ((a0.size : Int) ≤ 16) = true := decide_eq_true (by omega)
      have d2 : decide (a0.size ≤ 16) = true := decide_eq_true (by omega)
      have p0 : 0 < a0.size := by omega
      have hb : ((a0[0]'p0).toNat : Int) = bt a0 0 := bt_at a0 0 p0
      have hb' : ∀ h : 0 < a0.size, ((a0[0]'h).toNat : Int) = bt a0 0 := bt_at a0 0
      obtain ⟨c, hc, h⟩ := Option.bind_eq_some_iff.1 h
      have HC := Aside0.mk hc
      have HP := Aside0.mk p0
      clear hc h1 h0 hb
      by_cases h2 : c = 2
      · subst h2
        rw [if_pos rfl] at h
        obtain ⟨n, hn, h⟩ := Option.bind_eq_some_iff.1 h
        have HN := Aside0.mk hn
        clear hn
        by_cases h3 : n = (a0.size : Int)
        · rw [if_pos h3] at h
          obtain rfl := Option.some.inj h
          subst h3
          clear h
          go_enter Tryd.func25, Tryd.ntmps25
          go_wp2_with (first | (go_at_call 42; (with_reducible refine (lex_of.calls k (bt a0 0) 2 _ HC.out).mono ?_); rintro e w' ⟨rfl, ⟨nd, rfl⟩⟩) | (go_at_call 43; (with_reducible refine (lex_word.calls k a0 _ _ HN.out).mono ?_); rintro e w' ⟨rfl, ⟨nd2, rfl⟩⟩) | (go_at_call 54; (refine (Tryd.slices_Contains_string 0 0 16 16 keptL a0 _ (Nat.le_refl _) (by decide) (kept_cells (by repeat (first | exact HG.out | refine Glob.drewN ?_ _)))).mono ?_); rintro e w' ⟨rfl, rfl⟩))
          go_ret
          exact ⟨rfl, (Drawn0.refl _).step _⟩
        · rw [if_neg h3] at h
          obtain rfl := Option.some.inj h
          have g1 : (n == (a0.size : Int)) = false := beq_eq_false_iff_ne.mpr h3
          have g2 : (n != (a0.size : Int)) = true := bne_iff_ne.mpr h3
          clear h h3
          go_enter Tryd.func25, Tryd.ntmps25
          go_wp2_with (first | (go_at_call 42; (with_reducible refine (lex_of.calls k (bt a0 0) 2 _ HC.out).mono ?_); rintro e w' ⟨rfl, ⟨nd, rfl⟩⟩) | (go_at_call 43; (with_reducible refine (lex_word.calls k a0 _ _ HN.out).mono ?_); rintro e w' ⟨rfl, ⟨nd2, rfl⟩⟩))
          go_ret
          exact ⟨rfl, (Drawn0.refl _).step _⟩
      · rw [if_neg h2] at h
        obtain rfl := Option.some.inj h
        have g1 : (c == 2) = false := beq_eq_false_iff_ne.mpr h2
        have g2 : (c != 2) = true := bne_iff_ne.mpr h2
        clear h h2
        go_enter Tryd.func25, Tryd.ntmps25
        go_wp2_with (first | (go_at_call 42; (with_reducible refine (lex_of.calls k (bt a0 0) c _ HC.out).mono ?_); rintro e w' ⟨rfl, ⟨nd, rfl⟩⟩))
        go_ret
        exact ⟨rfl, (Drawn0.refl _).step _⟩

/-! ### gnomonlaw09_live: function 17 -/
def gnomonlaw09_live.f (k : Nat)  : Option (Bool) := (lex_All.f k (⟨#[120, 60, 61, 53, 59]⟩ : ByteArray)).bind fun bt131 => (if bt131.2.1 = 0 then (if bt131.2.2 = 0 then (if (bt131.1.length : Int) = 5 then (if 1 < (bt131.1.length : Int) then (if ((rd_T24 bt131.1 1).f1).toList = ([60, 61] : List UInt8) then (if 2 < (bt131.1.length : Int) then (if ((rd_T24 bt131.1 2).f2) = 5 then (if 4 < (bt131.1.length : Int) then (if ((rd_T24 bt131.1 4).f0) = 0 then ((lex_IsName.f k (⟨#[120, 95, 49]⟩ : ByteArray)).bind fun t139 => (if t139 = true then ((lex_IsName.f k (⟨#[99, 108, 111, 99, 107]⟩ : ByteArray)).bind fun t140 => (some (!t140))) else (some false))) else (some false)) else (none)) else (some false)) else (none)) else (some false)) else (none)) else (some false)) else (some false)) else (some false))
theorem gnomonlaw09_live.mono : ∀ k, LeO (gnomonlaw09_live.f k ) (gnomonlaw09_live.f (k + 1) ) := by
 intro  k
 unfold gnomonlaw09_live.f
 repeat' first
   | (with_reducible exact lex_All.mono _ _)
   | (with_reducible exact lex_IsName.mono _ _)
   | (with_reducible exact LeO.refl _)
   | (with_reducible exact LeO.none _)
   | (with_reducible refine LeO.ite ?_ ?_)
   | (with_reducible refine LeO.bind ?_ (fun _ => ?_))
   | exact lex_All.mono _ _
   | exact lex_IsName.mono _ _
   | exact LeO.none _
   | refine LeO.ite ?_ ?_
   | refine LeO.bind ?_ (fun _ => ?_)
set_option maxHeartbeats 8000000 in
set_option maxRecDepth 100000 in
theorem gnomonlaw09_live.calls (k : Nat)  (r : Bool) (w : World) (hG : Glob w) (h : gnomonlaw09_live.f k  = some r) :
  Calls Tryd.prog 17 #[] w fun e w' => e = .returned (.bool r) ∧ Below w.heap.size w w' := by
 have HGL := Aside0.mk hG
 clear hG
 have HB := Aside0.mk (Below.refl w.heap.size w)
 have H : ((lex_All.f k (⟨#[120, 60, 61, 53, 59]⟩ : ByteArray)).bind fun bt131 => (if bt131.2.1 = 0 then (if bt131.2.2 = 0 then (if (bt131.1.length : Int) = 5 then (if 1 < (bt131.1.length : Int) then (if ((rd_T24 bt131.1 1).f1).toList = ([60, 61] : List UInt8) then (if 2 < (bt131.1.length : Int) then (if ((rd_T24 bt131.1 2).f2) = 5 then (if 4 < (bt131.1.length : Int) then (if ((rd_T24 bt131.1 4).f0) = 0 then ((lex_IsName.f k (⟨#[120, 95, 49]⟩ : ByteArray)).bind fun t139 => (if t139 = true then ((lex_IsName.f k (⟨#[99, 108, 111, 99, 107]⟩ : ByteArray)).bind fun t140 => (some (!t140))) else (some false))) else (some false)) else (none)) else (some false)) else (none)) else (some false)) else (none)) else (some false)) else (some false)) else (some false))) = some r := h
 clear h
 replace H := Option.bind_eq_some_iff.mp H
 obtain ⟨⟨t131, t132, t133⟩, A10, H⟩ := H
 replace H : (if t132 = 0 then (if t133 = 0 then (if (t131.length : Int) = 5 then (if 1 < (t131.length : Int) then (if ((rd_T24 t131 1).f1).toList = ([60, 61] : List UInt8) then (if 2 < (t131.length : Int) then (if ((rd_T24 t131 2).f2) = 5 then (if 4 < (t131.length : Int) then (if ((rd_T24 t131 4).f0) = 0 then ((lex_IsName.f k (⟨#[120, 95, 49]⟩ : ByteArray)).bind fun t139 => (if t139 = true then ((lex_IsName.f k (⟨#[99, 108, 111, 99, 107]⟩ : ByteArray)).bind fun t140 => (some (!t140))) else (some false))) else (some false)) else (none)) else (some false)) else (none)) else (some false)) else (none)) else (some false)) else (some false)) else (some false)) = some r := H
 have A1 := Aside0.mk A10
 clear A10
 by_cases c2 : t132 = 0
 ·
  rw [if_pos c2] at H
  have c2b0 : (t132 == 0) = true := beq_iff_eq.mpr c2
  have c2b1 : (t132 != 0) = false := bne_eq_false_iff_eq.mpr c2
  clear c2
  by_cases c3 : t133 = 0
  ·
   rw [if_pos c3] at H
   have c3b0 : (t133 == 0) = true := beq_iff_eq.mpr c3
   have c3b1 : (t133 != 0) = false := bne_eq_false_iff_eq.mpr c3
   clear c3
   by_cases c4 : (t131.length : Int) = 5
   ·
    rw [if_pos c4] at H
    have c4b0 : ((t131.length : Int) == 5) = true := beq_iff_eq.mpr c4
    have c4b1 : ((t131.length : Int) != 5) = false := bne_eq_false_iff_eq.mpr c4
    clear c4
    by_cases c5 : 1 < (t131.length : Int)
    ·
     rw [if_pos c5] at H
     have c5b0 : decide (1 < (t131.length : Int)) = true := decide_eq_true c5
     have c5b1 : decide (1 < t131.length) = true := decide_eq_true (by omega)
     clear c5
     by_cases c6 : ((rd_T24 t131 1).f1).toList = ([60, 61] : List UInt8)
     ·
      rw [if_pos c6] at H
      have c6b0 : (((rd_T24 t131 1).f1).toList == ([60, 61] : List UInt8)) = true := beq_iff_eq.mpr c6
      have c6b1 : (((rd_T24 t131 1).f1).toList != ([60, 61] : List UInt8)) = false := bne_eq_false_iff_eq.mpr c6
      clear c6
      by_cases c7 : 2 < (t131.length : Int)
      ·
       rw [if_pos c7] at H
       have c7b0 : decide (2 < (t131.length : Int)) = true := decide_eq_true c7
       have c7b1 : decide (2 < t131.length) = true := decide_eq_true (by omega)
       clear c7
       by_cases c8 : ((rd_T24 t131 2).f2) = 5
       ·
        rw [if_pos c8] at H
        have c8b0 : (((rd_T24 t131 2).f2) == 5) = true := beq_iff_eq.mpr c8
        have c8b1 : (((rd_T24 t131 2).f2) != 5) = false := bne_eq_false_iff_eq.mpr c8
        clear c8
        by_cases c9 : 4 < (t131.length : Int)
        ·
         rw [if_pos c9] at H
         have c9b0 : decide (4 < (t131.length : Int)) = true := decide_eq_true c9
         have c9b1 : decide (4 < t131.length) = true := decide_eq_true (by omega)
         clear c9
         by_cases c10 : ((rd_T24 t131 4).f0) = 0
         ·
          rw [if_pos c10] at H
          have c10b0 : (((rd_T24 t131 4).f0) == 0) = true := beq_iff_eq.mpr c10
          have c10b1 : (((rd_T24 t131 4).f0) != 0) = false := bne_eq_false_iff_eq.mpr c10
          clear c10
          replace H := Option.bind_eq_some_iff.mp H
          obtain ⟨t139, A110, H⟩ := H
          replace H : (if t139 = true then ((lex_IsName.f k (⟨#[99, 108, 111, 99, 107]⟩ : ByteArray)).bind fun t140 => (some (!t140))) else (some false)) = some r := H
          have A11 := Aside0.mk A110
          clear A110
          by_cases c12 : t139 = true
          ·
           subst c12
           have H1 : ((lex_IsName.f k (⟨#[99, 108, 111, 99, 107]⟩ : ByteArray)).bind fun t140 => (some (!t140))) = some r := by rw [if_pos rfl] at H; exact H
           clear H
           have H := H1
           clear H1
           replace H := Option.bind_eq_some_iff.mp H
           obtain ⟨t140, A130, H⟩ := H
           replace H : (some (!t140)) = some r := H
           have A13 := Aside0.mk A130
           clear A130
           obtain rfl := Option.some.inj H
           go_enter Tryd.func17, Tryd.ntmps17
           go_wp2_with (first | ((with_reducible refine gate_callee (f := 19) rfl ?_); refine goesL_ (some 5) rfl rfl Tryd.func19 (by kernel_rfl) rfl #[.string (⟨#[120, 60, 61, 53, 59]⟩ : ByteArray)] rfl (by (try simp only [List.map_toArray, List.map_cons, List.map_nil]); first | done | rfl | (simp only [List.length_drop, List.length_take]; rfl)) ?_; (with_reducible refine (lex_All.calls k (⟨#[120, 60, 61, 53, 59]⟩ : ByteArray) t131 t132 t133 _ A1.out).mono ?_); rintro e w14 ⟨v134, rfl, ho0, hb⟩; refine ⟨_, rfl, ?_⟩; have n0_ := Aside0.mk (Kd.R_lower ho0 (below_size (by repeat (first | (with_reducible first | exact HB.out | apply below_alloc | apply pw_below_drewN | apply below_drew1) | exact HB.out)))); have n1_ := Aside0.mk (below_step (by repeat (first | (with_reducible first | exact HB.out | apply below_alloc | apply pw_below_drewN | apply below_drew1) | exact HB.out)) hb); clear HB; have HO135 := n0_; have HB := n1_; clear n0_ n1_; (try clear hb); (try clear hb2); (try clear hk); (try clear hi); (try clear ho0); obtain ⟨Ao15, co15, eo15⟩ := Kd.R_slice HO135.out; subst eo15; have p136 : 0 ≤ (1 : Int) := (by omega); have q136 : 1 < (t131.length : Int) := of_decide_eq_true (by first | (with_reducible assumption) | assumption); obtain ⟨ad136, e136, hx136_0, hx136_1, hx136_2, hx136_3⟩ := at_T24 (Kd.R_reads' HO135.out).2.2 1 p136 q136; cases e136; (try simp only [show (1 : Int).toNat = 1 from rfl, Nat.reduceMul, Nat.reduceEqDiff, Go.Addr.add, ↓reduceIte] at hx136_0); (try simp only [show (1 : Int).toNat = 1 from rfl, Nat.reduceMul, Nat.reduceEqDiff, Go.Addr.add, ↓reduceIte] at hx136_1); (try simp only [show (1 : Int).toNat = 1 from rfl, Nat.reduceMul, Nat.reduceEqDiff, Go.Addr.add, ↓reduceIte] at hx136_2); (try simp only [show (1 : Int).toNat = 1 from rfl, Nat.reduceMul, Nat.reduceEqDiff, Go.Addr.add, ↓reduceIte] at hx136_3); have qi136 : (1 < t131.length) = True := eq_true (by omega); (try rw [show ((1 : Int)).toNat = 1 from rfl] at hx136_0); (try rw [show 1 * 4 = 4 from rfl] at hx136_0); (try rw [show ((1 : Int)).toNat = 1 from rfl] at hx136_1); (try rw [show 1 * 4 = 4 from rfl] at hx136_1); (try rw [show ((1 : Int)).toNat = 1 from rfl] at hx136_2); (try rw [show 1 * 4 = 4 from rfl] at hx136_2); (try rw [show ((1 : Int)).toNat = 1 from rfl] at hx136_3); (try rw [show 1 * 4 = 4 from rfl] at hx136_3); replace p136 := eq_true p136; replace q136 := eq_true q136; have p137 : 0 ≤ (2 : Int) := (by omega); have q137 : 2 < (t131.length : Int) := of_decide_eq_true (by first | (with_reducible assumption) | assumption); obtain ⟨ad137, e137, hx137_0, hx137_1, hx137_2, hx137_3⟩ := at_T24 (Kd.R_reads' HO135.out).2.2 2 p137 q137; obtain rfl : ad136 = ad137 := (by injection e137); (try simp only [show (2 : Int).toNat = 2 from rfl, Nat.reduceMul, Nat.reduceEqDiff, Go.Addr.add, ↓reduceIte] at hx137_0); (try simp only [show (2 : Int).toNat = 2 from rfl, Nat.reduceMul, Nat.reduceEqDiff, Go.Addr.add, ↓reduceIte] at hx137_1); (try simp only [show (2 : Int).toNat = 2 from rfl, Nat.reduceMul, Nat.reduceEqDiff, Go.Addr.add, ↓reduceIte] at hx137_2); (try simp only [show (2 : Int).toNat = 2 from rfl, Nat.reduceMul, Nat.reduceEqDiff, Go.Addr.add, ↓reduceIte] at hx137_3); have qi137 : (2 < t131.length) = True := eq_true (by omega); (try rw [show ((2 : Int)).toNat = 2 from rfl] at hx137_0); (try rw [show 2 * 4 = 8 from rfl] at hx137_0); (try rw [show ((2 : Int)).toNat = 2 from rfl] at hx137_1); (try rw [show 2 * 4 = 8 from rfl] at hx137_1); (try rw [show ((2 : Int)).toNat = 2 from rfl] at hx137_2); (try rw [show 2 * 4 = 8 from rfl] at hx137_2); (try rw [show ((2 : Int)).toNat = 2 from rfl] at hx137_3); (try rw [show 2 * 4 = 8 from rfl] at hx137_3); replace p137 := eq_true p137; replace q137 := eq_true q137; have p138 : 0 ≤ (4 : Int) := (by omega); have q138 : 4 < (t131.length : Int) := of_decide_eq_true (by first | (with_reducible assumption) | assumption); obtain ⟨ad138, e138, hx138_0, hx138_1, hx138_2, hx138_3⟩ := at_T24 (Kd.R_reads' HO135.out).2.2 4 p138 q138; obtain rfl : ad136 = ad138 := (by injection e138); (try simp only [show (4 : Int).toNat = 4 from rfl, Nat.reduceMul, Nat.reduceEqDiff, Go.Addr.add, ↓reduceIte] at hx138_0); (try simp only [show (4 : Int).toNat = 4 from rfl, Nat.reduceMul, Nat.reduceEqDiff, Go.Addr.add, ↓reduceIte] at hx138_1); (try simp only [show (4 : Int).toNat = 4 from rfl, Nat.reduceMul, Nat.reduceEqDiff, Go.Addr.add, ↓reduceIte] at hx138_2); (try simp only [show (4 : Int).toNat = 4 from rfl, Nat.reduceMul, Nat.reduceEqDiff, Go.Addr.add, ↓reduceIte] at hx138_3); have qi138 : (4 < t131.length) = True := eq_true (by omega); (try rw [show ((4 : Int)).toNat = 4 from rfl] at hx138_0); (try rw [show 4 * 4 = 16 from rfl] at hx138_0); (try rw [show ((4 : Int)).toNat = 4 from rfl] at hx138_1); (try rw [show 4 * 4 = 16 from rfl] at hx138_1); (try rw [show ((4 : Int)).toNat = 4 from rfl] at hx138_2); (try rw [show 4 * 4 = 16 from rfl] at hx138_2); (try rw [show ((4 : Int)).toNat = 4 from rfl] at hx138_3); (try rw [show 4 * 4 = 16 from rfl] at hx138_3); replace p138 := eq_true p138; replace q138 := eq_true q138) | (go_at_call 25; (with_reducible refine (lex_IsName.calls k (⟨#[120, 95, 49]⟩ : ByteArray) true _ ?side1 A11.out).mono ?_); (case side1 => repeat (first | exact (HGL.out.below HB.out) | (with_reducible refine Glob.alloc ?_ _) | (with_reducible refine Glob.drewN ?_ _) | (with_reducible refine Glob.drew ?_))); rintro e w' ⟨rfl, ⟨nd, rfl⟩⟩) | (go_at_call 25; (with_reducible refine (lex_IsName.calls k (⟨#[99, 108, 111, 99, 107]⟩ : ByteArray) t140 _ ?side1 A13.out).mono ?_); (case side1 => repeat (first | exact (HGL.out.below (by repeat (first | (with_reducible first | exact HB.out | apply below_alloc | apply pw_below_drewN | apply below_drew1) | exact HB.out))) | (with_reducible refine Glob.alloc ?_ _) | (with_reducible refine Glob.drewN ?_ _) | (with_reducible refine Glob.drew ?_))); rintro e w' ⟨rfl, ⟨nd, rfl⟩⟩))
           go_ret
           exact ⟨by first | rfl | (simp [errW_none, errW_some] <;> rfl) | (simp [*, errW_none, errW_some] <;> rfl), by repeat (first | (with_reducible first | exact HB.out | apply below_alloc | apply pw_below_drewN | apply below_drew1) | exact HB.out)⟩
          ·
           replace c12 := Bool.eq_false_iff.mpr c12
           subst c12
           have H1 : (some false) = some r := by rw [if_neg (show ¬ (false = true) by decide)] at H; exact H
           clear H
           have H := H1
           clear H1
           obtain rfl := Option.some.inj H
           go_enter Tryd.func17, Tryd.ntmps17
           go_wp2_with (first | ((with_reducible refine gate_callee (f := 19) rfl ?_); refine goesL_ (some 5) rfl rfl Tryd.func19 (by kernel_rfl) rfl #[.string (⟨#[120, 60, 61, 53, 59]⟩ : ByteArray)] rfl (by (try simp only [List.map_toArray, List.map_cons, List.map_nil]); first | done | rfl | (simp only [List.length_drop, List.length_take]; rfl)) ?_; (with_reducible refine (lex_All.calls k (⟨#[120, 60, 61, 53, 59]⟩ : ByteArray) t131 t132 t133 _ A1.out).mono ?_); rintro e w16 ⟨v134, rfl, ho0, hb⟩; refine ⟨_, rfl, ?_⟩; have n0_ := Aside0.mk (Kd.R_lower ho0 (below_size (by repeat (first | (with_reducible first | exact HB.out | apply below_alloc | apply pw_below_drewN | apply below_drew1) | exact HB.out)))); have n1_ := Aside0.mk (below_step (by repeat (first | (with_reducible first | exact HB.out | apply below_alloc | apply pw_below_drewN | apply below_drew1) | exact HB.out)) hb); clear HB; have HO135 := n0_; have HB := n1_; clear n0_ n1_; (try clear hb); (try clear hb2); (try clear hk); (try clear hi); (try clear ho0); obtain ⟨Ao17, co17, eo17⟩ := Kd.R_slice HO135.out; subst eo17; have p136 : 0 ≤ (1 : Int) := (by omega); have q136 : 1 < (t131.length : Int) := of_decide_eq_true (by first | (with_reducible assumption) | assumption); obtain ⟨ad136, e136, hx136_0, hx136_1, hx136_2, hx136_3⟩ := at_T24 (Kd.R_reads' HO135.out).2.2 1 p136 q136; cases e136; (try simp only [show (1 : Int).toNat = 1 from rfl, Nat.reduceMul, Nat.reduceEqDiff, Go.Addr.add, ↓reduceIte] at hx136_0); (try simp only [show (1 : Int).toNat = 1 from rfl, Nat.reduceMul, Nat.reduceEqDiff, Go.Addr.add, ↓reduceIte] at hx136_1); (try simp only [show (1 : Int).toNat = 1 from rfl, Nat.reduceMul, Nat.reduceEqDiff, Go.Addr.add, ↓reduceIte] at hx136_2); (try simp only [show (1 : Int).toNat = 1 from rfl, Nat.reduceMul, Nat.reduceEqDiff, Go.Addr.add, ↓reduceIte] at hx136_3); have qi136 : (1 < t131.length) = True := eq_true (by omega); (try rw [show ((1 : Int)).toNat = 1 from rfl] at hx136_0); (try rw [show 1 * 4 = 4 from rfl] at hx136_0); (try rw [show ((1 : Int)).toNat = 1 from rfl] at hx136_1); (try rw [show 1 * 4 = 4 from rfl] at hx136_1); (try rw [show ((1 : Int)).toNat = 1 from rfl] at hx136_2); (try rw [show 1 * 4 = 4 from rfl] at hx136_2); (try rw [show ((1 : Int)).toNat = 1 from rfl] at hx136_3); (try rw [show 1 * 4 = 4 from rfl] at hx136_3); replace p136 := eq_true p136; replace q136 := eq_true q136; have p137 : 0 ≤ (2 : Int) := (by omega); have q137 : 2 < (t131.length : Int) := of_decide_eq_true (by first | (with_reducible assumption) | assumption); obtain ⟨ad137, e137, hx137_0, hx137_1, hx137_2, hx137_3⟩ := at_T24 (Kd.R_reads' HO135.out).2.2 2 p137 q137; obtain rfl : ad136 = ad137 := (by injection e137); (try simp only [show (2 : Int).toNat = 2 from rfl, Nat.reduceMul, Nat.reduceEqDiff, Go.Addr.add, ↓reduceIte] at hx137_0); (try simp only [show (2 : Int).toNat = 2 from rfl, Nat.reduceMul, Nat.reduceEqDiff, Go.Addr.add, ↓reduceIte] at hx137_1); (try simp only [show (2 : Int).toNat = 2 from rfl, Nat.reduceMul, Nat.reduceEqDiff, Go.Addr.add, ↓reduceIte] at hx137_2); (try simp only [show (2 : Int).toNat = 2 from rfl, Nat.reduceMul, Nat.reduceEqDiff, Go.Addr.add, ↓reduceIte] at hx137_3); have qi137 : (2 < t131.length) = True := eq_true (by omega); (try rw [show ((2 : Int)).toNat = 2 from rfl] at hx137_0); (try rw [show 2 * 4 = 8 from rfl] at hx137_0); (try rw [show ((2 : Int)).toNat = 2 from rfl] at hx137_1); (try rw [show 2 * 4 = 8 from rfl] at hx137_1); (try rw [show ((2 : Int)).toNat = 2 from rfl] at hx137_2); (try rw [show 2 * 4 = 8 from rfl] at hx137_2); (try rw [show ((2 : Int)).toNat = 2 from rfl] at hx137_3); (try rw [show 2 * 4 = 8 from rfl] at hx137_3); replace p137 := eq_true p137; replace q137 := eq_true q137; have p138 : 0 ≤ (4 : Int) := (by omega); have q138 : 4 < (t131.length : Int) := of_decide_eq_true (by first | (with_reducible assumption) | assumption); obtain ⟨ad138, e138, hx138_0, hx138_1, hx138_2, hx138_3⟩ := at_T24 (Kd.R_reads' HO135.out).2.2 4 p138 q138; obtain rfl : ad136 = ad138 := (by injection e138); (try simp only [show (4 : Int).toNat = 4 from rfl, Nat.reduceMul, Nat.reduceEqDiff, Go.Addr.add, ↓reduceIte] at hx138_0); (try simp only [show (4 : Int).toNat = 4 from rfl, Nat.reduceMul, Nat.reduceEqDiff, Go.Addr.add, ↓reduceIte] at hx138_1); (try simp only [show (4 : Int).toNat = 4 from rfl, Nat.reduceMul, Nat.reduceEqDiff, Go.Addr.add, ↓reduceIte] at hx138_2); (try simp only [show (4 : Int).toNat = 4 from rfl, Nat.reduceMul, Nat.reduceEqDiff, Go.Addr.add, ↓reduceIte] at hx138_3); have qi138 : (4 < t131.length) = True := eq_true (by omega); (try rw [show ((4 : Int)).toNat = 4 from rfl] at hx138_0); (try rw [show 4 * 4 = 16 from rfl] at hx138_0); (try rw [show ((4 : Int)).toNat = 4 from rfl] at hx138_1); (try rw [show 4 * 4 = 16 from rfl] at hx138_1); (try rw [show ((4 : Int)).toNat = 4 from rfl] at hx138_2); (try rw [show 4 * 4 = 16 from rfl] at hx138_2); (try rw [show ((4 : Int)).toNat = 4 from rfl] at hx138_3); (try rw [show 4 * 4 = 16 from rfl] at hx138_3); replace p138 := eq_true p138; replace q138 := eq_true q138) | (go_at_call 25; (with_reducible refine (lex_IsName.calls k (⟨#[120, 95, 49]⟩ : ByteArray) false _ ?side1 A11.out).mono ?_); (case side1 => repeat (first | exact (HGL.out.below HB.out) | (with_reducible refine Glob.alloc ?_ _) | (with_reducible refine Glob.drewN ?_ _) | (with_reducible refine Glob.drew ?_))); rintro e w' ⟨rfl, ⟨nd, rfl⟩⟩))
           go_ret
           exact ⟨by first | rfl | (simp [errW_none, errW_some] <;> rfl) | (simp [*, errW_none, errW_some] <;> rfl), by repeat (first | (with_reducible first | exact HB.out | apply below_alloc | apply pw_below_drewN | apply below_drew1) | exact HB.out)⟩
         ·
          rw [if_neg c10] at H
          have c10b0 : (((rd_T24 t131 4).f0) == 0) = false := beq_eq_false_iff_ne.mpr c10
          have c10b1 : (((rd_T24 t131 4).f0) != 0) = true := bne_iff_ne.mpr c10
          obtain rfl := Option.some.inj H
          go_enter Tryd.func17, Tryd.ntmps17
          go_wp2_with (first | ((with_reducible refine gate_callee (f := 19) rfl ?_); refine goesL_ (some 5) rfl rfl Tryd.func19 (by kernel_rfl) rfl #[.string (⟨#[120, 60, 61, 53, 59]⟩ : ByteArray)] rfl (by (try simp only [List.map_toArray, List.map_cons, List.map_nil]); first | done | rfl | (simp only [List.length_drop, List.length_take]; rfl)) ?_; (with_reducible refine (lex_All.calls k (⟨#[120, 60, 61, 53, 59]⟩ : ByteArray) t131 t132 t133 _ A1.out).mono ?_); rintro e w18 ⟨v134, rfl, ho0, hb⟩; refine ⟨_, rfl, ?_⟩; have n0_ := Aside0.mk (Kd.R_lower ho0 (below_size (by repeat (first | (with_reducible first | exact HB.out | apply below_alloc | apply pw_below_drewN | apply below_drew1) | exact HB.out)))); have n1_ := Aside0.mk (below_step (by repeat (first | (with_reducible first | exact HB.out | apply below_alloc | apply pw_below_drewN | apply below_drew1) | exact HB.out)) hb); clear HB; have HO135 := n0_; have HB := n1_; clear n0_ n1_; (try clear hb); (try clear hb2); (try clear hk); (try clear hi); (try clear ho0); obtain ⟨Ao19, co19, eo19⟩ := Kd.R_slice HO135.out; subst eo19; have p136 : 0 ≤ (1 : Int) := (by omega); have q136 : 1 < (t131.length : Int) := of_decide_eq_true (by first | (with_reducible assumption) | assumption); obtain ⟨ad136, e136, hx136_0, hx136_1, hx136_2, hx136_3⟩ := at_T24 (Kd.R_reads' HO135.out).2.2 1 p136 q136; cases e136; (try simp only [show (1 : Int).toNat = 1 from rfl, Nat.reduceMul, Nat.reduceEqDiff, Go.Addr.add, ↓reduceIte] at hx136_0); (try simp only [show (1 : Int).toNat = 1 from rfl, Nat.reduceMul, Nat.reduceEqDiff, Go.Addr.add, ↓reduceIte] at hx136_1); (try simp only [show (1 : Int).toNat = 1 from rfl, Nat.reduceMul, Nat.reduceEqDiff, Go.Addr.add, ↓reduceIte] at hx136_2); (try simp only [show (1 : Int).toNat = 1 from rfl, Nat.reduceMul, Nat.reduceEqDiff, Go.Addr.add, ↓reduceIte] at hx136_3); have qi136 : (1 < t131.length) = True := eq_true (by omega); (try rw [show ((1 : Int)).toNat = 1 from rfl] at hx136_0); (try rw [show 1 * 4 = 4 from rfl] at hx136_0); (try rw [show ((1 : Int)).toNat = 1 from rfl] at hx136_1); (try rw [show 1 * 4 = 4 from rfl] at hx136_1); (try rw [show ((1 : Int)).toNat = 1 from rfl] at hx136_2); (try rw [show 1 * 4 = 4 from rfl] at hx136_2); (try rw [show ((1 : Int)).toNat = 1 from rfl] at hx136_3); (try rw [show 1 * 4 = 4 from rfl] at hx136_3); replace p136 := eq_true p136; replace q136 := eq_true q136; have p137 : 0 ≤ (2 : Int) := (by omega); have q137 : 2 < (t131.length : Int) := of_decide_eq_true (by first | (with_reducible assumption) | assumption); obtain ⟨ad137, e137, hx137_0, hx137_1, hx137_2, hx137_3⟩ := at_T24 (Kd.R_reads' HO135.out).2.2 2 p137 q137; obtain rfl : ad136 = ad137 := (by injection e137); (try simp only [show (2 : Int).toNat = 2 from rfl, Nat.reduceMul, Nat.reduceEqDiff, Go.Addr.add, ↓reduceIte] at hx137_0); (try simp only [show (2 : Int).toNat = 2 from rfl, Nat.reduceMul, Nat.reduceEqDiff, Go.Addr.add, ↓reduceIte] at hx137_1); (try simp only [show (2 : Int).toNat = 2 from rfl, Nat.reduceMul, Nat.reduceEqDiff, Go.Addr.add, ↓reduceIte] at hx137_2); (try simp only [show (2 : Int).toNat = 2 from rfl, Nat.reduceMul, Nat.reduceEqDiff, Go.Addr.add, ↓reduceIte] at hx137_3); have qi137 : (2 < t131.length) = True := eq_true (by omega); (try rw [show ((2 : Int)).toNat = 2 from rfl] at hx137_0); (try rw [show 2 * 4 = 8 from rfl] at hx137_0); (try rw [show ((2 : Int)).toNat = 2 from rfl] at hx137_1); (try rw [show 2 * 4 = 8 from rfl] at hx137_1); (try rw [show ((2 : Int)).toNat = 2 from rfl] at hx137_2); (try rw [show 2 * 4 = 8 from rfl] at hx137_2); (try rw [show ((2 : Int)).toNat = 2 from rfl] at hx137_3); (try rw [show 2 * 4 = 8 from rfl] at hx137_3); replace p137 := eq_true p137; replace q137 := eq_true q137; have p138 : 0 ≤ (4 : Int) := (by omega); have q138 : 4 < (t131.length : Int) := of_decide_eq_true (by first | (with_reducible assumption) | assumption); obtain ⟨ad138, e138, hx138_0, hx138_1, hx138_2, hx138_3⟩ := at_T24 (Kd.R_reads' HO135.out).2.2 4 p138 q138; obtain rfl : ad136 = ad138 := (by injection e138); (try simp only [show (4 : Int).toNat = 4 from rfl, Nat.reduceMul, Nat.reduceEqDiff, Go.Addr.add, ↓reduceIte] at hx138_0); (try simp only [show (4 : Int).toNat = 4 from rfl, Nat.reduceMul, Nat.reduceEqDiff, Go.Addr.add, ↓reduceIte] at hx138_1); (try simp only [show (4 : Int).toNat = 4 from rfl, Nat.reduceMul, Nat.reduceEqDiff, Go.Addr.add, ↓reduceIte] at hx138_2); (try simp only [show (4 : Int).toNat = 4 from rfl, Nat.reduceMul, Nat.reduceEqDiff, Go.Addr.add, ↓reduceIte] at hx138_3); have qi138 : (4 < t131.length) = True := eq_true (by omega); (try rw [show ((4 : Int)).toNat = 4 from rfl] at hx138_0); (try rw [show 4 * 4 = 16 from rfl] at hx138_0); (try rw [show ((4 : Int)).toNat = 4 from rfl] at hx138_1); (try rw [show 4 * 4 = 16 from rfl] at hx138_1); (try rw [show ((4 : Int)).toNat = 4 from rfl] at hx138_2); (try rw [show 4 * 4 = 16 from rfl] at hx138_2); (try rw [show ((4 : Int)).toNat = 4 from rfl] at hx138_3); (try rw [show 4 * 4 = 16 from rfl] at hx138_3); replace p138 := eq_true p138; replace q138 := eq_true q138))
          go_ret
          exact ⟨by first | rfl | (simp [errW_none, errW_some] <;> rfl) | (simp [*, errW_none, errW_some] <;> rfl), by repeat (first | (with_reducible first | exact HB.out | apply below_alloc | apply pw_below_drewN | apply below_drew1) | exact HB.out)⟩
        ·
         rw [if_neg c9] at H
         exact absurd H (by simp)
       ·
        rw [if_neg c8] at H
        have c8b0 : (((rd_T24 t131 2).f2) == 5) = false := beq_eq_false_iff_ne.mpr c8
        have c8b1 : (((rd_T24 t131 2).f2) != 5) = true := bne_iff_ne.mpr c8
        obtain rfl := Option.some.inj H
        go_enter Tryd.func17, Tryd.ntmps17
        go_wp2_with (first | ((with_reducible refine gate_callee (f := 19) rfl ?_); refine goesL_ (some 5) rfl rfl Tryd.func19 (by kernel_rfl) rfl #[.string (⟨#[120, 60, 61, 53, 59]⟩ : ByteArray)] rfl (by (try simp only [List.map_toArray, List.map_cons, List.map_nil]); first | done | rfl | (simp only [List.length_drop, List.length_take]; rfl)) ?_; (with_reducible refine (lex_All.calls k (⟨#[120, 60, 61, 53, 59]⟩ : ByteArray) t131 t132 t133 _ A1.out).mono ?_); rintro e w20 ⟨v134, rfl, ho0, hb⟩; refine ⟨_, rfl, ?_⟩; have n0_ := Aside0.mk (Kd.R_lower ho0 (below_size (by repeat (first | (with_reducible first | exact HB.out | apply below_alloc | apply pw_below_drewN | apply below_drew1) | exact HB.out)))); have n1_ := Aside0.mk (below_step (by repeat (first | (with_reducible first | exact HB.out | apply below_alloc | apply pw_below_drewN | apply below_drew1) | exact HB.out)) hb); clear HB; have HO135 := n0_; have HB := n1_; clear n0_ n1_; (try clear hb); (try clear hb2); (try clear hk); (try clear hi); (try clear ho0); obtain ⟨Ao21, co21, eo21⟩ := Kd.R_slice HO135.out; subst eo21; have p136 : 0 ≤ (1 : Int) := (by omega); have q136 : 1 < (t131.length : Int) := of_decide_eq_true (by first | (with_reducible assumption) | assumption); obtain ⟨ad136, e136, hx136_0, hx136_1, hx136_2, hx136_3⟩ := at_T24 (Kd.R_reads' HO135.out).2.2 1 p136 q136; cases e136; (try simp only [show (1 : Int).toNat = 1 from rfl, Nat.reduceMul, Nat.reduceEqDiff, Go.Addr.add, ↓reduceIte] at hx136_0); (try simp only [show (1 : Int).toNat = 1 from rfl, Nat.reduceMul, Nat.reduceEqDiff, Go.Addr.add, ↓reduceIte] at hx136_1); (try simp only [show (1 : Int).toNat = 1 from rfl, Nat.reduceMul, Nat.reduceEqDiff, Go.Addr.add, ↓reduceIte] at hx136_2); (try simp only [show (1 : Int).toNat = 1 from rfl, Nat.reduceMul, Nat.reduceEqDiff, Go.Addr.add, ↓reduceIte] at hx136_3); have qi136 : (1 < t131.length) = True := eq_true (by omega); (try rw [show ((1 : Int)).toNat = 1 from rfl] at hx136_0); (try rw [show 1 * 4 = 4 from rfl] at hx136_0); (try rw [show ((1 : Int)).toNat = 1 from rfl] at hx136_1); (try rw [show 1 * 4 = 4 from rfl] at hx136_1); (try rw [show ((1 : Int)).toNat = 1 from rfl] at hx136_2); (try rw [show 1 * 4 = 4 from rfl] at hx136_2); (try rw [show ((1 : Int)).toNat = 1 from rfl] at hx136_3); (try rw [show 1 * 4 = 4 from rfl] at hx136_3); replace p136 := eq_true p136; replace q136 := eq_true q136; have p137 : 0 ≤ (2 : Int) := (by omega); have q137 : 2 < (t131.length : Int) := of_decide_eq_true (by first | (with_reducible assumption) | assumption); obtain ⟨ad137, e137, hx137_0, hx137_1, hx137_2, hx137_3⟩ := at_T24 (Kd.R_reads' HO135.out).2.2 2 p137 q137; obtain rfl : ad136 = ad137 := (by injection e137); (try simp only [show (2 : Int).toNat = 2 from rfl, Nat.reduceMul, Nat.reduceEqDiff, Go.Addr.add, ↓reduceIte] at hx137_0); (try simp only [show (2 : Int).toNat = 2 from rfl, Nat.reduceMul, Nat.reduceEqDiff, Go.Addr.add, ↓reduceIte] at hx137_1); (try simp only [show (2 : Int).toNat = 2 from rfl, Nat.reduceMul, Nat.reduceEqDiff, Go.Addr.add, ↓reduceIte] at hx137_2); (try simp only [show (2 : Int).toNat = 2 from rfl, Nat.reduceMul, Nat.reduceEqDiff, Go.Addr.add, ↓reduceIte] at hx137_3); have qi137 : (2 < t131.length) = True := eq_true (by omega); (try rw [show ((2 : Int)).toNat = 2 from rfl] at hx137_0); (try rw [show 2 * 4 = 8 from rfl] at hx137_0); (try rw [show ((2 : Int)).toNat = 2 from rfl] at hx137_1); (try rw [show 2 * 4 = 8 from rfl] at hx137_1); (try rw [show ((2 : Int)).toNat = 2 from rfl] at hx137_2); (try rw [show 2 * 4 = 8 from rfl] at hx137_2); (try rw [show ((2 : Int)).toNat = 2 from rfl] at hx137_3); (try rw [show 2 * 4 = 8 from rfl] at hx137_3); replace p137 := eq_true p137; replace q137 := eq_true q137))
        go_ret
        exact ⟨by first | rfl | (simp [errW_none, errW_some] <;> rfl) | (simp [*, errW_none, errW_some] <;> rfl), by repeat (first | (with_reducible first | exact HB.out | apply below_alloc | apply pw_below_drewN | apply below_drew1) | exact HB.out)⟩
      ·
       rw [if_neg c7] at H
       exact absurd H (by simp)
     ·
      rw [if_neg c6] at H
      have c6b0 : (((rd_T24 t131 1).f1).toList == ([60, 61] : List UInt8)) = false := beq_eq_false_iff_ne.mpr c6
      have c6b1 : (((rd_T24 t131 1).f1).toList != ([60, 61] : List UInt8)) = true := bne_iff_ne.mpr c6
      obtain rfl := Option.some.inj H
      go_enter Tryd.func17, Tryd.ntmps17
      go_wp2_with (first | ((with_reducible refine gate_callee (f := 19) rfl ?_); refine goesL_ (some 5) rfl rfl Tryd.func19 (by kernel_rfl) rfl #[.string (⟨#[120, 60, 61, 53, 59]⟩ : ByteArray)] rfl (by (try simp only [List.map_toArray, List.map_cons, List.map_nil]); first | done | rfl | (simp only [List.length_drop, List.length_take]; rfl)) ?_; (with_reducible refine (lex_All.calls k (⟨#[120, 60, 61, 53, 59]⟩ : ByteArray) t131 t132 t133 _ A1.out).mono ?_); rintro e w22 ⟨v134, rfl, ho0, hb⟩; refine ⟨_, rfl, ?_⟩; have n0_ := Aside0.mk (Kd.R_lower ho0 (below_size (by repeat (first | (with_reducible first | exact HB.out | apply below_alloc | apply pw_below_drewN | apply below_drew1) | exact HB.out)))); have n1_ := Aside0.mk (below_step (by repeat (first | (with_reducible first | exact HB.out | apply below_alloc | apply pw_below_drewN | apply below_drew1) | exact HB.out)) hb); clear HB; have HO135 := n0_; have HB := n1_; clear n0_ n1_; (try clear hb); (try clear hb2); (try clear hk); (try clear hi); (try clear ho0); obtain ⟨Ao23, co23, eo23⟩ := Kd.R_slice HO135.out; subst eo23; have p136 : 0 ≤ (1 : Int) := (by omega); have q136 : 1 < (t131.length : Int) := of_decide_eq_true (by first | (with_reducible assumption) | assumption); obtain ⟨ad136, e136, hx136_0, hx136_1, hx136_2, hx136_3⟩ := at_T24 (Kd.R_reads' HO135.out).2.2 1 p136 q136; cases e136; (try simp only [show (1 : Int).toNat = 1 from rfl, Nat.reduceMul, Nat.reduceEqDiff, Go.Addr.add, ↓reduceIte] at hx136_0); (try simp only [show (1 : Int).toNat = 1 from rfl, Nat.reduceMul, Nat.reduceEqDiff, Go.Addr.add, ↓reduceIte] at hx136_1); (try simp only [show (1 : Int).toNat = 1 from rfl, Nat.reduceMul, Nat.reduceEqDiff, Go.Addr.add, ↓reduceIte] at hx136_2); (try simp only [show (1 : Int).toNat = 1 from rfl, Nat.reduceMul, Nat.reduceEqDiff, Go.Addr.add, ↓reduceIte] at hx136_3); have qi136 : (1 < t131.length) = True := eq_true (by omega); (try rw [show ((1 : Int)).toNat = 1 from rfl] at hx136_0); (try rw [show 1 * 4 = 4 from rfl] at hx136_0); (try rw [show ((1 : Int)).toNat = 1 from rfl] at hx136_1); (try rw [show 1 * 4 = 4 from rfl] at hx136_1); (try rw [show ((1 : Int)).toNat = 1 from rfl] at hx136_2); (try rw [show 1 * 4 = 4 from rfl] at hx136_2); (try rw [show ((1 : Int)).toNat = 1 from rfl] at hx136_3); (try rw [show 1 * 4 = 4 from rfl] at hx136_3); replace p136 := eq_true p136; replace q136 := eq_true q136))
      go_ret
      exact ⟨by first | rfl | (simp [errW_none, errW_some] <;> rfl) | (simp [*, errW_none, errW_some] <;> rfl), by repeat (first | (with_reducible first | exact HB.out | apply below_alloc | apply pw_below_drewN | apply below_drew1) | exact HB.out)⟩
    ·
     rw [if_neg c5] at H
     exact absurd H (by simp)
   ·
    rw [if_neg c4] at H
    have c4b0 : ((t131.length : Int) == 5) = false := beq_eq_false_iff_ne.mpr c4
    have c4b1 : ((t131.length : Int) != 5) = true := bne_iff_ne.mpr c4
    obtain rfl := Option.some.inj H
    go_enter Tryd.func17, Tryd.ntmps17
    go_wp2_with (first | ((with_reducible refine gate_callee (f := 19) rfl ?_); refine goesL_ (some 5) rfl rfl Tryd.func19 (by kernel_rfl) rfl #[.string (⟨#[120, 60, 61, 53, 59]⟩ : ByteArray)] rfl (by (try simp only [List.map_toArray, List.map_cons, List.map_nil]); first | done | rfl | (simp only [List.length_drop, List.length_take]; rfl)) ?_; (with_reducible refine (lex_All.calls k (⟨#[120, 60, 61, 53, 59]⟩ : ByteArray) t131 t132 t133 _ A1.out).mono ?_); rintro e w24 ⟨v134, rfl, ho0, hb⟩; refine ⟨_, rfl, ?_⟩; have n0_ := Aside0.mk (Kd.R_lower ho0 (below_size (by repeat (first | (with_reducible first | exact HB.out | apply below_alloc | apply pw_below_drewN | apply below_drew1) | exact HB.out)))); have n1_ := Aside0.mk (below_step (by repeat (first | (with_reducible first | exact HB.out | apply below_alloc | apply pw_below_drewN | apply below_drew1) | exact HB.out)) hb); clear HB; have HO135 := n0_; have HB := n1_; clear n0_ n1_; (try clear hb); (try clear hb2); (try clear hk); (try clear hi); (try clear ho0); obtain ⟨Ao25, co25, eo25⟩ := Kd.R_slice HO135.out; subst eo25))
    go_ret
    exact ⟨by first | rfl | (simp [errW_none, errW_some] <;> rfl) | (simp [*, errW_none, errW_some] <;> rfl), by repeat (first | (with_reducible first | exact HB.out | apply below_alloc | apply pw_below_drewN | apply below_drew1) | exact HB.out)⟩
  ·
   rw [if_neg c3] at H
   have c3b0 : (t133 == 0) = false := beq_eq_false_iff_ne.mpr c3
   have c3b1 : (t133 != 0) = true := bne_iff_ne.mpr c3
   obtain rfl := Option.some.inj H
   go_enter Tryd.func17, Tryd.ntmps17
   go_wp2_with (first | ((with_reducible refine gate_callee (f := 19) rfl ?_); refine goesL_ (some 5) rfl rfl Tryd.func19 (by kernel_rfl) rfl #[.string (⟨#[120, 60, 61, 53, 59]⟩ : ByteArray)] rfl (by (try simp only [List.map_toArray, List.map_cons, List.map_nil]); first | done | rfl | (simp only [List.length_drop, List.length_take]; rfl)) ?_; (with_reducible refine (lex_All.calls k (⟨#[120, 60, 61, 53, 59]⟩ : ByteArray) t131 t132 t133 _ A1.out).mono ?_); rintro e w26 ⟨v134, rfl, ho0, hb⟩; refine ⟨_, rfl, ?_⟩; have n0_ := Aside0.mk (Kd.R_lower ho0 (below_size (by repeat (first | (with_reducible first | exact HB.out | apply below_alloc | apply pw_below_drewN | apply below_drew1) | exact HB.out)))); have n1_ := Aside0.mk (below_step (by repeat (first | (with_reducible first | exact HB.out | apply below_alloc | apply pw_below_drewN | apply below_drew1) | exact HB.out)) hb); clear HB; have HO135 := n0_; have HB := n1_; clear n0_ n1_; (try clear hb); (try clear hb2); (try clear hk); (try clear hi); (try clear ho0)))
   go_ret
   exact ⟨by first | rfl | (simp [errW_none, errW_some] <;> rfl) | (simp [*, errW_none, errW_some] <;> rfl), by repeat (first | (with_reducible first | exact HB.out | apply below_alloc | apply pw_below_drewN | apply below_drew1) | exact HB.out)⟩
 ·
  rw [if_neg c2] at H
  have c2b0 : (t132 == 0) = false := beq_eq_false_iff_ne.mpr c2
  have c2b1 : (t132 != 0) = true := bne_iff_ne.mpr c2
  obtain rfl := Option.some.inj H
  go_enter Tryd.func17, Tryd.ntmps17
  go_wp2_with (first | ((with_reducible refine gate_callee (f := 19) rfl ?_); refine goesL_ (some 5) rfl rfl Tryd.func19 (by kernel_rfl) rfl #[.string (⟨#[120, 60, 61, 53, 59]⟩ : ByteArray)] rfl (by (try simp only [List.map_toArray, List.map_cons, List.map_nil]); first | done | rfl | (simp only [List.length_drop, List.length_take]; rfl)) ?_; (with_reducible refine (lex_All.calls k (⟨#[120, 60, 61, 53, 59]⟩ : ByteArray) t131 t132 t133 _ A1.out).mono ?_); rintro e w27 ⟨v134, rfl, ho0, hb⟩; refine ⟨_, rfl, ?_⟩; have n0_ := Aside0.mk (Kd.R_lower ho0 (below_size (by repeat (first | (with_reducible first | exact HB.out | apply below_alloc | apply pw_below_drewN | apply below_drew1) | exact HB.out)))); have n1_ := Aside0.mk (below_step (by repeat (first | (with_reducible first | exact HB.out | apply below_alloc | apply pw_below_drewN | apply below_drew1) | exact HB.out)) hb); clear HB; have HO135 := n0_; have HB := n1_; clear n0_ n1_; (try clear hb); (try clear hb2); (try clear hk); (try clear hi); (try clear ho0)))
  go_ret
  exact ⟨by first | rfl | (simp [errW_none, errW_some] <;> rfl) | (simp [*, errW_none, errW_some] <;> rfl), by repeat (first | (with_reducible first | exact HB.out | apply below_alloc | apply pw_below_drewN | apply below_drew1) | exact HB.out)⟩

/-! ### gnomonlaw09_same: function 18 -/
def gnomonlaw09_same.f (a0_0 : Int) (a0_1 : ByteArray) (a0_2 : Int) (a0_3 : Int) (a1_0 : Int) (a1_1 : ByteArray) (a1_2 : Int) (a1_3 : Int) : Option (Bool) := if (wrap64 (a0_0)) = a1_0 then (if a0_1.toList = a1_1.toList then (if a0_2 = a1_2 then (some (a0_3 == a1_3)) else (some false)) else (some false)) else (some false)
set_option maxHeartbeats 8000000 in
set_option maxRecDepth 100000 in
theorem gnomonlaw09_same.calls (a0_0 : Int) (a0_1 : ByteArray) (a0_2 : Int) (a0_3 : Int) (a1_0 : Int) (a1_1 : ByteArray) (a1_2 : Int) (a1_3 : Int) (r : Bool) (w : World) (h : gnomonlaw09_same.f a0_0 a0_1 a0_2 a0_3 a1_0 a1_1 a1_2 a1_3 = some r) :
  Calls Tryd.prog 18 #[.agg #[.int .u8 a0_0, .string a0_1, .int .i64 a0_2, .int .i64 a0_3], .agg #[.int .i64 a1_0, .string a1_1, .int .i64 a1_2, .int .i64 a1_3]] w fun e w' => e = .returned (.bool r) ∧ Below w.heap.size w w' := by
 have hu24 := Tryd.underlying24
 have hu29 := Tryd.underlying29
 have HB := Aside0.mk (Below.refl w.heap.size w)
 have H : (if (wrap64 (a0_0)) = a1_0 then (if a0_1.toList = a1_1.toList then (if a0_2 = a1_2 then (some (a0_3 == a1_3)) else (some false)) else (some false)) else (some false)) = some r := h
 clear h
 by_cases c3 : (wrap64 (a0_0)) = a1_0
 ·
  rw [if_pos c3] at H
  have c3b0 : ((wrap64 (a0_0)) == a1_0) = true := beq_iff_eq.mpr c3
  have c3b1 : ((wrap64 (a0_0)) != a1_0) = false := bne_eq_false_iff_eq.mpr c3
  clear c3
  by_cases c4 : a0_1.toList = a1_1.toList
  ·
   rw [if_pos c4] at H
   have c4b0 : (a0_1.toList == a1_1.toList) = true := beq_iff_eq.mpr c4
   have c4b1 : (a0_1.toList != a1_1.toList) = false := bne_eq_false_iff_eq.mpr c4
   clear c4
   by_cases c5 : a0_2 = a1_2
   ·
    rw [if_pos c5] at H
    have c5b0 : (a0_2 == a1_2) = true := beq_iff_eq.mpr c5
    have c5b1 : (a0_2 != a1_2) = false := bne_eq_false_iff_eq.mpr c5
    clear c5
    obtain rfl := Option.some.inj H
    go_enter Tryd.func18, Tryd.ntmps18
    go_wp2_with (first | ((with_reducible refine gate_dst (N := 2) rfl ?_); refine box_event ?hg (N := 2) ?hd (cs := #[.int .u8 a0_0, .string a0_1, .int .i64 a0_2, .int .i64 a0_3]) (t := 24) ?hr ?_; (case hd => rfl); (case hg => rfl); (case hr => first | (go_simp; done) | (go_simp; rfl)); intro gb141 hg w6 hbox hb; have n0_ := Aside0.mk (below_step (by repeat (first | (with_reducible first | exact HB.out | apply below_alloc | apply pw_below_drewN | apply below_drew1) | exact HB.out)) hb); have n1_ := Aside0.mk (hbox); have n2_ := Aside0.mk ((by rw [hg]; exact (below_size (by repeat (first | (with_reducible first | exact HB.out | apply below_alloc | apply pw_below_drewN | apply below_drew1) | exact HB.out))) : w.heap.size ≤ gb141)); have n3_ := Aside0.mk ((by rw [hg]; exact (below_size (by repeat (first | (with_reducible first | exact HB.out | apply below_alloc | apply pw_below_drewN | apply below_drew1) | exact HB.out))) : w.heap.size ≤ gb141)); clear HB; have HB := n0_; have BK141 := n1_; have GW141 := n2_; have GE141 := n3_; clear n0_ n1_ n2_ n3_; clear hb hbox hg) | ((with_reducible refine gate_dst (N := 3) rfl ?_); refine box_event ?hg (N := 3) ?hd (cs := #[.int .i64 a1_0, .string a1_1, .int .i64 a1_2, .int .i64 a1_3]) (t := 29) ?hr ?_; (case hd => rfl); (case hg => rfl); (case hr => first | (go_simp; done) | (go_simp; rfl)); intro gb142 hg w7 hbox hb; have n0_ := Aside0.mk (blk_below (g := gb141) (o := .cells #[.int .u8 a0_0, .string a0_1, .int .i64 a0_2, .int .i64 a0_3] 24 (0, 0)) (by (with_reducible repeat (first | refine blk_drewN ?_ _ | refine blk_drew ?_ | refine blk_alloc ?_ _)); exact BK141.out) hb); have n1_ := Aside0.mk (below_step (by repeat (first | (with_reducible first | exact HB.out | apply below_alloc | apply pw_below_drewN | apply below_drew1 | refine below_set ?_ GE141.out) | exact HB.out)) hb); have n2_ := Aside0.mk (hbox); have n3_ := Aside0.mk ((by rw [hg]; exact (below_size (by repeat (first | (with_reducible first | exact HB.out | apply below_alloc | apply pw_below_drewN | apply below_drew1 | refine below_set ?_ GE141.out) | exact HB.out))) : w.heap.size ≤ gb142)); have n4_ := Aside0.mk ((by rw [hg]; exact (below_size (by repeat (first | (with_reducible first | exact HB.out | apply below_alloc | apply pw_below_drewN | apply below_drew1 | refine below_set ?_ GE141.out) | exact HB.out))) : w.heap.size ≤ gb142)); have n5_ := Aside0.mk ((by rw [hg]; exact Nat.ne_of_lt (blk_lt (g := gb141) (o := .cells #[.int .u8 a0_0, .string a0_1, .int .i64 a0_2, .int .i64 a0_3] 24 (0, 0)) (by (with_reducible repeat (first | refine blk_drewN ?_ _ | refine blk_drew ?_ | refine blk_alloc ?_ _)); exact BK141.out)) : gb141 ≠ gb142)); have n6_ := Aside0.mk ((by rw [hg]; exact Nat.ne_of_gt (blk_lt (g := gb141) (o := .cells #[.int .u8 a0_0, .string a0_1, .int .i64 a0_2, .int .i64 a0_3] 24 (0, 0)) (by (with_reducible repeat (first | refine blk_drewN ?_ _ | refine blk_drew ?_ | refine blk_alloc ?_ _)); exact BK141.out)) : gb142 ≠ gb141)); clear BK141; clear HB; have BK141 := n0_; have HB := n1_; have BK142 := n2_; have GW142 := n3_; have GE142 := n4_; have NB141_142 := n5_; have NB142_141 := n6_; clear n0_ n1_ n2_ n3_ n4_ n5_ n6_; clear hb hbox hg; have hnb8 := NB141_142.out; have hnc8 := NB142_141.out; have hcz9_0 : w7.cell? ⟨gb141, 0, none⟩ = some (.int .u8 a0_0) := (blk_cell BK141.out 0).trans rfl; have hcz9_1 : w7.cell? ⟨gb141, 1, none⟩ = some (.string a0_1) := (blk_cell BK141.out 1).trans rfl; have hcz9_2 : w7.cell? ⟨gb141, 2, none⟩ = some (.int .i64 a0_2) := (blk_cell BK141.out 2).trans rfl; have hcz9_3 : w7.cell? ⟨gb141, 3, none⟩ = some (.int .i64 a0_3) := (blk_cell BK141.out 3).trans rfl; have hfz9_0 := blk_frozen BK141.out 0; have hfz9_1 := blk_frozen BK141.out 1; have hfz9_2 := blk_frozen BK141.out 2; have hfz9_3 := blk_frozen BK141.out 3; have hcz10_0 : w7.cell? ⟨gb142, 0, none⟩ = some (.int .i64 a1_0) := (blk_cell BK142.out 0).trans rfl; have hcz10_1 : w7.cell? ⟨gb142, 1, none⟩ = some (.string a1_1) := (blk_cell BK142.out 1).trans rfl; have hcz10_2 : w7.cell? ⟨gb142, 2, none⟩ = some (.int .i64 a1_2) := (blk_cell BK142.out 2).trans rfl; have hcz10_3 : w7.cell? ⟨gb142, 3, none⟩ = some (.int .i64 a1_3) := (blk_cell BK142.out 3).trans rfl; have hfz10_0 := blk_frozen BK142.out 0; have hfz10_1 := blk_frozen BK142.out 1; have hfz10_2 := blk_frozen BK142.out 2; have hfz10_3 := blk_frozen BK142.out 3))
    go_ret
    exact ⟨by first | rfl | (simp [errW_none, errW_some] <;> rfl) | (simp [*, errW_none, errW_some] <;> rfl), by repeat (first | (with_reducible first | exact HB.out | apply below_alloc | apply pw_below_drewN | apply below_drew1 | refine below_set ?_ GE141.out | refine below_set ?_ GE142.out) | exact HB.out)⟩
   ·
    rw [if_neg c5] at H
    have c5b0 : (a0_2 == a1_2) = false := beq_eq_false_iff_ne.mpr c5
    have c5b1 : (a0_2 != a1_2) = true := bne_iff_ne.mpr c5
    obtain rfl := Option.some.inj H
    go_enter Tryd.func18, Tryd.ntmps18
    go_wp2_with (first | ((with_reducible refine gate_dst (N := 2) rfl ?_); refine box_event ?hg (N := 2) ?hd (cs := #[.int .u8 a0_0, .string a0_1, .int .i64 a0_2, .int .i64 a0_3]) (t := 24) ?hr ?_; (case hd => rfl); (case hg => rfl); (case hr => first | (go_simp; done) | (go_simp; rfl)); intro gb141 hg w11 hbox hb; have n0_ := Aside0.mk (below_step (by repeat (first | (with_reducible first | exact HB.out | apply below_alloc | apply pw_below_drewN | apply below_drew1) | exact HB.out)) hb); have n1_ := Aside0.mk (hbox); have n2_ := Aside0.mk ((by rw [hg]; exact (below_size (by repeat (first | (with_reducible first | exact HB.out | apply below_alloc | apply pw_below_drewN | apply below_drew1) | exact HB.out))) : w.heap.size ≤ gb141)); have n3_ := Aside0.mk ((by rw [hg]; exact (below_size (by repeat (first | (with_reducible first | exact HB.out | apply below_alloc | apply pw_below_drewN | apply below_drew1) | exact HB.out))) : w.heap.size ≤ gb141)); clear HB; have HB := n0_; have BK141 := n1_; have GW141 := n2_; have GE141 := n3_; clear n0_ n1_ n2_ n3_; clear hb hbox hg) | ((with_reducible refine gate_dst (N := 3) rfl ?_); refine box_event ?hg (N := 3) ?hd (cs := #[.int .i64 a1_0, .string a1_1, .int .i64 a1_2, .int .i64 a1_3]) (t := 29) ?hr ?_; (case hd => rfl); (case hg => rfl); (case hr => first | (go_simp; done) | (go_simp; rfl)); intro gb142 hg w12 hbox hb; have n0_ := Aside0.mk (blk_below (g := gb141) (o := .cells #[.int .u8 a0_0, .string a0_1, .int .i64 a0_2, .int .i64 a0_3] 24 (0, 0)) (by (with_reducible repeat (first | refine blk_drewN ?_ _ | refine blk_drew ?_ | refine blk_alloc ?_ _)); exact BK141.out) hb); have n1_ := Aside0.mk (below_step (by repeat (first | (with_reducible first | exact HB.out | apply below_alloc | apply pw_below_drewN | apply below_drew1 | refine below_set ?_ GE141.out) | exact HB.out)) hb); have n2_ := Aside0.mk (hbox); have n3_ := Aside0.mk ((by rw [hg]; exact (below_size (by repeat (first | (with_reducible first | exact HB.out | apply below_alloc | apply pw_below_drewN | apply below_drew1 | refine below_set ?_ GE141.out) | exact HB.out))) : w.heap.size ≤ gb142)); have n4_ := Aside0.mk ((by rw [hg]; exact (below_size (by repeat (first | (with_reducible first | exact HB.out | apply below_alloc | apply pw_below_drewN | apply below_drew1 | refine below_set ?_ GE141.out) | exact HB.out))) : w.heap.size ≤ gb142)); have n5_ := Aside0.mk ((by rw [hg]; exact Nat.ne_of_lt (blk_lt (g := gb141) (o := .cells #[.int .u8 a0_0, .string a0_1, .int .i64 a0_2, .int .i64 a0_3] 24 (0, 0)) (by (with_reducible repeat (first | refine blk_drewN ?_ _ | refine blk_drew ?_ | refine blk_alloc ?_ _)); exact BK141.out)) : gb141 ≠ gb142)); have n6_ := Aside0.mk ((by rw [hg]; exact Nat.ne_of_gt (blk_lt (g := gb141) (o := .cells #[.int .u8 a0_0, .string a0_1, .int .i64 a0_2, .int .i64 a0_3] 24 (0, 0)) (by (with_reducible repeat (first | refine blk_drewN ?_ _ | refine blk_drew ?_ | refine blk_alloc ?_ _)); exact BK141.out)) : gb142 ≠ gb141)); clear BK141; clear HB; have BK141 := n0_; have HB := n1_; have BK142 := n2_; have GW142 := n3_; have GE142 := n4_; have NB141_142 := n5_; have NB142_141 := n6_; clear n0_ n1_ n2_ n3_ n4_ n5_ n6_; clear hb hbox hg; have hnb13 := NB141_142.out; have hnc13 := NB142_141.out; have hcz14_0 : w12.cell? ⟨gb141, 0, none⟩ = some (.int .u8 a0_0) := (blk_cell BK141.out 0).trans rfl; have hcz14_1 : w12.cell? ⟨gb141, 1, none⟩ = some (.string a0_1) := (blk_cell BK141.out 1).trans rfl; have hcz14_2 : w12.cell? ⟨gb141, 2, none⟩ = some (.int .i64 a0_2) := (blk_cell BK141.out 2).trans rfl; have hcz14_3 : w12.cell? ⟨gb141, 3, none⟩ = some (.int .i64 a0_3) := (blk_cell BK141.out 3).trans rfl; have hfz14_0 := blk_frozen BK141.out 0; have hfz14_1 := blk_frozen BK141.out 1; have hfz14_2 := blk_frozen BK141.out 2; have hfz14_3 := blk_frozen BK141.out 3; have hcz15_0 : w12.cell? ⟨gb142, 0, none⟩ = some (.int .i64 a1_0) := (blk_cell BK142.out 0).trans rfl; have hcz15_1 : w12.cell? ⟨gb142, 1, none⟩ = some (.string a1_1) := (blk_cell BK142.out 1).trans rfl; have hcz15_2 : w12.cell? ⟨gb142, 2, none⟩ = some (.int .i64 a1_2) := (blk_cell BK142.out 2).trans rfl; have hcz15_3 : w12.cell? ⟨gb142, 3, none⟩ = some (.int .i64 a1_3) := (blk_cell BK142.out 3).trans rfl; have hfz15_0 := blk_frozen BK142.out 0; have hfz15_1 := blk_frozen BK142.out 1; have hfz15_2 := blk_frozen BK142.out 2; have hfz15_3 := blk_frozen BK142.out 3))
    go_ret
    exact ⟨by first | rfl | (simp [errW_none, errW_some] <;> rfl) | (simp [*, errW_none, errW_some] <;> rfl), by repeat (first | (with_reducible first | exact HB.out | apply below_alloc | apply pw_below_drewN | apply below_drew1 | refine below_set ?_ GE141.out | refine below_set ?_ GE142.out) | exact HB.out)⟩
  ·
   rw [if_neg c4] at H
   have c4b0 : (a0_1.toList == a1_1.toList) = false := beq_eq_false_iff_ne.mpr c4
   have c4b1 : (a0_1.toList != a1_1.toList) = true := bne_iff_ne.mpr c4
   obtain rfl := Option.some.inj H
   go_enter Tryd.func18, Tryd.ntmps18
   go_wp2_with (first | ((with_reducible refine gate_dst (N := 2) rfl ?_); refine box_event ?hg (N := 2) ?hd (cs := #[.int .u8 a0_0, .string a0_1, .int .i64 a0_2, .int .i64 a0_3]) (t := 24) ?hr ?_; (case hd => rfl); (case hg => rfl); (case hr => first | (go_simp; done) | (go_simp; rfl)); intro gb141 hg w16 hbox hb; have n0_ := Aside0.mk (below_step (by repeat (first | (with_reducible first | exact HB.out | apply below_alloc | apply pw_below_drewN | apply below_drew1) | exact HB.out)) hb); have n1_ := Aside0.mk (hbox); have n2_ := Aside0.mk ((by rw [hg]; exact (below_size (by repeat (first | (with_reducible first | exact HB.out | apply below_alloc | apply pw_below_drewN | apply below_drew1) | exact HB.out))) : w.heap.size ≤ gb141)); have n3_ := Aside0.mk ((by rw [hg]; exact (below_size (by repeat (first | (with_reducible first | exact HB.out | apply below_alloc | apply pw_below_drewN | apply below_drew1) | exact HB.out))) : w.heap.size ≤ gb141)); clear HB; have HB := n0_; have BK141 := n1_; have GW141 := n2_; have GE141 := n3_; clear n0_ n1_ n2_ n3_; clear hb hbox hg) | ((with_reducible refine gate_dst (N := 3) rfl ?_); refine box_event ?hg (N := 3) ?hd (cs := #[.int .i64 a1_0, .string a1_1, .int .i64 a1_2, .int .i64 a1_3]) (t := 29) ?hr ?_; (case hd => rfl); (case hg => rfl); (case hr => first | (go_simp; done) | (go_simp; rfl)); intro gb142 hg w17 hbox hb; have n0_ := Aside0.mk (blk_below (g := gb141) (o := .cells #[.int .u8 a0_0, .string a0_1, .int .i64 a0_2, .int .i64 a0_3] 24 (0, 0)) (by (with_reducible repeat (first | refine blk_drewN ?_ _ | refine blk_drew ?_ | refine blk_alloc ?_ _)); exact BK141.out) hb); have n1_ := Aside0.mk (below_step (by repeat (first | (with_reducible first | exact HB.out | apply below_alloc | apply pw_below_drewN | apply below_drew1 | refine below_set ?_ GE141.out) | exact HB.out)) hb); have n2_ := Aside0.mk (hbox); have n3_ := Aside0.mk ((by rw [hg]; exact (below_size (by repeat (first | (with_reducible first | exact HB.out | apply below_alloc | apply pw_below_drewN | apply below_drew1 | refine below_set ?_ GE141.out) | exact HB.out))) : w.heap.size ≤ gb142)); have n4_ := Aside0.mk ((by rw [hg]; exact (below_size (by repeat (first | (with_reducible first | exact HB.out | apply below_alloc | apply pw_below_drewN | apply below_drew1 | refine below_set ?_ GE141.out) | exact HB.out))) : w.heap.size ≤ gb142)); have n5_ := Aside0.mk ((by rw [hg]; exact Nat.ne_of_lt (blk_lt (g := gb141) (o := .cells #[.int .u8 a0_0, .string a0_1, .int .i64 a0_2, .int .i64 a0_3] 24 (0, 0)) (by (with_reducible repeat (first | refine blk_drewN ?_ _ | refine blk_drew ?_ | refine blk_alloc ?_ _)); exact BK141.out)) : gb141 ≠ gb142)); have n6_ := Aside0.mk ((by rw [hg]; exact Nat.ne_of_gt (blk_lt (g := gb141) (o := .cells #[.int .u8 a0_0, .string a0_1, .int .i64 a0_2, .int .i64 a0_3] 24 (0, 0)) (by (with_reducible repeat (first | refine blk_drewN ?_ _ | refine blk_drew ?_ | refine blk_alloc ?_ _)); exact BK141.out)) : gb142 ≠ gb141)); clear BK141; clear HB; have BK141 := n0_; have HB := n1_; have BK142 := n2_; have GW142 := n3_; have GE142 := n4_; have NB141_142 := n5_; have NB142_141 := n6_; clear n0_ n1_ n2_ n3_ n4_ n5_ n6_; clear hb hbox hg; have hnb18 := NB141_142.out; have hnc18 := NB142_141.out; have hcz19_0 : w17.cell? ⟨gb141, 0, none⟩ = some (.int .u8 a0_0) := (blk_cell BK141.out 0).trans rfl; have hcz19_1 : w17.cell? ⟨gb141, 1, none⟩ = some (.string a0_1) := (blk_cell BK141.out 1).trans rfl; have hcz19_2 : w17.cell? ⟨gb141, 2, none⟩ = some (.int .i64 a0_2) := (blk_cell BK141.out 2).trans rfl; have hcz19_3 : w17.cell? ⟨gb141, 3, none⟩ = some (.int .i64 a0_3) := (blk_cell BK141.out 3).trans rfl; have hfz19_0 := blk_frozen BK141.out 0; have hfz19_1 := blk_frozen BK141.out 1; have hfz19_2 := blk_frozen BK141.out 2; have hfz19_3 := blk_frozen BK141.out 3; have hcz20_0 : w17.cell? ⟨gb142, 0, none⟩ = some (.int .i64 a1_0) := (blk_cell BK142.out 0).trans rfl; have hcz20_1 : w17.cell? ⟨gb142, 1, none⟩ = some (.string a1_1) := (blk_cell BK142.out 1).trans rfl; have hcz20_2 : w17.cell? ⟨gb142, 2, none⟩ = some (.int .i64 a1_2) := (blk_cell BK142.out 2).trans rfl; have hcz20_3 : w17.cell? ⟨gb142, 3, none⟩ = some (.int .i64 a1_3) := (blk_cell BK142.out 3).trans rfl; have hfz20_0 := blk_frozen BK142.out 0; have hfz20_1 := blk_frozen BK142.out 1; have hfz20_2 := blk_frozen BK142.out 2; have hfz20_3 := blk_frozen BK142.out 3))
   go_ret
   exact ⟨by first | rfl | (simp [errW_none, errW_some] <;> rfl) | (simp [*, errW_none, errW_some] <;> rfl), by repeat (first | (with_reducible first | exact HB.out | apply below_alloc | apply pw_below_drewN | apply below_drew1 | refine below_set ?_ GE141.out | refine below_set ?_ GE142.out) | exact HB.out)⟩
 ·
  rw [if_neg c3] at H
  have c3b0 : ((wrap64 (a0_0)) == a1_0) = false := beq_eq_false_iff_ne.mpr c3
  have c3b1 : ((wrap64 (a0_0)) != a1_0) = true := bne_iff_ne.mpr c3
  obtain rfl := Option.some.inj H
  go_enter Tryd.func18, Tryd.ntmps18
  go_wp2_with (first | ((with_reducible refine gate_dst (N := 2) rfl ?_); refine box_event ?hg (N := 2) ?hd (cs := #[.int .u8 a0_0, .string a0_1, .int .i64 a0_2, .int .i64 a0_3]) (t := 24) ?hr ?_; (case hd => rfl); (case hg => rfl); (case hr => first | (go_simp; done) | (go_simp; rfl)); intro gb141 hg w21 hbox hb; have n0_ := Aside0.mk (below_step (by repeat (first | (with_reducible first | exact HB.out | apply below_alloc | apply pw_below_drewN | apply below_drew1) | exact HB.out)) hb); have n1_ := Aside0.mk (hbox); have n2_ := Aside0.mk ((by rw [hg]; exact (below_size (by repeat (first | (with_reducible first | exact HB.out | apply below_alloc | apply pw_below_drewN | apply below_drew1) | exact HB.out))) : w.heap.size ≤ gb141)); have n3_ := Aside0.mk ((by rw [hg]; exact (below_size (by repeat (first | (with_reducible first | exact HB.out | apply below_alloc | apply pw_below_drewN | apply below_drew1) | exact HB.out))) : w.heap.size ≤ gb141)); clear HB; have HB := n0_; have BK141 := n1_; have GW141 := n2_; have GE141 := n3_; clear n0_ n1_ n2_ n3_; clear hb hbox hg) | ((with_reducible refine gate_dst (N := 3) rfl ?_); refine box_event ?hg (N := 3) ?hd (cs := #[.int .i64 a1_0, .string a1_1, .int .i64 a1_2, .int .i64 a1_3]) (t := 29) ?hr ?_; (case hd => rfl); (case hg => rfl); (case hr => first | (go_simp; done) | (go_simp; rfl)); intro gb142 hg w22 hbox hb; have n0_ := Aside0.mk (blk_below (g := gb141) (o := .cells #[.int .u8 a0_0, .string a0_1, .int .i64 a0_2, .int .i64 a0_3] 24 (0, 0)) (by (with_reducible repeat (first | refine blk_drewN ?_ _ | refine blk_drew ?_ | refine blk_alloc ?_ _)); exact BK141.out) hb); have n1_ := Aside0.mk (below_step (by repeat (first | (with_reducible first | exact HB.out | apply below_alloc | apply pw_below_drewN | apply below_drew1 | refine below_set ?_ GE141.out) | exact HB.out)) hb); have n2_ := Aside0.mk (hbox); have n3_ := Aside0.mk ((by rw [hg]; exact (below_size (by repeat (first | (with_reducible first | exact HB.out | apply below_alloc | apply pw_below_drewN | apply below_drew1 | refine below_set ?_ GE141.out) | exact HB.out))) : w.heap.size ≤ gb142)); have n4_ := Aside0.mk ((by rw [hg]; exact (below_size (by repeat (first | (with_reducible first | exact HB.out | apply below_alloc | apply pw_below_drewN | apply below_drew1 | refine below_set ?_ GE141.out) | exact HB.out))) : w.heap.size ≤ gb142)); have n5_ := Aside0.mk ((by rw [hg]; exact Nat.ne_of_lt (blk_lt (g := gb141) (o := .cells #[.int .u8 a0_0, .string a0_1, .int .i64 a0_2, .int .i64 a0_3] 24 (0, 0)) (by (with_reducible repeat (first | refine blk_drewN ?_ _ | refine blk_drew ?_ | refine blk_alloc ?_ _)); exact BK141.out)) : gb141 ≠ gb142)); have n6_ := Aside0.mk ((by rw [hg]; exact Nat.ne_of_gt (blk_lt (g := gb141) (o := .cells #[.int .u8 a0_0, .string a0_1, .int .i64 a0_2, .int .i64 a0_3] 24 (0, 0)) (by (with_reducible repeat (first | refine blk_drewN ?_ _ | refine blk_drew ?_ | refine blk_alloc ?_ _)); exact BK141.out)) : gb142 ≠ gb141)); clear BK141; clear HB; have BK141 := n0_; have HB := n1_; have BK142 := n2_; have GW142 := n3_; have GE142 := n4_; have NB141_142 := n5_; have NB142_141 := n6_; clear n0_ n1_ n2_ n3_ n4_ n5_ n6_; clear hb hbox hg; have hnb23 := NB141_142.out; have hnc23 := NB142_141.out; have hcz24_0 : w22.cell? ⟨gb141, 0, none⟩ = some (.int .u8 a0_0) := (blk_cell BK141.out 0).trans rfl; have hcz24_1 : w22.cell? ⟨gb141, 1, none⟩ = some (.string a0_1) := (blk_cell BK141.out 1).trans rfl; have hcz24_2 : w22.cell? ⟨gb141, 2, none⟩ = some (.int .i64 a0_2) := (blk_cell BK141.out 2).trans rfl; have hcz24_3 : w22.cell? ⟨gb141, 3, none⟩ = some (.int .i64 a0_3) := (blk_cell BK141.out 3).trans rfl; have hfz24_0 := blk_frozen BK141.out 0; have hfz24_1 := blk_frozen BK141.out 1; have hfz24_2 := blk_frozen BK141.out 2; have hfz24_3 := blk_frozen BK141.out 3; have hcz25_0 : w22.cell? ⟨gb142, 0, none⟩ = some (.int .i64 a1_0) := (blk_cell BK142.out 0).trans rfl; have hcz25_1 : w22.cell? ⟨gb142, 1, none⟩ = some (.string a1_1) := (blk_cell BK142.out 1).trans rfl; have hcz25_2 : w22.cell? ⟨gb142, 2, none⟩ = some (.int .i64 a1_2) := (blk_cell BK142.out 2).trans rfl; have hcz25_3 : w22.cell? ⟨gb142, 3, none⟩ = some (.int .i64 a1_3) := (blk_cell BK142.out 3).trans rfl; have hfz25_0 := blk_frozen BK142.out 0; have hfz25_1 := blk_frozen BK142.out 1; have hfz25_2 := blk_frozen BK142.out 2; have hfz25_3 := blk_frozen BK142.out 3))
  go_ret
  exact ⟨by first | rfl | (simp [errW_none, errW_some] <;> rfl) | (simp [*, errW_none, errW_some] <;> rfl), by repeat (first | (with_reducible first | exact HB.out | apply below_alloc | apply pw_below_drewN | apply below_drew1 | refine below_set ?_ GE141.out | refine below_set ?_ GE142.out) | exact HB.out)⟩

end Go.Proofs.YtgkcjefbagnkpaaDoor.PLex
