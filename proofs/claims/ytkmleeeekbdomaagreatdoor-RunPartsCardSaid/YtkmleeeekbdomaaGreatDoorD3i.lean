/-
  One operation of the abstract machine is right: rows made, appended to, written.
-/
import Derived.Test.YtkmleeeekbdomaaGreatDoorD3p
import Derived.Maps.AppendAt
set_option linter.unusedSectionVars false
set_option linter.unusedVariables false
set_option linter.unusedSimpArgs false
namespace Go.Den
open Go Go.RowKit
section
variable {P : Program} {gl : GT} {n0 : Nat} {o : Oper} {a : Act} {w : World} {G : Mem} {h : Hp} {E : EnvC} {s : Nat → SV} {d : Nat} {cs : List Cnd} {v : SV} {e : List (Nat × Blk)}
theorem reps_at {I : Nat → Prop} {t : Ty} : ∀ {ys : List t.den} {A : Addr}, (∀ (j : Nat) (x : t.den), ys[j]? = some x → ∃ d, K w I t x d ∧ CellsAt w (A.add (j * t.sz)) d) → ∃ news, Reps (K w I t) ys news ∧ CellsAt w A news
  | [], A, _ => ⟨[], rfl, fun i u hu => by cases hu⟩
  | y :: ys, A, hall => by
    obtain ⟨d0, hK, hA⟩ := hall 0 y rfl
    rw [Nat.zero_mul, add_zero] at hA
    obtain ⟨news, hR, hN⟩ := reps_at (ys := ys) (A := A.add t.sz) (fun j x hx => by
      obtain ⟨d, h1, h2⟩ := hall (j + 1) x (by simpa using hx)
      refine ⟨d, h1, ?_⟩
      rw [add_add]
      rw [Nat.add_mul, Nat.one_mul, Nat.add_comm] at h2
      exact h2)
    exact ⟨d0 ++ news, ⟨d0, news, rfl, hK, hR⟩, hA.app (by rw [K_len hK]; exact hN)⟩
theorem listOf_ok (hm : MemOK gl n0 w G h) {t : Ty} {c : CV} {u : Value} {ys : List t.den} (hx : CellRep w G h c u) (hl : listOf h t c = some ys) :
    ∃ A cp news, u = .slice A (List.length ys) cp ∧ List.length ys ≤ maxLen ∧ Reps (K w G.I t) ys news ∧ ((A = none ∧ ys = []) ∨ ∃ B, A = some B ∧ CellsAt w B news) := by
  unfold listOf at hl
  obtain ⟨q, hq, hl⟩ := Option.bind_eq_some_iff.1 hl
  cases hl
  cases c <;> simp only [toTy] at hq <;> try cases hq
  case l t' xs =>
    obtain ⟨y, hy, hq⟩ := Option.bind_eq_some_iff.1 hq
    cases hq
    obtain ⟨he, hxy⟩ := castTo_eq hy
    cases he
    obtain rfl := eq_of_heq hxy
    obtain ⟨A, c, hv, h1, h2, h3⟩ := hx
    simp only [List.cons.injEq, and_true] at hv
    rcases h3 with h3 | ⟨B, rfl, hI, hall⟩
    · refine ⟨A, c, [], hv, Nat.le_trans h1 h2, by show Reps _ xs []; rw [h3]; rfl, ?_⟩
      cases A with
      | none => exact .inl ⟨rfl, h3⟩
      | some B => exact .inr ⟨B, rfl, fun i u hu => by cases hu⟩
    · obtain ⟨news, hR, hN⟩ := reps_at hall
      exact ⟨_, c, news, hv, Nat.le_trans h1 h2, hR, .inr ⟨B, rfl, hN⟩⟩
  case refl.d t' z =>
    obtain ⟨y, hy, hq⟩ := Option.bind_eq_some_iff.1 hq
    cases hq
    obtain ⟨he, hxy⟩ := castTo_eq hy
    cases he
    obtain rfl := eq_of_heq hxy
    obtain ⟨A, c, hv, h1, h2, h3⟩ := K_rl_list (show K w G.I (.rl t) z [u] from hx)
    simp only [List.cons.injEq, and_true] at hv
    rcases h3 with h3 | ⟨B, rfl, hI, hall⟩
    · refine ⟨A, c, [], hv, Nat.le_trans h1 h2, by show Reps _ z.1 []; rw [h3]; rfl, ?_⟩
      cases A with
      | none => exact .inl ⟨rfl, h3⟩
      | some B => exact .inr ⟨B, rfl, fun i u hu => by cases hu⟩
    · obtain ⟨news, hR, hN⟩ := reps_at hall
      exact ⟨_, c, news, hv, Nat.le_trans h1 h2, hR, .inr ⟨B, rfl, hN⟩⟩
  case refl.nl.refl =>
    simp only [CellRep] at hx
    exact ⟨none, 0, [], hx, by simp, rfl, .inl ⟨rfl, rfl⟩⟩
  case refl.own id ver =>
    split at hq
    · rename_i vv f e u' xs hi
      obtain ⟨hb, hq⟩ := bifs hq
      obtain ⟨y, hy, hq⟩ := Option.bind_eq_some_iff.1 hq
      cases hq
      obtain ⟨he, hxy⟩ := castTo_eq hy
      cases he
      obtain rfl := eq_of_heq hxy
      obtain ⟨_, cur, fro, e2, t2, xs2, hh, hle, hv⟩ := hx
      rw [hi] at hh; cases hh
      have hv := hv (nbeq hb).symm
      obtain ⟨inner, ho, hr⟩ := hm.rep _ _ hi
      have hml : List.length xs ≤ maxLen := by
        rcases ho.2 with ⟨_, hn⟩ | ⟨g, cap, cur, _, _, hg, hle, hcm, _⟩
        · omega
        · omega
      rcases ho.2 with ⟨hvn, hn⟩ | ⟨g, cap, cur, hvs, _, hg, hle2, hcm, hcs, htake⟩
      · have hxs : xs = [] := List.eq_nil_of_length_eq_zero hn
        refine ⟨none, 0, inner, by rw [hv, hvn, hn], hml, hr, .inl ⟨rfl, hxs⟩⟩
      · refine ⟨some ⟨g, 0, none⟩, cap, inner, by rw [hv, hvs], hml, hr, .inr ⟨_, rfl, fun i u hu => ?_⟩⟩
        exact ho.cells (by rw [hvs]; rfl) i u hu
    · cases hq
theorem ownBlk {w : World} {base : Nat} {e : TypeId} {size n : Nat} {v : Value} {xs : List Value} (ho : w.ownsRow base e size v n xs) : v.ownBlock = blkOf v := by
  rcases ho.2 with ⟨rfl, _⟩ | ⟨g, cap, cur, rfl, _⟩ <;> rfl
theorem op_append (hE : EnvOK P gl E) (hm : MemOK gl n0 w G h) (hs : ∀ t, SVRep w G h (s t) (a.tmps.getD t undef)) {as : Array Operand} {tys : Array TypeId} (ho : o.op = .call { callee := .builtin .append, args := as, argTypes := tys }) (h1 : op1 E d (evO E s) h (.call { callee := .builtin .append, args := as, argTypes := tys }) = some (.val cs v e)) (hc : ∀ c ∈ cs, c.p) : OpOK P gl n0 o a w G h v (effs h e) := by
  simp only [op1] at h1
  have hev := evO_ok hE hm hs
  split at h1
  · rename_i x0 x1 hax
    have hax' : as = #[x0, x1] := by rw [← Array.toArray_toList (xs := as), hax]
    subst hax'
    split at h1
    · rename_i k n hc0 hc1
      have hx0 := hev x0
      have hx1 := hev x1
      rw [hc0] at hx0; rw [hc1] at hx1
      exact op_appendZ hE hm ho hx0 hx1 h1 hc
    · rename_i c0 c1 _ hc0 hc1
      have hx0 := hev x0
      have hx1 := hev x1
      rw [hc0] at hx0; rw [hc1] at hx1
      unfold append1 at h1
      split at h1
      · rename_i T T' hty
        obtain ⟨hTT, h1'⟩ := bifs h1
        clear h1
        have h1 := h1'
        clear h1'
        obtain rfl := nbeq hTT
        have hat' : tys = #[T, T] := by rw [← Array.toArray_toList (xs := tys), hty]
        subst hat'
        split at h1
        · rename_i el hkd
          obtain ⟨ei, hei, h1⟩ := Option.bind_eq_some_iff.1 h1
          obtain ⟨t, hty', h1⟩ := Option.bind_eq_some_iff.1 h1
          obtain ⟨ys, hys, h1⟩ := Option.bind_eq_some_iff.1 h1
          have hT : P.underlying T = some (.slice el) := by
            rcases kdAt_ok hE T with ⟨_, h2⟩ | h2
            · rw [hkd] at h2; exact h2
            · rw [hkd] at h2; cases h2
          have hTe := hE.tt _ _ hei
          obtain ⟨x, z, hx, hsz, hby, hz, _⟩ := hTe.info
          obtain ⟨hzc, htsz, _⟩ := hTe.ty t hty'
          have hzs : z.cells.size = t.sz := by
            rw [hx] at hzc
            simp only [Option.bind_some, hz, Option.map_some, Option.some.injEq] at hzc
            have := congrArg List.length hzc
            rw [zcells_len] at this
            simpa using this
          obtain ⟨A, cp, news, hu, hml, hR, hA⟩ := listOf_ok hm hx1 hys
          have hnl : news.length = List.length ys * t.sz := Reps.len (fun _ _ h => K_len h) hR
          have hone : ∀ u ∈ news, u.oneCell' = true := Reps.mem (fun _ _ h => K_one h) hR
          have fin : ∀ r w', (Builtin.append_ #[T, T] o.type #[a.eval x0, a.eval x1]).run P w = .ok r w' → (execOp a.eval o).run P w = .ok (.value r) w' := fun r w' hn => by
            obtain ⟨dst, op, ty, pos, af, gd⟩ := o
            simp only at ho hn
            subst ho
            simp only [execOp, resolve, builtin, invoke, pure_bind, List.map_toArray, List.map_cons, List.map_nil, Sem.run_bind]
            simp [hn, Result.andThen]
          -- the append itself, onto a row of the call's own
          have app : ∀ (base : Nat) (u0 : Value) (xs : List t.den) (inner : List Value), a.eval x0 = u0 → base ≤ w.heap.size → w.ownsRow base el t.sz u0 (List.length xs) inner → List.length xs + List.length ys ≤ maxEl ei.bytes →
              ∃ v' w', (execOp a.eval o).run P w = .ok (.value v') w' ∧ w'.ownsRow base el t.sz v' (List.length (xs ++ ys)) (inner ++ news) ∧ w.grownBy w' u0.ownBlock ∧ (v'.ownBlock = u0.ownBlock ∨ v'.ownBlock = some w.heap.size) := by
            intro base u0 xs inner hu0 hbase hown hlen
            rcases hA with ⟨rfl, hye⟩ | ⟨B, rfl, hB⟩
            · subst hye
              simp only [Reps] at hR
              subst hR
              refine ⟨u0, w, fin _ _ ?_, by simpa using hown, ⟨rfl, rfl, rfl, Nat.le_refl _, fun _ _ _ => rfl⟩, .inl rfl⟩
              rw [hu0, hu]
              rcases hown.2 with ⟨rfl, hn⟩ | ⟨g, cap, cur, rfl, _, _, hnc, _⟩
              · simp [Builtin.append_, run_underlying hT, sizeOf, typeInfo, hx, Builtin.lenOf, Builtin.firstCells]
              · simp [Builtin.append_, run_underlying hT, sizeOf, typeInfo, hx, Builtin.lenOf, Builtin.firstCells, hnc, storeCells]
            · obtain ⟨v', w', hr, hown', hg, _, hat⟩ := run_append_own_at (P := P) w base T o.type el x z t.sz ei.bytes hT hx hz (hsz.trans htsz.symm) hby hzs (Ty.sz_pos t) u0 _ inner hown B (List.length ys) cp news hnl hB hone (maxEl_len hlen) (maxEl_ok hlen) hbase
              exact ⟨v', w', fin _ _ (by rw [hu0, hu]; exact hr), by rw [List.length_append]; exact hown', hg, hat⟩
          rcases c0 with _|_|_|_|_|_|_|⟨rid, ver⟩|_|_|_|_|_|_|_ <;> simp only at h1 <;> try cases h1
          · obtain ⟨hf, h1⟩ := bifs h1
            cases h1
            have hfr := fresh_ok hf
            have h2 := hc _ List.mem_cons_self
            simp only at h2
            simp only [SVRep, CellRep] at hx0
            obtain ⟨v', w', hr, hown', hg, hat⟩ := app w.heap.size (.slice none 0 0) [] [] hx0 (Nat.le_refl _) (World.ownsRow_nil _ _ _ _) (by simpa using h2)
            obtain ⟨m1, E1, B1, S1⟩ := mem_row (row := none) (ver := 0) hm (fun C hC => by rw [hfr] at hC; cases hC) (fun _ => rfl) hg (.inl hown') (Reps.app (R := K w G.I t) (xs := []) rfl hR)
            exact opOK_at hr m1 E1 B1 S1
          · split at h1
            · rename_i vv e' t' xs hid
              obtain ⟨hb, h1⟩ := bifs h1
              simp only [Bool.and_eq_true] at hb
              obtain ⟨xs', hxs', h1⟩ := Option.bind_eq_some_iff.1 h1
              cases h1
              obtain ⟨he, hxy⟩ := castTo_eq hxs'
              cases he
              obtain rfl := eq_of_heq hxy
              obtain rfl := nbeq hb.2
              obtain rfl := nbeq hb.1
              have h2 := hc _ List.mem_cons_self
              simp only at h2
              obtain ⟨_, cur, fro, e2, t2, xs2, hh, hle, hv⟩ := hx0
              rw [hid] at hh; cases hh
              have hv := hv rfl
              obtain ⟨inner, hown, hre⟩ := hm.rep _ _ hid
              obtain ⟨v', w', hr, hown', hg, hat⟩ := app 0 _ xs inner hv (Nat.zero_le _) hown h2
              have hob := ownBlk hown
              have hob' := ownBlk hown'
              rw [hob] at hg hat
              rw [hob'] at hat
              obtain ⟨m1, E1, B1, S1⟩ := mem_row (row := blkOf (G.μ rid)) (ver := vv + 1) hm (fun C hC => by rw [hid] at hC; cases hC; exact ⟨vv, _, _, rfl, Nat.lt_succ_self _, rfl⟩) (fun hn => by rw [hid] at hn; cases hn) hg
                (.inr ⟨⟨_, hid⟩, hown', hat.imp (fun h => h) (fun h => ⟨_, h, Nat.le_refl _⟩)⟩) (Reps.app (R := K w G.I t) hre hR)
              exact opOK_at hr m1 E1 B1 S1
            · cases h1
        · cases h1
      · cases h1
    · cases h1
  · cases h1
end
end Go.Den
