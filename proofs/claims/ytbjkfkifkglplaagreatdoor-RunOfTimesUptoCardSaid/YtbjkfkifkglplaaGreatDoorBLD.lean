/- Part of the proof: BLD. -/
import Derived.Test.YtbjkfkifkglplaaGreatDoorShelf
import Derived.Test.YtbjkfkifkglplaaGreatDoorD4f
set_option linter.unusedSectionVars false
set_option linter.unusedVariables false
set_option linter.unusedSimpArgs false
namespace Go.Proofs.YtbjkfkifkglplaaGreatDoor.Q
open Go Go.Den Go.RowKit Go.Proofs Go.Shelf
set_option maxHeartbeats 1000000
set_option maxRecDepth 100000
def BLDC : BldC := ⟨[(157, 0), (159, 4)], 5, 217, 116⟩
theorem bld_used (b : Nat) (w : World) (h0 : w.cell? ⟨b, 0, none⟩ = some (.pointer (some ⟨b, 0, none⟩))) :
    Calls Tryz.prog 266 #[.pointer (some ⟨b, 0, none⟩)] w fun e w' => e = .returned (.tuple #[]) ∧ w' = w := by
  obtain ⟨j, hj, _⟩ := Option.map_eq_some_iff.1 Tryz.Builder_Extra_169.sizeBuilder
  go_enter Tryz.func266, Tryz.ntmps266
  go_wp2
  rw [Lib.run_neq_ptr_same w _ Tryz.underlying154 hj]
  go_wp2
  go_end0
  exact ⟨rfl, rfl⟩
theorem bld_fresh (T m : Nat) (hm : 0 < m) (hlies : liesAt Tryz.prog Tryz.prog.depth T (m / Tryz.prog.cellsOf T) 0 157 1 = true) (b : Nat) (w : World) (h0 : w.cell? ⟨b, 0, none⟩ = some (.pointer none)) (hsh : w.shape? b = some (T, m)) (hfz : w.frozen? ⟨b, 0, none⟩ = false) :
    Calls Tryz.prog 266 #[.pointer (some ⟨b, 0, none⟩)] w fun e w' => e = .returned (.tuple #[]) ∧ w' = w.setCell ⟨b, 0, none⟩ (.pointer (some ⟨b, 0, none⟩)) := by
  obtain ⟨j, hj, hjs⟩ := Option.map_eq_some_iff.1 Tryz.Builder_Extra_169.sizeBuilder
  go_enter Tryz.func266, Tryz.ntmps266
  go_wp2
  rw [Lib.run_to_unsafe w ⟨b, 0, none⟩ Tryz.underlying154 Tryz.underlying338 hj (by rw [hjs]; decide) hsh hm]
  simp only [Result.andThen]
  rw [Oper.upon_value]
  go_wp2
  rw [run_callFunc_extern Tryz.func305 (by kernel_rfl) (by kernel_rfl) (by kernel_rfl) (e := Extern.AbiNoEscape.same) (by kernel_rfl)]
  rw [Lib.run_noEscape]
  simp only [Result.andThen]
  rw [Oper.upon_value]
  go_wp2
  rw [Lib.run_from_unsafe w ⟨b, 0, none⟩ Tryz.underlying338 Tryz.underlying154 hj hsh hlies]
  simp only [Result.andThen]
  rw [Oper.upon_value]
  go_wp2
  go_end0
  exact ⟨rfl, rfl⟩
/-- copyCheck: behind it the box holds its own address; nothing else is touched. -/
theorem bld_check (T : Nat) (rest : List Value) (hlies : liesAt Tryz.prog Tryz.prog.depth T ((rest.length + 2) / Tryz.prog.cellsOf T) 0 157 1 = true) (b : Nat) (c v : Value) (w : World) (hb : w.heap[b]? = some (.cells (c :: v :: rest).toArray T (0, 0))) (hc : c = .pointer none ∨ c = .pointer (some ⟨b, 0, none⟩)) :
    Calls Tryz.prog 266 #[.pointer (some ⟨b, 0, none⟩)] w fun e w' => e = .returned (.tuple #[]) ∧ w'.heap[b]? = some (.cells (.pointer (some ⟨b, 0, none⟩) :: v :: rest).toArray T (0, 0)) ∧ w'.heap.size = w.heap.size ∧ (∀ k, k ≠ b → w'.heap[k]? = w.heap[k]?) ∧ Below 0 w w' := by
  rcases hc with rfl | rfl
  · refine (bld_fresh T (rest.length + 2) (Nat.succ_pos _) hlies b w (by rw [Lib.cell_of_heap hb]; rfl) (by simp [World.shape?, hb]) (Lib.frozen_of_heap hb 0)).mono ?_
    rintro e w' ⟨rfl, rfl⟩
    have hlt := (Array.getElem?_eq_some_iff.1 hb).1
    refine ⟨rfl, ?_, ?_, fun k hk => ?_, (Below.refl 0 w).setCell (p := ⟨b, 0, none⟩) (Nat.zero_le _) _⟩
    · simp [World.setCell, Array.getElem?_modify, hb]
    · simp [World.setCell]
    · simp only [World.setCell, Array.getElem?_modify, if_neg (fun e => hk e.symm : ¬ b = k)]
  · refine (bld_used b w (by rw [Lib.cell_of_heap hb]; rfl)).mono ?_
    rintro e w' ⟨rfl, rfl⟩
    exact ⟨rfl, hb, rfl, fun _ _ => rfl, Below.refl 0 _⟩
theorem bld_own {v : Value} {n : Nat} {inner : List Value} {w : World} (h : w.ownsRow 0 5 1 v n inner) : ∃ ao cap, v = .slice ao n cap := by
  rcases h.2 with ⟨hv, h0⟩ | ⟨g, cap, cur, hv, _⟩
  · exact ⟨none, 0, by rw [hv, h0]⟩
  · exact ⟨_, _, hv⟩
theorem bld_moved {v : Value} {n : Nat} {inner : List Value} {w w' : World} (h : w.ownsRow 0 5 1 v n inner) (hk : ∀ k, blkOf v = some k → w'.heap[k]? = w.heap[k]?) : w'.ownsRow 0 5 1 v n inner := by
  refine ⟨h.1, h.2.imp id ?_⟩
  rintro ⟨g, cap, cur, h1, h2, h3, r⟩
  exact ⟨g, cap, cur, h1, h2, (hk g (by rw [h1]; rfl)).trans h3, r⟩
theorem blkOf_own {v : Value} {n : Nat} {inner : List Value} {w : World} (h : w.ownsRow 0 5 1 v n inner) : v.ownBlock = blkOf v := by
  rcases h.2 with ⟨hv, h0⟩ | ⟨g, cap, cur, hv, _⟩ <;> rw [hv] <;> rfl
theorem strCells_bytes (s : ByteArray) : Lib.strCells s = (bytesOf s).map (Value.int .u8) := by
  simp [Lib.strCells, bytesOf]
theorem bld_app (w : World) (i : TypeInfo) (hi : Tryz.prog.info? 5 = some i) (hz : i.zero = some (.int .u8 0)) (hsize : i.size = 1) (hby : i.bytes = 1) (ty : TypeId) (v : Value) (n : Nat) (xs : List Value) (hown : w.ownsRow 0 5 1 v n xs) (s : ByteArray) (hlen : n + s.size ≤ 140737488355328) :
    ∃ v' w', (Builtin.append_ #[155, 9] ty #[v, .string s]).run Tryz.prog w = .ok v' w' ∧ w'.ownsRow 0 5 1 v' (n + s.size) (xs ++ Lib.strCells s) ∧ w.grownBy w' v.ownBlock ∧ (blkOf v' = none ∨ blkOf v' = blkOf v ∨ ∃ g, blkOf v' = some g ∧ w.heap.size ≤ g) := by
  have h63 : n + s.size ≤ maxLen := Nat.le_trans hlen (by decide)
  have hxl : xs.length = n := by simpa using hown.1
  have UBS : Tryz.prog.underlying 155 = some (.slice 5) := Tryz.underlying155
  have UST : Tryz.prog.underlying 9 = some .string := Tryz.underlying9
  obtain ⟨v', w', hr, h2, h3, h4⟩ := Lib.run_append_own_string (P := Tryz.prog) w 0 155 9 ty 5 i UBS UST hi hz hsize hby v n xs hown s h63 hlen (Nat.zero_le _)
  refine ⟨v', w', hr, h2, h3, ?_⟩
  rcases hown.2 with ⟨rfl, rfl⟩ | ⟨g, cap, cur, rfl, hbg, hg, hnc, hcm, hcs, htake⟩
  · have hx : xs = [] := List.eq_nil_of_length_eq_zero hxl
    subst hx
    obtain ⟨v2, w2, hr2, h22, h32, h42⟩ := Lib.run_append_own_string (P := Tryz.prog) w w.heap.size 155 9 ty 5 i UBS UST hi hz hsize hby (.slice none 0 0) 0 [] (World.ownsRow_nil w _ 5 1) s h63 hlen (Nat.le_refl _)
    rw [hr] at hr2
    cases hr2
    rcases h22.2 with ⟨rfl, _⟩ | ⟨g, cap, cur, rfl, hg, _⟩
    · exact .inl rfl
    · exact .inr (.inr ⟨g, rfl, hg⟩)
  · by_cases hroom : n + s.size ≤ cap
    · have hr2 := Lib.run_append_room_string (P := Tryz.prog) w 155 9 ty 5 i UBS UST hi hsize g n cap cur hg s hroom (by omega)
      rw [hr] at hr2
      cases hr2
      exact .inr (.inl rfl)
    · have holds : ∀ j u, xs[j]? = some u → w.cell? ((⟨g, 0, none⟩ : Addr).add j) = some u := hown.cells (g := g) rfl
      have hr2 := Lib.run_append_grow_string (P := Tryz.prog) w 155 9 ty 5 i (.int .u8 0) UBS UST hi hz ⟨g, 0, none⟩ n cap xs (by rw [hsize]; simpa using hxl) holds s (by omega) (by unfold maxLen at h63; omega) (by rw [hby]; exact growslice_fits (by omega) (by omega))
      rw [hr] at hr2
      cases hr2
      exact .inr (.inr ⟨_, rfl, Nat.le_refl _⟩)
theorem bld_wp {ops : Array Oper} {rest : List Oper} {o : Oper} {a : Act} {w : World} {Q : Exit → Act → World → Prop} (hgd : o.guard = none) (sl x : Operand)
    (ho : o.op = .call { callee := .builtin .append, args := #[sl, x], argTypes := #[155, 9] })
    (i : TypeInfo) (hi : Tryz.prog.info? 5 = some i) (hz : i.zero = some (.int .u8 0)) (hsize : i.size = 1) (hby : i.bytes = 1)
    (v : Value) (n : Nat) (xs : List Value) (hs : a.eval sl = v) (hown : w.ownsRow 0 5 1 v n xs) (s : ByteArray) (hx : a.eval x = .string s) (hlen : n + s.size ≤ 140737488355328)
    (h : ∀ v' w', w'.ownsRow 0 5 1 v' (n + s.size) (xs ++ Lib.strCells s) → w.grownBy w' v.ownBlock → (blkOf v' = none ∨ blkOf v' = blkOf v ∨ ∃ g, blkOf v' = some g ∧ w.heap.size ≤ g) → wpList Tryz.prog ops Q rest (a.put o.dst v') w') : wpList Tryz.prog ops Q (o :: rest) a w := by
  refine wpList_plain hgd fun K hK => ?_
  obtain ⟨v', w', hr, h2, h3, h4⟩ := bld_app w i hi hz hsize hby o.type v n xs hown s hlen
  unfold Oper.wp execOp
  simp only [ho, resolve, invoke, builtin, Sem.run_bind, Sem.run_pure, Result.andThen_ok, List.map_toArray, List.map_cons, List.map_nil, hs, hx, hr]
  exact hK _ _ (h v' w' h2 h3 h4)
theorem bld_write (T : Nat) (rest : List Value) (hlies : liesAt Tryz.prog Tryz.prog.depth T ((rest.length + 2) / Tryz.prog.cellsOf T) 0 157 1 = true) (w : World) (b : Nat) (c v : Value) (n : Nat) (inner : List Value) (s : ByteArray) (hb : w.heap[b]? = some (.cells (c :: v :: rest).toArray T (0, 0))) (hc : c = .pointer none ∨ c = .pointer (some ⟨b, 0, none⟩)) (ho : w.ownsRow 0 5 1 v n inner) (hne : blkOf v ≠ some b) (hlen : n + s.size ≤ 140737488355328) :
    Calls Tryz.prog 217 #[.pointer (some ⟨b, 0, none⟩), .string s] w fun e w' => ∃ u v', e = .returned u ∧ w'.heap[b]? = some (.cells (.pointer (some ⟨b, 0, none⟩) :: v' :: rest).toArray T (0, 0)) ∧ w'.ownsRow 0 5 1 v' (n + s.size) (inner ++ (bytesOf s).map (Value.int .u8)) ∧ (blkOf v' = none ∨ blkOf v' = blkOf v ∨ ∃ g, blkOf v' = some g ∧ w.heap.size ≤ g) ∧ (∀ k, k < w.heap.size → k ≠ b → blkOf v ≠ some k → w'.heap[k]? = w.heap[k]?) ∧ Below 0 w w' := by
  have X := Tryz.Builder_Extra_169
  obtain ⟨i0, hi, hz0, hz1, hz2⟩ := info_parts X.infoByte
  have eCK : ∀ args w, (callFunc 266 args).run Tryz.prog w = .ok (.enter 266 args) w := enters_of Tryz.func266 (by kernel_rfl) rfl
  have hlt := (Array.getElem?_eq_some_iff.1 hb).1
  go_enter Tryz.func217, Tryz.ntmps217
  go_wp2_with (go_at_fn 266; refine (bld_check T rest hlies b c v _ hb hc).mono ?_)
  rintro e w1 ⟨rfl, h1, hs1, hk1, hb1⟩
  have hown : w1.ownsRow 0 5 1 v n inner := bld_moved ho fun k hk => hk1 k fun e => hne (hk.trans (by rw [e]))
  have c0 : w1.cell? ⟨b, 0, none⟩ = some (.pointer (some ⟨b, 0, none⟩)) := by rw [Lib.cell_of_heap h1]; rfl
  have c1 : w1.cell? ⟨b, 1, none⟩ = some v := by rw [Lib.cell_of_heap h1]; rfl
  go_wp2_with (at_builtin; refine bld_wp rfl _ _ rfl i0 hi hz0 hz1 hz2 _ _ _ rfl hown s rfl hlen ?_)
  intro v' w2 hown' hgrow hnew
  have hlt1 : b < w1.heap.size := by omega
  have hb2 : w2.heap[b]? = some (.cells (.pointer (some ⟨b, 0, none⟩) :: v :: rest).toArray T (0, 0)) := by
    rw [hgrow.block b hlt1 (by rw [blkOf_own hown]; exact fun e => hne e.symm)]
    exact h1
  have d0 : w2.cell? ⟨b, 0, none⟩ = some (.pointer (some ⟨b, 0, none⟩)) := by rw [Lib.cell_of_heap hb2]; rfl
  have d1 : w2.cell? ⟨b, 1, none⟩ = some v := by rw [Lib.cell_of_heap hb2]; rfl
  have f1 : w2.frozen? ⟨b, 1, none⟩ = false := Lib.frozen_of_heap hb2 1
  obtain ⟨ao, cap, rfl⟩ := bld_own hown'
  go_wp2
  go_ret2
  have hne' : blkOf (.slice ao (n + s.size) cap) ≠ some b := by
    rcases hnew with h | h | ⟨g, h, hg⟩
    · rw [h]; exact fun e => nomatch e
    · rw [h]; exact hne
    · rw [h]; intro e; cases e; omega
  refine ⟨_, .slice ao (n + s.size) cap, rfl, ?_, ?_, ?_, fun k h1 h2 h3 => ?_, (hb1.grown hgrow (by have := hb1.size; omega) (fun k hk => (hown.lt k hk).1)).setCell (p := ⟨b, 1, none⟩) (Nat.zero_le _) _⟩
  · simp [World.setCell, Array.getElem?_modify, hb2]
  · rw [← strCells_bytes]
    exact bld_moved hown' fun k hk => by
      simp only [World.setCell, Array.getElem?_modify, if_neg (fun e => hne' (by rw [hk, e]) : ¬ b = k)]
  · rcases hnew with h | h | ⟨g, h, hg⟩
    · exact .inl h
    · exact .inr (.inl h)
    · exact .inr (.inr ⟨g, h, by omega⟩)
  · simp only [World.setCell, Array.getElem?_modify, if_neg (fun e => h2 e.symm : ¬ b = k)]
    rw [hgrow.block k (by omega) (by rw [blkOf_own hown]; exact fun e => h3 e.symm)]
    exact hk1 k h2
/-- String, at whatever buffer. -/
theorem bld_str (T : Nat) (rest : List Value) (w : World) (b : Nat) (c v : Value) (l : List UInt8) (hb : w.heap[b]? = some (.cells (c :: v :: rest).toArray T (0, 0))) (hown : w.ownsRow 0 5 1 v l.length (Lib.byteCells l)) :
    Calls Tryz.prog 116 #[.pointer (some ⟨b, 0, none⟩)] w fun e w' => e = .returned (.string ⟨l.toArray⟩) ∧ (∀ k, k < w.heap.size → blkOf v ≠ some k → w'.heap[k]? = w.heap[k]?) ∧ Below 0 w w' := by
  have X := Tryz.Builder_Extra_169
  have hlt := (Array.getElem?_eq_some_iff.1 hb).1
  have hbd : w.drew.heap[b]? = some (.cells (c :: v :: rest).toArray T (0, 0)) := hb
  have c1 : w.drew.cell? ⟨b, 1, none⟩ = some v := by rw [Lib.cell_of_heap hbd]; rfl
  have hUN : ∀ W q, (Builtin.unsafeString_ #[240, 3] 9 #[.pointer q, .int .i64 0]).run Tryz.prog W = .ok (.string .empty) W := fun W q => Lib.run_unsafeString_none W _ _ _ q
  rcases hown.2 with ⟨rfl, hz⟩ | ⟨g, cap, cur, rfl, hbg, hg, hnc, hcm, hcs, htake⟩
  · have hl : l = [] := List.eq_nil_of_length_eq_zero hz
    subst hl
    have hSD : (Builtin.unsafeSliceData_ #[155] 240 #[.slice none 0 0]).run Tryz.prog w.drew = .ok (.pointer none) w.drew := rfl
    go_enter Tryz.func116, Tryz.ntmps116
    go_wp2
    go_region
    all_goals (go_wp2; go_ret; exact ⟨rfl, fun _ _ _ => rfl, Below.drew (Below.refl 0 w)⟩)
  · have hgd : w.drew.heap[g]? = some (.cells cur 5 (0, 0)) := hg
    by_cases h0 : l = []
    · subst h0
      by_cases hc0 : cap = 0
      · subst hc0
        have hSD : (Builtin.unsafeSliceData_ #[155] 240 #[.slice (some ⟨g, 0, none⟩) 0 0]).run Tryz.prog w.drew = .ok (.pointer (some ⟨w.drew.heap.size, 0, none⟩)) (w.drew.alloc (.view ⟨g, 0, none⟩ 5)) :=
          Lib.run_unsafeSliceData_zero w.drew _ _ 5 Tryz.underlying240 ⟨g, 0, none⟩ 0 (5, cur.size) (by simp [World.shape?, hgd])
        have c2 : (w.drew.alloc (.view ⟨g, 0, none⟩ 5)).cell? ⟨b, 1, none⟩ = some (.slice (some ⟨g, 0, none⟩) 0 0) := by
          have : (w.drew.alloc (.view ⟨g, 0, none⟩ 5)).heap[b]? = _ := (Lib.alloc_old w.drew _ b hlt).trans hb
          rw [Lib.cell_of_heap this]; rfl
        have c3 : (w.alloc (.view ⟨g, 0, none⟩ 5)).drew.cell? ⟨b, 1, none⟩ = some (.slice (some ⟨g, 0, none⟩) 0 0) := c2
        have c0 : w.cell? ⟨b, 1, none⟩ = some (.slice (some ⟨g, 0, none⟩) 0 0) := c1
        go_enter Tryz.func116, Tryz.ntmps116
        go_wp2
        go_region
        all_goals (go_wp2; go_ret; exact ⟨rfl, fun k hk _ => Lib.alloc_old w.drew _ k hk, (Below.drew (Below.refl 0 w)).alloc (Nat.zero_le _) _⟩)
      · have hSD : (Builtin.unsafeSliceData_ #[155] 240 #[.slice (some ⟨g, 0, none⟩) 0 cap]).run Tryz.prog w.drew = .ok (.pointer (some ⟨g, 0, none⟩)) w.drew :=
          Lib.run_unsafeSliceData_row _ _ _ _ _ _ hc0
        have c0 : w.drew.cell? ⟨b, 1, none⟩ = some (.slice (some ⟨g, 0, none⟩) 0 cap) := c1
        clear hc0 c1
        go_enter Tryz.func116, Tryz.ntmps116
        go_wp2
        go_region
        all_goals (go_wp2; go_ret; exact ⟨rfl, fun _ _ _ => rfl, Below.drew (Below.refl 0 w)⟩)
    · have hl0 : l.length ≠ 0 := by simpa using h0
      have hSD : (Builtin.unsafeSliceData_ #[155] 240 #[.slice (some ⟨g, 0, none⟩) l.length cap]).run Tryz.prog w.drew = .ok (.pointer (some ⟨g, 0, none⟩)) w.drew :=
        Lib.run_unsafeSliceData_row _ _ _ _ _ _ (by omega)
      have hUS : (Builtin.unsafeString_ #[240, 3] 9 #[.pointer (some ⟨g, 0, none⟩), .int .i64 l.length]).run Tryz.prog w.drew = .ok (.string ⟨l.toArray⟩) (w.drew.freeze ⟨g, 0, none⟩ l.length) := by
        refine Lib.run_unsafeString_row w.drew 240 3 9 5 Tryz.underlying240 X.cellsByte g cur.size (by simp [World.shape?, hgd]) l h0 (by omega) (by unfold maxLen at hcm; omega) ?_
        intro j x hx
        exact hown.cells (g := g) rfl j (.int .u8 x.toNat) (by simp [Lib.byteCells, hx])
      go_enter Tryz.func116, Tryz.ntmps116
      go_wp2
      go_region
      all_goals (go_wp2; go_ret; exact ⟨rfl, fun k _ hk => by
        unfold World.freeze
        split
        · rfl
        · simp only [Array.getElem?_modify, if_neg (fun e => hk (by rw [← e]; rfl) : ¬ g = k)]
          rfl, Lib.below_freeze (Below.drew (Below.refl 0 w)) (p := ⟨g, 0, none⟩) (Nat.zero_le _) _⟩)
theorem bytes_l {xs : List Int} (h : isBytes xs = true) : xs.map (Value.int .u8) = Lib.byteCells (xs.map fun n => UInt8.ofNat n.toNat) := by
  unfold Lib.byteCells
  rw [List.map_map]
  refine List.map_congr_left fun x hx => ?_
  have := List.all_eq_true.1 h x hx
  simp only [Bool.and_eq_true, decide_eq_true_eq] at this
  show Value.int .u8 x = Value.int .u8 ((UInt8.ofNat x.toNat).toNat : Int)
  congr 1
  rw [UInt8.toNat_ofNat', Nat.mod_eq_of_lt (by omega)]
  omega
theorem bld_lies {T n : Nat} (h : BldC.has BLDC T n = true) : liesAt Tryz.prog Tryz.prog.depth T ((n + 2) / Tryz.prog.cellsOf T) 0 157 1 = true := by
  unfold BldC.has BLDC at h
  simp only [List.any_cons, List.any_nil, Bool.or_false, Bool.or_eq_true, Bool.and_eq_true] at h
  rcases h with ⟨h1, h2⟩ | h
  · obtain rfl := nbeq h1
    obtain rfl := nbeq h2
    kernel_rfl
  obtain ⟨h1, h2⟩ := h
  obtain rfl := nbeq h1
  obtain rfl := nbeq h2
  kernel_rfl
theorem bld_ok : BldOK Tryz.prog BLDC where
  thereW := ⟨_, Tryz.func217, by kernel_rfl, by kernel_rfl⟩
  thereS := ⟨_, Tryz.func116, by kernel_rfl, by kernel_rfl⟩
  write := fun T rest hT => bld_write T rest (bld_lies hT)
  str := fun T rest hT w b c v xs hb hc ho hx hne => (bld_str T rest w b c v _ hb (by rw [← bytes_l hx, List.length_map]; exact ho))
end Go.Proofs.YtbjkfkifkglplaaGreatDoor.Q
