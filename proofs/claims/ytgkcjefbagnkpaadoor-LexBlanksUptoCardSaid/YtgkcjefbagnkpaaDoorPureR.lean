import Derived.Test.YtgkcjefbagnkpaaDoorPureQ
import Derived.Test.YtgkcjefbagnkpaaDoorPLexx10
namespace Go.Proofs.YtgkcjefbagnkpaaDoor.PLex
set_option linter.unusedVariables false
set_option linter.unusedSimpArgs false
open Go Go.RowKit Go.Proofs.YtgkcjefbagnkpaaDoorW.PrintWords Go.Proofs.YtgkcjefbagnkpaaDoorW.PrintMore

theorem blanks_loop {a2 : ByteArray} (h2 : a2.size ≤ 140737488351232) (s : ByteArray) (L : List S24) (x : Int) : ∀ n i : Nat, ∀ acc : ByteArray, a2.size - i ≤ n → i ≤ a2.size → acc.size ≤ i → (∀ j : Nat, j < acc.size → bt acc (j : Int) ≠ 10) →
    ∃ r : ByteArray, r.size ≤ a2.size ∧ (∀ j : Nat, j < r.size → bt r (j : Int) ≠ 10) ∧ ∀ b, Ev (fun k => gnomonlaw09_LexBlanks.l0 k s a2 L x r (a2.size : Int)) b → Ev (fun k => gnomonlaw09_LexBlanks.l0 k s a2 L x acc (i : Int)) b := by
  intro n
  induction n with
  | zero =>
    intro i acc h3 h4 h5 h6
    obtain rfl : i = a2.size := by omega
    exact ⟨acc, h5, h6, fun b hb => hb⟩
  | succ n ih =>
    intro i acc h3 h4 h5 h6
    by_cases hi : i < a2.size
    · by_cases hc : bt a2 (i : Int) = 10
      · obtain ⟨r, a, b, c⟩ := ih (i + 1) acc (by omega) (by omega) (by omega) h6
        refine ⟨r, a, b, fun z hz => Ev.step (fun k => ?_) (c z hz)⟩
        rw [gnomonlaw09_LexBlanks.l0, if_pos (by omega), if_pos (by omega), if_pos hc, w1 (by omega)]
      · have hps : (a2.extract i (i + 1)).size = 1 := by rw [piece_size (by omega)]; omega
        have hs : (acc ++ a2.extract i (i + 1)).size = acc.size + 1 := by rw [ByteArray.size_append, hps]
        have hn : ∀ j : Nat, j < (acc ++ a2.extract i (i + 1)).size → bt (acc ++ a2.extract i (i + 1)) (j : Int) ≠ 10 := by
          intro j hj
          have hd : (acc ++ a2.extract i (i + 1)).data.toList = acc.data.toList ++ (a2.extract i (i + 1)).data.toList := by simp [ByteArray.data_append]
          rcases Nat.lt_or_ge j acc.size with h7 | h7
          · rw [bt_of_get (s := acc) (b := j) (by rw [hd, List.getElem?_append_left (by rw [data_length]; omega)]) hj h7]
            exact h6 j h7
          · rw [bt_of_get (s := a2) (b := i) (by
              rw [hd, List.getElem?_append_right (by rw [data_length]; omega), data_length, show j - acc.size = 0 by omega, piece_get a2 i (i + 1) 0 (by omega) (by omega)]
              rfl) hj hi]
            exact hc
        obtain ⟨r, a, b, c⟩ := ih (i + 1) (acc ++ a2.extract i (i + 1)) (by omega) (by omega) (by omega) hn
        refine ⟨r, a, b, fun z hz => Ev.step (fun k => ?_) (c z hz)⟩
        rw [gnomonlaw09_LexBlanks.l0, if_pos (by omega), if_pos (by omega), if_neg hc, w1 (by omega), if_pos (by omega), if_pos (by omega), show ((i : Int).toNat) = i from rfl, show (((i + 1 : Nat) : Int).toNat) = i + 1 from rfl, if_pos (by omega)]
    · obtain rfl : i = a2.size := by omega
      exact ⟨acc, h5, h6, fun b hb => hb⟩
theorem cmp_loop {l l' : List Tk} (h : Same l l') (hl : l.length ≤ 140737488351232) (x : Int) (hat : ∀ j (h1 : j < l.length) (h2 : j < l'.length), (j : Int) < x → l'[j].1.f3 = l[j].1.f3) : ∀ n i : Nat, l.length - i ≤ n → i ≤ l.length → Ev (fun k => gnomonlaw09_LexBlanks.l1 k (l.map (·.1)) x (l'.map (·.1)) (i : Int)) true := by
  intro n
  have hln := h.len
  have fin : Ev (fun k => gnomonlaw09_LexBlanks.l1 k (l.map (·.1)) x (l'.map (·.1)) ((l.length : Nat) : Int)) true :=
    Ev.step (fun k => by (rw [gnomonlaw09_LexBlanks.l1, if_neg (by rw [List.length_map]; omega)]; try rfl)) (Ev.bind live_ev (Ev.now _))
  induction n with
  | zero => intro i h1 h2; obtain rfl : i = l.length := by omega
            exact fin
  | succ n ih =>
    intro i h1 h2
    by_cases hi : i < l.length
    · refine Ev.step (fun k => ?_) (ih (i + 1) (by omega) (by omega))
      obtain ⟨a, b, c⟩ := h.get i hi (by omega)
      rw [gnomonlaw09_LexBlanks.l1, if_pos (by rw [List.length_map]; omega), if_pos (by omega), if_pos (by rw [List.length_map]; omega), rd24_get _ i (by rw [List.length_map]; omega), rd24_get _ i (by rw [List.length_map]; omega), List.getElem_map, List.getElem_map,
        if_pos a.symm, if_pos (by rw [b]), w1 (by omega)]
      by_cases hx : (i : Int) < x
      · rw [if_pos hx, if_pos (hat i hi (by omega) hx).symm]
      · rw [if_neg hx]
    · obtain rfl : i = l.length := by omega
      exact fin
theorem LexBlanks_pure : ∀ (a0 : ByteArray) (a1 : Int) (a2 : ByteArray), a0.size ≤ 140737488351232 → (Lit.int .i64 a1).wf = true → a2.size ≤ 140737488351232 → (a0.size + 1) + 1 + (a2.size + 1) ≤ 1048576 → ∃ k, gnomonlaw09_LexBlanks.f k a0 a1 a2 = some true := by
  intro s a1 a2 h0 _ _ hb
  obtain ⟨l, hc, hl, a⟩ := all_one (s := s) (by omega)
  refine Ev.rounds (g := fun k => gnomonlaw09_LexBlanks.f k s a1 a2) ?_
  refine Ev.bind a ?_
  obtain ⟨x, hx⟩ : ∃ x, l.getLast? = some x := by
    cases he : l.getLast? with
    | none => exact absurd (List.getLast?_eq_none_iff.1 he) hc.ne
    | some x => exact ⟨x, rfl⟩
  by_cases he : x.2.2 = 0
  · have hlast : ∀ y, l.getLast? = some y → y.2.2 = 0 := fun y hy => by rw [hx] at hy; obtain rfl := Option.some.inj hy; exact he
    have ho : lexOut l = (l.map (·.1), 0, 0) := by unfold lexOut; rw [hx]; dsimp only; rw [if_pos he]
    rw [ho]
    have hpos : 0 < l.length := List.length_pos_iff.2 hc.ne
    -- the place
    obtain ⟨i, hi, hix⟩ : ∃ i : Nat, i < l.length ∧ wrap64 (Int.tmod (IntKind.u64.wrap a1) (IntKind.u64.wrap ((l.map (·.1)).length : Int))) = (i : Int) := by
      have hu : ∀ n : Int, IntKind.u64.wrap n = n % 18446744073709551616 := fun n => rfl
      rw [hu, hu, List.length_map, show ((l.length : Int) % 18446744073709551616) = (l.length : Int) by omega]
      have h1 : 0 ≤ a1 % 18446744073709551616 := by omega
      have h2 := Int.tmod_lt_of_pos (a1 % 18446744073709551616) (show (0 : Int) < (l.length : Int) by omega)
      have h3 := Int.tmod_nonneg (l.length : Int) h1
      refine ⟨(Int.tmod (a1 % 18446744073709551616) (l.length : Int)).toNat, by omega, ?_⟩
      rw [wself h3 (by omega)]
      omega
    have hpl := hc.places hlast _ (List.getElem_mem hi)
    obtain ⟨c, hcc⟩ : ∃ c : Nat, (l[i]).1.f3 = (c : Int) := ⟨(l[i]).1.f3.toNat, by omega⟩
    have hcs : c ≤ s.size := by omega
    obtain ⟨r, hr1, hr2, hr3⟩ := blanks_loop (a2 := a2) (by omega) s (l.map (·.1)) (i : Int) a2.size 0 ⟨#[]⟩ (by omega) (Nat.zero_le _) (Nat.le_refl _) (fun j hj => absurd hj (Nat.not_lt_zero _))
    have I := ins_of s r c hcs hr2
    have hT : (blanked s r c).size ≤ 140737488351232 := by have := I.size; omega
    obtain ⟨l', a', b', g', f'⟩ := pre_chain I (by omega) hT hc hlast i hi hcc (Nat.zero_le _)
    have hln := b'.len
    have hne := b'.ne hc.ne
    have ha := all_lex (s := blanked s r c) a' hne (by omega)
    have ho' : lexOut l' = (l'.map (·.1), 0, 0) := by
      unfold lexOut
      cases hx' : l'.getLast? with
      | none => exact absurd (List.getLast?_eq_none_iff.1 hx') hne
      | some y => dsimp only; rw [if_pos (g' y hx')]
    rw [ho'] at ha
    refine Ev.congr (fun k => ?_) (hr3 true ?_)
    · rw [if_pos rfl, if_neg (by rw [List.length_map]; omega), if_neg, hix]
      · rfl
      · have hu : ∀ n : Int, IntKind.u64.wrap n = n % 18446744073709551616 := fun n => rfl
        rw [hu, List.length_map]
        omega
    · have hA := piece_size (s := s) (p := 0) hcs
      have hD := piece_size (s := s) (p := c) (Nat.le_refl _)
      have z1 : ((s.extract 0 c) ++ (⟨#[32, 35]⟩ : ByteArray)).size = c + 2 := by rw [ByteArray.size_append, hA]; rfl
      have z2 : (((s.extract 0 c) ++ (⟨#[32, 35]⟩ : ByteArray)) ++ r).size = c + 2 + r.size := by rw [ByteArray.size_append, z1]
      have z3 : ((((s.extract 0 c) ++ (⟨#[32, 35]⟩ : ByteArray)) ++ r) ++ (⟨#[10, 9]⟩ : ByteArray)).size = c + 2 + r.size + 2 := by rw [ByteArray.size_append, z2]; rfl
      have e24 : (rd_T24 (l.map (·.1)) (i : Int)).f3 = (c : Int) := by rw [rd24_get _ i (by rw [List.length_map]; omega), List.getElem_map]; exact hcc
      refine Ev.step (fun k => by
        (rw [gnomonlaw09_LexBlanks.l0, if_neg (by omega), if_pos (by omega), if_pos (by rw [List.length_map]; omega), e24, if_pos (by omega), if_pos (by omega), show ((c : Int).toNat) = c from rfl, if_pos (by rw [hA]; omega), if_pos (by rw [z1]; omega), if_pos (by rw [z2]; omega), if_pos (by rw [z3, hD]; omega)]; try rfl)) (Ev.bind (show Ev (fun k => lex_All.f k (blanked s r c)) (l'.map (·.1), 0, 0) from ha) ?_)
      refine Ev.congr (fun k => ?_) (Ev.step (g := fun k => gnomonlaw09_LexBlanks.j1 k (l.map (·.1)) (i : Int) (l'.map (·.1)) false) (fun k => by (rw [gnomonlaw09_LexBlanks.j1, if_neg (by decide)]; rfl)) (cmp_loop b' (by omega) (i : Int) (fun j h1 h2 h3 => f' j h1 h2 (by omega)) l.length 0 (by omega) (by omega)))
      rw [if_pos rfl]
      congr 1
      simp [hln]
  · have ho : lexOut l = ([], x.2.2, x.2.1) := by unfold lexOut; rw [hx]; dsimp only; rw [if_neg he]
    rw [ho]
    exact Ev.congr (fun k => by (rw [if_neg he]; try rfl)) (Ev.bind live_ev (Ev.now _))
end Go.Proofs.YtgkcjefbagnkpaaDoor.PLex
