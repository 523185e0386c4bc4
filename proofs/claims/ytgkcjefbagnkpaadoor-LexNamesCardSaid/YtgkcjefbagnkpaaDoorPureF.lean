import Derived.Test.YtgkcjefbagnkpaaDoorPureE
import Derived.Test.YtgkcjefbagnkpaaDoorPLexx14
namespace Go.Proofs.YtgkcjefbagnkpaaDoor.PLex
set_option linter.unusedVariables false
set_option linter.unusedSimpArgs false
open Go Go.RowKit Go.Proofs.YtgkcjefbagnkpaaDoorW.PrintWords Go.Proofs.YtgkcjefbagnkpaaDoorW.PrintMore

/-! ### Line -/
def cnt (s : ByteArray) : Nat → Nat | 0 => 0 | k + 1 => cnt s k + if bt s (k : Int) = 10 then 1 else 0
def lx (s : ByteArray) : Nat → Int | 0 => -1 | k + 1 => if bt s (k : Int) = 10 then (k : Int) else lx s k
theorem cnt_succ (s : ByteArray) (k : Nat) : cnt s (k + 1) = cnt s k + if bt s (k : Int) = 10 then 1 else 0 := rfl
theorem lx_succ (s : ByteArray) (k : Nat) : lx s (k + 1) = if bt s (k : Int) = 10 then (k : Int) else lx s k := rfl
theorem pre_get {s : ByteArray} {n j : Nat} (hn : n ≤ s.size) (hj : j < n) : (s.extract 0 n).data.toList[j]? = s.data.toList[j]? := by
  rw [Lib.extract_data, List.getElem?_take, if_pos (by omega), List.getElem?_drop, Nat.zero_add]
theorem pre_size {s : ByteArray} {n : Nat} (hn : n ≤ s.size) : (s.extract 0 n).size = n := by simp; omega
theorem pre_bang {s : ByteArray} {n j : Nat} (hn : n ≤ s.size) (hj : j < n) : (((s.extract 0 n).data[j]!).toNat : Int) = bt s (j : Int) := by
  have h1 := (pre_get hn hj).trans (bt_get (s := s) (i := j) (by omega))
  have h2 : (s.extract 0 n).data[j]! = UInt8.ofNat (bt s (j : Int)).toNat := by
    rw [Array.getElem!_eq_getD]
    unfold Array.getD
    rw [Array.getElem?_toList] at h1
    obtain ⟨h3, h4⟩ := Array.getElem?_eq_some_iff.1 h1
    rw [dif_pos h3]
    exact h4
  have hb := bt_range s (j : Int)
  rw [h2, UInt8.toNat_ofNat']
  omega
theorem last_pre {s : ByteArray} {n : Nat} (hn : n ≤ s.size) : ∀ k, k ≤ n → Lib.lastIdx (s.extract 0 n) 10 k = lx s k
  | 0, _ => rfl
  | k + 1, h => by
    unfold Lib.lastIdx lx
    rw [pre_bang hn (by omega), last_pre hn k (by omega)]
theorem cnt_pre {s : ByteArray} : ∀ n, n ≤ s.size → Lib.countByte (s.extract 0 n).data.toList 10 = cnt s n
  | 0, _ => by rw [Lib.extract_data]; rfl
  | n + 1, h => by
    have ih := cnt_pre (s := s) n (by omega)
    rw [Lib.extract_data] at ih ⊢
    simp only [List.drop_zero, Nat.sub_zero] at ih ⊢
    have hg := bt_get (s := s) (i := n) (by omega)
    rw [List.take_add_one, hg]
    unfold Lib.countByte at ih ⊢
    rw [List.count_append, ih]
    rw [cnt_succ]
    congr 1
    have hb := bt_range s (n : Int)
    by_cases hc : bt s (n : Int) = 10
    · rw [if_pos hc, hc]; rfl
    · rw [if_neg hc]
      have : UInt8.ofNat (bt s (n : Int)).toNat ≠ 10 := by
        intro e
        have := congrArg UInt8.toNat e
        rw [UInt8.toNat_ofNat'] at this
        have h10 : (10 : UInt8).toNat = 10 := rfl
        omega
      rw [Option.toList_some, List.count_singleton]
      simp [this]
theorem lx_range (s : ByteArray) : ∀ k : Nat, -1 ≤ lx s k ∧ lx s k < k
  | 0 => by unfold lx; omega
  | k + 1 => by unfold lx; have := lx_range s k; split <;> omega
theorem cnt_le (s : ByteArray) : ∀ k : Nat, cnt s k ≤ k
  | 0 => by unfold cnt; omega
  | k + 1 => by unfold cnt; have := cnt_le s k; split <;> omega
theorem line_loop {s : ByteArray} (hS : s.size ≤ 140737488351232) {n : Nat} (hn : n ≤ s.size) : ∀ m i : Nat, n - i ≤ m → i ≤ n →
    Ev (fun k => gnomonref09_Line.l0 k s (n : Int) ((cnt s i : Int) + 1) ((i : Int) - lx s i) (i : Int)) ((cnt s n : Int) + 1, (n : Int) - lx s n) := by
  intro m
  induction m with
  | zero =>
    intro i h1 h2
    obtain rfl : i = n := by omega
    exact Ev.step (fun k => by rw [gnomonref09_Line.l0, if_neg (by omega)]) (Ev.now _)
  | succ m ih =>
    intro i h1 h2
    by_cases hi : i < n
    · refine Ev.step (fun k => ?_) (ih (i + 1) (by omega) (by omega))
      have h3 := lx_range s i
      have h4 := cnt_le s i
      rw [gnomonref09_Line.l0, if_pos (by omega), if_pos (by omega), if_pos (by omega), w1 (by omega)]
      rw [cnt_succ, lx_succ]
      by_cases hb : bt s (i : Int) = 10
      · simp only [if_pos hb]
        congr 1
        · rw [wself (by omega) (by omega)]; omega
        · omega
      · simp only [if_neg hb]
        congr 1
        rw [wself (by omega) (by omega)]; omega
    · obtain rfl : i = n := by omega
      exact Ev.step (fun k => by rw [gnomonref09_Line.l0, if_neg (by omega)]) (Ev.now _)
theorem line_both {s : ByteArray} (hS : s.size ≤ 140737488351232) (a : Int) : ∃ r, lex_Line.f s a = some r ∧ Ev (fun k => gnomonref09_Line.f k s a) r := by
  obtain ⟨n, hn, hn2⟩ : ∃ n : Nat, mx 0 (mn a (s.size : Int)) = (n : Int) ∧ n ≤ s.size := by
    refine ⟨(mx 0 (mn a (s.size : Int))).toNat, ?_, ?_⟩ <;> unfold mx mn <;> split <;> split <;> omega
  refine ⟨((cnt s n : Int) + 1, (n : Int) - lx s n), ?_, ?_⟩
  · have h3 := lx_range s n
    have h4 := cnt_le s n
    unfold lex_Line.f strings_Count.f strings_LastIndexByte.f Lib.lastIndexByte
    rw [hn, if_pos (by omega), if_pos (by omega), show ((n : Int).toNat) = n from rfl, if_pos (show (⟨#[10]⟩ : ByteArray).size = 1 from rfl), Option.bind_some, pre_size hn2, if_pos (by omega), Option.bind_some, last_pre hn2 n (Nat.le_refl _)]
    have : (Array.getD (⟨#[10]⟩ : ByteArray).data 0 0) = 10 := rfl
    rw [this, cnt_pre n hn2, wself (by omega) (by omega), wself (by omega) (by omega)]
  · have hl := line_loop hS hn2 n 0 (by omega) (by omega)
    have h1 : Ev (fun k => gnomonref09_Line.j1 k s (n : Int)) ((cnt s n : Int) + 1, (n : Int) - lx s n) := Ev.step (fun k => by (rw [gnomonref09_Line.j1]; try rfl)) hl
    unfold mx mn at hn
    by_cases ha : a < 0
    · obtain rfl : n = 0 := by split at hn <;> split at hn <;> omega
      refine Ev.congr (fun k => by rw [gnomonref09_Line.f, if_pos ha]) (Ev.step (fun k => ?_) h1)
      rw [gnomonref09_Line.j0, if_neg (by omega)]; rfl
    · by_cases hs : a > (s.size : Int)
      · obtain rfl : n = s.size := by split at hn <;> split at hn <;> omega
        refine Ev.congr (fun k => by rw [gnomonref09_Line.f, if_neg ha]) (Ev.step (fun k => ?_) h1)
        rw [gnomonref09_Line.j0, if_pos hs]
      · obtain rfl : a = (n : Int) := by split at hn <;> split at hn <;> omega
        refine Ev.congr (fun k => by rw [gnomonref09_Line.f, if_neg ha]) (Ev.step (fun k => ?_) h1)
        rw [gnomonref09_Line.j0, if_neg hs]

/-! ### IsName -/
theorem Ev.uniq {α : Type} {g : Nat → Option α} {a b : α} (h : Ev g a) (h' : Ev g b) : a = b := by
  obtain ⟨K, h⟩ := h
  obtain ⟨K', h'⟩ := h'
  have h1 := h (max K K') (by omega)
  rw [h' (max K K') (by omega)] at h1
  exact (Option.some.inj h1).symm
abbrev K15 : List ByteArray := [(⟨#[99, 108, 111, 99, 107]⟩ : ByteArray), (⟨#[105, 110, 116]⟩ : ByteArray), (⟨#[99, 104, 97, 110]⟩ : ByteArray), (⟨#[97, 117, 116, 111]⟩ : ByteArray), (⟨#[108, 111, 99]⟩ : ByteArray), (⟨#[101, 100, 103, 101]⟩ : ByteArray), (⟨#[105, 110]⟩ : ByteArray), (⟨#[105, 110, 118]⟩ : ByteArray), (⟨#[119, 104, 101, 110]⟩ : ByteArray), (⟨#[115, 121, 110, 99]⟩ : ByteArray), (⟨#[100, 111]⟩ : ByteArray), (⟨#[117, 114, 103, 101, 110, 116]⟩ : ByteArray), (⟨#[99, 111, 109, 109, 105, 116, 116, 101, 100]⟩ : ByteArray), (⟨#[116, 114, 117, 101]⟩ : ByteArray), (⟨#[114, 101, 97, 99, 104]⟩ : ByteArray)]
abbrev never_ : ByteArray := ⟨#[110, 101, 118, 101, 114]⟩
theorem kept_is : keptL = [(⟨#[99, 108, 111, 99, 107]⟩ : ByteArray), (⟨#[105, 110, 116]⟩ : ByteArray), (⟨#[99, 104, 97, 110]⟩ : ByteArray), (⟨#[97, 117, 116, 111]⟩ : ByteArray), (⟨#[108, 111, 99]⟩ : ByteArray), (⟨#[101, 100, 103, 101]⟩ : ByteArray), (⟨#[105, 110]⟩ : ByteArray), (⟨#[105, 110, 118]⟩ : ByteArray), (⟨#[119, 104, 101, 110]⟩ : ByteArray), (⟨#[115, 121, 110, 99]⟩ : ByteArray), (⟨#[100, 111]⟩ : ByteArray), (⟨#[117, 114, 103, 101, 110, 116]⟩ : ByteArray), (⟨#[99, 111, 109, 109, 105, 116, 116, 101, 100]⟩ : ByteArray), (⟨#[116, 114, 117, 101]⟩ : ByteArray), (⟨#[114, 101, 97, 99, 104]⟩ : ByteArray), never_] := rfl
theorem kept_mem (s : ByteArray) : s ∈ keptL ↔ s ∈ K15 ∨ s = never_ := by
  rw [kept_is]
  simp only [List.mem_cons, List.not_mem_nil, or_false, or_assoc]
theorem name_loop {s : ByteArray} : ∀ n i : Nat, 15 - i ≤ n → i ≤ 15 →
    (s ∈ K15.drop i → Ev (fun k => gnomonref09_IsName.l0 k s (i : Int)) false) ∧ (s ∉ K15.drop i → ∀ r, Ev (fun k => gnomonref09_IsName.l0 k s 15) r → Ev (fun k => gnomonref09_IsName.l0 k s (i : Int)) r) := by
  intro n
  induction n with
  | zero =>
    intro i h1 h2
    obtain rfl : i = 15 := by omega
    exact ⟨fun h => (by simp at h), fun _ r h => h⟩
  | succ n ih =>
    intro i h1 h2
    by_cases hi : i < 15
    · obtain ⟨ia, ib⟩ := ih (i + 1) (by omega) (by omega)
      have hd : K15.drop i = K15[i] :: K15.drop (i + 1) := List.drop_eq_getElem_cons hi
      have hr : rdOf ByteArray.empty K15 (i : Int) = K15[i] := by unfold rdOf; rw [show (i : Int).toNat = i from rfl]; simp [List.getD, hi]
      have st : ∀ k, gnomonref09_IsName.l0 (k + 1) s (i : Int) = if s.toList = (rdOf ByteArray.empty K15 (i : Int)).toList then some false else gnomonref09_IsName.l0 k s ((i + 1 : Nat) : Int) := by
        intro k
        rw [gnomonref09_IsName.l0, if_pos (by omega), if_pos (by omega), w1 (by omega)]
      rw [hd]
      by_cases hs : s = K15[i]
      · refine ⟨fun _ => Ev.step (fun k => ?_) (Ev.now _), fun hn => absurd (by rw [← hs]; exact List.mem_cons_self) hn⟩
        rw [st, hr, ← hs, if_pos rfl]
      · have hne : ¬ s.toList = (rdOf ByteArray.empty K15 (i : Int)).toList := fun e => hs (by rw [hr] at e; exact bytes_of_list e)
        refine ⟨fun h => Ev.step (fun k => ?_) (ia ((List.mem_cons.1 h).resolve_left hs)), fun hn r hr2 => Ev.step (fun k => ?_) (ib (fun h => hn (List.mem_cons_of_mem _ h)) r hr2)⟩
        · rw [st, if_neg hne]
        · rw [st, if_neg hne]
    · obtain rfl : i = 15 := by omega
      exact ⟨fun h => (by simp at h), fun _ r h => h⟩
theorem skip_stay {s : ByteArray} (h0 : 0 < s.size) (hc : cls (bt s 0) = 2) : Ev (fun k => lex_skip.l0 k s ((0 : Nat) : Int)) (0 : Int) := by
  refine Ev.step (fun k => by (rw [lex_skip.l0, if_pos (by omega), if_pos (by omega)]; try rfl)) (Ev.bind (of_ev s 0) ?_)
  refine Ev.congr (fun k => ?_) (Ev.now _)
  rw [hc, if_neg (by omega), if_neg (by omega)]
  rfl
theorem isname_both {s : ByteArray} (hS : s.size ≤ 140737488351232) : ∃ b, Ev (fun k => lex_IsName.f k s) b ∧ Ev (fun k => gnomonref09_IsName.f k s) b := by
  obtain ⟨q, r, h⟩ := nx hS (p := 0) (Nat.zero_le _)
  obtain ⟨la, lb⟩ := name_loop (s := s) 15 0 (by omega) (by omega)
  rw [List.drop_zero] at la lb
  have tail : ∀ b, (if s.toList = ([110, 101, 118, 101, 114] : List UInt8) then (some false) else (if r.2.2.2.2.2 = 0 then (if r.1 = 1 then (if r.2.2.2.2.1 = (s.size : Int) then (if r.2.2.2.1 = 0 then (some (decide ((s.size : Int) ≤ 16))) else (some false)) else (some false)) else (some false)) else (some false))) = some b → Ev (fun k => gnomonref09_IsName.l0 k s 15) b := by
    intro b hb
    refine Ev.step (fun k => by (rw [gnomonref09_IsName.l0, if_neg (by omega)]; try rfl)) (Ev.bind (show Ev (fun k => gnomonref09_Next.f k s 0) r from h.ref) ?_)
    exact Ev.congr (fun k => hb) (Ev.now _)
  -- when it is no name by its look
  have no : (∀ m : Nat, ¬ (r = (1, s.extract 0 m, 0, 0, ((m : Nat) : Int), 0) ∧ m = s.size ∧ s.size ≤ 16)) → Ev (fun k => gnomonref09_IsName.f k s) false := by
    intro hn
    by_cases hm : s ∈ K15
    · exact la hm
    · refine lb hm _ (tail _ ?_)
      by_cases h1 : s.toList = ([110, 101, 118, 101, 114] : List UInt8)
      · rw [if_pos h1]
      · rw [if_neg h1]
        by_cases h2 : r.2.2.2.2.2 = 0
        · rw [if_pos h2]
          by_cases h3 : r.1 = 1
          · rw [if_pos h3]
            obtain ⟨m, e1, e2⟩ : ∃ m : Nat, r = (1, s.extract q (q + m), 0, (q : Int), ((q + m : Nat) : Int), 0) ∧ q + m ≤ s.size := by
              have ht := h.tok
              cases ht with
              | end_ => cases h3
              | word m a b c d => exact ⟨m, rfl, d⟩
              | number => unfold numEnd at h3; split at h3 <;> cases h3
              | sign => unfold signEnd at h3; split at h3 <;> (try split at h3) <;> cases h3
            by_cases h4 : r.2.2.2.2.1 = (s.size : Int)
            · rw [if_pos h4]
              by_cases h5 : r.2.2.2.1 = 0
              · rw [if_pos h5]
                by_cases h6 : s.size ≤ 16
                · subst e1
                  dsimp only at h4 h5
                  obtain rfl : q = 0 := by omega
                  exact absurd ⟨by rw [Nat.zero_add]; rfl, by omega, h6⟩ (hn m)
                · rw [decide_eq_false (by omega)]
              · rw [if_neg h5]
            · rw [if_neg h4]
          · rw [if_neg h3]
        · rw [if_neg h2]
  by_cases h0 : s.size = 0
  · refine ⟨false, Ev.congr (fun k => by rw [lex_IsName.f, if_pos h0]) (Ev.now _), no ?_⟩
    rintro m ⟨e, -, -⟩
    have ht := h.tok
    have := h.le2
    rw [e] at ht
    obtain ⟨a, -⟩ := ht.step rfl (by simp)
    omega
  by_cases h16 : s.size > 16
  · exact ⟨false, Ev.congr (fun k => by rw [lex_IsName.f, if_neg h0, if_pos h16]) (Ev.now _), no (fun m hm => by omega)⟩
  have o := of_ev s 0
  by_cases hc : cls (bt s 0) = 2
  · have hq : (q : Int) = 0 := Ev.uniq h.skip (skip_stay (by omega) hc)
    obtain rfl : q = 0 := by omega
    obtain ⟨m, hm1, hm2, hw, hr⟩ : ∃ m : Nat, 1 ≤ m ∧ m ≤ s.size ∧ Ev (fun k => lex_word.f k s) (m : Int) ∧ r = (1, s.extract 0 m, 0, 0, ((m : Nat) : Int), 0) := by
      have ht := h.tok
      cases ht with
      | end_ e => omega
      | word m a b c d e =>
        have hx : s.extract 0 s.size = s := by
          apply Go.WideShapes.bytes_inj
          rw [Lib.extract_data]
          simp only [List.drop_zero, Nat.sub_zero]
          exact List.take_of_length_le (by rw [data_length]; omega)
        rw [hx] at e
        exact ⟨m, c, by omega, e, by rw [Nat.zero_add]; rfl⟩
      | number m v a b => exact absurd (b.symm.trans hc) (by decide)
      | sign a b c => exact absurd hc c
    have L : ∀ b, (if (m : Int) = (s.size : Int) then some (!(Lib.containsS keptL s)) else some false) = some b → Ev (fun k => lex_IsName.f k s) b := by
      intro b hb
      refine Ev.congr (fun k => by (rw [lex_IsName.f, if_neg h0, if_neg h16]; try rfl)) (Ev.bind o ?_)
      refine Ev.congr (fun k => by (rw [if_pos hc]; try rfl)) (Ev.bind hw ?_)
      exact Ev.congr (fun k => hb) (Ev.now _)
    by_cases hms : m = s.size
    · by_cases hk : s ∈ keptL
      · refine ⟨false, L _ (by rw [if_pos (by omega), (Lib.containsS_iff _ _).2 hk]; rfl), ?_⟩
        by_cases hm : s ∈ K15
        · exact la hm
        · have hv := ((kept_mem s).1 hk).resolve_left hm
          refine lb hm _ (tail _ ?_)
          rw [if_pos (by rw [hv]; decide +kernel)]
      · refine ⟨true, L _ (by rw [if_pos (by omega), show Lib.containsS keptL s = false from Bool.eq_false_iff.2 fun h => hk ((Lib.containsS_iff _ _).1 h)]; rfl), ?_⟩
        have hm : s ∉ K15 := fun h => hk ((kept_mem s).2 (.inl h))
        refine lb hm _ (tail _ ?_)
        rw [if_neg, hr]
        · dsimp only
          rw [if_pos rfl, if_pos rfl, if_pos (by omega), if_pos rfl, decide_eq_true (by omega)]
        · intro e
          refine hk ((kept_mem s).2 (.inr (bytes_of_list (e.trans ?_))))
          decide +kernel
    · refine ⟨false, L _ (by rw [if_neg (by omega)]), no ?_⟩
      rintro m' ⟨e, e2, -⟩
      rw [hr] at e
      have : (m : Int) = (m' : Int) := by simpa using congrArg (fun x : Tok => x.2.2.2.2.1) e
      omega
  · refine ⟨false, ?_, no ?_⟩
    · refine Ev.congr (fun k => by (rw [lex_IsName.f, if_neg h0, if_neg h16]; try rfl)) (Ev.bind o ?_)
      exact Ev.congr (fun k => by rw [if_neg hc]) (Ev.now _)
    · rintro m ⟨e, e2, -⟩
      have ht := h.tok
      have h1 : r.1 = 1 := by rw [e]
      have h2 : r.2.2.2.1 = 0 := by rw [e]
      cases ht with
      | end_ => cases h1
      | word m a b c d =>
        have : q = 0 := by have : (q : Int) = 0 := h2; omega
        subst this
        exact hc b
      | number => unfold numEnd at h1; split at h1 <;> cases h1
      | sign => unfold signEnd at h1; split at h1 <;> (try split at h1) <;> cases h1
theorem LexNames_pure : ∀ (a0 : ByteArray) (a1 : Int), a0.size ≤ 140737488351232 → (Lit.int .i64 a1).wf = true → ∃ k, gnomonlaw09_LexNames.f k a0 a1 = some true := by
  intro s a h0 h1
  obtain ⟨r, hl, hr⟩ := line_both h0 a
  obtain ⟨b, n1, n2⟩ := isname_both h0
  refine Ev.rounds (g := fun k => gnomonlaw09_LexNames.f k s a) ?_
  refine Ev.congr (fun k => by (rw [gnomonlaw09_LexNames.f, hl, Option.bind_some]; try rfl)) (Ev.bind hr (Ev.bind live_ev ?_))
  refine Ev.congr (fun k => by (rw [if_pos rfl]; try rfl)) (Ev.bind n1 (Ev.bind n2 ?_))
  refine Ev.congr (fun k => ?_) (Ev.now _)
  simp
end Go.Proofs.YtgkcjefbagnkpaaDoor.PLex
