import Derived.Test.YtgkcjefbagnkpaaDoorPureE
import Derived.Test.YtgkcjefbagnkpaaDoorPLexx12
import Derived.Lib.Join
namespace Go.Proofs.YtgkcjefbagnkpaaDoor.PLex
set_option linter.unusedVariables false
set_option linter.unusedSimpArgs false
open Go Go.RowKit Go.Proofs.YtgkcjefbagnkpaaDoorW.PrintWords Go.Proofs.YtgkcjefbagnkpaaDoorW.PrintMore

/-! ### Join -/
def keep (x : S29) : Bool := decide (x.f0 ≠ 0 ∧ x.f1.toList ≠ [])
def tx (l : List S29) : List ByteArray := (l.filter keep).map (·.f1)
def J (ts : List ByteArray) : ByteArray := ⟨(Lib.join (ts.map (·.data.toList)) [32]).toArray⟩
theorem J_data (ts : List ByteArray) : (J ts).data.toList = Lib.join (ts.map (·.data.toList)) [32] := by unfold J; simp
theorem J_one (t : ByteArray) : J [] ++ t = J [t] := by
  apply Go.WideShapes.bytes_inj
  simp only [ByteArray.data_append, Array.toList_append, J_data, List.map_cons, List.map_nil, Lib.join_nil, Lib.join_one, List.nil_append]
theorem J_snoc (ts : List ByteArray) (t : ByteArray) (h : ts ≠ []) : (J ts ++ (⟨#[32]⟩ : ByteArray)) ++ t = J (ts ++ [t]) := by
  obtain ⟨x, r, rfl⟩ := List.exists_cons_of_ne_nil h
  apply Go.WideShapes.bytes_inj
  simp only [ByteArray.data_append, Array.toList_append, J_data, List.map_cons, List.map_append, List.map_nil, List.cons_append, Lib.join_cons]
  simp [Lib.joinTail]
def tot (l : List S29) : Nat := (l.map fun z => wt29 z).sum
theorem tot_cons (x : S29) (l : List S29) : tot (x :: l) = wt29 x + tot l := by simp [tot]
theorem tx_cons (x : S29) (l : List S29) : tx (x :: l) = if keep x = true then x.f1 :: tx l else tx l := by
  unfold tx
  rw [List.filter_cons]
  split <;> rfl
theorem tail_len (l : List S29) : (Lib.joinTail [32] ((tx l).map (·.data.toList))).length ≤ tot l ∧ (tx l).length ≤ tot l := by
  induction l with
  | nil => exact ⟨Nat.le_refl _, Nat.le_refl _⟩
  | cons x l ih =>
    rw [tx_cons, tot_cons]
    unfold wt29
    split
    · simp only [List.map_cons, Lib.joinTail, List.flatten_cons, List.length_append, List.length_cons, List.length_nil, List.map_map] at ih ⊢
      have := data_length x.f1
      omega
    · omega
theorem J_len (l : List S29) : (Lib.join ((tx l).map (·.data.toList)) [32]).length ≤ tot l := by
  have h := (tail_len l).1
  cases hts : tx l with
  | nil => simp [Lib.join_nil]
  | cons t r =>
    rw [hts] at h
    simp only [List.map_cons, Lib.join_cons, Lib.joinTail, List.flatten_cons, List.length_append, List.length_cons, List.length_nil] at h ⊢
    omega
theorem tx_take (l : List S29) (i : Nat) (hi : i < l.length) : tx (l.take (i + 1)) = if keep l[i] = true then tx (l.take i) ++ [l[i].f1] else tx (l.take i) := by
  rw [List.take_succ_eq_append_getElem hi]
  unfold tx
  rw [List.filter_append, List.map_append]
  by_cases h : keep l[i] = true
  · rw [if_pos h]; simp [h]
  · rw [if_neg h]; simp [h]
theorem tot_take (l : List S29) (i : Nat) : tot (l.take i) ≤ tot l := by
  have : tot l = tot (l.take i) + tot (l.drop i) := by
    unfold tot
    rw [← List.sum_append, ← List.map_append, List.take_append_drop]
  omega
def conv24 (x : S29) : S24 := ⟨x.f0 % 256, x.f1, x.f2, x.f3⟩
theorem rd29_get (l : List S29) (i : Nat) (hi : i < l.length) : rd_T29 l (i : Int) = l[i] := by unfold rd_T29; simp [List.getD, hi]
theorem rd24_get (l : List S24) (i : Nat) (hi : i < l.length) : rd_T24 l (i : Int) = l[i] := by unfold rd_T24; simp [List.getD, hi]
theorem join_lex (l : List S29) (hl : l.length ≤ 1048576) (hw : tot l ≤ 1048576) (hg : ∀ x ∈ l, 0 ≤ x.f0 ∧ x.f0 ≤ 3) : ∀ n i : Nat, l.length - i ≤ n → i ≤ l.length → Ev (fun k => lex_Join.l0 k (tx (l.take i)) (l.map conv24) (l.length : Int) (i : Int)) (J (tx l)) := by
  intro n
  have fin : Ev (fun k => lex_Join.l0 k (tx (l.take l.length)) (l.map conv24) (l.length : Int) ((l.length : Nat) : Int)) (J (tx l)) := by
    refine Ev.step (fun k => ?_) (Ev.now _)
    rw [List.take_length, lex_Join.l0, if_neg (by omega), strings_Join.f, if_pos, Option.bind_some]
    · rfl
    · have h1 := (tail_len l).2
      have h2 := J_len l
      exact ⟨by omega, by show (Lib.join _ [32]).length ≤ _; omega⟩
  induction n with
  | zero =>
    intro i h1 h2
    obtain rfl : i = l.length := by omega
    exact fin
  | succ n ih =>
    intro i h1 h2
    by_cases hi : i < l.length
    · refine Ev.step (fun k => ?_) (ih (i + 1) (by omega) (by omega))
      have hgi := hg _ (List.getElem_mem hi)
      rw [lex_Join.l0, if_pos (by omega), if_pos (by omega), if_pos (by rw [List.length_map]; omega), rd24_get _ i (by rw [List.length_map]; omega), List.getElem_map, w1 (by omega), tx_take l i hi]
      have hf : (conv24 l[i]).f0 = l[i].f0 := by show l[i].f0 % 256 = _; omega
      rw [hf]
      show (if l[i].f0 = 0 then _ else if l[i].f1.toList = [] then _ else _) = _
      by_cases h3 : l[i].f0 = 0
      · rw [if_pos h3, if_neg (by simp [keep, h3])]
      · rw [if_neg h3]
        by_cases h4 : l[i].f1.toList = []
        · rw [if_pos h4, if_neg (by simp [keep, h4])]
        · have h5 := (tail_len (l.take i)).2
          have h6 := tot_take l i
          rw [if_neg h4, if_pos (by omega), if_pos (by simp [keep, h3, h4])]
          rfl
    · obtain rfl : i = l.length := by omega
      exact fin
theorem join_ref (l : List S29) (hl : l.length ≤ 1048576) (hw : tot l ≤ 1048576) : ∀ n i : Nat, l.length - i ≤ n → i ≤ l.length → Ev (fun k => gnomonref09_Join.l0 k l (J (tx (l.take i))) ((tx (l.take i)).isEmpty) (i : Int)) (J (tx l)) := by
  intro n
  have fin : Ev (fun k => gnomonref09_Join.l0 k l (J (tx (l.take l.length))) ((tx (l.take l.length)).isEmpty) ((l.length : Nat) : Int)) (J (tx l)) :=
    Ev.step (fun k => by rw [List.take_length, gnomonref09_Join.l0, if_neg (by omega)]) (Ev.now _)
  induction n with
  | zero =>
    intro i h1 h2
    obtain rfl : i = l.length := by omega
    exact fin
  | succ n ih =>
    intro i h1 h2
    by_cases hi : i < l.length
    · have hn := ih (i + 1) (by omega) (by omega)
      rw [tx_take l i hi] at hn
      have st : ∀ k, gnomonref09_Join.l0 (k + 1) l (J (tx (l.take i))) ((tx (l.take i)).isEmpty) (i : Int) = gnomonref09_Join.j1 k l (J (tx (l.take i))) ((tx (l.take i)).isEmpty) (i : Int) (!keep l[i]) := by
        intro k
        rw [gnomonref09_Join.l0, if_pos (by omega), if_pos (by omega), rd29_get l i hi]
        by_cases h3 : l[i].f0 = 0
        · rw [if_pos h3]; simp [keep, h3]
        · rw [if_neg h3]
          congr 1
          by_cases h4 : l[i].f1.toList = []
          · simp [keep, h3, h4]
          · simp [keep, h3, h4]
      refine Ev.step st ?_
      by_cases hk : keep l[i] = true
      · rw [if_pos hk] at hn
        have hJ := J_len (l.take i)
        have hJ2 : (J (tx (l.take i))).size ≤ 1048576 := by
          rw [← data_length, J_data]
          have := tot_take l i
          omega
        have hs : l[i].f1.size ≤ 1048576 := by
          have h1 := tot_take l (i + 1)
          rw [List.take_succ_eq_append_getElem hi] at h1
          have : tot (l.take i ++ [l[i]]) = tot (l.take i) + wt29 l[i] := by unfold tot; rw [List.map_append, List.sum_append]; rfl
          rw [this] at h1
          unfold wt29 at h1
          omega
        cases he : tx (l.take i) with
        | nil =>
          rw [he] at hn hJ2
          refine Ev.step (fun k => ?_) hn
          rw [gnomonref09_Join.j1, if_neg (by simp [hk]), if_pos (by rfl), if_pos (by omega), if_pos (by omega), rd29_get l i hi, if_pos (by omega), J_one, w1 (by omega)]
          rfl
        | cons t r =>
          rw [he] at hn hJ2
          refine Ev.step (fun k => ?_) hn
          have hs1 : (J (t :: r) ++ (⟨#[32]⟩ : ByteArray)).size = (J (t :: r)).size + 1 := by rw [ByteArray.size_append]; rfl
          rw [gnomonref09_Join.j1, if_neg (by simp [hk]), if_neg (by simp), if_pos (by omega), if_pos (by omega), if_pos (by omega), rd29_get l i hi, if_pos (by omega), J_snoc _ _ (by simp), w1 (by omega)]
          rfl
      · rw [if_neg hk] at hn
        refine Ev.step (fun k => ?_) hn
        rw [gnomonref09_Join.j1, if_pos (by simp [hk]), w1 (by omega)]
    · obtain rfl : i = l.length := by omega
      exact fin
theorem joins_loop (l : List S29) (hl : l.length ≤ 1048576) (hw : tot l ≤ 1048576) : ∀ n i : Nat, l.length - i ≤ n → i ≤ l.length → (∀ x ∈ l.take i, 0 ≤ x.f0 ∧ x.f0 ≤ 3) →
    Ev (fun k => gnomonlaw09_LexJoins.l0 k l ((l.take i).map conv24) (i : Int)) true := by
  intro n
  have fin : (∀ x ∈ l, 0 ≤ x.f0 ∧ x.f0 ≤ 3) → Ev (fun k => gnomonlaw09_LexJoins.l0 k l ((l.take l.length).map conv24) ((l.length : Nat) : Int)) true := by
    intro hg
    rw [List.take_length]
    refine Ev.step (fun k => by (rw [gnomonlaw09_LexJoins.l0, if_neg (by omega)]; try rfl)) (Ev.bind live_ev ?_)
    have a : Ev (fun k => lex_Join.f k (l.map conv24)) (J (tx l)) := by
      have := join_lex l hl hw hg l.length 0 (by omega) (by omega)
      refine Ev.congr (fun k => ?_) this
      rw [lex_Join.f, List.length_map]
      rfl
    have b : Ev (fun k => gnomonref09_Join.f k l) (J (tx l)) := Ev.congr (fun k => rfl) (join_ref l hl hw l.length 0 (by omega) (by omega))
    have c : Ev (fun k => lex_Join.f k ([] : List S24)) (J []) := by
      have := join_lex [] (by simp) (by simp [tot]) (by simp) 0 0 (by simp) (by simp)
      exact Ev.congr (fun k => rfl) this
    refine Ev.congr (fun k => by (rw [if_pos rfl]; try rfl)) (Ev.bind a (Ev.bind b ?_))
    refine Ev.congr (fun k => by (rw [if_pos rfl]; try rfl)) (Ev.bind c ?_)
    refine Ev.congr (fun k => ?_) (Ev.now _)
    have : (J []).toList = [] := by rw [ByteArray.toList_eq, J_data]; rfl
    rw [this]; rfl
  induction n with
  | zero =>
    intro i h1 h2 hg
    obtain rfl : i = l.length := by omega
    exact fin (by rwa [List.take_length] at hg)
  | succ n ih =>
    intro i h1 h2 hg
    by_cases hi : i < l.length
    · by_cases h3 : l[i].f0 < 0
      · refine Ev.step (fun k => by (rw [gnomonlaw09_LexJoins.l0, if_pos (by omega), if_pos (by omega), rd29_get l i hi, if_pos h3]; try rfl)) (Ev.bind live_ev (Ev.now _))
      · by_cases h4 : l[i].f0 > 3
        · refine Ev.step (fun k => by (rw [gnomonlaw09_LexJoins.l0, if_pos (by omega), if_pos (by omega), rd29_get l i hi, if_neg h3, if_pos h4]; try rfl)) (Ev.bind live_ev (Ev.now _))
        · have hg' : ∀ x ∈ l.take (i + 1), 0 ≤ x.f0 ∧ x.f0 ≤ 3 := by
            intro x hx
            rw [List.take_succ_eq_append_getElem hi] at hx
            rcases List.mem_append.1 hx with hx | hx
            · exact hg x hx
            · obtain rfl := List.mem_singleton.1 hx; omega
          refine Ev.step (fun k => ?_) (ih (i + 1) (by omega) (by omega) hg')
          rw [gnomonlaw09_LexJoins.l0, if_pos (by omega), if_pos (by omega), rd29_get l i hi, if_neg h3, if_neg h4, if_pos (by rw [List.length_map, List.length_take]; omega), w1 (by omega), List.take_succ_eq_append_getElem hi, List.map_append]
          rfl
    · obtain rfl : i = l.length := by omega
      exact fin (by rwa [List.take_length] at hg)
theorem LexJoins_pure : ∀ (l0 : List (S29)), ((∀ z2 ∈ l0, ok29 z2) ∧ l0.length ≤ maxLen) → ((l0.map fun z => wt29 z).sum + 1) ≤ 1048576 → ∃ k, gnomonlaw09_LexJoins.f k l0 = some true := by
  intro l h1 h2
  have hw : tot l ≤ 1048576 := by unfold tot; omega
  have hl : l.length ≤ tot l := by
    clear h1 h2 hw
    induction l with
    | nil => simp
    | cons x l ih => rw [tot_cons, List.length_cons]; unfold wt29; omega
  exact Ev.rounds (joins_loop l (by omega) hw l.length 0 (by omega) (by omega) (by simp))
end Go.Proofs.YtgkcjefbagnkpaaDoor.PLex
