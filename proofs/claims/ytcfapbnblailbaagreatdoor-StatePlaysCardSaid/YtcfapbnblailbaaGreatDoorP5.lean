/-
  Lists that are handed in with room; what a state is; keys, invariants, whether time may pass: the program and the document answer the same.
-/
import Derived.Test.YtcfapbnblailbaaGreatDoorP4
set_option linter.unusedVariables false
set_option linter.unusedSimpArgs false
set_option maxRecDepth 100000
namespace Go.Proofs.YtcfapbnblailbaaGreatDoor.Q
open Go Go.Den Go.RowKit Go.Proofs
noncomputable section
theorem rd_head {xs : List Int} {i : Nat} {y : Int} {l : List Int} (h : xs.drop i = y :: l) : rd xs (i : Int) = y := by
  unfold rd
  rw [List.getD_eq_getElem?_getD, Int.toNat_natCast, (drop_cons h).2.1]; rfl
/-! Lists with room -/
def mark (n j : Nat) : Int := w64 (w64 ((-700) - (j : Int)) + (n : Int))
theorem hand1 {l : List Int} : ∀ (m i : Nat) (x : List Int), x.length - i ≤ m → l.length ≤ i → i ≤ x.length → x.length ≤ cap → (∀ j, l.length ≤ j → j < i → x[j]? = some (mark l.length j)) →
    ∃ y : List Int, y.length = x.length ∧ (∀ j, j < l.length → y[j]? = x[j]?) ∧ (∀ j, l.length ≤ j → j < y.length → y[j]? = some (mark l.length j)) ∧ Ev (fun k => gnomonmem_HandInts.l1 k l x (i : Int)) (y.take l.length, y.drop l.length)
  | m, i, x, h1, h2, h3, h4, h5 => by
    by_cases hi : i < x.length
    · match m, h1 with
      | 0, h1 => omega
      | m + 1, h1 =>
      obtain ⟨y, g1, g2, g3, g4⟩ := hand1 (l := l) m (i + 1) (x.set i (mark l.length i)) (by rw [List.length_set]; omega) (by omega) (by rw [List.length_set]; omega) (by rw [List.length_set]; exact h4) (fun j hj hj2 => by
        by_cases e : i = j
        · subst e; rw [List.getElem?_set_self hi]
        · rw [List.getElem?_set_ne e]; exact h5 j hj (by omega))
      refine ⟨y, by rw [g1, List.length_set], fun j hj => by rw [g2 j hj, List.getElem?_set_ne (by omega)], g3, ?_⟩
      refine Ev.step (fun k => by rw [gnomonmem_HandInts.l1, if_pos (by omega), if_pos (by omega), if_pos (by omega), w1 (by omega), Int.toNat_natCast]; rfl) g4
    · obtain rfl : i = x.length := by omega
      refine ⟨x, rfl, fun _ _ => rfl, h5, Ev.step (g := fun _ => some (x.take l.length, x.drop l.length)) (fun k => by rw [gnomonmem_HandInts.l1, if_neg (by omega), if_pos (by omega), if_pos (by omega), Int.toNat_natCast]) (Ev.now _)⟩
theorem hand0 {l : List Int} : ∀ (m i : Nat) (x : List Int), l.length - i ≤ m → i ≤ l.length → x.length = l.length + 9 → x.length ≤ cap → (∀ j, j < i → x[j]? = l[j]?) →
    ∃ y : List Int, y.length = l.length + 9 ∧ (∀ j, j < l.length → y[j]? = l[j]?) ∧ (∀ j, l.length ≤ j → j < y.length → y[j]? = some (mark l.length j)) ∧ Ev (fun k => gnomonmem_HandInts.l0 k l x (i : Int)) (y.take l.length, y.drop l.length)
  | m, i, x, h1, h2, h3, h4, h5 => by
    by_cases hi : i < l.length
    · match m, h1 with
      | 0, h1 => omega
      | m + 1, h1 =>
      have e0 : rd l (i : Int) = l[i] := rd_head (List.drop_eq_getElem_cons hi)
      obtain ⟨y, g1, g2, g3, g4⟩ := hand0 (l := l) m (i + 1) (x.set i (rd l (i : Int))) (by omega) (by omega) (by rw [List.length_set]; exact h3) (by rw [List.length_set]; exact h4) (fun j hj => by
        by_cases e : i = j
        · subst e; rw [List.getElem?_set_self (by omega), e0, List.getElem?_eq_getElem hi]
        · rw [List.getElem?_set_ne e]; exact h5 j (by omega))
      refine ⟨y, g1, g2, g3, ?_⟩
      refine Ev.step (fun k => by rw [gnomonmem_HandInts.l0, if_pos (by omega), if_pos (by omega), if_pos (by omega), if_pos (by omega), if_pos (by omega), w1 (by omega), Int.toNat_natCast]) g4
    · obtain rfl : i = l.length := by omega
      obtain ⟨y, g1, g2, g3, g4⟩ := hand1 (l := l) (x.length - l.length) l.length x (Nat.le_refl _) (Nat.le_refl _) (by omega) h4 (fun j hj hj2 => by omega)
      exact ⟨y, by omega, fun j hj => by rw [g2 j hj, h5 j hj], g3, Ev.step (fun k => by rw [gnomonmem_HandInts.l0, if_neg (by omega)]) g4⟩
/-- A row that holds a list and marks behind it. -/
structure Handed (l y : List Int) : Prop where
  len : y.length = l.length + 9
  same : y.take l.length = l
  marks : ∀ j, l.length ≤ j → j < y.length → y[j]? = some (mark l.length j)
theorem hand_ev {l : List Int} (hl : l.length ≤ 17592186043904) : ∃ y, Handed l y ∧ Ev (fun k => gnomonmem_HandInts.f k l) (l, y.drop l.length) := by
  have hc := cap_is
  have e : w64 ((l.length : Int) + 9) = ((l.length + 9 : Nat) : Int) := by rw [ws0 (by omega) (by omega)]; rfl
  obtain ⟨y, g1, g2, g3, g4⟩ := hand0 (l := l) l.length 0 (List.replicate (l.length + 9) 0) (by omega) (Nat.zero_le _) (by simp) (by simp; omega) (fun j hj => by omega)
  have hs : y.take l.length = l := by
    apply List.ext_getElem?
    intro j
    by_cases hj : j < l.length
    · rw [List.getElem?_take_of_lt hj, g2 j hj]
    · rw [List.getElem?_eq_none (by rw [List.length_take]; omega), List.getElem?_eq_none (by omega)]
  refine ⟨y, ⟨g1, hs, g3⟩, Ev.congr (fun k => by rw [gnomonmem_HandInts.f, e, if_pos (by omega), if_pos (by omega), Int.toNat_natCast]) ?_⟩
  rw [hs] at g4
  exact g4
theorem sameInts0 (x : List Int) : ∀ (l : List Int) (i : Nat), x.drop i = l → gnomonmem_SameInts.L0 x l i = some true
  | [], _, _ => rfl
  | g :: t, i, hd => by
    obtain ⟨g1, g2, g3⟩ := drop_cons hd
    rw [gnomonmem_SameInts.L0, if_pos (by omega), rd_head hd, if_pos rfl, sameInts0 x t (i + 1) g3]
theorem sameInts_eq {x : List Int} (h : x.length ≤ cap) : gnomonmem_SameInts.g x x = some true := by
  have := cap_is
  rw [gnomonmem_SameInts.g, if_pos rfl, if_pos (show x.length ≤ 9223372036854775807 by omega), sameInts0 x x 0 rfl]
theorem kept0 (l y : List Int) (hm : ∀ j, l.length ≤ j → j < y.length → y[j]? = some (mark l.length j)) : ∀ (t : List Int) (i : Nat), y.drop i = t → l.length ≤ i → gnomonmem_KeptInts.L0 l t i = some true
  | [], _, _, _ => rfl
  | z :: t, i, hd, hi => by
    obtain ⟨g1, g2, g3⟩ := drop_cons hd
    have h := hm i hi g1
    rw [g2] at h
    obtain rfl := Option.some.inj h
    rw [gnomonmem_KeptInts.L0, if_pos (show mark l.length i = w64 (w64 ((-700) - (i : Int)) + (l.length : Int)) from rfl), kept0 l y hm t (i + 1) g3 (by omega)]
theorem kept_eq {l y : List Int} (hl : l.length ≤ 17592186043904) (h : Handed l y) : gnomonmem_KeptInts.g (l, y.drop l.length) l = some true := by
  have hc := cap_is
  have e : w64 ((l.length : Int) + 9) = ((l.length + 9 : Nat) : Int) := by rw [ws0 (by omega) (by omega)]; rfl
  have ha : List.append l (y.drop l.length) = y := by
    have := List.take_append_drop l.length y
    rw [h.same] at this
    exact this
  have hy := h.len
  have ht : y.take (l.length + 9) = y := List.take_of_length_le (by omega)
  rw [gnomonmem_KeptInts.g]
  simp only [ha]
  rw [sameInts_eq (by omega), Option.bind_some, if_neg (by decide), e, if_pos (by omega), if_pos (by omega), Int.toNat_natCast, ht, if_pos ⟨by omega, by omega⟩, Int.toNat_natCast, kept0 l y h.marks _ l.length rfl (Nat.le_refl _)]
/-! The first state -/
theorem rfirst1 (x : List Int) : ∀ (l : List S104) (y : List Int), y.length + l.length ≤ 17592186044416 → gnomonref13_First.L1 x l y = some (x, y ++ l.map (fun v => v.f3), 0)
  | [], y, _ => by simp [gnomonref13_First.L1]
  | v :: t, y, h => by
    rw [List.length_cons] at h
    rw [gnomonref13_First.L1, if_pos (by omega), rfirst1 x t _ (by simp; omega)]; simp
theorem rfirst2 (b : List S104) (hb : b.length ≤ 1000) : ∀ (l : List S94) (y : List Int), y.length + l.length ≤ 17592186044416 → gnomonref13_First.L0 b [] l y = some (y ++ List.replicate l.length 0, b.map (fun v => v.f3), 0)
  | [], y, _ => by
    rw [gnomonref13_First.L0, if_pos (by omega), rfirst1 y b [] (by simp; omega)]; simp
  | v :: t, y, h => by
    rw [List.length_cons] at h
    rw [gnomonref13_First.L0, if_pos (by omega), rfirst2 b hb t _ (by simp; omega), List.length_cons, List.replicate_succ]; simp
theorem rfirst_eq {a b c d} (h : OkN a b c d) : gnomonref13_First.g a b c d = some (sFirst a b c d) := by
  rw [gnomonref13_First.g, rright_g h, Option.bind_some, sFirst]
  by_cases hw : sWhole a b c d = 0
  · have hf := (wh_of h hw).few
    have h1 := hf.al; have h2 := hf.bl; have h3 := hf.cl; have h4 := hf.dl
    rw [decide_eq_true hw, if_neg (by decide), if_pos hw, if_pos (by omega), rfirst2 b (by omega) d [] (by simp; omega)]
    simp
  · rw [decide_eq_false hw, if_pos (show (!false) = true from rfl), if_neg hw]
theorem row0 (x : List Int) : ∀ (l : List Int) (i : Nat), x.drop i = l → gnomonref13_row.L0 x x l i = some 0
  | [], i, _ => by rw [gnomonref13_row.L0, if_neg (by omega), if_neg (by omega)]
  | g :: t, i, hd => by
    obtain ⟨g1, g2, g3⟩ := drop_cons hd
    rw [gnomonref13_row.L0, if_pos (by omega), if_pos (by omega), rd_head hd, if_neg (by omega), if_pos (by omega), if_neg (by omega), row0 x t (i + 1) g3]
theorem sameSt_eq {x y : List Int} (h : x.length ≤ cap) (h' : y.length ≤ cap) : gnomonref13_Same.g x y x y = some true := by
  have := cap_is
  rw [gnomonref13_Same.g, gnomonref13_Compare.g, gnomonref13_row.g, if_pos (show x.length ≤ 9223372036854775807 by omega), row0 x x 0 rfl, Option.bind_some, if_pos rfl, gnomonref13_row.g, if_pos (show y.length ≤ 9223372036854775807 by omega), row0 y y 0 rfl]; rfl
/-! What a state is -/
def isA : List S94 → List Int → Bool
  | [], [] => true
  | x :: t, i :: s => inL x i && isA t s
  | _, _ => false
def isV : List S104 → List Int → Bool
  | [], [] => true
  | v :: t, x :: s => (decide (x ≥ v.f1) && decide (x ≤ v.f2)) && isV t s
  | _, _ => false
theorem isA_len : ∀ {d : List S94} {l : List Int}, isA d l = true → d.length = l.length
  | [], [], _ => rfl
  | _ :: t, _ :: s, h => by
    simp only [isA, Bool.and_eq_true] at h
    simp [isA_len h.2]
theorem isV_len : ∀ {d : List S104} {l : List Int}, isV d l = true → d.length = l.length
  | [], [], _ => rfl
  | _ :: t, _ :: s, h => by
    simp only [isV, Bool.and_eq_true] at h
    simp [isV_len h.2]
theorem inL_eq2 (n : ByteArray) (ls : List S102) (es : List S97) (i : Int) : state_is_1.f n ls es i = some (decide (i ≥ 0) && decide (i < (ls.length : Int))) := by
  unfold state_is_1.f
  by_cases h : i ≥ 0
  · rw [if_pos h, decide_eq_true h, Bool.true_and]
  · rw [if_neg h, decide_eq_false h, Bool.false_and]
theorem inV_eq (v : S104) (i : Int) : state_is_2.f v.f0 v.f1 v.f2 v.f3 i = some (decide (i ≥ v.f1) && decide (i ≤ v.f2)) := by
  unfold state_is_2.f
  by_cases h : i ≥ v.f1
  · rw [if_pos h, decide_eq_true h, Bool.true_and]
  · rw [if_neg h, decide_eq_false h, Bool.false_and]
theorem besA (x1 : List Int) : ∀ (l : List S94) (i : Nat) (s : List Int), x1.drop i = s → l.length = s.length → state_beside_api_Auto_int_at163.L0 x1 l i = some (isA l s)
  | [], i, s, hd, hl => by
    obtain rfl : s = [] := List.eq_nil_of_length_eq_zero (by simpa using hl.symm)
    rfl
  | x :: t, i, s, hd, hl => by
    match s, hl with
    | [], hl => simp at hl
    | y :: s, hl =>
    obtain ⟨g1, g2, g3⟩ := drop_cons hd
    rw [state_beside_api_Auto_int_at163.L0, if_pos (by omega), rd_head hd, inL_eq2, Option.bind_some, besA x1 t (i + 1) s g3 (by simpa using hl), isA, inL]
    cases (decide (y ≥ 0) && decide (y < (x.f1.length : Int))) <;> rfl
theorem besV (x1 : List Int) : ∀ (l : List S104) (i : Nat) (s : List Int), x1.drop i = s → l.length = s.length → state_beside_api_Variable_int_at164.L0 x1 l i = some (isV l s)
  | [], i, s, hd, hl => by
    obtain rfl : s = [] := List.eq_nil_of_length_eq_zero (by simpa using hl.symm)
    rfl
  | x :: t, i, s, hd, hl => by
    match s, hl with
    | [], hl => simp at hl
    | y :: s, hl =>
    obtain ⟨g1, g2, g3⟩ := drop_cons hd
    rw [state_beside_api_Variable_int_at164.L0, if_pos (by omega), rd_head hd, inV_eq, Option.bind_some, besV x1 t (i + 1) s g3 (by simpa using hl), isV]
    cases (decide (y ≥ x.f1) && decide (y ≤ x.f2)) <;> rfl
theorem isA_no {d : List S94} {l : List Int} (h : ¬ d.length = l.length) : isA d l = false := by
  cases hb : isA d l with
  | false => rfl
  | true => exact absurd (isA_len hb) h
theorem isV_no {d : List S104} {l : List Int} (h : ¬ d.length = l.length) : isV d l = false := by
  cases hb : isV d l with
  | false => rfl
  | true => exact absurd (isV_len hb) h
theorem isS_eq {a b c d} (h : OkN a b c d) (l v : List Int) : state_is.g a b c d l v = some (isA d l && isV b v) := by
  have := cap_is
  have h1 := h.dl; have h2 := h.bl
  rw [state_is.g, state_beside_api_Auto_int_at163.g, state_beside_api_Variable_int_at164.g, if_pos (show d.length ≤ 9223372036854775807 by omega), if_pos (show b.length ≤ 9223372036854775807 by omega)]
  by_cases e : d.length = l.length
  · rw [if_pos (by omega), besA l d 0 l rfl e, Option.bind_some]
    cases isA d l with
    | false => rfl
    | true =>
      rw [if_pos rfl, Bool.true_and]
      by_cases e2 : b.length = v.length
      · rw [if_pos (by omega), besV v b 0 v rfl e2, Option.bind_some]
      · rw [if_neg (by omega), isV_no e2, Option.bind_some]
  · rw [if_neg (by omega), isA_no e]; rfl
def isSt (a : List ByteArray) (b : List S104) (c : List ByteArray) (d : List S94) (l v : List Int) : Bool := decide (sWhole a b c d = 0) && (isA d l && isV b v)
theorem stRight_eq {a b c d} (h : OkN a b c d) (l v : List Int) : state_Right.g a b c d l v = some (isSt a b c d l v) := by
  rw [state_Right.g, right_g h, Option.bind_some, isS_eq h, Option.bind_some, isSt]
  cases decide (sWhole a b c d = 0) <;> rfl
theorem rV (b : List S104) : ∀ (s : List Int) (i : Nat) (l : List S104), b.drop i = l → l.length = s.length → gnomonref13_Right.L2 b s i = some (isV l s)
  | [], i, l, hd, hl => by
    obtain rfl : l = [] := List.eq_nil_of_length_eq_zero (by simpa using hl)
    rfl
  | y :: s, i, l, hd, hl => by
    match l, hl with
    | [], hl => simp at hl
    | x :: t, hl =>
    obtain ⟨g1, g2, g3⟩ := drop_cons hd
    have e : rd_T104 b (i : Int) = x := rdT_head (t := T104) hd
    have hi : (i : Int) < (b.length : Int) := by omega
    rw [gnomonref13_Right.L2, if_pos hi, if_pos hi, e, rV b s (i + 1) t g3 (by simpa using hl), isV]
    by_cases h1 : y < x.f1
    · rw [if_pos h1, decide_eq_false (by omega)]; rfl
    · rw [if_neg h1, decide_eq_true (by omega)]
      by_cases h2 : y > x.f2
      · rw [if_pos h2, decide_eq_false (by omega)]; rfl
      · rw [if_neg h2, decide_eq_true (by omega)]; rfl
theorem rA (b : List S104) (d : List S94) (v : List Int) (K : Option Bool) (hK : gnomonref13_Right.L1 b d v [] 0 = K) : ∀ (s : List Int) (i : Nat) (l : List S94), d.drop i = l → l.length = s.length → gnomonref13_Right.L1 b d v s i = if isA l s = true then K else some false
  | [], i, l, hd, hl => by
    obtain rfl : l = [] := List.eq_nil_of_length_eq_zero (by simpa using hl)
    exact hK
  | y :: s, i, l, hd, hl => by
    match l, hl with
    | [], hl => simp at hl
    | x :: t, hl =>
    obtain ⟨g1, g2, g3⟩ := drop_cons hd
    have e : rd_T94 d (i : Int) = x := rdT_head (t := T94) hd
    have hi : (i : Int) < (d.length : Int) := by omega
    rw [gnomonref13_Right.L1, if_pos hi, e, rA b d v K hK s (i + 1) t g3 (by simpa using hl), isA, inL]
    by_cases h1 : y < 0
    · rw [if_pos h1, decide_eq_false (by omega)]; rfl
    · rw [if_neg h1, decide_eq_true (by omega)]
      by_cases h2 : y ≥ (x.f1.length : Int)
      · rw [if_pos h2, decide_eq_false (by omega)]; rfl
      · rw [if_neg h2, decide_eq_true (by omega)]; rfl
theorem rRight_eq {a b c d} (h : OkN a b c d) {l v : List Int} (hl : l.length ≤ cap) (hv : v.length ≤ cap) : gnomonref13_Right.g a b c d l v = some (isSt a b c d l v) := by
  have := cap_is
  rw [gnomonref13_Right.g, rright_g h, Option.bind_some, isSt]
  cases hw : decide (sWhole a b c d = 0) with
  | false => rfl
  | true =>
    rw [if_neg (by decide), Bool.true_and]
    by_cases e : d.length = l.length
    · rw [if_pos (by omega), if_pos (show l.length ≤ 9223372036854775807 by omega), rA b d v _ rfl l 0 d rfl e]
      by_cases e2 : b.length = v.length
      · rw [if_pos (by omega), gnomonref13_Right.L1, if_pos (show v.length ≤ 9223372036854775807 by omega), rV b v 0 b rfl e2]
        cases isA d l <;> rfl
      · rw [if_neg (by omega), isV_no e2, Bool.and_false]
    · rw [if_neg (by omega), isA_no e]; rfl
def sWrong (a : List ByteArray) (b : List S104) (c : List ByteArray) (d : List S94) (l v : List Int) : Int := if sWhole a b c d = 0 then (if (isA d l && isV b v) = true then 0 else 130) else 7
theorem wrong_eq {a b c d} (h : OkN a b c d) (l v : List Int) : state_wrong.g a b c d l v = some (sWrong a b c d l v) := by
  rw [state_wrong.g, right_g h, Option.bind_some, isS_eq h, Option.bind_some, sWrong]
  by_cases hw : sWhole a b c d = 0
  · rw [decide_eq_true hw, if_pos hw]; cases (isA d l && isV b v) <;> rfl
  · rw [decide_eq_false hw, if_neg hw]; rfl
theorem bad_eq {a b c d} (h : OkN a b c d) {l v : List Int} (hl : l.length ≤ cap) (hv : v.length ≤ cap) : gnomonref13_bad.g a b c d l v = some (sWrong a b c d l v) := by
  rw [gnomonref13_bad.g, rright_g h, Option.bind_some, rRight_eq h hl hv, Option.bind_some, sWrong, isSt]
  by_cases hw : sWhole a b c d = 0
  · rw [decide_eq_true hw, if_pos hw, Bool.true_and]; cases (isA d l && isV b v) <;> rfl
  · rw [decide_eq_false hw, if_neg hw]; rfl
theorem wrong_0 {a b c d} {l v : List Int} (h : sWrong a b c d l v = 0) : sWhole a b c d = 0 ∧ isA d l = true ∧ isV b v = true := by
  unfold sWrong at h
  split at h
  · next hw =>
    split at h
    · next h2 => rw [Bool.and_eq_true] at h2; exact ⟨hw, h2⟩
    · cases h
  · cases h
/-! Whether time may pass -/
def plain : List S94 → List Int → Bool
  | x :: t, i :: s => decide ((rd_T102 x.f1 i).f1 = 0) && plain t s
  | _, _ => true
theorem besP (x1 : List Int) : ∀ (l : List S94) (i : Nat) (s : List Int), x1.drop i = s → isA l s = true → state_beside_api_Auto_int_at63.L0 x1 l i = some (plain l s)
  | [], i, s, hd, hl => by cases s <;> rfl
  | x :: t, i, [], hd, hl => by cases hl
  | x :: t, i, y :: s, hd, hl => by
    obtain ⟨g1, g2, g3⟩ := drop_cons hd
    simp only [isA, inL, Bool.and_eq_true, decide_eq_true_eq] at hl
    rw [state_beside_api_Auto_int_at63.L0, if_pos (by omega), rd_head hd, state_Stays_1.f, if_pos (by omega), if_pos hl.1.2, Option.bind_some, besP x1 t (i + 1) s g3 hl.2, plain]
    cases decide ((rd_T102 x.f1 y).f1 = 0) <;> rfl
theorem rP (d : List S94) : ∀ (s : List Int) (i : Nat) (l : List S94), d.drop i = l → isA l s = true → gnomonref13_Stays.L0 d s i = some (plain l s)
  | [], i, l, hd, hl => by cases l <;> rfl
  | y :: s, i, [], hd, hl => by cases hl
  | y :: s, i, x :: t, hd, hl => by
    obtain ⟨g1, g2, g3⟩ := drop_cons hd
    have e : rd_T94 d (i : Int) = x := rdT_head (t := T94) hd
    simp only [isA, inL, Bool.and_eq_true, decide_eq_true_eq] at hl
    rw [gnomonref13_Stays.L0, if_pos (by omega), if_pos (by omega), e, if_pos hl.1.2, rP d s (i + 1) t g3 hl.2, plain]
    by_cases h0 : (rd_T102 x.f1 y).f1 = 0
    · rw [if_pos h0, decide_eq_true h0]; rfl
    · rw [if_neg h0, decide_eq_false h0]; rfl
def sStays (a : List ByteArray) (b : List S104) (c : List ByteArray) (d : List S94) (l v : List Int) : Bool := isSt a b c d l v && plain d l
theorem stays_eq {a b c d} (h : OkN a b c d) (l v : List Int) : state_Stays.g a b c d l v = some (sStays a b c d l v) := by
  have := cap_is
  have h1 := h.dl
  rw [state_Stays.g, stRight_eq h, Option.bind_some, sStays]
  cases hs : isSt a b c d l v with
  | false => rfl
  | true =>
    simp only [isSt, Bool.and_eq_true] at hs
    rw [if_pos rfl, state_beside_api_Auto_int_at63.g, if_pos (by have := isA_len hs.2.1; omega), if_pos (show d.length ≤ 9223372036854775807 by omega), besP l d 0 l rfl hs.2.1]; rfl
theorem rstays_eq {a b c d} (h : OkN a b c d) {l v : List Int} (hl : l.length ≤ cap) (hv : v.length ≤ cap) : gnomonref13_Stays.g a b c d l v = some (sStays a b c d l v) := by
  have := cap_is
  rw [gnomonref13_Stays.g, rRight_eq h hl hv, Option.bind_some, sStays]
  cases hs : isSt a b c d l v with
  | false => rfl
  | true =>
    simp only [isSt, Bool.and_eq_true] at hs
    rw [if_neg (by decide), if_pos (show l.length ≤ 9223372036854775807 by omega), rP d l 0 d rfl hs.2.1]; rfl
/-! Keys, invariants -/
theorem key1 (b : List S104) : ∀ (v : List Int) (i : Nat) (x : List Int), i + v.length = b.length → x.length + 4 * v.length ≤ 1000 →
    ∃ r : List Int, r.length ≤ 1000 ∧ state_Key.L1 b v i x = some (r, 0) ∧ gnomonref13_Key.L1 b v i x = some (r, 0)
  | [], i, x, _, hx => ⟨x, by simpa using hx, rfl, rfl⟩
  | y :: v, i, x, hi, hx => by
    rw [List.length_cons] at hi hx
    obtain ⟨r, h1, h2, h3⟩ := key1 b v (i + 1) (x ++ [wk .u8 (((wk .u32 (w64 (y - ((rd_T104 b (i : Int)).f1)))) / 16777216)), wk .u8 (((wk .u32 (w64 (y - ((rd_T104 b (i : Int)).f1)))) / 65536)), wk .u8 (((wk .u32 (w64 (y - ((rd_T104 b (i : Int)).f1)))) / 256)), wk .u8 (wk .u32 (w64 (y - ((rd_T104 b (i : Int)).f1))))]) (by omega) (by simp; omega)
    refine ⟨r, h1, ?_, ?_⟩
    · rw [state_Key.L1, if_pos (by omega), if_pos (by omega), h2]
    · rw [gnomonref13_Key.L1, if_pos (by omega), if_pos (by omega), h3]
theorem key0 (b : List S104) (v : List Int) (hv : v.length = b.length) (hv2 : v.length ≤ 100) : ∀ (l : List Int) (x : List Int), x.length + l.length ≤ 100 →
    ∃ r : List Int, r.length ≤ 1000 ∧ state_Key.L0 b v l x = some (r, 0) ∧ gnomonref13_Key.L0 b v l x = some (r, 0)
  | [], x, hx => by
    rw [List.length_nil] at hx
    obtain ⟨r, h1, h2, h3⟩ := key1 b v 0 x (by omega) (by omega)
    exact ⟨r, h1, by rw [state_Key.L0, if_pos (by omega), h2], by rw [gnomonref13_Key.L0, if_pos (by omega), h3]⟩
  | y :: l, x, hx => by
    rw [List.length_cons] at hx
    obtain ⟨r, h1, h2, h3⟩ := key0 b v hv hv2 l (x ++ [wk .u8 y]) (by simp; omega)
    exact ⟨r, h1, by rw [state_Key.L0, if_pos (by omega), h2], by rw [gnomonref13_Key.L0, if_pos (by omega), h3]⟩
theorem key_eq {a b c d} (h : OkN a b c d) {l v : List Int} (hl : l.length ≤ cap) (hv : v.length ≤ cap) : ∃ (r : List Int) (e : Int), r.length ≤ 1000 ∧ state_Key.g a b c d l v = some (r, e) ∧ gnomonref13_Key.g a b c d l v = some (r, e) := by
  have := cap_is
  by_cases hw : sWrong a b c d l v = 0
  · obtain ⟨g1, g2, g3⟩ := wrong_0 hw
    have hf := (wh_of h g1).few
    have h1 := hf.bl; have h2 := hf.dl
    have e1 := isA_len g2; have e2 := isV_len g3
    obtain ⟨r, r1, r2, r3⟩ := key0 b v e2.symm (by omega) l [] (by simp; omega)
    exact ⟨r, 0, r1, by rw [state_Key.g, wrong_eq h, Option.bind_some, if_pos hw, if_pos (by omega), r2], by rw [gnomonref13_Key.g, bad_eq h hl hv, Option.bind_some, if_pos hw, if_pos (by omega), r3]⟩
  · exact ⟨[], _, by simp, by rw [state_Key.g, wrong_eq h, Option.bind_some, if_neg hw], by rw [gnomonref13_Key.g, bad_eq h hl hv, Option.bind_some, if_neg hw]⟩
theorem memSame0 (x : List Int) : ∀ (l : List Int) (i : Nat), x.drop i = l → gnomonmem_Same.L0 x l i = some true
  | [], _, _ => rfl
  | g :: t, i, hd => by
    obtain ⟨g1, g2, g3⟩ := drop_cons hd
    have e : rdT (.int .u8) x (i : Int) = g := rdT_head (t := .int .u8) hd
    rw [gnomonmem_Same.L0, if_pos (by omega), e, if_pos rfl, memSame0 x t (i + 1) g3]
theorem memSame_eq {x : List Int} (h : x.length ≤ 1000) : gnomonmem_Same.g x x = some true := by
  rw [gnomonmem_Same.g, if_pos rfl, if_pos (by omega), memSame0 x x 0 rfl]
theorem inv1 (d : List S94) (hx : ∀ x ∈ d, ∀ l ∈ x.f1, l.f2.length ≤ 16) (hd8 : d.length ≤ 8) : ∀ (s : List Int) (i : Nat) (x : List S38) (l : List S94), d.drop i = l → isA l s = true → x.length ≤ 16 * i → i ≤ 8 →
    ∃ r : List S38, r.length ≤ 1000 ∧ state_Invariants.L0 d s i x = some (r, 0) ∧ gnomonref13_Invariants.L0 d s i x = some (r, 0)
  | [], i, x, l, hd, hl, hx2, hi8 => ⟨x, by omega, rfl, rfl⟩
  | y :: s, i, x, [], hd, hl, hx2, _ => by cases hl
  | y :: s, i, x, z :: t, hd, hl, hx2, hi8 => by
    obtain ⟨g1, g2, g3⟩ := drop_cons hd
    have e : rd_T94 d (i : Int) = z := rdT_head (t := T94) hd
    simp only [isA, inL, Bool.and_eq_true, decide_eq_true_eq] at hl
    have hy : y.toNat < z.f1.length := by omega
    have e2 : rd_T102 z.f1 y = z.f1[y.toNat] := by
      have := rdT_head (t := T102) (xs := z.f1) (i := y.toNat) (List.drop_eq_getElem_cons hy)
      rwa [Int.toNat_of_nonneg hl.1.1] at this
    have h3 : (z.f1[y.toNat] : S102).f2.length ≤ 16 := hx z (List.mem_of_getElem? g2) _ (List.getElem_mem hy)
    obtain ⟨r, r1, r2, r3⟩ := inv1 d hx hd8 s (i + 1) (x ++ (z.f1[y.toNat] : S102).f2) t g3 hl.2 (by rw [List.length_append]; omega) (by omega)
    refine ⟨r, r1, ?_, ?_⟩
    · rw [state_Invariants.L0, if_pos (by omega), if_pos hl.1.1, e, if_pos hl.1.2, e2, if_pos (by omega), r2]
    · rw [gnomonref13_Invariants.L0, if_pos (by omega), if_pos hl.1.1, e, if_pos hl.1.2, e2, if_pos (by omega), r3]
end
end Go.Proofs.YtcfapbnblailbaaGreatDoor.Q
