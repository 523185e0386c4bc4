import Derived.Test.YtgkcjefbagnkpaaDoorPureExprTexts
import Derived.Test.YtgkcjefbagnkpaaDoorPureXP
import Derived.Test.YtgkcjefbagnkpaaDoorPExprx13
namespace Go.Proofs.YtgkcjefbagnkpaaDoor.PExpr
set_option linter.unusedVariables false
set_option linter.unusedSimpArgs false
open Go Go.RowKit Go.Proofs.YtgkcjefbagnkpaaDoorW.PrintWords Go.Proofs.YtgkcjefbagnkpaaDoorW.PrintMore

theorem bt_nat {s : ByteArray} {i : Nat} (h : i < s.size) : (bs s)[i]? = some (s[i]'h) ∧ bt s (i : Int) = ((s[i]'h).toNat : Int) := by
  constructor
  · unfold bs
    rw [Array.getElem?_toList]
    exact Array.getElem?_eq_getElem h
  · have := bt_at s (i : Int) (by simpa using h)
    simpa using this.symm
theorem bs_len (s : ByteArray) : (bs s).length = s.size := data_length s
theorem bs_toList (s : ByteArray) : s.toList = bs s := ByteArray.toList_eq s
theorem bs_inj {a b : ByteArray} (h : bs a = bs b) : a = b := by
  obtain ⟨a⟩ := a
  obtain ⟨b⟩ := b
  unfold bs at h
  have h2 : a = b := Array.toList_inj.1 h
  rw [h2]
/-- What a byte of a name may be, at a place. -/
def goodAt (c j : Int) : Prop := (97 ≤ c ∧ c ≤ 122) ∨ (65 ≤ c ∧ c ≤ 90) ∨ (j ≠ 0 ∧ ((48 ≤ c ∧ c ≤ 57) ∨ c = 95))
theorem isName_good {z : ByteArray} {j : Nat} (hj : j < z.size) (hg : goodAt (bt z (j : Int)) (j : Int)) (k : Nat) : gnomonlaw08_isName.l0 (k + 1) z (j : Int) = gnomonlaw08_isName.l0 k z (wrap64 ((j : Int) + 1)) := by
  unfold goodAt at hg
  rw [gnomonlaw08_isName.l0, if_pos (by omega), if_pos (by omega)]
  generalize bt z (j : Int) = c at *
  repeat' split
  all_goals first | rfl | (exfalso; omega)
theorem isName_bad {z : ByteArray} {j : Nat} (hj : j < z.size) (hg : ¬ goodAt (bt z (j : Int)) (j : Int)) (k : Nat) : gnomonlaw08_isName.l0 (k + 1) z (j : Int) = some false := by
  unfold goodAt at hg
  rw [gnomonlaw08_isName.l0, if_pos (by omega), if_pos (by omega)]
  generalize bt z (j : Int) = c at *
  repeat' split
  all_goals first | rfl | (exfalso; omega)
theorem isName_loop {z : ByteArray} (hz : z.size ≤ 140737488355328) : ∀ n j : Nat, z.size - j ≤ n → j ≤ z.size → (∀ i : Nat, i < j → goodAt (bt z (i : Int)) (i : Int)) →
    ∃ b, Ev (fun k => gnomonlaw08_isName.l0 k z (j : Int)) b ∧ (b = true → 0 < z.size ∧ (∀ i : Nat, i < z.size → goodAt (bt z (i : Int)) (i : Int)) ∧ z.toList ≠ [116, 114, 117, 101]) := by
  have fin : ∀ j : Nat, j = z.size → (∀ i : Nat, i < j → goodAt (bt z (i : Int)) (i : Int)) → ∃ b, Ev (fun k => gnomonlaw08_isName.l0 k z (j : Int)) b ∧ (b = true → 0 < z.size ∧ (∀ i : Nat, i < z.size → goodAt (bt z (i : Int)) (i : Int)) ∧ z.toList ≠ [116, 114, 117, 101]) := by
    intro j hj h
    subst hj
    by_cases hp : (z.size : Int) > 0
    · exact ⟨z.toList != [116, 114, 117, 101], Ev.step (fun k => by rw [gnomonlaw08_isName.l0, if_neg (by omega), if_pos hp]) (Ev.now _), fun hb => ⟨by omega, h, by simpa using hb⟩⟩
    · exact ⟨false, Ev.step (fun k => by rw [gnomonlaw08_isName.l0, if_neg (by omega), if_neg hp]) (Ev.now _), fun hb => by cases hb⟩
  intro n
  induction n with
  | zero => intro j h1 h2 h3; exact fin j (by omega) h3
  | succ n ih =>
    intro j h1 h2 h3
    by_cases hj : j = z.size
    · exact fin j hj h3
    · by_cases hg : goodAt (bt z (j : Int)) (j : Int)
      · obtain ⟨b, hb, h⟩ := ih (j + 1) (by omega) (by omega) (fun i hi => by
          rcases Nat.lt_or_ge i j with h | h
          · exact h3 i h
          · rw [show i = j by omega]; exact hg)
        exact ⟨b, Ev.step (fun k => by rw [isName_good (by omega) hg, show wrap64 ((j : Int) + 1) = ((j + 1 : Nat) : Int) by unfold wrap64; omega]) hb, h⟩
      · exact ⟨false, Ev.step (fun k => isName_bad (by omega) hg k) (Ev.now _), fun hb => by cases hb⟩
theorem isName_ev {z : ByteArray} (hz : z.size ≤ 140737488355328) : ∃ b, Ev (fun k => gnomonlaw08_isName.f k z) b ∧ (b = true → NameOk z) := by
  obtain ⟨b, h1, h2⟩ := isName_loop hz z.size 0 (by omega) (Nat.zero_le _) (fun i hi => by omega)
  refine ⟨b, Ev.congr (fun k => by (rw [gnomonlaw08_isName.f]; try rfl)) h1, fun hb => ?_⟩
  obtain ⟨h3, h4, h5⟩ := h2 hb
  refine ⟨?_, fun d hd => ?_, by rw [← bs_toList]; exact h5⟩
  · obtain ⟨e1, e2⟩ := bt_nat h3
    have h6 := h4 0 h3
    rw [e2] at h6
    cases hb : bs z with
    | nil => rw [hb] at e1; simp at e1
    | cons c r =>
      rw [hb] at e1
      have : c = z[0] := by simpa using e1
      refine ⟨c, r, rfl, ?_⟩
      rw [this]
      unfold goodAt at h6
      omega
  · obtain ⟨i, hi⟩ := List.getElem?_of_mem hd
    have hlt : i < z.size := by rw [← bs_len]; exact (List.getElem?_eq_some_iff.1 hi).1
    obtain ⟨e1, e2⟩ := bt_nat hlt
    rw [e1] at hi
    have h6 := h4 i hlt
    rw [e2, Option.some.inj hi] at h6
    unfold goodAt at h6
    unfold isNm
    simp only [decide_eq_true_eq]
    omega
section
variable {l m : List S68} {names : List ByteArray}
def soFar (names : List ByteArray) (i : Nat) : Prop := (∀ a : Nat, a < i → NameOk (rdOf ByteArray.empty names (a : Int))) ∧ ∀ a b : Nat, a < b → b < i → (rdOf ByteArray.empty names (a : Int)).toList ≠ (rdOf ByteArray.empty names (b : Int)).toList
theorem soFar_ok (h : soFar names names.length) : NamesOk names := by
  refine ⟨h.1, fun i j hi hj he => ?_⟩
  rw [← bs_toList, ← bs_toList] at he
  rcases Nat.lt_trichotomy i j with h1 | h1 | h1
  · exact absurd he (h.2 i j h1 hj)
  · exact h1
  · exact absurd he.symm (h.2 j i h1 hi)
theorem unlike_inner {i : Nat} (hi : i < names.length) (hl : names.length ≤ 140737488355328) (hnext : (∀ a : Nat, a < i → (rdOf ByteArray.empty names (a : Int)).toList ≠ (rdOf ByteArray.empty names (i : Int)).toList) → Ev (fun k => gnomonlaw08_ExprUnlike.l0 k l m names ((i + 1 : Nat) : Int)) true) :
    ∀ n j : Nat, i - j ≤ n → j ≤ i → (∀ a : Nat, a < j → (rdOf ByteArray.empty names (a : Int)).toList ≠ (rdOf ByteArray.empty names (i : Int)).toList) → Ev (fun k => gnomonlaw08_ExprUnlike.l1 k l m names (i : Int) (j : Int)) true := by
  have hw : ∀ j : Nat, j ≤ i → wrap64 ((j : Int) + 1) = ((j + 1 : Nat) : Int) := fun j hj => by unfold wrap64; omega
  have fin : ∀ j : Nat, j = i → (∀ a : Nat, a < j → (rdOf ByteArray.empty names (a : Int)).toList ≠ (rdOf ByteArray.empty names (i : Int)).toList) → Ev (fun k => gnomonlaw08_ExprUnlike.l1 k l m names (i : Int) (j : Int)) true := by
    intro j hj h
    subst hj
    exact Ev.step (fun k => by rw [gnomonlaw08_ExprUnlike.l1, if_neg (by omega), hw j (Nat.le_refl _)]) (hnext h)
  intro n
  induction n with
  | zero => intro j h1 h2 h3; exact fin j (by omega) h3
  | succ n ih =>
    intro j h1 h2 h3
    by_cases hj : j = i
    · exact fin j hj h3
    · by_cases he : (rdOf ByteArray.empty names (j : Int)).toList = (rdOf ByteArray.empty names (i : Int)).toList
      · refine Ev.step (fun k => by (rw [gnomonlaw08_ExprUnlike.l1, if_pos (by omega), if_pos (by omega), if_pos (by omega), if_pos (by omega), if_pos (by omega), if_pos he]; try rfl)) (Ev.bind live_ev (Ev.now _))
      · refine Ev.step (fun k => by rw [gnomonlaw08_ExprUnlike.l1, if_pos (by omega), if_pos (by omega), if_pos (by omega), if_pos (by omega), if_pos (by omega), if_neg he, hw j h2]) (ih (j + 1) (by omega) (by omega) (fun a ha => ?_))
        rcases Nat.lt_or_ge a j with h | h
        · exact h3 a h
        · rw [show a = j by omega]; exact he
theorem unlike_outer (hl : opsOk l) (hm : opsOk m) (hlb : l.length ≤ 140737488351232) (hn : ∀ z ∈ names, z.size ≤ 140737488355328) (hlen : names.length ≤ 140737488351232) : ∀ n i : Nat, names.length - i ≤ n → i ≤ names.length → soFar names i → Ev (fun k => gnomonlaw08_ExprUnlike.l0 k l m names (i : Int)) true := by
  have fin : ∀ i : Nat, i = names.length → soFar names i → Ev (fun k => gnomonlaw08_ExprUnlike.l0 k l m names (i : Int)) true := by
    intro i hi h
    subst hi
    have hN := soFar_ok h
    obtain ⟨r, h1, h2, h3⟩ := print_both (l := l) (names := names) hl hn (by omega)
    obtain ⟨s, g1, g2, g3⟩ := print_both (l := m) (names := names) hm hn (by omega)
    obtain ⟨s1, s2⟩ := same_both (l := l) (m := m) (by omega)
    refine Ev.step (fun k => by (rw [gnomonlaw08_ExprUnlike.l0, if_neg (by omega)]; try rfl)) (Ev.bind h1 (Ev.bind g1 (Ev.bind live_ev ?_)))
    by_cases hr : r.2 = 0
    · by_cases hs : s.2 = 0
      · obtain ⟨x, hx1, hx2, hx3⟩ := h3 hr
        obtain ⟨y, hy1, hy2, hy3⟩ := g3 hs
        refine Ev.congr (fun k => by (rw [if_pos rfl, if_pos hr, if_pos hs]; try rfl)) (Ev.bind s1 ?_)
        by_cases e : l = m
        · subst e
          obtain rfl := Ev.uniq h1 g1
          exact Ev.congr (fun k => by simp) (Ev.now _)
        · have hne : r.1.toList ≠ s.1.toList := fun he => by
            rw [bs_toList, bs_toList] at he
            have := bs_inj he
            rw [hx3, hy3] at this
            have hxy := tx_inj hN hx2 hy2 this
            exact e (by rw [hx1, hy1, hxy])
          exact Ev.congr (fun k => by simp [e, hne]) (Ev.now _)
      · exact Ev.congr (fun k => by rw [if_pos rfl, if_pos hr, if_neg hs]) (Ev.now _)
    · exact Ev.congr (fun k => by rw [if_pos rfl, if_neg hr]) (Ev.now _)
  intro n
  induction n with
  | zero => intro i h1 h2 h3; exact fin i (by omega) h3
  | succ n ih =>
    intro i h1 h2 h3
    by_cases hi : i = names.length
    · exact fin i hi h3
    · have hil : i < names.length := by omega
      have hm' : rdOf ByteArray.empty names (i : Int) ∈ names := by unfold rdOf; simp [List.getD, hil]
      obtain ⟨b, hb, hok⟩ := isName_ev (hn _ hm')
      refine Ev.step (fun k => by (rw [gnomonlaw08_ExprUnlike.l0, if_pos (by omega), if_pos (by omega)]; try rfl)) (Ev.bind hb ?_)
      cases b with
      | false => exact Ev.congr (fun k => by (rw [if_neg (by decide)]; try rfl)) (Ev.bind live_ev (Ev.now _))
      | true =>
        refine Ev.congr (fun k => by (rw [if_pos rfl]; try rfl)) (unlike_inner hil (by omega) (fun hd => ih (i + 1) (by omega) (by omega) ⟨fun a ha => ?_, fun a b ha hb => ?_⟩) i 0 (by omega) (Nat.zero_le _) (fun a ha => by omega))
        · rcases Nat.lt_or_ge a i with h | h
          · exact h3.1 a h
          · rw [show a = i by omega]; exact hok rfl
        · rcases Nat.lt_or_ge b i with h | h
          · exact h3.2 a b ha h
          · rw [show b = i by omega]; exact hd a (by omega)
end
theorem ExprUnlike_pure : ∀ (l0 : List (S68)) (l1 : List (S68)) (l2 : List (ByteArray)), ((∀ z2 ∈ l0, ok68 z2) ∧ l0.length * 16 ≤ 140737488351232) → ((∀ z2 ∈ l1, ok68 z2) ∧ l1.length * 16 ≤ 140737488351232) → ((∀ z2 ∈ l2, z2.size ≤ 140737488351232) ∧ l2.length * 16 ≤ 140737488351232) → ∃ k, gnomonlaw08_ExprUnlike.f k l0 l1 l2 = some true := by
  intro l m names hl hm hn
  have h := unlike_outer (l := l) (m := m) (names := names) (ops_of_ok hl.1) (ops_of_ok hm.1) (by omega) (fun z hz => by have := hn.1 z hz; omega) (by omega) names.length 0 (by omega) (Nat.zero_le _) ⟨fun a ha => by omega, fun a b ha hb => by omega⟩
  obtain ⟨K, hK⟩ := h
  refine ⟨K, ?_⟩
  rw [gnomonlaw08_ExprUnlike.f]
  exact hK K (Nat.le_refl _)
end Go.Proofs.YtgkcjefbagnkpaaDoor.PExpr
