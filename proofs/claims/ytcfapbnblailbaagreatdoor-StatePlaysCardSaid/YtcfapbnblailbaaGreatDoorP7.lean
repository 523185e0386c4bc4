/-
  A state's text: both answer the same.
-/
import Derived.Test.YtcfapbnblailbaaGreatDoorP6
import Derived.Lib.ItoaLen
set_option linter.unusedVariables false
set_option linter.unusedSimpArgs false
set_option maxRecDepth 100000
namespace Go.Proofs.YtcfapbnblailbaaGreatDoor.Q
open Go Go.Den Go.RowKit Go.Proofs
noncomputable section
abbrev comma : ByteArray := ⟨#[44]⟩
/-- Pieces, joined by commas. -/
def J (l : List ByteArray) : List UInt8 := Lib.join (l.map (·.data.toList)) comma.data.toList
theorem J_cons (p : ByteArray) : ∀ t : List ByteArray, J (p :: t) = p.data.toList ++ t.flatMap fun q => 44 :: q.data.toList
  | [] => by simp [J, Lib.join, List.intercalate]
  | q :: t => by
    have ih := J_cons q t
    have e : J (p :: q :: t) = p.data.toList ++ [44] ++ J (q :: t) := by simp [J, Lib.join, List.intercalate]
    rw [e, ih, List.flatMap_cons]; simp
theorem J_len : ∀ l : List ByteArray, (∀ p ∈ l, p.size ≤ 60) → (J l).length ≤ 61 * l.length
  | [], _ => by simp [J, Lib.join, List.intercalate]
  | p :: t, h => by
    have h1 := hd_of h
    have h2 := flat_len (f := fun q : ByteArray => (44 : UInt8) :: q.data.toList) (m := 61) (xs := t) fun q hq => by
      have := (tl_of h) q hq
      have e : q.data.toList.length = q.size := by simp
      rw [List.length_cons, e]; omega
    have e : p.data.toList.length = p.size := by simp
    rw [J_cons, List.length_append, e, List.length_cons]; omega
theorem join_eq {l : List ByteArray} (h : ∀ p ∈ l, p.size ≤ 60) (hl : l.length ≤ 100) : strings_Join.f l comma = some ⟨(J l).toArray⟩ := by
  have h1 := J_len l h
  unfold strings_Join.f
  rw [if_pos ⟨by omega, by show (J l).length ≤ _; omega⟩]; rfl
/-- What the document gathers. -/
def gath : Nat → ByteArray → List ByteArray → ByteArray
  | _, acc, [] => acc
  | i, acc, p :: t => gath (i + 1) (if (i : Int) > 0 then (acc ++ comma) ++ p else acc ++ p) t
theorem gath_pos : ∀ (l : List ByteArray) (i : Nat) (acc : ByteArray), 0 < i → (gath i acc l).data.toList = acc.data.toList ++ l.flatMap fun q => 44 :: q.data.toList
  | [], i, acc, _ => by simp [gath]
  | p :: t, i, acc, h => by
    rw [gath, if_pos (by omega), gath_pos t (i + 1) _ (by omega), List.flatMap_cons]; simp
theorem gath_zero : ∀ (l : List ByteArray) (acc : ByteArray), (gath 0 acc l).data.toList = acc.data.toList ++ J l
  | [], acc => by simp [gath, J, Lib.join, List.intercalate]
  | p :: t, acc => by rw [gath, if_neg (by omega), gath_pos t _ _ (by omega), J_cons]; simp
/-! The pieces -/
abbrev dot_ : ByteArray := ⟨#[46]⟩
abbrev is_ : ByteArray := ⟨#[61]⟩
abbrev semi : ByteArray := ⟨#[59]⟩
def locP (x : S94) (y : Int) : ByteArray := (x.f0 ++ dot_) ++ (rd_T102 x.f1 y).f0
def itoaB (n : Int) : ByteArray := ⟨(Lib.itoa n).toArray⟩
def varP (v : S104) (y : Int) : ByteArray := (v.f0 ++ is_) ++ itoaB y
def locPs : List S94 → List Int → List ByteArray
  | x :: t, y :: s => locP x y :: locPs t s
  | _, _ => []
def varPs : List S104 → List Int → List ByteArray
  | x :: t, y :: s => varP x y :: varPs t s
  | _, _ => []
theorem itoa_eq {n : Int} (h : -9223372036854775808 ≤ n) (h2 : n ≤ 9223372036854775807) : strconv_Itoa.f n = some (itoaB n) := by
  unfold strconv_Itoa.f; rw [if_pos ⟨h, h2⟩]; rfl
theorem itoaB_size {n : Int} (h : -9223372036854775808 ≤ n) (h2 : n ≤ 9223372036854775807) : (itoaB n).size ≤ 21 := by
  have := Lib.itoa_length_le n h h2
  show (Lib.itoa n).toArray.size ≤ 21
  simpa using this
/-- Short names. -/
def ShortA (d : List S94) : Prop := ∀ x ∈ d, x.f0.size ≤ 16 ∧ ∀ l ∈ x.f1, l.f0.size ≤ 16
def ShortV (b : List S104) : Prop := ∀ v ∈ b, v.f0.size ≤ 16 ∧ -1048576 ≤ v.f1 ∧ v.f2 ≤ 1048576
theorem locP_size {x : S94} {y : Int} (h : x.f0.size ≤ 16 ∧ ∀ l ∈ x.f1, l.f0.size ≤ 16) (hy : inL x y = true) : (locP x y).size ≤ 60 ∧ (rd_T102 x.f1 y).f0.size ≤ 16 := by
  simp only [inL, Bool.and_eq_true, decide_eq_true_eq] at hy
  have hy2 : y.toNat < x.f1.length := by omega
  have e2 : rd_T102 x.f1 y = x.f1[y.toNat] := by
    have := rdT_head (t := T102) (xs := x.f1) (i := y.toNat) (List.drop_eq_getElem_cons hy2)
    rwa [Int.toNat_of_nonneg hy.1] at this
  have h3 : (rd_T102 x.f1 y).f0.size ≤ 16 := by rw [e2]; exact h.2 _ (List.getElem_mem hy2)
  refine ⟨?_, h3⟩
  have e : (locP x y).size = x.f0.size + 1 + (rd_T102 x.f1 y).f0.size := by simp [locP]; rfl
  rw [e]; omega
theorem varP_size {v : S104} {y : Int} (h : v.f0.size ≤ 16 ∧ -1048576 ≤ v.f1 ∧ v.f2 ≤ 1048576) (hy : y ≥ v.f1 ∧ y ≤ v.f2) : (varP v y).size ≤ 60 := by
  have h1 := itoaB_size (n := y) (by omega) (by omega)
  have e : (varP v y).size = v.f0.size + 1 + (itoaB y).size := by simp [varP]; rfl
  rw [e]; omega
theorem locPs_ok : ∀ {d : List S94} {l : List Int}, ShortA d → isA d l = true → (∀ p ∈ locPs d l, p.size ≤ 60) ∧ (locPs d l).length = d.length
  | [], [], _, _ => ⟨fun p hp => (by cases hp), rfl⟩
  | x :: t, y :: s, h, hl => by
    simp only [isA, Bool.and_eq_true] at hl
    obtain ⟨g1, g2⟩ := locPs_ok (tl_of h) hl.2
    refine ⟨fun p hp => ?_, by simp [locPs, g2]⟩
    rcases List.mem_cons.1 hp with rfl | hp
    · exact (locP_size (h x List.mem_cons_self) hl.1).1
    · exact g1 p hp
theorem varPs_ok : ∀ {d : List S104} {l : List Int}, ShortV d → isV d l = true → (∀ p ∈ varPs d l, p.size ≤ 60) ∧ (varPs d l).length = d.length
  | [], [], _, _ => ⟨fun p hp => (by cases hp), rfl⟩
  | x :: t, y :: s, h, hl => by
    simp only [isV, Bool.and_eq_true, decide_eq_true_eq] at hl
    obtain ⟨g1, g2⟩ := varPs_ok (tl_of h) hl.2
    refine ⟨fun p hp => ?_, by simp [varPs, g2]⟩
    rcases List.mem_cons.1 hp with rfl | hp
    · exact varP_size (h x List.mem_cons_self) hl.1
    · exact g1 p hp
/-! The program's -/
theorem print1 (ps : List ByteArray) (hp : ∀ p ∈ ps, p.size ≤ 60) (hp2 : ps.length ≤ 50) (b : List S104) : ∀ (s : List Int) (i : Nat) (l : List S104) (x : List ByteArray), b.drop i = l → isV l s = true → ShortV l → (∀ p ∈ x, p.size ≤ 60) → x.length + l.length ≤ 50 →
    state_Print.L1 ps b s i x = some (((⟨(J ps).toArray⟩ : ByteArray) ++ semi) ++ ⟨(J (x ++ varPs l s)).toArray⟩, 0)
  | [], i, l, x, hd, hl, hs, hx, hn => by
    have h1 := J_len ps hp
    have h2 := J_len x hx
    have hJ : ∀ z : List ByteArray, (⟨(J z).toArray⟩ : ByteArray).size = (J z).length := fun z => by show (J z).toArray.size = _; simp
    have e : varPs l [] = [] := by cases l <;> rfl
    rw [e, List.append_nil, state_Print.L1, join_eq hp (by omega), Option.bind_some, if_pos (by rw [hJ]; show _ + 1 ≤ _; omega), join_eq hx (by omega), Option.bind_some, if_pos (by simp [hJ]; show _ + 1 + _ ≤ _; omega)]
  | y :: s, i, [], x, hd, hl, hs, hx, hn => by cases hl
  | y :: s, i, v :: t, x, hd, hl, hs, hx, hn => by
    obtain ⟨g1, g2, g3⟩ := drop_cons hd
    have e : rd_T104 b (i : Int) = v := rdT_head (t := T104) hd
    simp only [isV, Bool.and_eq_true, decide_eq_true_eq] at hl
    have hv := hs v List.mem_cons_self
    have h1 := itoaB_size (n := y) (by omega) (by omega)
    have hp1 := varP_size hv hl.1
    rw [List.length_cons] at hn
    have ih := print1 ps hp hp2 b s (i + 1) t (x ++ [varP v y]) g3 hl.2 (tl_of hs) (fun p h => by
      rcases List.mem_append.1 h with h | h
      · exact hx p h
      · rw [List.mem_singleton.1 h]; exact hp1) (by simp; omega)
    rw [state_Print.L1, if_pos (by omega), e, if_pos (by show _ + 1 ≤ _; omega), itoa_eq (by omega) (by omega), Option.bind_some, if_pos (by simp; show _ + 1 + _ ≤ _; omega), if_pos (by omega)]
    rw [List.append_assoc] at ih
    exact ih
theorem print0 (b : List S104) (d : List S94) (v : List Int) (hb : b.length ≤ 16) (hV : isV b v = true) (hsV : ShortV b) : ∀ (s : List Int) (i : Nat) (l : List S94) (x : List ByteArray), d.drop i = l → isA l s = true → ShortA l → (∀ p ∈ x, p.size ≤ 60) → x.length + l.length ≤ 50 →
    state_Print.L0 [] b d v s i x = some (((⟨(J (x ++ locPs l s)).toArray⟩ : ByteArray) ++ semi) ++ ⟨(J (varPs b v)).toArray⟩, 0)
  | [], i, l, x, hd, hl, hs, hx, hn => by
    have e : locPs l [] = [] := by cases l <;> rfl
    have e2 := isV_len hV
    rw [e, List.append_nil, state_Print.L0, if_pos (by omega), print1 x hx (by omega) b v 0 b [] rfl hV hsV (fun p hp => (by cases hp)) (by simp; omega)]; rfl
  | y :: s, i, [], x, hd, hl, hs, hx, hn => by cases hl
  | y :: s, i, z :: t, x, hd, hl, hs, hx, hn => by
    obtain ⟨g1, g2, g3⟩ := drop_cons hd
    have e : rd_T94 d (i : Int) = z := rdT_head (t := T94) hd
    simp only [isA, Bool.and_eq_true] at hl
    have hv := hs z List.mem_cons_self
    obtain ⟨hp1, hp2⟩ := locP_size hv hl.1
    have hin := hl.1
    simp only [inL, Bool.and_eq_true, decide_eq_true_eq] at hin
    rw [List.length_cons] at hn
    have ih := print0 b d v hb hV hsV s (i + 1) t (x ++ [locP z y]) g3 hl.2 (tl_of hs) (fun p h => by
      rcases List.mem_append.1 h with h | h
      · exact hx p h
      · rw [List.mem_singleton.1 h]; exact hp1) (by simp; omega)
    have hi : (i : Int) < (d.length : Int) := by omega
    rw [state_Print.L0, if_pos hi, e, if_pos (by show _ + 1 ≤ _; omega), if_pos hi, if_pos (by omega), if_pos (by omega), if_pos (by simp; show _ + 1 + _ ≤ _; omega), if_pos (by omega)]
    rw [List.append_assoc] at ih
    exact ih
/-! The document's -/
theorem rprint2 (b : List S104) (hb : b.length ≤ 16) : ∀ (s : List Int) (i : Nat) (l : List S104) (x : ByteArray), b.drop i = l → isV l s = true → ShortV l → x.size + 61 * l.length ≤ 10000 → gnomonref13_Print.L2 b s i x = some (gath i x (varPs l s), 0)
  | [], i, l, x, hd, hl, hs, hx => by
    have e : varPs l [] = [] := by cases l <;> rfl
    rw [e]; rfl
  | y :: s, i, [], x, hd, hl, hs, hx => by cases hl
  | y :: s, i, v :: t, x, hd, hl, hs, hx => by
    obtain ⟨g1, g2, g3⟩ := drop_cons hd
    have e : rd_T104 b (i : Int) = v := rdT_head (t := T104) hd
    simp only [isV, Bool.and_eq_true, decide_eq_true_eq] at hl
    have hv := hs v List.mem_cons_self
    have h1 := itoaB_size (n := y) (by omega) (by omega)
    have hp1 := varP_size hv hl.1
    rw [List.length_cons] at hx
    have ei : (⟨#[61]⟩ : ByteArray).size = 1 := rfl
    have ec : (⟨#[44]⟩ : ByteArray).size = 1 := rfl
    have e2 : (v.f0 ++ (⟨#[61]⟩ : ByteArray)).size = v.f0.size + 1 := by simp; rfl
    have e3 : ((v.f0 ++ (⟨#[61]⟩ : ByteArray)) ++ itoaB y).size ≤ 60 := hp1
    have e4 : (x ++ (⟨#[44]⟩ : ByteArray)).size = x.size + 1 := by simp; rfl
    have hi : (i : Int) < (b.length : Int) := by omega
    rw [varPs, gath]
    by_cases h0 : (i : Int) > 0
    · have e5 : ((x ++ comma) ++ varP v y).size = (x ++ comma).size + (varP v y).size := by simp
      have e6 : (x ++ comma).size = x.size + 1 := e4
      have ih := rprint2 b hb s (i + 1) t ((x ++ comma) ++ varP v y) g3 hl.2 (tl_of hs) (by omega)
      rw [gnomonref13_Print.L2, if_pos h0, if_pos h0, if_pos (by omega), if_pos hi, e, if_pos (by omega), itoa_eq (by omega) (by omega), Option.bind_some, if_pos (by omega), if_pos (by omega)]
      exact ih
    · have e5 : (x ++ varP v y).size = x.size + (varP v y).size := by simp
      have ih := rprint2 b hb s (i + 1) t (x ++ varP v y) g3 hl.2 (tl_of hs) (by omega)
      rw [gnomonref13_Print.L2, if_neg h0, if_neg h0, if_pos hi, e, if_pos (by omega), itoa_eq (by omega) (by omega), Option.bind_some, if_pos (by omega), if_pos (by omega)]
      exact ih
theorem rprint0 (b : List S104) (d : List S94) (v : List Int) (hb : b.length ≤ 16) (hV : isV b v = true) (hsV : ShortV b) : ∀ (s : List Int) (i : Nat) (l : List S94) (x : ByteArray), d.drop i = l → isA l s = true → ShortA l → x.size + 61 * l.length ≤ 1000 →
    gnomonref13_Print.L0 b d v s i x = some (gath 0 (gath i x (locPs l s) ++ semi) (varPs b v), 0)
  | [], i, l, x, hd, hl, hs, hx => by
    have e : locPs l [] = [] := by cases l <;> rfl
    have e2 := isV_len hV
    have e4 : (x ++ semi).size = x.size + 1 := by simp; rfl
    have es : (⟨#[59]⟩ : ByteArray).size = 1 := rfl
    rw [e, gath, gnomonref13_Print.L0, if_pos (by omega), if_pos (by omega), rprint2 b hb v 0 b _ rfl hV hsV (by show (x ++ semi).size + _ ≤ _; omega)]
  | y :: s, i, [], x, hd, hl, hs, hx => by cases hl
  | y :: s, i, z :: t, x, hd, hl, hs, hx => by
    obtain ⟨g1, g2, g3⟩ := drop_cons hd
    have e : rd_T94 d (i : Int) = z := rdT_head (t := T94) hd
    simp only [isA, Bool.and_eq_true] at hl
    have hv := hs z List.mem_cons_self
    obtain ⟨hp1, hp2⟩ := locP_size hv hl.1
    have hin := hl.1
    simp only [inL, Bool.and_eq_true, decide_eq_true_eq] at hin
    rw [List.length_cons] at hx
    have ei : (⟨#[46]⟩ : ByteArray).size = 1 := rfl
    have ec : (⟨#[44]⟩ : ByteArray).size = 1 := rfl
    have e2 : (z.f0 ++ (⟨#[46]⟩ : ByteArray)).size = z.f0.size + 1 := by simp; rfl
    have e3 : ((z.f0 ++ (⟨#[46]⟩ : ByteArray)) ++ (rd_T102 z.f1 y).f0).size ≤ 60 := hp1
    have e4 : (x ++ (⟨#[44]⟩ : ByteArray)).size = x.size + 1 := by simp; rfl
    have hi : (i : Int) < (d.length : Int) := by omega
    rw [locPs, gath]
    by_cases h0 : (i : Int) > 0
    · have e5 : ((x ++ comma) ++ locP z y).size = (x ++ comma).size + (locP z y).size := by simp
      have e6 : (x ++ comma).size = x.size + 1 := e4
      have ih := rprint0 b d v hb hV hsV s (i + 1) t ((x ++ comma) ++ locP z y) g3 hl.2 (tl_of hs) (by omega)
      rw [gnomonref13_Print.L0, if_pos h0, if_pos h0, if_pos (by omega), if_pos hi, e, if_pos (by omega), if_pos hi, if_pos hin.1, if_pos hin.2, if_pos (by omega), if_pos (by omega)]
      exact ih
    · have e5 : (x ++ locP z y).size = x.size + (locP z y).size := by simp
      have ih := rprint0 b d v hb hV hsV s (i + 1) t (x ++ locP z y) g3 hl.2 (tl_of hs) (by omega)
      rw [gnomonref13_Print.L0, if_neg h0, if_neg h0, if_pos hi, e, if_pos (by omega), if_pos hi, if_pos hin.1, if_pos hin.2, if_pos (by omega), if_pos (by omega)]
      exact ih
/-! Names are short -/
theorem nam_short : ∀ (l p : List ByteArray), nam l p = true → ∀ s ∈ l, s.size ≤ 16
  | [], _, _ => fun s hs => by cases hs
  | x :: t, p, h => fun s hs => by
    simp only [nam, nameOk, Bool.and_eq_true, decide_eq_true_eq] at h
    rcases List.mem_cons.1 hs with rfl | hs
    · exact h.1.2
    · exact nam_short t _ h.2.2 s hs
theorem short_of {a b c d} (ok : OkN a b c d) (h : sWhole a b c d = 0) : ShortA d ∧ ShortV b := by
  have hW := wh_of ok h
  unfold sWhole at h
  split at h
  · cases h
  split at h
  · cases h
  split at h
  · cases h
  next h3 =>
  rw [Bool.not_eq_true] at h3
  simp only [bNames, Bool.or_eq_false_iff, Bool.not_eq_false', List.any_eq_false] at h3
  have hn := nam_short _ _ h3.1
  refine ⟨fun x hx => ⟨hn _ (by simp only [allNames, List.mem_append, List.mem_map]; exact .inr ⟨x, hx, rfl⟩), fun l hl => ?_⟩, fun v hv => ⟨hn _ (by simp only [allNames, List.mem_append, List.mem_map]; exact .inl (.inl (.inr ⟨v, hv, rfl⟩))), (hW.vars v hv).2.2⟩⟩
  have h5 := h3.2 x hx
  rw [Bool.not_eq_true] at h5
  simp only [badN, Bool.not_eq_false'] at h5
  exact nam_short _ _ h5 _ (List.mem_map.2 ⟨l, hl, rfl⟩)
theorem print_eq {a b c d} (h : OkN a b c d) {l v : List Int} (hl : l.length ≤ cap) (hv : v.length ≤ cap) : ∃ (r : ByteArray) (e : Int), state_Print.g a b c d l v = some (r, e) ∧ gnomonref13_Print.g a b c d l v = some (r, e) := by
  have := cap_is
  by_cases hw : sWrong a b c d l v = 0
  · obtain ⟨g1, g2, g3⟩ := wrong_0 hw
    have hf := (wh_of h g1).few
    have h1 := hf.bl; have h2 := hf.dl
    obtain ⟨q1, q2⟩ := short_of h g1
    have p := print0 b d v h1 g3 q2 l 0 d [] rfl g2 q1 (fun p hp => (by cases hp)) (by simp; omega)
    have r := rprint0 b d v h1 g3 q2 l 0 d (⟨#[]⟩ : ByteArray) rfl g2 q1 (by show 0 + _ ≤ _; omega)
    have hll : l.length ≤ 9223372036854775807 := by omega
    refine ⟨_, 0, by rw [state_Print.g, wrong_eq h, Option.bind_some, if_pos hw, if_pos hll, p], ?_⟩
    rw [gnomonref13_Print.g, bad_eq h hl hv, Option.bind_some, if_pos hw, if_pos hll, r]
    congr 2
    apply Go.WideShapes.bytes_inj
    rw [gath_zero]
    simp [gath_zero]
  · exact ⟨_, _, by rw [state_Print.g, wrong_eq h, Option.bind_some, if_neg hw], by rw [gnomonref13_Print.g, bad_eq h hl hv, Option.bind_some, if_neg hw]⟩
end
end Go.Proofs.YtcfapbnblailbaaGreatDoor.Q
