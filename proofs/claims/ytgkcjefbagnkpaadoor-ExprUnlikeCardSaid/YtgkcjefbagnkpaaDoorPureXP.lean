import Derived.Test.YtgkcjefbagnkpaaDoorPureXF
import Derived.Lib.ItoaNum
namespace Go.Proofs.YtgkcjefbagnkpaaDoor.PExpr
set_option linter.unusedVariables false
set_option linter.unusedSimpArgs false
open Go Go.RowKit Go.Proofs.YtgkcjefbagnkpaaDoorW.PrintWords Go.Proofs.YtgkcjefbagnkpaaDoorW.PrintMore

/-! ### Reading a text back -/
def bs (t : ByteArray) : List UInt8 := t.data.toList
theorem bs_app (a b : ByteArray) : bs (a ++ b) = bs a ++ bs b := by simp [bs, ByteArray.data_append]
def isNm (c : UInt8) : Bool := decide (97 ≤ c.toNat ∧ c.toNat ≤ 122 ∨ 65 ≤ c.toNat ∧ c.toNat ≤ 90 ∨ 48 ≤ c.toNat ∧ c.toNat ≤ 57 ∨ c.toNat = 95)
def ops9 : List Int := [4, 5, 6, 8, 9, 10, 11, 13, 14]
/-- An operator's sign with its blanks. -/
def sg (o : Int) : List UInt8 := 32 :: (bs (sgn o) ++ [32])
def opAt (s : List UInt8) : Option Int := ops9.find? (fun o => (sg o).isPrefixOf s)
theorem opAt_sg {o : Int} (h : isTwo o) (s : List UInt8) : opAt (sg o ++ s) = some o := by
  unfold isTwo at h
  rcases h with rfl | rfl | rfl | rfl | rfl | rfl | rfl | rfl | rfl <;> rfl
theorem opAt_nil : opAt [] = none := by rfl
theorem opAt_br (s : List UInt8) : opAt (41 :: s) = none := by rfl
theorem opAt_two {s : List UInt8} {o : Int} (h : opAt s = some o) : isTwo o := by
  have := List.mem_of_find?_eq_some h
  simp [ops9] at this
  unfold isTwo
  omega
def NameOk (z : ByteArray) : Prop := (∃ c r, bs z = c :: r ∧ (97 ≤ c.toNat ∧ c.toNat ≤ 122 ∨ 65 ≤ c.toNat ∧ c.toNat ≤ 90)) ∧ (∀ d ∈ bs z, isNm d = true) ∧ bs z ≠ [116, 114, 117, 101]
structure NamesOk (names : List ByteArray) : Prop where
  all : ∀ i : Nat, i < names.length → NameOk (rdOf ByteArray.empty names (i : Int))
  inj : ∀ i j : Nat, i < names.length → j < names.length → bs (rdOf ByteArray.empty names (i : Int)) = bs (rdOf ByteArray.empty names (j : Int)) → i = j
open Classical in
/-- What a word stands for. -/
noncomputable def leafOf (names : List ByteArray) (w : List UInt8) : X :=
  if h : ∃ n : Nat, Lib.decDigits n = w then .leaf 1 (h.choose : Int)
  else if h : ∃ n : Nat, n < names.length ∧ bs (rdOf ByteArray.empty names (n : Int)) = w then .leaf 2 (h.choose : Int) else .leaf 7 0
def dval (w : List UInt8) : Nat := w.foldl (fun a c => a * 10 + (c.toNat - 48)) 0
theorem dig_toNat {u : Nat} (h : u < 10) : (UInt8.ofNat (48 + u)).toNat = 48 + u := by
  simp [UInt8.toNat_ofNat']
  omega
theorem dval_dec (u : Nat) : dval (Lib.decDigits u) = u := by
  induction u using Nat.strongRecOn with
  | _ u ih =>
    rw [Lib.decDigits]
    by_cases h : u < 10
    · rw [dif_pos h]
      simp only [dval, List.foldl_cons, List.foldl_nil]
      rw [dig_toNat h]
      omega
    · rw [dif_neg h]
      have := ih (u / 10) (by omega)
      unfold dval at this ⊢
      rw [List.foldl_append, this]
      simp only [List.foldl_cons, List.foldl_nil]
      rw [dig_toNat (by omega)]
      omega
theorem dec_digits (u : Nat) : Lib.decDigits u ≠ [] ∧ ∀ c ∈ Lib.decDigits u, 48 ≤ c.toNat ∧ c.toNat ≤ 57 := by
  induction u using Nat.strongRecOn with
  | _ u ih =>
    rw [Lib.decDigits]
    by_cases h : u < 10
    · rw [dif_pos h]
      refine ⟨by simp, fun c hc => ?_⟩
      obtain rfl := List.mem_singleton.1 hc
      rw [dig_toNat h]; omega
    · rw [dif_neg h]
      refine ⟨by simp, fun c hc => ?_⟩
      rcases List.mem_append.1 hc with h1 | h1
      · exact (ih (u / 10) (by omega)).2 c h1
      · obtain rfl := List.mem_singleton.1 h1
        rw [dig_toNat (by omega)]; omega
theorem leafOf_num (names : List ByteArray) (n : Nat) : leafOf names (Lib.decDigits n) = .leaf 1 (n : Int) := by
  unfold leafOf
  have h : ∃ m : Nat, Lib.decDigits m = Lib.decDigits n := ⟨n, rfl⟩
  rw [dif_pos h]
  have := congrArg dval h.choose_spec
  rw [dval_dec, dval_dec] at this
  rw [this]
theorem not_dec {w : List UInt8} {c : UInt8} {r : List UInt8} (hw : w = c :: r) (hc : 57 < c.toNat) : ¬ ∃ n : Nat, Lib.decDigits n = w := by
  rintro ⟨n, hn⟩
  have := (dec_digits n).2 c (by rw [hn, hw]; exact List.mem_cons_self)
  omega
theorem leafOf_var {names : List ByteArray} (hN : NamesOk names) {i : Nat} (hi : i < names.length) : leafOf names (bs (rdOf ByteArray.empty names (i : Int))) = .leaf 2 (i : Int) := by
  unfold leafOf
  obtain ⟨⟨c, r, hc, hl⟩, _⟩ := hN.all i hi
  rw [dif_neg (not_dec hc (by omega))]
  have h : ∃ n : Nat, n < names.length ∧ bs (rdOf ByteArray.empty names (n : Int)) = bs (rdOf ByteArray.empty names (i : Int)) := ⟨i, hi, rfl⟩
  rw [dif_pos h]
  have := hN.inj _ _ h.choose_spec.1 hi h.choose_spec.2
  rw [this]
theorem leafOf_true {names : List ByteArray} (hN : NamesOk names) : leafOf names [116, 114, 117, 101] = .leaf 7 0 := by
  unfold leafOf
  rw [dif_neg (not_dec (c := 116) rfl (by decide)), dif_neg]
  rintro ⟨n, hn, he⟩
  exact (hN.all n hn).2.2 he
section
variable (names : List ByteArray)
mutual
noncomputable def pE : Nat → Int → List UInt8 → Option (X × List UInt8)
  | 0, _, _ => none
  | k + 1, m, s => (pA k s).bind fun q => pL k m q.1 q.2
noncomputable def pL : Nat → Int → X → List UInt8 → Option (X × List UInt8)
  | 0, _, _, _ => none
  | k + 1, m, x, s => match opAt s with
    | some o => if m ≤ rb o then (pE k (rb o + 1) (s.drop (sg o).length)).bind fun q => pL k m (.two o x q.1) q.2 else some (x, s)
    | none => some (x, s)
noncomputable def pA : Nat → List UInt8 → Option (X × List UInt8)
  | 0, _ => none
  | _ + 1, [] => none
  | k + 1, c :: s => if c = 40 then (pE k 0 s).bind fun q => some (q.1, q.2.drop 1) else if c = 45 then (pE k 6 s).bind fun q => some (.one 3 q.1, q.2) else
    if c = 33 then (pE k 0 (s.drop 1)).bind fun q => some (.one 12 q.1, q.2.drop 1) else some (leafOf names ((c :: s).takeWhile isNm), (c :: s).dropWhile isNm)
end
end
def okr (r : List UInt8) : Prop := ∀ c s, r = c :: s → c = 32 ∨ c = 41
/-- Behind a tree of two parts no sign may stand that binds more. -/
def below : X → List UInt8 → Prop
  | .two o _ _, r => ∀ o', opAt r = some o' → rb o' ≤ rb o
  | _, _ => True
section
variable {names : List ByteArray}
theorem pL_stop {m : Int} {x : X} {r : List UInt8} (h : ∀ o, opAt r = some o → ¬ m ≤ rb o) : Ev (fun k => pL names k m x r) (x, r) := by
  refine Ev.step (fun k => ?_) (Ev.now _)
  rw [pL]
  cases ho : opAt r with
  | none => rfl
  | some o => simp only; rw [if_neg (h o ho)]
theorem span_ok {w r : List UInt8} (hw : ∀ c ∈ w, isNm c = true) (hr : okr r) : (w ++ r).takeWhile isNm = w ∧ (w ++ r).dropWhile isNm = r := by
  have h0 : r.takeWhile isNm = [] ∧ r.dropWhile isNm = r := by
    cases r with
    | nil => exact ⟨rfl, rfl⟩
    | cons c s =>
      have hc : isNm c = false := by rcases hr c s rfl with h | h <;> (rw [h]; decide)
      simp [List.takeWhile, List.dropWhile, hc]
  rw [List.takeWhile_append_of_pos hw, List.dropWhile_append_of_pos hw, h0.1, h0.2]
  simp
/-- A word at the begin is read as what it stands for. -/
theorem pE_word {w r : List UInt8} {x : X} {m : Int} {v : X × List UInt8} (hne : w ≠ []) (hw : ∀ c ∈ w, isNm c = true) (hr : okr r) (hx : leafOf names w = x) (h : Ev (fun k => pL names k m x r) v) : Ev (fun k => pE names k m (w ++ r)) v := by
  obtain ⟨s1, s2⟩ := span_ok hw hr
  obtain ⟨c, t, rfl⟩ : ∃ c t, w = c :: t := by cases w with | nil => exact absurd rfl hne | cons c t => exact ⟨c, t, rfl⟩
  have hc := hw c List.mem_cons_self
  have n40 : c ≠ 40 := fun e => by rw [e] at hc; revert hc; decide
  have n45 : c ≠ 45 := fun e => by rw [e] at hc; revert hc; decide
  have n33 : c ≠ 33 := fun e => by rw [e] at hc; revert hc; decide
  refine Ev.step (fun k => by (rw [pE]; try rfl)) (Ev.bind (a := (x, r)) ?_ h)
  refine Ev.step (fun k => ?_) (Ev.now _)
  rw [List.cons_append] at s1 s2 ⊢
  rw [pA, if_neg n40, if_neg n45, if_neg n33, s1, s2, hx]
theorem rb_pos {k : Int} {x : X} (h : x.ok k) : 1 ≤ rb x.op := by
  have hr := X.op_range h
  exact op256 (p := fun c => 1 ≤ c → c ≤ 14 → 1 ≤ rb c) (by decide +kernel) (c := x.op) (X.op_byte h) hr.1 hr.2
theorem bs_br (t : ByteArray) (r : List UInt8) : bs (inBr true t) ++ r = 40 :: (bs t ++ 41 :: r) := by
  unfold inBr
  rw [if_pos rfl, bs_app, bs_app]
  simp [bs]
/-- A part is read as what it is. -/
theorem part_read {x : X} {k : Int} (hok : x.ok k) (hA : ∀ (r : List UInt8) (m : Int) (v : X × List UInt8), okr r → below x r → m ≤ rb x.op → Ev (fun k => pL names k m x r) v → Ev (fun k => pE names k m (bs (tx names x) ++ r)) v)
    (L : Int) {r : List UInt8} {m : Int} {v : X × List UInt8} (hm : m ≤ L) (hr : okr r) (hb : L ≤ rb x.op → below x r) (h : Ev (fun k => pL names k m x r) v) : Ev (fun k => pE names k m (bs (inBr (decide (rb x.op < L)) (tx names x)) ++ r)) v := by
  by_cases hlt : rb x.op < L
  · rw [decide_eq_true hlt, bs_br]
    refine Ev.step (fun k => by (rw [pE]; try rfl)) (Ev.bind (a := (x, r)) ?_ h)
    refine Ev.step (fun k => by (rw [pA, if_pos rfl]; try rfl)) (Ev.bind (a := (x, 41 :: r)) (hA (41 :: r) 0 (x, 41 :: r) (fun c s e => .inr (List.cons.inj e).1.symm) ?_ ?_ (pL_stop fun o ho => by rw [opAt_br] at ho; cases ho)) (Ev.now _))
    · cases x <;> simp only [below]
      intro o ho
      rw [opAt_br] at ho; cases ho
    · have := rb_pos hok; omega
  · rw [decide_eq_false hlt]
    exact hA r m v hr (hb (by omega)) (by omega) h
theorem read_back (hN : NamesOk names) : ∀ {x : X}, x.ok (names.length : Int) → ∀ (r : List UInt8) (m : Int) (v : X × List UInt8), okr r → below x r → m ≤ rb x.op → Ev (fun k => pL names k m x r) v → Ev (fun k => pE names k m (bs (tx names x) ++ r)) v
  | .leaf o n, ho, r, m, v, hr, hb, hm, h => by
    simp only [X.ok] at ho
    simp only [tx]
    rcases ho with ⟨rfl, h1, h2⟩ | ⟨rfl, h1, h2⟩ | ⟨rfl, h1⟩
    · rw [if_pos rfl]
      obtain ⟨u, rfl⟩ : ∃ u : Nat, n = (u : Int) := ⟨n.toNat, by omega⟩
      have e : bs ⟨(Lib.itoa (u : Int)).toArray⟩ = Lib.decDigits u := by
        unfold bs Lib.itoa
        rw [if_neg (by omega)]
        simp
      rw [e]
      refine pE_word (dec_digits u).1 (fun c hc => ?_) hr (leafOf_num names u) h
      have := (dec_digits u).2 c hc
      unfold isNm
      simp; omega
    · rw [if_neg (by decide), if_pos rfl]
      obtain ⟨u, rfl⟩ : ∃ u : Nat, n = (u : Int) := ⟨n.toNat, by omega⟩
      obtain ⟨⟨c, t, h3, _⟩, h4, _⟩ := hN.all u (by omega)
      exact pE_word (by rw [h3]; simp) h4 hr (leafOf_var hN (by omega)) h
    · subst h1
      rw [if_neg (by decide), if_neg (by decide)]
      exact pE_word (w := [116, 114, 117, 101]) (by simp) (by decide) hr (leafOf_true hN) h
  | .one o x, ho, r, m, v, hr, hb, hm, h => by
    simp only [X.ok] at ho
    have ih := read_back hN (x := x) ho.2.2
    simp only [tx]
    rcases ho.1 with rfl | rfl
    · rw [if_neg (by decide), bs_app, List.append_assoc]
      refine Ev.step (fun k => by (rw [pE]; try rfl)) (Ev.bind (a := (X.one 3 x, r)) ?_ h)
      have hp := part_read (m := 6) (v := (x, r)) ho.2.2 ih 6 (by omega) hr (fun h6 => by
        cases x with
        | leaf _ _ => trivial
        | one _ _ => trivial
        | two o a b =>
          have h7 : 6 ≤ rb o := h6
          have := (rb_two (show isTwo o from ho.2.2.1)).2.2
          omega) (pL_stop fun o ho' => by have := (rb_two (opAt_two ho')).2.2; omega)
      exact Ev.step (fun k => by (rw [show bs (⟨#[45]⟩ : ByteArray) = [45] from rfl, List.singleton_append, pA, if_neg (by decide), if_pos rfl]; try rfl)) (Ev.bind hp (Ev.now _))
    · rw [if_pos rfl, bs_app, bs_app, List.append_assoc, List.append_assoc]
      refine Ev.step (fun k => by (rw [pE]; try rfl)) (Ev.bind (a := (X.one 12 x, r)) ?_ h)
      have hq := ih (41 :: r) 0 (x, 41 :: r) (fun c s e => .inr (List.cons.inj e).1.symm) (by
        cases x <;> simp only [below]
        intro o ho; rw [opAt_br] at ho; cases ho) (by have := rb_pos ho.2.2; omega) (pL_stop fun o ho => by rw [opAt_br] at ho; cases ho)
      exact Ev.step (fun k => by (rw [show bs (⟨#[33, 40]⟩ : ByteArray) = [33, 40] from rfl, show bs (⟨#[41]⟩ : ByteArray) = [41] from rfl, List.cons_append, pA, if_neg (by decide), if_neg (by decide), if_pos rfl]; try rfl)) (Ev.bind hq (Ev.now _))
  | .two o x y, ho, r, m, v, hr, hb, hm, h => by
    simp only [X.ok] at ho
    have ihx := read_back hN (x := x) ho.2.2.2.1
    have ihy := read_back hN (x := y) ho.2.2.2.2
    have hi := ho.1
    have hro := rb_two hi
    have hm : m ≤ rb o := hm
    have hlf : rb o ≤ lf o := by unfold lf; split <;> omega
    have e : bs (tx names (.two o x y)) ++ r = bs (inBr (decide (rb x.op < lf o)) (tx names x)) ++ (sg o ++ (bs (inBr (decide (rb y.op < rb o + 1)) (tx names y)) ++ r)) := by
      simp only [tx, bs_app, sg]
      simp [bs, List.append_assoc]
    rw [e]
    refine part_read ho.2.2.2.1 ihx (lf o) (by omega) (fun c s e => .inl (List.cons.inj e).1.symm) (fun hl => ?_) ?_
    · cases x with
      | leaf _ _ => trivial
      | one _ _ => trivial
      | two o' a b =>
        intro o2 h2
        rw [opAt_sg hi] at h2
        have h3 : o = o2 := by simpa using h2
        subst h3
        have : lf o ≤ rb o' := hl
        omega
    · have hy := part_read (m := rb o + 1) (v := (y, r)) ho.2.2.2.2 ihy (rb o + 1) (Int.le_refl _) hr (fun hl => by
        cases y with
        | leaf _ _ => trivial
        | one _ _ => trivial
        | two o' a b =>
          intro o2 h2
          have h3 := hb o2 h2
          have : rb o + 1 ≤ rb o' := hl
          omega) (pL_stop fun o2 h2 => by have := hb o2 h2; omega)
      refine Ev.step (fun k => by (rw [pL, opAt_sg hi]; simp only; rw [if_pos hm, List.drop_left]; try rfl)) (Ev.bind hy h)
/-- Unlike trees have unlike texts. -/
theorem tx_inj (hN : NamesOk names) {x y : X} (hx : x.ok (names.length : Int)) (hy : y.ok (names.length : Int)) (h : tx names x = tx names y) : x = y := by
  have st : ∀ z : X, Ev (fun k => pL names k 0 z []) (z, []) := fun z => pL_stop fun o ho => by rw [opAt_nil] at ho; cases ho
  have bl : ∀ z : X, below z [] := fun z => by
    cases z <;> simp only [below]
    intro o ho; rw [opAt_nil] at ho; cases ho
  have h1 := read_back hN hx [] 0 (x, []) (fun c s e => by cases e) (bl x) (by have := rb_pos hx; omega) (st x)
  have h2 := read_back hN hy [] 0 (y, []) (fun c s e => by cases e) (bl y) (by have := rb_pos hy; omega) (st y)
  rw [h] at h1
  exact (Prod.mk.inj (Ev.uniq h1 h2)).1
end
end Go.Proofs.YtgkcjefbagnkpaaDoor.PExpr
