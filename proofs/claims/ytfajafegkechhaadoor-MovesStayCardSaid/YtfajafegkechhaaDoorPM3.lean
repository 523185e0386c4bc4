/-
  What is behind a move: a state of the network, in which those who do not move stay.
-/
import Derived.Test.YtfajafegkechhaaDoorPM2
set_option linter.unusedVariables false
set_option linter.unusedSimpArgs false
set_option maxRecDepth 100000
namespace Go.Proofs.YtfajafegkechhaaDoor.Q
open Go Go.Den Go.RowKit Go.Proofs
noncomputable section
theorem rdT_at {t : Ty} {xs : List t.den} {i : Int} {x : t.den} (h : xs[i.toNat]? = some x) : rdT t xs i = x := by simp [rdT, h]
theorem rdT_some {t : Ty} {xs : List t.den} {i : Int} (h0 : 0 ≤ i) (h1 : i < (xs.length : Int)) : xs[i.toNat]? = some (rdT t xs i) := by
  have h : i.toNat < xs.length := by omega
  have e : xs[i.toNat]? = some xs[i.toNat] := List.getElem?_eq_getElem h
  rw [rdT_at e, e]
theorem rdT_mem {t : Ty} {xs : List t.den} {i : Int} (h0 : 0 ≤ i) (h1 : i < (xs.length : Int)) : rdT t xs i ∈ xs := List.mem_of_getElem? (rdT_some h0 h1)
theorem rd_some {xs : List Int} {i : Int} (h0 : 0 ≤ i) (h1 : i < (xs.length : Int)) : xs[i.toNat]? = some (rd xs i) := by
  have h : i.toNat < xs.length := by omega
  unfold rd
  rw [List.getD_eq_getElem?_getD, List.getElem?_eq_getElem h]; rfl
theorem rd_set {xs : List Int} {i j : Nat} {v : Int} (h : (j : Int) ≠ (i : Int)) : rd (xs.set i v) (j : Int) = rd xs (j : Int) := by
  unfold rd
  rw [List.getD_eq_getElem?_getD, List.getD_eq_getElem?_getD, Int.toNat_natCast, List.getElem?_set_ne (by omega)]
/-! Of a whole network -/
theorem whole_more {a b c d} (h : sWhole a b c d = 0) : bEdges c d = false ∧ bTests b d = false := by
  unfold sWhole at h
  split at h
  · cases h
  split at h
  · cases h
  split at h
  · cases h
  split at h
  · cases h
  split at h
  · cases h
  split at h
  · cases h
  next h1 =>
  split at h
  · cases h
  split at h
  · cases h
  split at h
  · cases h
  next h2 =>
  exact ⟨Bool.not_eq_true _ ▸ h1, Bool.not_eq_true _ ▸ h2⟩
/-- One who moves: an automaton and an edge of it. -/
def Mv (d : List S49) (y : S70) : Prop := ∃ k, eg d y.f0 k = some y.f1
structure MvOk (b : List S78) (d : List S49) (y : S70) : Prop where
  lo : 0 ≤ y.f0
  hi : y.f0 < (d.length : Int)
  to_ : inL (rd_T49 d y.f0) (y.f1 : S53).f1 = true
  ops : opsOk (y.f1 : S53).f3
  test : badT b (y.f1 : S53).f3 = false
  len : (y.f1 : S53).f6.length ≤ cap
  sets : ∀ s ∈ (y.f1 : S53).f6, badX b s = false ∧ okS s
theorem mv_ok {a b c d} (h : OkN a b c d) (hw : sWhole a b c d = 0) {y : S70} (hy : Mv d y) : MvOk b d y := by
  obtain ⟨k, hk⟩ := hy
  obtain ⟨⟨h0, h1, h2, h3⟩, he⟩ := eg_some.1 hk
  have hx : rd_T49 d y.f0 ∈ d := rdT_mem (t := T49) h0 h1
  have hm : y.f1 ∈ (rd_T49 d y.f0).f2 := by rw [he]; exact rdT_mem (t := T53) h2 h3
  have hA := h.ds _ hx
  have hE := hA.2.2.2 _ hm
  obtain ⟨g1, g2⟩ := whole_more hw
  have b1 : badE c (rd_T49 d y.f0) y.f1 = false := by
    have := List.any_eq_false.1 g1 _ hx
    rw [Bool.not_eq_true] at this
    have := List.any_eq_false.1 this _ hm
    rwa [Bool.not_eq_true] at this
  unfold bTests at g2
  rw [Bool.or_eq_false_iff] at g2
  have b2 : badT b (y.f1 : S53).f3 = false := by
    have := List.any_eq_false.1 g2.1 _ hx
    rw [Bool.not_eq_true] at this
    have := List.any_eq_false.1 this _ hm
    rwa [Bool.not_eq_true] at this
  refine ⟨h0, h1, ?_, hE.2.1.2, b2, hE.2.2.1, fun s hs => ⟨?_, hE.2.2.2 s hs⟩⟩
  · unfold badE at b1
    rw [Bool.or_eq_false_iff, Bool.or_eq_false_iff] at b1
    have := b1.2.1
    cases hb : inL (rd_T49 d y.f0) (y.f1 : S53).f1 with
    | true => rfl
    | false => rw [hb] at this; cases this
  · have hs' : s ∈ setsL d := List.mem_flatMap.2 ⟨_, hx, List.mem_flatMap.2 ⟨_, hm, hs⟩⟩
    have := List.any_eq_false.1 g2.2 _ hs'
    rwa [Bool.not_eq_true] at this
/-! States, place by place -/
theorem isA_iff : ∀ {d : List S49} {s : List Int}, isA d s = true ↔ d.length = s.length ∧ ∀ (i : Nat) (x : S49) (y : Int), d[i]? = some x → s[i]? = some y → inL x y = true
  | [], [] => by simp [isA]
  | [], _ :: _ => by simp [isA]
  | _ :: _, [] => by simp [isA]
  | x :: t, y :: s => by
    rw [isA, Bool.and_eq_true, isA_iff]
    constructor
    · rintro ⟨h1, h2, h3⟩
      refine ⟨by simp [h2], fun i x' y' hx hy => ?_⟩
      cases i with
      | zero => cases hx; cases hy; exact h1
      | succ i => exact h3 i x' y' (by simpa using hx) (by simpa using hy)
    · rintro ⟨h1, h2⟩
      exact ⟨h2 0 x y rfl rfl, by simpa using h1, fun i x' y' hx hy => h2 (i + 1) x' y' (by simpa using hx) (by simpa using hy)⟩
def inV (v : S78) (x : Int) : Bool := decide (x ≥ v.f1) && decide (x ≤ v.f2)
theorem isV_iff : ∀ {d : List S78} {s : List Int}, isV d s = true ↔ d.length = s.length ∧ ∀ (i : Nat) (x : S78) (y : Int), d[i]? = some x → s[i]? = some y → inV x y = true
  | [], [] => by simp [isV]
  | [], _ :: _ => by simp [isV]
  | _ :: _, [] => by simp [isV]
  | x :: t, y :: s => by
    rw [isV, Bool.and_eq_true, isV_iff]
    constructor
    · rintro ⟨h1, h2, h3⟩
      refine ⟨by simp [h2], fun i x' y' hx hy => ?_⟩
      cases i with
      | zero => cases hx; cases hy; exact h1
      | succ i => exact h3 i x' y' (by simpa using hx) (by simpa using hy)
    · rintro ⟨h1, h2⟩
      exact ⟨h2 0 x y rfl rfl, by simpa using h1, fun i x' y' hx hy => h2 (i + 1) x' y' (by simpa using hx) (by simpa using hy)⟩
theorem isA_set {d : List S49} {s : List Int} {i v : Int} (h : isA d s = true) (h0 : 0 ≤ i) (h1 : i < (d.length : Int)) (hv : inL (rd_T49 d i) v = true) : isA d (s.set i.toNat v) = true := by
  rw [isA_iff] at h ⊢
  refine ⟨by rw [List.length_set]; exact h.1, fun j x y hx hy => ?_⟩
  by_cases e : i.toNat = j
  · subst e
    have e2 : d[i.toNat]? = some (rd_T49 d i) := rdT_some (t := T49) h0 h1
    rw [e2] at hx; cases hx
    rw [List.getElem?_set_self (by omega)] at hy; cases hy
    exact hv
  · rw [List.getElem?_set_ne e] at hy
    exact h.2 j x y hx hy
theorem isV_set {d : List S78} {s : List Int} {i v : Int} (h : isV d s = true) (h0 : 0 ≤ i) (h1 : i < (d.length : Int)) (hv : inV (rd_T78 d i) v = true) : isV d (s.set i.toNat v) = true := by
  rw [isV_iff] at h ⊢
  refine ⟨by rw [List.length_set]; exact h.1, fun j x y hx hy => ?_⟩
  by_cases e : i.toNat = j
  · subst e
    have e2 : d[i.toNat]? = some (rd_T78 d i) := rdT_some (t := T78) h0 h1
    rw [e2] at hx; cases hx
    rw [List.getElem?_set_self (by omega)] at hy; cases hy
    exact hv
  · rw [List.getElem?_set_ne e] at hy
    exact h.2 j x y hx hy
theorem isA_at {d : List S49} {s : List Int} {i : Int} (h : isA d s = true) (h0 : 0 ≤ i) (h1 : i < (d.length : Int)) : 0 ≤ rd s i ∧ rd s i < ((rd_T49 d i).f1.length : Int) := by
  have hl := isA_len h
  have := (isA_iff.1 h).2 i.toNat _ _ (rdT_some (t := T49) h0 h1) (rd_some h0 (by omega))
  unfold inL at this
  rw [Bool.and_eq_true] at this
  exact ⟨of_decide_eq_true this.1, of_decide_eq_true this.2⟩
/-! Who is committed -/
def com (d : List S49) (s : List Int) (i : Int) : Bool := decide ((rd_T45 (rd_T49 d i).f1 (rd s i)).f1 = 2)
theorem com_eq (a b c) {d : List S49} {s : List Int} (v : List Int) (h : isA d s = true) {i : Int} (h0 : 0 ≤ i) (h1 : i < (d.length : Int)) : moves_isCommitted.f a b c d s v i = some (com d s i) := by
  have hl := isA_len h
  have := isA_at h h0 h1
  unfold moves_isCommitted.f
  rw [if_pos h0, if_pos h1, if_pos h0, if_pos (by omega), if_pos this.1, if_pos this.2]; rfl
def hotF (d : List S49) (s : List Int) : Nat → Nat → Bool
  | 0, _ => false
  | m + 1, i => com d s (i : Int) || hotF d s m (i + 1)
theorem hot0 (a b c) {d : List S49} {s : List Int} (v : List Int) (h : isA d s = true) : ∀ m i : Nat, i + m = d.length → moves_Committed.L0 a b c d s v m i = some (hotF d s m i)
  | 0, i, _ => rfl
  | m + 1, i, hi => by
    rw [moves_Committed.L0, com_eq a b c v h (by omega) (by omega), Option.bind_some, hot0 a b c v h m (i + 1) (by omega), hotF]
    cases com d s (i : Int) <;> rfl
def hot (d : List S49) (s : List Int) : Bool := hotF d s d.length 0
theorem hot_eq {a b c d} (h : OkN a b c d) {s v : List Int} (hs : isSt a b c d s v = true) : moves_Committed.g a b c d s v = some (hot d s) := by
  have hc := cap_is
  have h4 := h.dl
  have hA : isA d s = true := by
    unfold isSt at hs
    rw [Bool.and_eq_true, Bool.and_eq_true] at hs
    exact hs.2.1
  have hl := isA_len hA
  rw [moves_Committed.g, stRight_eq h, hs, Option.bind_some, if_neg (by decide), if_pos (by omega), ← hl, hot0 a b c v hA d.length 0 (by omega)]; rfl
/-! pass -/
section
variable {a : List ByteArray} {b : List S78} {c : List ByteArray} {d : List S49} {s0 s1 : List Int} {x8 : List S70}
theorem pass0 (hA : isA d s0 = true) {Z : Bool → Option (List Int × List Int × Int)} (hZ : ∀ x, moves_pass.L0 x8 a b c d s0 s1 [] x = Z x) : ∀ (u : List S70) (x : Bool), (∀ y ∈ u, MvOk b d y) → moves_pass.L0 x8 a b c d s0 s1 u x = some ([], [], 213) ∨ moves_pass.L0 x8 a b c d s0 s1 u x = Z (x || u.any fun y => com d s0 y.f0)
  | [], x, _ => .inr (by rw [List.any_nil, Bool.or_false]; exact hZ x)
  | y :: t, x, h => by
    have hl := isA_len hA
    have hy := hd_of h
    have h1 := hy.lo
    have h2 := hy.hi
    rw [moves_pass.L0, if_pos h1, if_pos (by omega)]
    by_cases e : rd s0 y.f0 = (y.f1 : S53).f0
    · rw [if_pos e]
      cases x with
      | true =>
        rw [if_pos rfl, List.any_cons]
        have := pass0 hA hZ t true (tl_of h)
        simpa only [Bool.true_or] using this
      | false =>
        rw [if_neg (by decide), com_eq a b c s1 hA h1 h2, Option.bind_some, List.any_cons, Bool.false_or]
        exact pass0 hA hZ t _ (tl_of h)
    · rw [if_neg e]; exact .inl rfl
theorem pass2 (h : OkN a b c d) (hV : isV b s1 = true) : ∀ (u : List S70) (x : List Int), (∀ y ∈ u, MvOk b d y) → isA d x = true → moves_pass.L2 x8 b s1 s1 u x = some ([], [], 211) ∨ ∃ t0, isA d t0 = true ∧ (∀ i : Nat, (∀ y ∈ u, (i : Int) ≠ y.f0) → rd t0 (i : Int) = rd x (i : Int)) ∧ moves_pass.L2 x8 b s1 s1 u x = moves_pass.L2 x8 b s1 s1 [] t0
  | [], x, _, hA => .inr ⟨x, hA, fun _ _ => rfl, rfl⟩
  | y :: t, x, hu, hA => by
    have hl := isA_len hA
    have hy := hd_of hu
    have h1 := hy.lo
    have h2 := hy.hi
    obtain ⟨r, e, hr⟩ := holds_some hy.ops (isV_len hV) h.bl hy.test
    rw [moves_pass.L2, hr, Option.bind_some]
    by_cases he : e = 0
    · rw [if_pos he]
      cases r with
      | false => rw [if_pos (by rfl)]; exact .inl rfl
      | true =>
        rw [if_neg (show ¬ ((!true) = true) by decide), if_pos h1, if_pos (by omega)]
        rcases pass2 h hV t (x.set (Int.toNat y.f0) (y.f1 : S53).f1) (tl_of hu) (isA_set hA h1 h2 hy.to_) with g | ⟨t0, g1, g2, g3⟩
        · exact .inl g
        · refine .inr ⟨t0, g1, fun i hi => ?_, g3⟩
          rw [g2 i fun y' hy' => hi y' (List.mem_cons_of_mem _ hy')]
          have := hi y List.mem_cons_self
          exact rd_set (by omega)
    · rw [if_neg he]; exact .inl rfl
theorem pass4 (h : OkN a b c d) (K : List Int → Option (List Int × List Int × Int)) : ∀ (u : List S74) (x : List Int), (∀ s ∈ u, badX b s = false ∧ okS s) → isV b x = true → moves_pass.L4 b K u x = some ([], [], 211) ∨ ∃ t1, isV b t1 = true ∧ moves_pass.L4 b K u x = K t1
  | [], x, _, hV => .inr ⟨x, hV, rfl⟩
  | s :: t, x, hu, hV => by
    have hb := h.bl
    have hl := isV_len hV
    obtain ⟨h1, h2⟩ := hd_of hu
    rw [moves_pass.L4]
    by_cases h0 : s.f0 = 0
    · rw [if_pos h0]
      unfold badX at h1
      rw [decide_eq_true h0, Bool.true_and, Bool.or_eq_false_iff, Bool.or_eq_false_iff, decide_eq_false_iff_not, decide_eq_false_iff_not] at h1
      obtain ⟨h3, h4, _⟩ := h1
      obtain ⟨v, e, hv⟩ := value_some (vars := x) h2.2 (by omega)
      rw [hv, Option.bind_some]
      by_cases he : e = 0
      · rw [if_pos he, if_pos (by omega), if_pos (by omega)]
        by_cases g1 : v < (rd_T78 b s.f2).f1
        · rw [if_pos g1]; exact .inl rfl
        rw [if_neg g1, if_pos (by omega), if_pos (by omega)]
        by_cases g2 : v > (rd_T78 b s.f2).f2
        · rw [if_pos g2]; exact .inl rfl
        rw [if_neg g2, if_pos (by omega), if_pos (by omega)]
        exact pass4 h K t _ (tl_of hu) (isV_set hV (by omega) (by omega) (by unfold inV; rw [decide_eq_true (by omega), decide_eq_true (by omega)]; rfl))
      · rw [if_neg he]; exact .inl rfl
    · rw [if_neg h0]
      exact pass4 h K t x (tl_of hu) hV
theorem pass3 (h : OkN a b c d) (t0 : List Int) : ∀ (u : List S70) (x : List Int), (∀ y ∈ u, MvOk b d y) → isV b x = true → moves_pass.L3 b t0 u x = some ([], [], 211) ∨ ∃ t1, isV b t1 = true ∧ moves_pass.L3 b t0 u x = some (t0, t1, 0)
  | [], x, _, hV => .inr ⟨x, hV, rfl⟩
  | y :: t, x, hu, hV => by
    have hc := cap_is
    have hy := hd_of hu
    have hlen := hy.len
    rw [moves_pass.L3, if_pos (by omega)]
    rcases pass4 h (fun x' => moves_pass.L3 b t0 t x') (y.f1 : S53).f6 x hy.sets hV with g | ⟨t1, g1, g2⟩
    · exact .inl g
    · rw [g2]; exact pass3 h t0 t t1 (tl_of hu) g1
end
/-- What is behind a move. -/
structure Behind (b : List S78) (d : List S49) (s0 : List Int) (z : S31) (t0 t1 : List Int) : Prop where
  sides : Sd d z
  locs : isA d t0 = true
  vars : isV b t1 = true
  stay : ∀ i : Nat, (i : Int) ≠ z.f0 → (i : Int) ≠ z.f2 - 1 → rd t0 (i : Int) = rd s0 (i : Int)
  hot : hot d s0 = true → ∃ i : Nat, ((i : Int) = z.f0 ∨ (i : Int) = z.f2 - 1) ∧ i < d.length ∧ com d s0 (i : Int) = true
theorem pass_ev {a b c d} (h : OkN a b c d) (hw : sWhole a b c d = 0) {s0 s1 : List Int} (hA : isA d s0 = true) (hV : isV b s1 = true) {z : S31} (hz : rng z.f2) :
    ∃ t0 t1 e, moves_pass.g a b c d s0 s1 z.f0 z.f1 z.f2 z.f3 = some (t0, t1, e) ∧ (e = 0 → Behind b d s0 z t0 t1) := by
  have hc := cap_is
  have h2 := h.bl
  have h4 := h.dl
  have hlA := isA_len hA
  have hlV := isV_len hV
  have hSt : isSt a b c d s0 s1 = true := by unfold isSt; rw [decide_eq_true hw, hA, hV]; rfl
  have no : ∀ n : Int, n ≠ 0 → ∃ (t0 t1 : List Int) (e : Int), (some (([] : List Int), ([] : List Int), n) : Option (List Int × List Int × Int)) = some (t0, t1, e) ∧ (e = 0 → Behind b d s0 z t0 t1) := fun n hn => ⟨[], [], n, rfl, fun e => absurd e hn⟩
  rw [moves_pass.g]
  rcases sides_eq a b c h4 z hz with ⟨hS, l, hl, hSl⟩ | ⟨hS, l, hl⟩
  · have hmv : ∀ y ∈ l, Mv d y := fun y hy => by
      obtain ⟨x, hx, ⟨_, rfl⟩ | ⟨_, _, y', hy', rfl⟩⟩ := hSl
      · rw [List.mem_singleton] at hy; subst hy; exact ⟨_, hx⟩
      · rw [List.mem_cons, List.mem_singleton] at hy
        rcases hy with rfl | rfl
        · exact ⟨_, hx⟩
        · exact ⟨_, hy'⟩
    have hwho : ∀ y ∈ l, y.f0 = z.f0 ∨ y.f0 = z.f2 - 1 := fun y hy => by
      obtain ⟨x, hx, ⟨_, rfl⟩ | ⟨_, _, y', hy', rfl⟩⟩ := hSl
      · rw [List.mem_singleton] at hy; subst hy; exact .inl rfl
      · rw [List.mem_cons, List.mem_singleton] at hy
        rcases hy with rfl | rfl
        · exact .inl rfl
        · exact .inr rfl
    have hlen : l.length ≤ 2 := by
      obtain ⟨x, hx, ⟨_, rfl⟩ | ⟨_, _, y', hy', rfl⟩⟩ := hSl <;> simp
    have hok : ∀ y ∈ l, MvOk b d y := fun y hy => mv_ok h hw (hmv y hy)
    rw [hl, Option.bind_some, if_neg (show ¬ ((!true) = true) by decide), if_pos (show l.length ≤ 9223372036854775807 by omega)]
    rcases pass0 (a := a) (b := b) (c := c) (s1 := s1) (x8 := l) hA (fun _ => rfl) l false hok with g | g
    · rw [g]; exact no 213 (by decide)
    have tail : (hot d s0 = true → (l.any fun y => com d s0 y.f0) = true) → ∃ t0 t1 e, (if s0.length ≤ 17592186044416 then (if s1.length ≤ 17592186044416 then (if l.length ≤ 9223372036854775807 then (moves_pass.L2 l b s1 s1 l s0) else none) else none) else none) = some (t0, t1, e) ∧ (e = 0 → Behind b d s0 z t0 t1) := fun hh => by
      have hf := (wh_of h hw).few
      have h5 := hf.bl
      have h6 := hf.dl
      rw [if_pos (by omega), if_pos (by omega), if_pos (by omega)]
      rcases pass2 (x8 := l) h hV l s0 hok hA with g | ⟨t0, g1, g2, g3⟩
      · rw [g]; exact no 211 (by decide)
      rw [g3, moves_pass.L2, if_pos (by omega)]
      rcases pass3 h t0 l s1 hok hV with g | ⟨t1, k1, k2⟩
      · rw [g]; exact no 211 (by decide)
      rw [k2]
      refine ⟨t0, t1, 0, rfl, fun _ => ⟨hS, g1, k1, fun i h1 h2 => g2 i fun y hy => ?_, fun hH => ?_⟩⟩
      · rcases hwho y hy with e | e
        · rw [e]; exact h1
        · rw [e]; exact h2
      · obtain ⟨y, hy, hcom⟩ := List.any_eq_true.1 (hh hH)
        have hyo := hok y hy
        have h7 := hyo.lo
        have h8 := hyo.hi
        have e : ((y.f0.toNat : Nat) : Int) = y.f0 := by omega
        refine ⟨y.f0.toNat, by rw [e]; exact hwho y hy, by omega, by rw [e]; exact hcom⟩
    rw [g, moves_pass.L0, Bool.false_or]
    cases hany : (l.any fun y => com d s0 y.f0) with
    | true =>
      rw [if_neg (show ¬ ((!true) = true) by decide)]
      exact tail fun _ => hany
    | false =>
      rw [if_pos (by rfl), hot_eq h hSt, Option.bind_some]
      cases hh : hot d s0 with
      | true => rw [if_pos rfl]; exact no 213 (by decide)
      | false =>
        rw [if_neg (by decide)]
        exact tail fun h => by rw [hh] at h; cases h
  · rw [hl, Option.bind_some, if_pos (by rfl)]
    exact no 213 (by decide)
end
end Go.Proofs.YtfajafegkechhaaDoor.Q
