import Derived.Test.YtgkcjefbagnkpaaDoorPureXK
import Derived.Test.YtgkcjefbagnkpaaDoorPValx13
import Derived.Test.YtgkcjefbagnkpaaDoorPValx12
import Derived.Test.YtgkcjefbagnkpaaDoorPValx11
import Derived.Test.YtgkcjefbagnkpaaDoorPValx9
import Derived.Test.YtgkcjefbagnkpaaDoorPValx10
import Derived.Test.YtgkcjefbagnkpaaDoorPValx7
import Derived.Test.YtgkcjefbagnkpaaDoorPValx4
import Derived.Test.YtgkcjefbagnkpaaDoorPValx5
import Derived.Test.YtgkcjefbagnkpaaDoorPureR8t
namespace Go.Proofs.YtgkcjefbagnkpaaDoor.PVal
set_option linter.unusedVariables false
set_option linter.unusedSimpArgs false
open Go Go.RowKit Go.Proofs.YtgkcjefbagnkpaaDoorW.PrintWords Go.Proofs.YtgkcjefbagnkpaaDoorW.PrintMore

/-! ### What is handed out, and whether it was kept -/
theorem mk_wrap {n m : Nat} (h : m ≤ n + 9) (hn : n ≤ 17592186044000) : wrap64 ((wrap64 ((-700) - (m : Int))) + (n : Int)) = -700 - (m : Int) + (n : Int) := by unfold wrap64; omega
theorem nodes_set {x : List S68} {i : Nat} (hi : i < x.length) (v : S68) (j : Nat) : N (x.set i v) j = if j = i then v else N x j := by
  unfold N rd_T68
  by_cases h : j = i
  · subst h; rw [if_pos rfl]; simp [List.getD, hi]
  · rw [if_neg h]; simp [List.getD, List.getElem?_set, Ne.symm h]
theorem nodes_ext {a b : List S68} (h : a.length = b.length) (hh : ∀ i, i < a.length → N a i = N b i) : a = b := List.ext_getElem h (fun i h1 h2 => by
  have := hh i h1
  unfold N rd_T68 at this
  simpa [List.getD, h1, h2] using this)
def mknodes (n m : Nat) : S68 := ⟨0, -700 - (m : Int) + (n : Int)⟩
theorem hand_nodes_l1 {l : List S68} (hl : l.length ≤ 17592186044000) : ∀ (d j : Nat) (x : List S68), l.length + 9 - j ≤ d → l.length ≤ j → j ≤ l.length + 9 → x.length = l.length + 9 → (∀ m, m < l.length → N x m = N l m) → (∀ m, l.length ≤ m → m < j → N x m = mknodes l.length m) →
    ∃ F, Ev (fun k => gnomonmem_HandNodes.l1 k l x (j : Int)) (l, F) ∧ F.length = l.length + 9 ∧ ∀ m, l.length ≤ m → m < l.length + 9 → N F m = mknodes l.length m := by
  have fin : ∀ (j : Nat) (x : List S68), j = l.length + 9 → x.length = l.length + 9 → (∀ m, m < l.length → N x m = N l m) → (∀ m, l.length ≤ m → m < j → N x m = mknodes l.length m) →
      ∃ F, Ev (fun k => gnomonmem_HandNodes.l1 k l x (j : Int)) (l, F) ∧ F.length = l.length + 9 ∧ ∀ m, l.length ≤ m → m < l.length + 9 → N F m = mknodes l.length m := by
    intro j x hj hx h1 h2
    subst hj
    refine ⟨x, Ev.step (fun k => ?_) (Ev.now _), hx, fun m a b => h2 m a b⟩
    have ht : x.take l.length = l := nodes_ext (by rw [List.length_take]; omega) (fun i hi => by
      rw [List.length_take] at hi
      rw [← h1 i (by omega)]
      unfold N rd_T68
      simp [List.getD, List.getElem?_take, show i < l.length by omega])
    rw [gnomonmem_HandNodes.l1, if_neg (by omega), if_pos (by omega), if_pos (by omega), Int.toNat_natCast, ht]
  intro d
  induction d with
  | zero => intro j x h0 h1 h2 h3 h4 h5; exact fin j x (by omega) h3 h4 h5
  | succ d ih =>
    intro j x h0 h1 h2 h3 h4 h5
    by_cases hj : j = l.length + 9
    · exact fin j x hj h3 h4 h5
    · have hs := nodes_set (x := x) (i := j) (by omega) (mknodes l.length j)
      obtain ⟨F, f1, f2⟩ := ih (j + 1) (x.set j (mknodes l.length j)) (by omega) (by omega) (by omega) (by rw [List.length_set]; exact h3) (fun m hm => by rw [hs, if_neg (by omega)]; exact h4 m hm) (fun m a b => by
        rw [hs]
        by_cases e : m = j
        · rw [if_pos e, e]
        · rw [if_neg e]; exact h5 m a (by omega))
      refine ⟨F, Ev.step (fun k => ?_) f1, f2⟩
      rw [gnomonmem_HandNodes.l1, if_pos (by omega), if_pos (by omega), Int.toNat_natCast, mk_wrap (by omega) hl, show wrap64 ((j : Int) + 1) = ((j + 1 : Nat) : Int) by unfold wrap64; omega]
      rfl
theorem hand_nodes_l0 {l : List S68} (hl : l.length ≤ 17592186044000) : ∀ (d j : Nat) (x : List S68), l.length - j ≤ d → j ≤ l.length → x.length = l.length + 9 → (∀ m, m < j → N x m = N l m) →
    ∃ F, Ev (fun k => gnomonmem_HandNodes.l0 k l x (j : Int)) (l, F) ∧ F.length = l.length + 9 ∧ ∀ m, l.length ≤ m → m < l.length + 9 → N F m = mknodes l.length m := by
  have fin : ∀ (j : Nat) (x : List S68), j = l.length → x.length = l.length + 9 → (∀ m, m < j → N x m = N l m) → ∃ F, Ev (fun k => gnomonmem_HandNodes.l0 k l x (j : Int)) (l, F) ∧ F.length = l.length + 9 ∧ ∀ m, l.length ≤ m → m < l.length + 9 → N F m = mknodes l.length m := by
    intro j x hj hx h1
    subst hj
    obtain ⟨F, f1, f2⟩ := hand_nodes_l1 hl 9 l.length x (by omega) (Nat.le_refl _) (by omega) hx h1 (fun m a b => by omega)
    exact ⟨F, Ev.step (fun k => by rw [gnomonmem_HandNodes.l0, if_neg (by omega)]) f1, f2⟩
  intro d
  induction d with
  | zero => intro j x h0 h1 h2 h3; exact fin j x (by omega) h2 h3
  | succ d ih =>
    intro j x h0 h1 h2 h3
    by_cases hj : j = l.length
    · exact fin j x hj h2 h3
    · have hs := nodes_set (x := x) (i := j) (by omega) (N l j)
      obtain ⟨F, f1, f2⟩ := ih (j + 1) (x.set j (N l j)) (by omega) (by omega) (by rw [List.length_set]; exact h2) (fun m hm => by
        rw [hs]
        by_cases e : m = j
        · rw [if_pos e, e]
        · rw [if_neg e]; exact h3 m (by omega))
      refine ⟨F, Ev.step (fun k => ?_) f1, f2⟩
      rw [gnomonmem_HandNodes.l0, if_pos (by omega), if_pos (by omega), if_pos (by omega), Int.toNat_natCast, show wrap64 ((j : Int) + 1) = ((j + 1 : Nat) : Int) by unfold wrap64; omega]
      rfl
theorem hand_nodes {l : List S68} (hl : l.length ≤ 17592186044000) : ∃ F, Ev (fun k => gnomonmem_HandNodes.f2 k l) (l, F) ∧ F.length = l.length + 9 ∧ ∀ m, l.length ≤ m → m < l.length + 9 → N F m = mknodes l.length m := by
  obtain ⟨F, f1, f2⟩ := hand_nodes_l0 (l := l) (by omega) l.length 0 (List.replicate (l.length + 9) z68) (by omega) (Nat.zero_le _) (by simp) (fun m hm => by omega)
  refine ⟨F, Ev.congr (fun k => ?_) f1, f2⟩
  have hw : wrap64 ((l.length : Int) + 9) = ((l.length + 9 : Nat) : Int) := by unfold wrap64; omega
  rw [gnomonmem_HandNodes.f2, hw, if_pos (by omega), Int.toNat_natCast, if_pos (by omega)]
  rfl
theorem kept_nodes_loop {l F : List S68} (hl : l.length ≤ 17592186044000) (hF : F.length = l.length + 9) (hm : ∀ m, l.length ≤ m → m < l.length + 9 → N F m = mknodes l.length m) : ∀ (d j : Nat), l.length + 9 - j ≤ d → l.length ≤ j → j ≤ l.length + 9 → Ev (fun k => gnomonmem_KeptNodes.l0 k l F (j : Int)) true := by
  intro d
  induction d with
  | zero => intro j h0 h1 h2; exact Ev.step (fun k => by rw [gnomonmem_KeptNodes.l0, if_neg (by omega)]) (Ev.now _)
  | succ d ih =>
    intro j h0 h1 h2
    by_cases hj : j = l.length + 9
    · exact Ev.step (fun k => by rw [gnomonmem_KeptNodes.l0, if_neg (by omega)]) (Ev.now _)
    · refine Ev.step (fun k => ?_) (ih (j + 1) (by omega) (by omega) (by omega))
      have e := hm j h1 (by omega)
      rw [gnomonmem_KeptNodes.l0, if_pos (by omega), if_pos (by omega), mk_wrap (by omega) hl, show rd_T68 F (j : Int) = N F j from rfl, e, if_neg (by simp [mknodes]), show wrap64 ((j : Int) + 1) = ((j + 1 : Nat) : Int) by unfold wrap64; omega]
theorem same_nodes_self {l : List S68} (hl : l.length ≤ 17592186044000) : ∀ (d j : Nat), l.length - j ≤ d → j ≤ l.length → Ev (fun k => gnomonmem_SameNodes.l0 k l l (j : Int)) true := by
  intro d
  induction d with
  | zero => intro j h0 h1; exact Ev.step (fun k => by rw [gnomonmem_SameNodes.l0, if_neg (by omega)]) (Ev.now _)
  | succ d ih =>
    intro j h0 h1
    by_cases hj : j = l.length
    · exact Ev.step (fun k => by rw [gnomonmem_SameNodes.l0, if_neg (by omega)]) (Ev.now _)
    · refine Ev.step (fun k => ?_) (ih (j + 1) (by omega) (by omega))
      rw [gnomonmem_SameNodes.l0, if_pos (by omega), if_pos (by omega), if_pos (by omega), if_neg (by simp), show wrap64 ((j : Int) + 1) = ((j + 1 : Nat) : Int) by unfold wrap64; omega]
theorem kept_nodes {l : List S68} (hl : l.length ≤ 17592186044000) : Ev (fun k => gnomonmem_HandNodes.f k l) l ∧ Ev (fun k => gnomonmem_KeptNodes.f k l l) true := by
  obtain ⟨F, f1, f2, f3⟩ := hand_nodes hl
  constructor
  · obtain ⟨K, hK⟩ := f1
    refine ⟨K, fun k hk => ?_⟩
    show gnomonmem_HandNodes.f k l = some l
    unfold gnomonmem_HandNodes.f
    have := hK k hk
    simp only at this
    rw [this]
    rfl
  · have hw : wrap64 ((l.length : Int) + 9) = ((l.length + 9 : Nat) : Int) := by unfold wrap64; omega
    have s1 : Ev (fun k => gnomonmem_SameNodes.f k l l) true := Ev.congr (fun k => by (rw [gnomonmem_SameNodes.f, if_pos rfl]; try rfl)) (same_nodes_self (by omega) l.length 0 (by omega) (Nat.zero_le _))
    refine Ev.congr (fun k => by (rw [gnomonmem_KeptNodes.f]; try rfl)) (Ev.bind f1 ?_)
    show Ev (fun k => gnomonmem_KeptNodes.f3 k l l F) true
    refine Ev.congr (fun k => by (rw [gnomonmem_KeptNodes.f3]; try rfl)) (Ev.bind s1 ?_)
    refine Ev.congr (fun k => ?_) (kept_nodes_loop (by omega) f2 f3 9 l.length (by omega) (Nat.le_refl _) (by omega))
    rw [if_pos rfl, hw, if_pos (by omega), if_pos (by omega), Int.toNat_natCast, List.take_of_length_le (by omega)]
def NI (l : List Int) (i : Nat) : Int := rd l (i : Int)
theorem ints_set {x : List Int} {i : Nat} (hi : i < x.length) (v : Int) (j : Nat) : NI (x.set i v) j = if j = i then v else NI x j := by
  unfold NI rd
  by_cases h : j = i
  · subst h; rw [if_pos rfl]; simp [List.getD, hi]
  · rw [if_neg h]; simp [List.getD, List.getElem?_set, Ne.symm h]
theorem ints_ext {a b : List Int} (h : a.length = b.length) (hh : ∀ i, i < a.length → NI a i = NI b i) : a = b := List.ext_getElem h (fun i h1 h2 => by
  have := hh i h1
  unfold NI rd at this
  simpa [List.getD, h1, h2] using this)
def mkints (n m : Nat) : Int := -700 - (m : Int) + (n : Int)
theorem hand_ints_l1 {l : List Int} (hl : l.length ≤ 17592186044000) : ∀ (d j : Nat) (x : List Int), l.length + 9 - j ≤ d → l.length ≤ j → j ≤ l.length + 9 → x.length = l.length + 9 → (∀ m, m < l.length → NI x m = NI l m) → (∀ m, l.length ≤ m → m < j → NI x m = mkints l.length m) →
    ∃ F, Ev (fun k => gnomonmem_HandInts.l1 k l x (j : Int)) (l, F) ∧ F.length = l.length + 9 ∧ ∀ m, l.length ≤ m → m < l.length + 9 → NI F m = mkints l.length m := by
  have fin : ∀ (j : Nat) (x : List Int), j = l.length + 9 → x.length = l.length + 9 → (∀ m, m < l.length → NI x m = NI l m) → (∀ m, l.length ≤ m → m < j → NI x m = mkints l.length m) →
      ∃ F, Ev (fun k => gnomonmem_HandInts.l1 k l x (j : Int)) (l, F) ∧ F.length = l.length + 9 ∧ ∀ m, l.length ≤ m → m < l.length + 9 → NI F m = mkints l.length m := by
    intro j x hj hx h1 h2
    subst hj
    refine ⟨x, Ev.step (fun k => ?_) (Ev.now _), hx, fun m a b => h2 m a b⟩
    have ht : x.take l.length = l := ints_ext (by rw [List.length_take]; omega) (fun i hi => by
      rw [List.length_take] at hi
      rw [← h1 i (by omega)]
      unfold NI rd
      simp [List.getD, List.getElem?_take, show i < l.length by omega])
    rw [gnomonmem_HandInts.l1, if_neg (by omega), if_pos (by omega), if_pos (by omega), Int.toNat_natCast, ht]
  intro d
  induction d with
  | zero => intro j x h0 h1 h2 h3 h4 h5; exact fin j x (by omega) h3 h4 h5
  | succ d ih =>
    intro j x h0 h1 h2 h3 h4 h5
    by_cases hj : j = l.length + 9
    · exact fin j x hj h3 h4 h5
    · have hs := ints_set (x := x) (i := j) (by omega) (mkints l.length j)
      obtain ⟨F, f1, f2⟩ := ih (j + 1) (x.set j (mkints l.length j)) (by omega) (by omega) (by omega) (by rw [List.length_set]; exact h3) (fun m hm => by rw [hs, if_neg (by omega)]; exact h4 m hm) (fun m a b => by
        rw [hs]
        by_cases e : m = j
        · rw [if_pos e, e]
        · rw [if_neg e]; exact h5 m a (by omega))
      refine ⟨F, Ev.step (fun k => ?_) f1, f2⟩
      rw [gnomonmem_HandInts.l1, if_pos (by omega), if_pos (by omega), Int.toNat_natCast, mk_wrap (by omega) hl, show wrap64 ((j : Int) + 1) = ((j + 1 : Nat) : Int) by unfold wrap64; omega]
      rfl
theorem hand_ints_l0 {l : List Int} (hl : l.length ≤ 17592186044000) : ∀ (d j : Nat) (x : List Int), l.length - j ≤ d → j ≤ l.length → x.length = l.length + 9 → (∀ m, m < j → NI x m = NI l m) →
    ∃ F, Ev (fun k => gnomonmem_HandInts.l0 k l x (j : Int)) (l, F) ∧ F.length = l.length + 9 ∧ ∀ m, l.length ≤ m → m < l.length + 9 → NI F m = mkints l.length m := by
  have fin : ∀ (j : Nat) (x : List Int), j = l.length → x.length = l.length + 9 → (∀ m, m < j → NI x m = NI l m) → ∃ F, Ev (fun k => gnomonmem_HandInts.l0 k l x (j : Int)) (l, F) ∧ F.length = l.length + 9 ∧ ∀ m, l.length ≤ m → m < l.length + 9 → NI F m = mkints l.length m := by
    intro j x hj hx h1
    subst hj
    obtain ⟨F, f1, f2⟩ := hand_ints_l1 hl 9 l.length x (by omega) (Nat.le_refl _) (by omega) hx h1 (fun m a b => by omega)
    exact ⟨F, Ev.step (fun k => by rw [gnomonmem_HandInts.l0, if_neg (by omega)]) f1, f2⟩
  intro d
  induction d with
  | zero => intro j x h0 h1 h2 h3; exact fin j x (by omega) h2 h3
  | succ d ih =>
    intro j x h0 h1 h2 h3
    by_cases hj : j = l.length
    · exact fin j x hj h2 h3
    · have hs := ints_set (x := x) (i := j) (by omega) (NI l j)
      obtain ⟨F, f1, f2⟩ := ih (j + 1) (x.set j (NI l j)) (by omega) (by omega) (by rw [List.length_set]; exact h2) (fun m hm => by
        rw [hs]
        by_cases e : m = j
        · rw [if_pos e, e]
        · rw [if_neg e]; exact h3 m (by omega))
      refine ⟨F, Ev.step (fun k => ?_) f1, f2⟩
      rw [gnomonmem_HandInts.l0, if_pos (by omega), if_pos (by omega), if_pos (by omega), Int.toNat_natCast, show wrap64 ((j : Int) + 1) = ((j + 1 : Nat) : Int) by unfold wrap64; omega]
      rfl
theorem hand_ints {l : List Int} (hl : l.length ≤ 17592186044000) : ∃ F, Ev (fun k => gnomonmem_HandInts.f2 k l) (l, F) ∧ F.length = l.length + 9 ∧ ∀ m, l.length ≤ m → m < l.length + 9 → NI F m = mkints l.length m := by
  obtain ⟨F, f1, f2⟩ := hand_ints_l0 (l := l) (by omega) l.length 0 (List.replicate (l.length + 9) 0) (by omega) (Nat.zero_le _) (by simp) (fun m hm => by omega)
  refine ⟨F, Ev.congr (fun k => ?_) f1, f2⟩
  have hw : wrap64 ((l.length : Int) + 9) = ((l.length + 9 : Nat) : Int) := by unfold wrap64; omega
  rw [gnomonmem_HandInts.f2, hw, if_pos (by omega), Int.toNat_natCast, if_pos (by omega)]
  rfl
theorem kept_ints_loop {l F : List Int} (hl : l.length ≤ 17592186044000) (hF : F.length = l.length + 9) (hm : ∀ m, l.length ≤ m → m < l.length + 9 → NI F m = mkints l.length m) : ∀ (d j : Nat), l.length + 9 - j ≤ d → l.length ≤ j → j ≤ l.length + 9 → Ev (fun k => gnomonmem_KeptInts.l0 k l F (j : Int)) true := by
  intro d
  induction d with
  | zero => intro j h0 h1 h2; exact Ev.step (fun k => by rw [gnomonmem_KeptInts.l0, if_neg (by omega)]) (Ev.now _)
  | succ d ih =>
    intro j h0 h1 h2
    by_cases hj : j = l.length + 9
    · exact Ev.step (fun k => by rw [gnomonmem_KeptInts.l0, if_neg (by omega)]) (Ev.now _)
    · refine Ev.step (fun k => ?_) (ih (j + 1) (by omega) (by omega) (by omega))
      have e := hm j h1 (by omega)
      rw [gnomonmem_KeptInts.l0, if_pos (by omega), if_pos (by omega), mk_wrap (by omega) hl, show rd F (j : Int) = NI F j from rfl, e, if_pos (by rfl), show wrap64 ((j : Int) + 1) = ((j + 1 : Nat) : Int) by unfold wrap64; omega]
theorem same_ints_self {l : List Int} (hl : l.length ≤ 17592186044000) : ∀ (d j : Nat), l.length - j ≤ d → j ≤ l.length → Ev (fun k => gnomonmem_SameInts.l0 k l l (j : Int)) true := by
  intro d
  induction d with
  | zero => intro j h0 h1; exact Ev.step (fun k => by rw [gnomonmem_SameInts.l0, if_neg (by omega)]) (Ev.now _)
  | succ d ih =>
    intro j h0 h1
    by_cases hj : j = l.length
    · exact Ev.step (fun k => by rw [gnomonmem_SameInts.l0, if_neg (by omega)]) (Ev.now _)
    · refine Ev.step (fun k => ?_) (ih (j + 1) (by omega) (by omega))
      rw [gnomonmem_SameInts.l0, if_pos (by omega), if_pos (by omega), if_pos (by omega), if_pos rfl, show wrap64 ((j : Int) + 1) = ((j + 1 : Nat) : Int) by unfold wrap64; omega]
theorem kept_ints {l : List Int} (hl : l.length ≤ 17592186044000) : Ev (fun k => gnomonmem_HandInts.f k l) l ∧ Ev (fun k => gnomonmem_KeptInts.f k l l) true := by
  obtain ⟨F, f1, f2, f3⟩ := hand_ints hl
  constructor
  · obtain ⟨K, hK⟩ := f1
    refine ⟨K, fun k hk => ?_⟩
    show gnomonmem_HandInts.f k l = some l
    unfold gnomonmem_HandInts.f
    have := hK k hk
    simp only at this
    rw [this]
    rfl
  · have hw : wrap64 ((l.length : Int) + 9) = ((l.length + 9 : Nat) : Int) := by unfold wrap64; omega
    have s1 : Ev (fun k => gnomonmem_SameInts.f k l l) true := Ev.congr (fun k => by (rw [gnomonmem_SameInts.f, if_pos rfl]; try rfl)) (same_ints_self (by omega) l.length 0 (by omega) (Nat.zero_le _))
    refine Ev.congr (fun k => by (rw [gnomonmem_KeptInts.f]; try rfl)) (Ev.bind f1 ?_)
    show Ev (fun k => gnomonmem_KeptInts.f3 k l l F) true
    refine Ev.congr (fun k => by (rw [gnomonmem_KeptInts.f3]; try rfl)) (Ev.bind s1 ?_)
    refine Ev.congr (fun k => ?_) (kept_ints_loop (by omega) f2 f3 9 l.length (by omega) (Nat.le_refl _) (by omega))
    rw [if_pos rfl, hw, if_pos (by omega), if_pos (by omega), Int.toNat_natCast, List.take_of_length_le (by omega)]
section
variable {l : List S68} {vars : List Int}
theorem isTruth_ref {x : X} (ho : x.ok (vars.length : Int)) : gnomonref08_IsTruth.f (enc x) = some (Tr x.op) := by
  have hp := enc_pos x
  have h0 : (rd_T68 (enc x) 0).f0 = x.op := by cases x <;> rfl
  rw [gnomonref08_IsTruth.f, if_pos (by omega), if_pos (by omega), h0, truth_eq (X.op_byte ho), Option.bind_some]
theorem value_both (ho : opsOk l) (hvl : vars.length ≤ 140737488355328) (hv : ∀ z ∈ vars, i64 z) : (∃ r, Ev (fun k => expr_Value.f k l vars) r ∧ Ev (fun k => gnomonref08_Value.f k l vars) r) ∧ (∃ r, Ev (fun k => expr_Holds.f k l vars) r ∧ Ev (fun k => gnomonref08_Holds.f k l vars) r) := by
  obtain ⟨c, h1, h2, h3, h4⟩ := right_both ho (k := (vars.length : Int)) ⟨by omega, by omega⟩
  have b1 : Ev (fun k => expr_Value.j0 k l vars true) (0, 121) := Ev.step (fun k => by rw [expr_Value.j0, if_pos rfl]) (Ev.now _)
  have b2 : Ev (fun k => gnomonref08_Value.j0 k l vars true) (0, 121) := Ev.step (fun k => by rw [gnomonref08_Value.j0, if_pos rfl]) (Ev.now _)
  have b3 : Ev (fun k => expr_Holds.j0 k l vars true) (false, 121) := Ev.step (fun k => by rw [expr_Holds.j0, if_pos rfl]) (Ev.now _)
  have b4 : Ev (fun k => gnomonref08_Holds.j0 k l vars true) (false, 121) := Ev.step (fun k => by rw [gnomonref08_Holds.j0, if_pos rfl]) (Ev.now _)
  by_cases h0 : l.length = 0
  · have hc : c ≠ 0 := fun h => by have := (h4.1 h).pos; omega
    refine ⟨⟨_, Ev.congr (fun k => by (rw [expr_Value.f]; try rfl)) (Ev.bind h1 (Ev.congr (fun k => by (rw [if_neg hc]; try rfl)) b1)), Ev.congr (fun k => by (rw [gnomonref08_Value.f]; try rfl)) (Ev.bind h2 (Ev.congr (fun k => by (rw [if_neg hc]; try rfl)) b2))⟩, ⟨(true, 0), Ev.congr (fun k => by rw [expr_Holds.f, if_pos (by omega)]) (Ev.now _), Ev.congr (fun k => by rw [gnomonref08_Holds.f, if_pos (by omega)]) (Ev.now _)⟩⟩
  by_cases hc : c = 0
  · subst hc
    obtain ⟨x, rfl, hok, hat⟩ := good_tree (h4.1 rfl)
    have hl := (h4.1 rfl).len
    have ht := isTruth_ev (r := []) hok
    rw [List.append_nil] at ht
    have ht2 := isTruth_ref hok
    obtain ⟨r, r1, r2, r3⟩ := ref_value_ev (h4.1 rfl) hv hok hat
    have V := value_tree hvl hv hok hl
    cases hT : Tr x.op with
    | true =>
      refine ⟨⟨_, Ev.congr (fun k => by (rw [expr_Value.f]; try rfl)) (Ev.bind h1 (Ev.congr (fun k => by (rw [if_pos rfl, ht, Option.bind_some, hT]; try rfl)) b1)), Ev.congr (fun k => by (rw [gnomonref08_Value.f]; try rfl)) (Ev.bind h2 (Ev.congr (fun k => by (rw [if_pos rfl, ht2, Option.bind_some, hT]; try rfl)) b2))⟩, ⟨_, V.2 hT, ?_⟩⟩
      refine Ev.congr (fun k => by (rw [gnomonref08_Holds.f, if_neg (by omega)]; try rfl)) (Ev.bind h2 (Ev.congr (fun k => by (rw [if_pos rfl, ht2, Option.bind_some, hT]; try rfl)) (Ev.step (fun k => by (rw [gnomonref08_Holds.j0, if_neg (by decide)]; try rfl)) (Ev.bind r1 (Ev.congr (fun k => ?_) (Ev.now _))))))
      unfold toldB
      by_cases hov : (vl vars x).2.2 = true
      · rw [if_pos hov, if_neg (by rw [r2, hov]; decide)]
      · have hov' : (vl vars x).2.2 = false := by simpa using hov
        rw [if_neg hov, if_pos (by rw [r2, hov']; rfl), r3 hov', told1_truth hT]
        cases (vl vars x).2.1 <;> rfl
    | false =>
      refine ⟨⟨_, V.1 hT, ?_⟩, ⟨_, Ev.congr (fun k => by (rw [expr_Holds.f, if_neg (by omega)]; try rfl)) (Ev.bind h1 (Ev.congr (fun k => by (rw [if_pos rfl, ht, Option.bind_some, hT]; try rfl)) b3)), Ev.congr (fun k => by (rw [gnomonref08_Holds.f, if_neg (by omega)]; try rfl)) (Ev.bind h2 (Ev.congr (fun k => by (rw [if_pos rfl, ht2, Option.bind_some, hT]; try rfl)) b4))⟩⟩
      refine Ev.congr (fun k => by (rw [gnomonref08_Value.f]; try rfl)) (Ev.bind h2 (Ev.congr (fun k => by (rw [if_pos rfl, ht2, Option.bind_some, hT]; try rfl)) (Ev.step (fun k => by (rw [gnomonref08_Value.j0, if_neg (by decide)]; try rfl)) (Ev.bind r1 (Ev.congr (fun k => ?_) (Ev.now _))))))
      unfold told
      by_cases hov : (vl vars x).2.2 = true
      · rw [if_pos hov, if_neg (by rw [r2, hov]; decide)]
      · have hov' : (vl vars x).2.2 = false := by simpa using hov
        rw [if_neg hov, if_pos (by rw [r2, hov']; rfl), r3 hov', told1_num hT]
  · exact ⟨⟨_, Ev.congr (fun k => by (rw [expr_Value.f]; try rfl)) (Ev.bind h1 (Ev.congr (fun k => by (rw [if_neg hc]; try rfl)) b1)), Ev.congr (fun k => by (rw [gnomonref08_Value.f]; try rfl)) (Ev.bind h2 (Ev.congr (fun k => by (rw [if_neg hc]; try rfl)) b2))⟩, ⟨_, Ev.congr (fun k => by (rw [expr_Holds.f, if_neg (by omega)]; try rfl)) (Ev.bind h1 (Ev.congr (fun k => by (rw [if_neg hc]; try rfl)) b3)), Ev.congr (fun k => by (rw [gnomonref08_Holds.f, if_neg (by omega)]; try rfl)) (Ev.bind h2 (Ev.congr (fun k => by (rw [if_neg hc]; try rfl)) b4))⟩⟩
end
end Go.Proofs.YtgkcjefbagnkpaaDoor.PVal
