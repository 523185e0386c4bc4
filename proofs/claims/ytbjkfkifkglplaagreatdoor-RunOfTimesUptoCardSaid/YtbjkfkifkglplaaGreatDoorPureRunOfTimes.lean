/-
  RunOfTimes: moves and times that are handed in with room; the run, or the error.
-/
import Derived.Test.YtbjkfkifkglplaaGreatDoorPS4
import Derived.Test.YtbjkfkifkglplaaGreatDoorLV
import Derived.Test.YtbjkfkifkglplaaGreatDoorMO
import Derived.Test.YtbjkfkifkglplaaGreatDoorD6
import Derived.Test.YtbjkfkifkglplaaGreatDoorD5c
set_option linter.unusedSectionVars false
set_option linter.unusedVariables false
set_option linter.unusedSimpArgs false
set_option maxRecDepth 100000
namespace Go.Proofs.YtbjkfkifkglplaaGreatDoor.Q
open Go Go.Den Go.RowKit Go.Proofs
noncomputable section
def cap : Nat := 140737488355328
theorem cap_is : cap = 140737488355328 := rfl
theorem w1 {n : Nat} (h : n ≤ cap) : w64 ((n : Int) + 1) = ((n + 1 : Nat) : Int) := by show RowKit.wrap64 _ = _; have : cap = 140737488355328 := rfl; unfold RowKit.wrap64; omega
theorem ws0 {n : Int} (h : -9223372036854775808 ≤ n) (h2 : n ≤ 9223372036854775807) : w64 n = n := w64_id ⟨h, h2⟩
/-! A list, and marks behind it. -/
def roomOf {α : Type} (mk : Nat → Nat → α) (n : Nat) : List α := (List.range 9).map fun j => mk n (n + j)
theorem room_len {α : Type} {mk : Nat → Nat → α} {n : Nat} : (roomOf mk n).length = 9 := by simp [roomOf]
theorem room_get {α : Type} {mk : Nat → Nat → α} {n j : Nat} (h : j < 9) : (roomOf mk n)[j]? = some (mk n (n + j)) := by
  simp [roomOf, List.getElem?_range h]
theorem set_at {α : Type} {a r : List α} {d y : α} {n : Nat} (hn : n = a.length) : (a ++ d :: r).set n y = a ++ y :: r := by
  subst hn
  induction a with
  | nil => rfl
  | cons x a ih => simp only [List.cons_append, List.length_cons, List.set_cons_succ, ih]
structure HandEq {α : Type} (B : Nat) (d : α) (rdf : List α → Int → α) (mk : Nat → Nat → α) (F0 F1 : Nat → List α → List α → Int → Option (List α × List α)) (f : Nat → List α → Option (List α × List α)) : Prop where
  rd : ∀ (xs : List α) (i : Nat) (y : α), xs[i]? = some y → rdf xs (i : Int) = y
  e1 : ∀ (k : Nat) (l x : List α) (i q : Nat), i < x.length → x.length ≤ cap → i = l.length + q → q < 9 → F1 (k + 1) l x (i : Int) = F1 k l (x.set i (mk l.length i)) ((i + 1 : Nat) : Int)
  n1 : ∀ (k : Nat) (l x : List α), l.length ≤ x.length → F1 (k + 1) l x (x.length : Int) = some (x.take l.length, x.drop l.length)
  e0 : ∀ (k : Nat) (l x : List α) (i : Nat), i < l.length → l.length ≤ x.length → x.length ≤ cap → F0 (k + 1) l x (i : Int) = F0 k l (x.set i (rdf l (i : Int))) ((i + 1 : Nat) : Int)
  n0 : ∀ (k : Nat) (l x : List α), F0 (k + 1) l x (l.length : Int) = F1 k l x (l.length : Int)
  st : ∀ (k : Nat) (l : List α), l.length + 9 ≤ B → f k l = F0 k l (List.replicate (l.length + 9) d) 0
section
variable {α : Type} {B : Nat} {d : α} {rdf : List α → Int → α} {mk : Nat → Nat → α} {F0 F1 : Nat → List α → List α → Int → Option (List α × List α)} {f : Nat → List α → Option (List α × List α)}
theorem hand1 (E : HandEq B d rdf mk F0 F1 f) {l : List α} (hc : l.length + 9 ≤ cap) : ∀ (m : Nat) (r : List α), r.length + m = 9 → r = (List.range r.length).map (fun j => mk l.length (l.length + j)) → Ev (fun k => F1 k l (l ++ (r ++ List.replicate m d)) ((l.length + r.length : Nat) : Int)) (l, roomOf mk l.length)
  | 0, r, h, hr => by
    have h9 : r.length = 9 := by omega
    refine Ev.step (g := fun _ => some (l, roomOf mk l.length)) (fun k => ?_) (Ev.now _)
    have e : l.length + r.length = (l ++ (r ++ List.replicate 0 d)).length := by simp
    rw [e, E.n1 k l _ (by simp)]
    rw [h9] at hr
    simp only [List.replicate_zero, List.append_nil, List.take_left, List.drop_left]
    rw [show r = roomOf mk l.length from hr]
  | m + 1, r, h, hr => by
    refine Ev.step (fun k => E.e1 k l _ (l.length + r.length) r.length (by simp) (by simp; omega) rfl (by omega)) ?_
    have e : (l ++ (r ++ List.replicate (m + 1) d)).set (l.length + r.length) (mk l.length (l.length + r.length)) = l ++ ((r ++ [mk l.length (l.length + r.length)]) ++ List.replicate m d) := by
      rw [List.replicate_succ, ← List.append_assoc, set_at (by simp)]; simp
    rw [e]
    have ih := hand1 E hc m (r ++ [mk l.length (l.length + r.length)]) (by simp; omega) (by
      rw [List.length_append, List.length_singleton, List.range_succ, List.map_append, ← hr]; rfl)
    rw [List.length_append, List.length_singleton, ← Nat.add_assoc] at ih
    exact ih
theorem hand0 (E : HandEq B d rdf mk F0 F1 f) {l : List α} (hc : l.length + 9 ≤ cap) : ∀ (t a : List α), l = a ++ t → Ev (fun k => F0 k l (a ++ List.replicate (t.length + 9) d) (a.length : Int)) (l, roomOf mk l.length)
  | [], a, h => by
    rw [List.append_nil] at h
    subst h
    exact Ev.step (fun k => E.n0 k _ _) (hand1 E hc 9 [] rfl rfl)
  | y :: t, a, h => by
    have hy : l[a.length]? = some y := by rw [h]; simp
    refine Ev.step (fun k => E.e0 k l _ a.length (by rw [h]; simp) (by rw [h]; simp) (by rw [h] at hc; simp at hc ⊢; omega)) ?_
    rw [E.rd l a.length y hy, List.length_cons, show t.length + 1 + 9 = (t.length + 9) + 1 by omega, List.replicate_succ, set_at rfl]
    have ih := hand0 E hc t (a ++ [y]) (by rw [h]; simp)
    rw [List.length_append, List.length_singleton, List.append_assoc] at ih
    exact ih
theorem hand_ev (E : HandEq B d rdf mk F0 F1 f) {l : List α} (hB : B ≤ cap) (h : l.length + 9 ≤ B) : Ev (fun k => f k l) (l, roomOf mk l.length) :=
  Ev.congr (fun k => E.st k l h) (hand0 E (Nat.le_trans h hB) l [] rfl)
structure KeptEq {α : Type} (rdf : List α → Int → α) (mk : Nat → Nat → α) (G : Nat → List α → List α → Int → Option Bool) : Prop where
  rd : ∀ (xs : List α) (i : Nat) (y : α), xs[i]? = some y → rdf xs (i : Int) = y
  e : ∀ (k : Nat) (l x : List α) (i q : Nat), i < x.length → x.length ≤ cap → i = l.length + q → q < 9 → rdf x (i : Int) = mk l.length i → G (k + 1) l x (i : Int) = G k l x ((i + 1 : Nat) : Int)
  n : ∀ (k : Nat) (l x : List α), G (k + 1) l x (x.length : Int) = some true
theorem kept_ev {G : Nat → List α → List α → Int → Option Bool} (E : KeptEq rdf mk G) {l : List α} (hc : l.length + 9 ≤ cap) : ∀ (m q : Nat), q + m = 9 → Ev (fun k => G k l (l ++ roomOf mk l.length) ((l.length + q : Nat) : Int)) true
  | 0, q, h => by
    refine Ev.step (g := fun _ => some true) (fun k => ?_) (Ev.now _)
    have e : l.length + q = (l ++ roomOf mk l.length).length := by rw [List.length_append, room_len]; omega
    rw [e, E.n]
  | m + 1, q, h => by
    refine Ev.step (fun k => E.e k l _ (l.length + q) q (by rw [List.length_append, room_len]; omega) (by rw [List.length_append, room_len]; omega) rfl (by omega) ?_) (kept_ev E hc m (q + 1) (by omega))
    exact E.rd _ _ _ (by rw [List.getElem?_append_right (by omega), Nat.add_sub_cancel_left]; exact room_get (by omega))
end
theorem rd_at {t : Ty} (xs : List t.den) (i : Nat) (y : t.den) (h : xs[i]? = some y) : rdT t xs (i : Int) = y := by
  unfold rdT
  rw [Int.toNat_natCast, List.getD_eq_getElem?_getD, h]; rfl
def mkM (n j : Nat) : S192 := (w64 (w64 ((-700) - (j : Int)) + (n : Int)), 0, 0, 0)
theorem handMoves : HandEq 4398046511104 ((⟨0, 0, 0, 0⟩ : S192)) (fun xs i => rd_T192 xs i) mkM gnomonmem_HandMoves.l0 gnomonmem_HandMoves.l1 gnomonmem_HandMoves.f where
  rd := fun xs i y h => rd_at (t := T192) xs i y h
  e1 := fun k l x i q hi hx hq1 hq => by
    have := cap_is
    rw [gnomonmem_HandMoves.l1, if_pos (by omega)]
    rw [if_pos (by omega), if_pos (by omega), w1 (by omega), Int.toNat_natCast]
    try rfl
  n1 := fun k l x h => by rw [gnomonmem_HandMoves.l1, if_neg (by omega), if_pos (by omega), if_pos (by omega), Int.toNat_natCast]
  e0 := fun k l x i hi hl hx => by
    have := cap_is
    rw [gnomonmem_HandMoves.l0, if_pos (by omega), if_pos (by omega), if_pos (by omega), if_pos (by omega), if_pos (by omega), w1 (by omega), Int.toNat_natCast]
  n0 := fun k l x => by rw [gnomonmem_HandMoves.l0, if_neg (by omega)]
  st := fun k l h => by
    have e : w64 ((l.length : Int) + 9) = ((l.length + 9 : Nat) : Int) := by rw [ws0 (by omega) (by omega)]; rfl
    rw [gnomonmem_HandMoves.f, e, if_pos (by omega), if_pos (by omega), Int.toNat_natCast]
theorem keptMoves : KeptEq (fun xs i => rd_T192 xs i) mkM gnomonmem_KeptMoves.l0 where
  rd := fun xs i y h => rd_at (t := T192) xs i y h
  e := fun k l x i q hi hx hq1 hq hr => by
    have := cap_is
    have hr : rd_T192 x (i : Int) = mkM l.length i := hr
    rw [gnomonmem_KeptMoves.l0, if_pos (by omega), if_pos (by omega), if_pos (by omega)]
    rw [hr, if_pos (show mkM l.length i = ((w64 (w64 ((-700) - (i : Int)) + (l.length : Int)), 0, 0, 0) : S192) from rfl), w1 (by omega)]
  n := fun k l x => by rw [gnomonmem_KeptMoves.l0, if_neg (by omega)]
def mkR (n j : Nat) : S103 := (w64 (w64 ((-700) - (j : Int)) + (n : Int)), 77)
theorem handRats : HandEq 8796093022208 ((⟨0, 0⟩ : S103)) (fun xs i => rd_T103 xs i) mkR gnomonmem_HandRats.l0 gnomonmem_HandRats.l1 gnomonmem_HandRats.f where
  rd := fun xs i y h => rd_at (t := T103) xs i y h
  e1 := fun k l x i q hi hx hq1 hq => by
    have := cap_is
    rw [gnomonmem_HandRats.l1, if_pos (by omega)]
    rw [if_pos (by omega), if_pos (by omega), w1 (by omega), Int.toNat_natCast]
    try rfl
  n1 := fun k l x h => by rw [gnomonmem_HandRats.l1, if_neg (by omega), if_pos (by omega), if_pos (by omega), Int.toNat_natCast]
  e0 := fun k l x i hi hl hx => by
    have := cap_is
    rw [gnomonmem_HandRats.l0, if_pos (by omega), if_pos (by omega), if_pos (by omega), if_pos (by omega), if_pos (by omega), w1 (by omega), Int.toNat_natCast]
  n0 := fun k l x => by rw [gnomonmem_HandRats.l0, if_neg (by omega)]
  st := fun k l h => by
    have e : w64 ((l.length : Int) + 9) = ((l.length + 9 : Nat) : Int) := by rw [ws0 (by omega) (by omega)]; rfl
    rw [gnomonmem_HandRats.f, e, if_pos (by omega), if_pos (by omega), Int.toNat_natCast]
theorem keptRats : KeptEq (fun xs i => rd_T103 xs i) mkR gnomonmem_KeptRats.l0 where
  rd := fun xs i y h => rd_at (t := T103) xs i y h
  e := fun k l x i q hi hx hq1 hq hr => by
    have := cap_is
    have hr : rd_T103 x (i : Int) = mkR l.length i := hr
    rw [gnomonmem_KeptRats.l0, if_pos (by omega), if_pos (by omega), if_pos (by omega)]
    rw [hr, if_pos (show mkR l.length i = ((w64 (w64 ((-700) - (i : Int)) + (l.length : Int)), 77) : S103) from rfl), w1 (by omega)]
  n := fun k l x => by rw [gnomonmem_KeptRats.l0, if_neg (by omega)]

def hM (l : List S192) : List S192 × List S192 := (l, roomOf mkM l.length)
def hR (l : List S103) : List S103 × List S103 := (l, roomOf mkR l.length)
/-! The same is the same. -/
theorem smoves_ev {l : List S192} (hl : l.length ≤ cap) : ∀ (t : List S192) (i : Nat), l.drop i = t → Ev (fun k => gnomonmem_SameMoves.l0 k l l (i : Int)) true
  | [], i, hd => by
    have hn := drop_nil hd
    exact Ev.step (g := fun _ => some true) (fun k => by rw [gnomonmem_SameMoves.l0, if_neg (by omega)]) (Ev.now _)
  | y :: t, i, hd => by
    obtain ⟨h1, _, ht⟩ := drop_cons hd
    exact Ev.step (fun k => by rw [gnomonmem_SameMoves.l0, if_pos (by omega), if_pos (by omega), if_pos (by omega), if_pos (by omega), if_pos (by omega), if_pos rfl, w1 (by omega)]) (smoves_ev hl t (i + 1) ht)
theorem srats_ev {l : List S103} (hl : l.length ≤ cap) : ∀ (t : List S103) (i : Nat), l.drop i = t → Ev (fun k => gnomonmem_SameRats.l0 k l l (i : Int)) true
  | [], i, hd => by
    have hn := drop_nil hd
    exact Ev.step (g := fun _ => some true) (fun k => by rw [gnomonmem_SameRats.l0, if_neg (by omega)]) (Ev.now _)
  | y :: t, i, hd => by
    obtain ⟨h1, _, ht⟩ := drop_cons hd
    exact Ev.step (fun k => by rw [gnomonmem_SameRats.l0, if_pos (by omega), if_pos (by omega), if_pos (by omega), if_pos (by omega), if_pos (by omega), if_pos rfl, w1 (by omega)]) (srats_ev hl t (i + 1) ht)
theorem ssteps_ev {l : List S208} (hl : l.length ≤ cap) : ∀ (t : List S208) (i : Nat), l.drop i = t → Ev (fun k => gnomonmem_SameSteps.l0 k l l (i : Int)) true
  | [], i, hd => by
    have hn := drop_nil hd
    exact Ev.step (g := fun _ => some true) (fun k => by rw [gnomonmem_SameSteps.l0, if_neg (by omega)]) (Ev.now _)
  | y :: t, i, hd => by
    obtain ⟨h1, _, ht⟩ := drop_cons hd
    exact Ev.step (fun k => by rw [gnomonmem_SameSteps.l0, if_pos (by omega), if_pos (by omega), if_pos (by omega), if_pos (by omega), if_pos (by omega), if_pos rfl, w1 (by omega)]) (ssteps_ev hl t (i + 1) ht)
theorem km_ev {l : List S192} (h : l.length + 9 ≤ 4398046511104) : Ev (fun k => gnomonmem_KeptMoves.f k (hM l) l) true := by
  have hc := cap_is
  have e : w64 ((l.length : Int) + 9) = ((l.length + 9 : Nat) : Int) := by rw [ws0 (by omega) (by omega)]; rfl
  have hl : (List.append (hM l).1 (hM l).2).length = l.length + 9 := by show (l ++ roomOf mkM l.length).length = _; rw [List.length_append, room_len]
  refine Ev.bind (a := true) (Ev.congr (fun k => by rw [gnomonmem_SameMoves.f, if_pos (by rfl)]; rfl) (smoves_ev (l := l) (by omega) l 0 rfl)) ?_
  refine Ev.congr (fun k => by rw [if_neg (by decide), e, if_pos (by omega), if_pos (by rw [hl]; omega), Int.toNat_natCast, List.take_of_length_le (by rw [hl]; omega)]) ?_
  exact kept_ev keptMoves (by omega) 9 0 rfl
theorem kr_ev {l : List S103} (h : l.length + 9 ≤ 8796093022208) : Ev (fun k => gnomonmem_KeptRats.f k (hR l) l) true := by
  have hc := cap_is
  have e : w64 ((l.length : Int) + 9) = ((l.length + 9 : Nat) : Int) := by rw [ws0 (by omega) (by omega)]; rfl
  have hl : (List.append (hR l).1 (hR l).2).length = l.length + 9 := by show (l ++ roomOf mkR l.length).length = _; rw [List.length_append, room_len]
  refine Ev.bind (a := true) (Ev.congr (fun k => by rw [gnomonmem_SameRats.f, if_pos (by rfl)]; rfl) (srats_ev (l := l) (by omega) l 0 rfl)) ?_
  refine Ev.congr (fun k => by rw [if_neg (by decide), e, if_pos (by omega), if_pos (by rw [hl]; omega), Int.toNat_natCast, List.take_of_length_le (by rw [hl]; omega)]) ?_
  exact kept_ev keptRats (by omega) 9 0 rfl
/-! The run of moves and times. -/
def Rr (r : S103) : Prop := R64 r.1 ∧ R64 r.2
section
variable {way : List S192} {times : List S103} {g0 g1 g2 : Int} {z0 : List S208}
theorem ot1 (hw : way.length ≤ 1048576) (ht : times.length ≤ 1048576) : ∀ (t : List S103) (i : Nat) (x0 x1 : Int) (acc : List S208) (y1 y2 : Int), times.drop i = t → (∀ r ∈ t, Rr r) → R64 x0 → R64 x1 → acc.length ≤ i → acc.length ≤ way.length →
    ∃ v, Ev (fun k => run_OfTimes.l1 k way times (times.length : Int) (i : Int) z0 g1 g2 x0 x1 acc y1 y2) v ∧ Ev (fun k => gnomonref20_OfTimes.l1 k way times (i : Int) z0 g1 g2 x0 x1 acc y1 y2) v ∧ v.1.length ≤ 1048576
  | [], i, x0, x1, acc, y1, y2, hd, _, _, _, _, ha => by
    have hn := drop_nil hd
    refine ⟨(acc, (y1, y2), 0), ?_, ?_, by show acc.length ≤ _; omega⟩
    · exact Ev.step (g := fun _ => some (acc, (y1, y2), 0)) (fun k => by rw [run_OfTimes.l1, if_neg (by omega)]) (Ev.now _)
    · exact Ev.step (g := fun _ => some (acc, (y1, y2), 0)) (fun k => by rw [gnomonref20_OfTimes.l1, if_neg (by omega)]) (Ev.now _)
  | r :: t, i, x0, x1, acc, y1, y2, hd, hr, hx0, hx1, hai, ha => by
    obtain ⟨h1, _, ht'⟩ := drop_cons hd
    have hc := cap_is
    have hrr := hr r List.mem_cons_self
    have hrd : rd_T103 times (i : Int) = r := rdT_head (t := T103) hd
    obtain ⟨v, e1, e2⟩ := sub_both hrr.1 hrr.2 hx0 hx1
    by_cases h0 : v.2.2 = 0
    rotate_left
    · refine ⟨([], (0, 0), v.2.2), ?_, ?_, by show 0 ≤ _; omega⟩
      · exact Ev.step (fun k => by (rw [run_OfTimes.l1, if_pos (by omega), if_pos (by omega), if_pos (by omega), hrd]; try rfl)) (Ev.bind e1 (Ev.congr (fun k => by rw [if_neg h0]) (Ev.now _)))
      · exact Ev.step (fun k => by (rw [gnomonref20_OfTimes.l1, if_pos (by omega), if_pos (by omega), if_pos (by omega), hrd]; try rfl)) (Ev.bind e2 (Ev.congr (fun k => by rw [if_neg h0]) (Ev.now _)))
    by_cases hi : i < way.length
    · obtain ⟨u, f1, f2, f3⟩ := ot1 hw ht t (i + 1) r.1 r.2 (acc ++ [((v.1, v.2.1), rd_T192 way (i : Int))]) y1 y2 ht' (fun z hz => hr z (List.mem_cons_of_mem _ hz)) hrr.1 hrr.2 (by simp; omega) (by simp; omega)
      refine ⟨u, ?_, ?_, f3⟩
      · exact Ev.step (fun k => by (rw [run_OfTimes.l1, if_pos (by omega), if_pos (by omega), if_pos (by omega), hrd]; try rfl)) (Ev.bind e1 (Ev.congr (fun k => by rw [if_pos h0, if_pos (by omega), if_pos (by omega), if_pos (by omega), if_pos (by omega), w1 (by omega)]) f1))
      · exact Ev.step (fun k => by (rw [gnomonref20_OfTimes.l1, if_pos (by omega), if_pos (by omega), if_pos (by omega), hrd]; try rfl)) (Ev.bind e2 (Ev.congr (fun k => by rw [if_pos h0, if_pos (by omega), if_pos (by omega), if_pos (by omega), if_pos (by omega), if_pos (by omega), if_pos (by omega), w1 (by omega)]) f2))
    · obtain ⟨u, f1, f2, f3⟩ := ot1 hw ht t (i + 1) r.1 r.2 acc v.1 v.2.1 ht' (fun z hz => hr z (List.mem_cons_of_mem _ hz)) hrr.1 hrr.2 (by omega) ha
      refine ⟨u, ?_, ?_, f3⟩
      · exact Ev.step (fun k => by (rw [run_OfTimes.l1, if_pos (by omega), if_pos (by omega), if_pos (by omega), hrd]; try rfl)) (Ev.bind e1 (Ev.congr (fun k => by rw [if_pos h0, if_neg (by omega), w1 (by omega)]) f1))
      · exact Ev.step (fun k => by (rw [gnomonref20_OfTimes.l1, if_pos (by omega), if_pos (by omega), if_pos (by omega), hrd]; try rfl)) (Ev.bind e2 (Ev.congr (fun k => by rw [if_pos h0, if_pos (by omega), if_pos (by omega), if_neg (by omega), w1 (by omega)]) f2))
theorem ot0 (hw : way.length ≤ 1048576) (ht : times.length ≤ 1048576) (ha : ∀ r ∈ times, Rr r) : ∀ (t : List S103) (i : Nat) (x0 x1 : Int), times.drop i = t → (∀ r ∈ t, Rr r) → R64 x0 → R64 x1 →
    ∃ v, Ev (fun k => run_OfTimes.l0 k way times times (times.length : Int) (i : Int) z0 g1 g2 x0 x1) v ∧ Ev (fun k => gnomonref20_OfTimes.l0 k way times (i : Int) z0 g1 g2 x0 x1) v ∧ v.1.length ≤ 1048576
  | [], i, x0, x1, hd, _, _, _ => by
    have hn := drop_nil hd
    obtain ⟨v, f1, f2, f3⟩ := ot1 (z0 := z0) (g1 := g1) (g2 := g2) hw ht times 0 0 1 [] 0 0 rfl ha (by unfold R64; omega) (by unfold R64; omega) (by simp) (by simp)
    refine ⟨v, ?_, ?_, f3⟩
    · exact Ev.step (fun k => by (rw [run_OfTimes.l0, if_neg (by omega), rat_Of.f, Option.bind_some]; try rfl)) f1
    · exact Ev.step (fun k => by (rw [gnomonref20_OfTimes.l0, if_neg (by omega)]; try rfl)) f2
  | r :: t, i, x0, x1, hd, hr, hx0, hx1 => by
    obtain ⟨h1, _, ht'⟩ := drop_cons hd
    have hc := cap_is
    have hrr := hr r List.mem_cons_self
    have hrd : rd_T103 times (i : Int) = r := rdT_head (t := T103) hd
    cases hR : sRight r.1 r.2 with
    | false =>
      have p := right_ev hrr.1 hrr.2
      have q := rright_ev hrr.1 hrr.2
      rw [hR] at p q
      refine ⟨([], (0, 0), 210), ?_, ?_, by show 0 ≤ _; omega⟩
      · exact Ev.step (fun k => by (rw [run_OfTimes.l0, if_pos (by omega), if_pos (by omega), if_pos (by omega), hrd]; try rfl)) (Ev.bind p (Ev.congr (fun k => by rw [if_pos (show (!false) = true from rfl)]) (Ev.now _)))
      · exact Ev.step (fun k => by (rw [gnomonref20_OfTimes.l0, if_pos (by omega), if_pos (by omega), if_pos (by omega), hrd]; try rfl)) (Ev.bind q (Ev.congr (fun k => by rw [if_pos (show (!false) = true from rfl)]) (Ev.now _)))
    | true =>
      have p := right_ev hrr.1 hrr.2
      have q := rright_ev hrr.1 hrr.2
      rw [hR] at p q
      obtain ⟨c, e1, e2⟩ := compare_both hrr.1 hrr.2 hx0 hx1
      by_cases hn : c < 0
      · refine ⟨([], (0, 0), 210), ?_, ?_, by show 0 ≤ _; omega⟩
        · exact Ev.step (fun k => by (rw [run_OfTimes.l0, if_pos (by omega), if_pos (by omega), if_pos (by omega), hrd]; try rfl)) (Ev.bind p (Ev.congr (fun k => by rw [if_neg (show ¬ (!true) = true by decide)]) (Ev.bind e1 (Ev.congr (fun k => by rw [if_pos hn]) (Ev.now _)))))
        · exact Ev.step (fun k => by (rw [gnomonref20_OfTimes.l0, if_pos (by omega), if_pos (by omega), if_pos (by omega), hrd]; try rfl)) (Ev.bind q (Ev.congr (fun k => by rw [if_neg (show ¬ (!true) = true by decide), if_pos (by omega), if_pos (by omega)]) (Ev.bind e2 (Ev.congr (fun k => by rw [if_pos hn]) (Ev.now _)))))
      · obtain ⟨u, f1, f2, f3⟩ := ot0 hw ht ha t (i + 1) r.1 r.2 ht' (fun z hz => hr z (List.mem_cons_of_mem _ hz)) hrr.1 hrr.2
        refine ⟨u, ?_, ?_, f3⟩
        · exact Ev.step (fun k => by (rw [run_OfTimes.l0, if_pos (by omega), if_pos (by omega), if_pos (by omega), hrd]; try rfl)) (Ev.bind p (Ev.congr (fun k => by rw [if_neg (show ¬ (!true) = true by decide)]) (Ev.bind e1 (Ev.congr (fun k => by rw [if_neg hn, w1 (by omega)]) f1))))
        · exact Ev.step (fun k => by (rw [gnomonref20_OfTimes.l0, if_pos (by omega), if_pos (by omega), if_pos (by omega), hrd]; try rfl)) (Ev.bind q (Ev.congr (fun k => by rw [if_neg (show ¬ (!true) = true by decide), if_pos (by omega), if_pos (by omega)]) (Ev.bind e2 (Ev.congr (fun k => by rw [if_neg hn, if_pos (by omega), if_pos (by omega), w1 (by omega)]) f2))))
end
theorem ot_both {way : List S192} {times : List S103} (hw : way.length ≤ 1048576) (ht : times.length ≤ 1048576) (ha : ∀ r ∈ times, Rr r) :
    ∃ v, Ev (fun k => run_OfTimes.f k way times) v ∧ Ev (fun k => gnomonref20_OfTimes.f k way times) v ∧ v.1.length ≤ 1048576 := by
  have hc := cap_is
  by_cases h : (times.length : Int) = w64 ((way.length : Int) + 1)
  · obtain ⟨v, f1, f2, f3⟩ := ot0 (z0 := []) (g1 := 0) (g2 := 0) hw ht ha times 0 0 1 rfl ha (by unfold R64; omega) (by unfold R64; omega)
    exact ⟨v, Ev.congr (fun k => by rw [run_OfTimes.f, if_pos h, rat_Of.f, Option.bind_some]; rfl) f1, Ev.congr (fun k => by rw [gnomonref20_OfTimes.f, if_pos h]; rfl) f2, f3⟩
  · refine ⟨([], (0, 0), 6), ?_, ?_, by show 0 ≤ _; omega⟩
    · exact Ev.congr (fun k => by rw [run_OfTimes.f, if_neg h]) (Ev.now _)
    · exact Ev.congr (fun k => by rw [gnomonref20_OfTimes.f, if_neg h]) (Ev.now _)
theorem live_ev : Ev (fun k => gnomonlaw20_live.f k) true := ⟨400, fun k hk => by
  obtain ⟨j, rfl⟩ := Nat.exists_eq_add_of_le hk
  exact mo_all gnomonlaw20_live.mo live_is j⟩
theorem RunOfTimes_pure : ∀ (X0 : List S192) (X1 : List S103), okT (.list T192) X0 → okT (.list T103) X1 → bk (.list T192) X0 + bk (.list T103) X1 ≤ 1048576 → ∃ k, (gnomonlaw20_RunOfTimes.ce k).fn (X0, X1) = some true := fun way times h0 h1 hb => by
  have l0 := bk_len (t := T192) rfl way
  have l1 := bk_len (t := T103) rfl times
  have i64 : ∀ {n : Int}, okT (.int .i64) n → R64 n := fun {n} h => by
    have h : (Lit.int .i64 n).wf = true := h
    simp [Lit.wf, IntKind.min, IntKind.max, IntKind.signed, IntKind.bits] at h
    exact h
  have ha : ∀ r ∈ times, Rr r := fun r hr => ⟨i64 (h1.1 r hr).1, i64 (h1.1 r hr).2⟩
  obtain ⟨v, f1, f2, f3⟩ := ot_both (way := way) (times := times) (by omega) (by omega) ha
  have hc := cap_is
  have e : Ev (fun k => gnomonlaw20_RunOfTimes.f k way times) true := by
    unfold gnomonlaw20_RunOfTimes.f
    refine Ev.bind (a := hM way) (hand_ev handMoves (by decide) (by omega)) (Ev.bind (a := hR times) (hand_ev handRats (by decide) (by omega)) (Ev.bind f1 (Ev.bind f2 (Ev.bind live_ev ?_))))
    refine Ev.congr (fun k => by rw [if_pos rfl]) (Ev.bind (a := true) ?_ ?_)
    · unfold gnomonmem_SameRun.f
      refine Ev.bind (a := true) (Ev.congr (fun k => by rw [gnomonmem_SameSteps.f, if_pos rfl]; rfl) (ssteps_ev (l := v.1) (by omega) v.1 0 rfl)) (Ev.congr (fun k => by rw [if_pos rfl, decide_eq_true rfl]) (Ev.now _))
    · refine Ev.congr (fun k => by rw [if_pos rfl, if_pos rfl]) (Ev.bind (km_ev (by omega)) (Ev.congr (fun k => by rw [if_pos rfl]) (Ev.bind (kr_ev (by omega)) (Ev.now _))))
  obtain ⟨K, hK⟩ := e
  exact ⟨K, hK K (Nat.le_refl _)⟩
end
end Go.Proofs.YtbjkfkifkglplaaGreatDoor.Q
