/-
  Networks that are handed in with room behind their lists: what is handed in, and that it stays.
-/
import Derived.Test.YtbjkfkifkglplaaGreatDoorPQ1
set_option linter.unusedSectionVars false
set_option linter.unusedVariables false
set_option linter.unusedSimpArgs false
set_option maxRecDepth 100000
namespace Go.Proofs.YtbjkfkifkglplaaGreatDoor.Q
open Go Go.Den Go.RowKit Go.Proofs
noncomputable section
/-! A list, and marks behind it. -/
def roomOf {α : Type} (mk : Nat → Nat → α) (n : Nat) : List α := (List.range 9).map fun j => mk n (n + j)
theorem room_len {α : Type} {mk : Nat → Nat → α} {n : Nat} : (roomOf mk n).length = 9 := by simp [roomOf]
theorem room_get {α : Type} {mk : Nat → Nat → α} {n j : Nat} (h : j < 9) : (roomOf mk n)[j]? = some (mk n (n + j)) := by
  simp [roomOf, List.getElem?_range h]
theorem set_at {α : Type} {a r : List α} {d y : α} {n : Nat} (hn : n = a.length) : (a ++ d :: r).set n y = a ++ y :: r := by
  subst hn
  induction a with
  | nil => rfl
  | cons x a ih => simp only [List.cons_append, List.length_cons, List.set_cons_succ, ih]
structure HandEq {α : Type} (B : Nat) (d : α) (rdf : List α → Int → α) (mk : Nat → Nat → α) (F0 F1 : Nat → List α → List α → Int → Option (List α × List α)) (f : Nat → List α → Option (List α × List α)) : Prop where
  rd : ∀ (xs : List α) (i : Nat) (y : α), xs[i]? = some y → rdf xs (i : Int) = y
  e1 : ∀ (k : Nat) (l x : List α) (i q : Nat), i < x.length → x.length ≤ cap → i = l.length + q → q < 9 → F1 (k + 1) l x (i : Int) = F1 k l (x.set i (mk l.length i)) ((i + 1 : Nat) : Int)
  n1 : ∀ (k : Nat) (l x : List α), l.length ≤ x.length → F1 (k + 1) l x (x.length : Int) = some (x.take l.length, x.drop l.length)
  e0 : ∀ (k : Nat) (l x : List α) (i : Nat), i < l.length → l.length ≤ x.length → x.length ≤ cap → F0 (k + 1) l x (i : Int) = F0 k l (x.set i (rdf l (i : Int))) ((i + 1 : Nat) : Int)
  n0 : ∀ (k : Nat) (l x : List α), F0 (k + 1) l x (l.length : Int) = F1 k l x (l.length : Int)
  st : ∀ (k : Nat) (l : List α), l.length + 9 ≤ B → f k l = F0 k l (List.replicate (l.length + 9) d) 0
section
variable {α : Type} {B : Nat} {d : α} {rdf : List α → Int → α} {mk : Nat → Nat → α} {F0 F1 : Nat → List α → List α → Int → Option (List α × List α)} {f : Nat → List α → Option (List α × List α)}
theorem hand1 (E : HandEq B d rdf mk F0 F1 f) {l : List α} (hc : l.length + 9 ≤ cap) : ∀ (m : Nat) (r : List α), r.length + m = 9 → r = (List.range r.length).map (fun j => mk l.length (l.length + j)) → Ev (fun k => F1 k l (l ++ (r ++ List.replicate m d)) ((l.length + r.length : Nat) : Int)) (l, roomOf mk l.length)
  | 0, r, h, hr => by
    have h9 : r.length = 9 := by omega
    refine Ev.step (g := fun _ => some (l, roomOf mk l.length)) (fun k => ?_) (Ev.now _)
    have e : l.length + r.length = (l ++ (r ++ List.replicate 0 d)).length := by simp
    rw [e, E.n1 k l _ (by simp)]
    rw [h9] at hr
    simp only [List.replicate_zero, List.append_nil, List.take_left, List.drop_left]
    rw [show r = roomOf mk l.length from hr]
  | m + 1, r, h, hr => by
    refine Ev.step (fun k => E.e1 k l _ (l.length + r.length) r.length (by simp) (by simp; omega) rfl (by omega)) ?_
    have e : (l ++ (r ++ List.replicate (m + 1) d)).set (l.length + r.length) (mk l.length (l.length + r.length)) = l ++ ((r ++ [mk l.length (l.length + r.length)]) ++ List.replicate m d) := by
      rw [List.replicate_succ, ← List.append_assoc, set_at (by simp)]; simp
    rw [e]
    have ih := hand1 E hc m (r ++ [mk l.length (l.length + r.length)]) (by simp; omega) (by
      rw [List.length_append, List.length_singleton, List.range_succ, List.map_append, ← hr]; rfl)
    rw [List.length_append, List.length_singleton, ← Nat.add_assoc] at ih
    exact ih
theorem hand0 (E : HandEq B d rdf mk F0 F1 f) {l : List α} (hc : l.length + 9 ≤ cap) : ∀ (t a : List α), l = a ++ t → Ev (fun k => F0 k l (a ++ List.replicate (t.length + 9) d) (a.length : Int)) (l, roomOf mk l.length)
  | [], a, h => by
    rw [List.append_nil] at h
    subst h
    exact Ev.step (fun k => E.n0 k _ _) (hand1 E hc 9 [] rfl rfl)
  | y :: t, a, h => by
    have hy : l[a.length]? = some y := by rw [h]; simp
    refine Ev.step (fun k => E.e0 k l _ a.length (by rw [h]; simp) (by rw [h]; simp) (by rw [h] at hc; simp at hc ⊢; omega)) ?_
    rw [E.rd l a.length y hy, List.length_cons, show t.length + 1 + 9 = (t.length + 9) + 1 by omega, List.replicate_succ, set_at rfl]
    have ih := hand0 E hc t (a ++ [y]) (by rw [h]; simp)
    rw [List.length_append, List.length_singleton, List.append_assoc] at ih
    exact ih
theorem hand_ev (E : HandEq B d rdf mk F0 F1 f) {l : List α} (hB : B ≤ cap) (h : l.length + 9 ≤ B) : Ev (fun k => f k l) (l, roomOf mk l.length) :=
  Ev.congr (fun k => E.st k l h) (hand0 E (Nat.le_trans h hB) l [] rfl)
structure KeptEq {α : Type} (rdf : List α → Int → α) (mk : Nat → Nat → α) (G : Nat → List α → List α → Int → Option Bool) : Prop where
  rd : ∀ (xs : List α) (i : Nat) (y : α), xs[i]? = some y → rdf xs (i : Int) = y
  e : ∀ (k : Nat) (l x : List α) (i q : Nat), i < x.length → x.length ≤ cap → i = l.length + q → q < 9 → rdf x (i : Int) = mk l.length i → G (k + 1) l x (i : Int) = G k l x ((i + 1 : Nat) : Int)
  n : ∀ (k : Nat) (l x : List α), G (k + 1) l x (x.length : Int) = some true
theorem kept_ev {G : Nat → List α → List α → Int → Option Bool} (E : KeptEq rdf mk G) {l : List α} (hc : l.length + 9 ≤ cap) : ∀ (m q : Nat), q + m = 9 → Ev (fun k => G k l (l ++ roomOf mk l.length) ((l.length + q : Nat) : Int)) true
  | 0, q, h => by
    refine Ev.step (g := fun _ => some true) (fun k => ?_) (Ev.now _)
    have e : l.length + q = (l ++ roomOf mk l.length).length := by rw [List.length_append, room_len]; omega
    rw [e, E.n]
  | m + 1, q, h => by
    refine Ev.step (fun k => E.e k l _ (l.length + q) q (by rw [List.length_append, room_len]; omega) (by rw [List.length_append, room_len]; omega) rfl (by omega) ?_) (kept_ev E hc m (q + 1) (by omega))
    exact E.rd _ _ _ (by rw [List.getElem?_append_right (by omega), Nat.add_sub_cancel_left]; exact room_get (by omega))
end
theorem rd_at {t : Ty} (xs : List t.den) (i : Nat) (y : t.den) (h : xs[i]? = some y) : rdT t xs (i : Int) = y := by
  unfold rdT
  rw [Int.toNat_natCast, List.getD_eq_getElem?_getD, h]; rfl
/-- The mark that a text is. -/
def tmk (q : Nat) : ByteArray := (gm_text.f ((700 + q : Nat) : Int)).getD ⟨#[]⟩
theorem tmk_is : ∀ q : Fin 9, gm_text.f ((700 + q.val : Nat) : Int) = some (tmk q.val) := by decide +kernel
def mkT (n j : Nat) : ByteArray := tmk (j - n)
def mkG (n j : Nat) : S43 := (0, 0, 0, w64 (w64 ((-700) - (j : Int)) + (n : Int)))
def mkN (n j : Nat) : S151 := (0, w64 (w64 ((-700) - (j : Int)) + (n : Int)))
theorem txt_is {n i q : Nat} (h : i = n + q) (hq : q < 9) (hc : i ≤ 140737488355337) : gm_text.f (w64 (w64 (700 + (i : Int)) - (n : Int))) = some (mkT n i) := by
  have e : w64 (w64 (700 + (i : Int)) - (n : Int)) = ((700 + q : Nat) : Int) := by
    subst h
    show RowKit.wrap64 (RowKit.wrap64 _ - _) = _
    unfold RowKit.wrap64
    omega
  rw [e, mkT, show i - n = q by omega]
  exact tmk_is ⟨q, hq⟩
theorem handTexts : HandEq 8796093022208 ((⟨#[]⟩ : ByteArray)) (fun xs i => rdT .str xs i) mkT gm_HandTexts.l0 gm_HandTexts.l1 gm_HandTexts.f where
  rd := fun xs i y h => rd_at (t := .str) xs i y h
  e1 := fun k l x i q hi hx hq1 hq => by
    have := cap_is
    rw [gm_HandTexts.l1, if_pos (by omega)]
    rw [txt_is hq1 hq (by omega), Option.bind_some, if_pos (by omega), if_pos (by omega), w1 (by omega), Int.toNat_natCast]
    try rfl
  n1 := fun k l x h => by rw [gm_HandTexts.l1, if_neg (by omega), if_pos (by omega), if_pos (by omega), Int.toNat_natCast]
  e0 := fun k l x i hi hl hx => by
    have := cap_is
    rw [gm_HandTexts.l0, if_pos (by omega), if_pos (by omega), if_pos (by omega), if_pos (by omega), if_pos (by omega), w1 (by omega), Int.toNat_natCast]
  n0 := fun k l x => by rw [gm_HandTexts.l0, if_neg (by omega)]
  st := fun k l h => by
    have e : w64 ((l.length : Int) + 9) = ((l.length + 9 : Nat) : Int) := by rw [ws0 (by omega) (by omega)]; rfl
    rw [gm_HandTexts.f, e, if_pos (by omega), if_pos (by omega), Int.toNat_natCast]
theorem keptTexts : KeptEq (fun xs i => rdT .str xs i) mkT gm_KeptTexts.l0 where
  rd := fun xs i y h => rd_at (t := .str) xs i y h
  e := fun k l x i q hi hx hq1 hq hr => by
    have := cap_is
    have hr : rdT .str x (i : Int) = mkT l.length i := hr
    rw [gm_KeptTexts.l0, if_pos (by omega), if_pos (by omega), if_pos (by omega)]
    rw [txt_is hq1 hq (by omega), Option.bind_some, hr, if_pos rfl, w1 (by omega)]
  n := fun k l x => by rw [gm_KeptTexts.l0, if_neg (by omega)]
theorem handGuards : HandEq 4398046511104 ((⟨0, 0, 0, 0⟩ : S43)) (fun xs i => rd_T43 xs i) mkG gm_HandGuards.l0 gm_HandGuards.l1 gm_HandGuards.f where
  rd := fun xs i y h => rd_at (t := T43) xs i y h
  e1 := fun k l x i q hi hx hq1 hq => by
    have := cap_is
    rw [gm_HandGuards.l1, if_pos (by omega)]
    rw [if_pos (by omega), if_pos (by omega), w1 (by omega), Int.toNat_natCast]
    try rfl
  n1 := fun k l x h => by rw [gm_HandGuards.l1, if_neg (by omega), if_pos (by omega), if_pos (by omega), Int.toNat_natCast]
  e0 := fun k l x i hi hl hx => by
    have := cap_is
    rw [gm_HandGuards.l0, if_pos (by omega), if_pos (by omega), if_pos (by omega), if_pos (by omega), if_pos (by omega), w1 (by omega), Int.toNat_natCast]
  n0 := fun k l x => by rw [gm_HandGuards.l0, if_neg (by omega)]
  st := fun k l h => by
    have e : w64 ((l.length : Int) + 9) = ((l.length + 9 : Nat) : Int) := by rw [ws0 (by omega) (by omega)]; rfl
    rw [gm_HandGuards.f, e, if_pos (by omega), if_pos (by omega), Int.toNat_natCast]
theorem keptGuards : KeptEq (fun xs i => rd_T43 xs i) mkG gm_KeptGuards.l0 where
  rd := fun xs i y h => rd_at (t := T43) xs i y h
  e := fun k l x i q hi hx hq1 hq hr => by
    have := cap_is
    have hr : rd_T43 x (i : Int) = mkG l.length i := hr
    rw [gm_KeptGuards.l0, if_pos (by omega), if_pos (by omega), if_pos (by omega)]
    rw [hr, if_pos (show mkG l.length i = ((0, 0, 0, w64 (w64 ((-700) - (i : Int)) + (l.length : Int))) : S43) from rfl), w1 (by omega)]
  n := fun k l x => by rw [gm_KeptGuards.l0, if_neg (by omega)]
theorem handNodes : HandEq 8796093022208 ((⟨0, 0⟩ : S151)) (fun xs i => rd_T151 xs i) mkN gm_HandNodes.l0 gm_HandNodes.l1 gm_HandNodes.f where
  rd := fun xs i y h => rd_at (t := T151) xs i y h
  e1 := fun k l x i q hi hx hq1 hq => by
    have := cap_is
    rw [gm_HandNodes.l1, if_pos (by omega)]
    rw [if_pos (by omega), if_pos (by omega), w1 (by omega), Int.toNat_natCast]
    try rfl
  n1 := fun k l x h => by rw [gm_HandNodes.l1, if_neg (by omega), if_pos (by omega), if_pos (by omega), Int.toNat_natCast]
  e0 := fun k l x i hi hl hx => by
    have := cap_is
    rw [gm_HandNodes.l0, if_pos (by omega), if_pos (by omega), if_pos (by omega), if_pos (by omega), if_pos (by omega), w1 (by omega), Int.toNat_natCast]
  n0 := fun k l x => by rw [gm_HandNodes.l0, if_neg (by omega)]
  st := fun k l h => by
    have e : w64 ((l.length : Int) + 9) = ((l.length + 9 : Nat) : Int) := by rw [ws0 (by omega) (by omega)]; rfl
    rw [gm_HandNodes.f, e, if_pos (by omega), if_pos (by omega), Int.toNat_natCast]
theorem keptNodes : KeptEq (fun xs i => rd_T151 xs i) mkN gm_KeptNodes.l0 where
  rd := fun xs i y h => rd_at (t := T151) xs i y h
  e := fun k l x i q hi hx hq1 hq hr => by
    have := cap_is
    have hr : rd_T151 x (i : Int) = mkN l.length i := hr
    rw [gm_KeptNodes.l0, if_pos (by omega), if_pos (by omega), if_pos (by omega)]
    rw [hr, if_pos (show mkN l.length i = ((0, w64 (w64 ((-700) - (i : Int)) + (l.length : Int))) : S151) from rfl), w1 (by omega)]
  n := fun k l x => by rw [gm_KeptNodes.l0, if_neg (by omega)]
end
end Go.Proofs.YtbjkfkifkglplaaGreatDoor.Q
