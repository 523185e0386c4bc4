/-
  Goals that are handed in with room behind their lists: what is handed in, and that it stays.
-/
import Derived.Test.YtbjkfkifkglplaaGreatDoorPW3
set_option linter.unusedSectionVars false
set_option linter.unusedVariables false
set_option linter.unusedSimpArgs false
set_option maxRecDepth 100000
namespace Go.Proofs.YtbjkfkifkglplaaGreatDoor.Q
open Go Go.Den Go.RowKit Go.Proofs
noncomputable section
def mkA (n j : Nat) : S133 := (w64 (w64 ((-700) - (j : Int)) + (n : Int)), 0)
theorem handAts : HandEq 8796093022208 ((⟨0, 0⟩ : S133)) (fun xs i => rd_T133 xs i) mkA gm_HandAts.l0 gm_HandAts.l1 gm_HandAts.f where
  rd := fun xs i y h => rd_at (t := T133) xs i y h
  e1 := fun k l x i q hi hx hq1 hq => by
    have := cap_is
    rw [gm_HandAts.l1, if_pos (by omega)]
    rw [if_pos (by omega), if_pos (by omega), w1 (by omega), Int.toNat_natCast]
    try rfl
  n1 := fun k l x h => by rw [gm_HandAts.l1, if_neg (by omega), if_pos (by omega), if_pos (by omega), Int.toNat_natCast]
  e0 := fun k l x i hi hl hx => by
    have := cap_is
    rw [gm_HandAts.l0, if_pos (by omega), if_pos (by omega), if_pos (by omega), if_pos (by omega), if_pos (by omega), w1 (by omega), Int.toNat_natCast]
  n0 := fun k l x => by rw [gm_HandAts.l0, if_neg (by omega)]
  st := fun k l h => by
    have e : w64 ((l.length : Int) + 9) = ((l.length + 9 : Nat) : Int) := by rw [ws0 (by omega) (by omega)]; rfl
    rw [gm_HandAts.f, e, if_pos (by omega), if_pos (by omega), Int.toNat_natCast]
theorem keptAts : KeptEq (fun xs i => rd_T133 xs i) mkA gm_KeptAts.l0 where
  rd := fun xs i y h => rd_at (t := T133) xs i y h
  e := fun k l x i q hi hx hq1 hq hr => by
    have := cap_is
    have hr : rd_T133 x (i : Int) = mkA l.length i := hr
    rw [gm_KeptAts.l0, if_pos (by omega), if_pos (by omega), if_pos (by omega)]
    rw [hr, if_pos (show mkA l.length i = ((w64 (w64 ((-700) - (i : Int)) + (l.length : Int)), 0) : S133) from rfl), w1 (by omega)]
  n := fun k l x => by rw [gm_KeptAts.l0, if_neg (by omega)]
def hA (l : List S133) : List S133 × List S133 := (l, roomOf mkA l.length)
theorem ha_ev {l : List S133} (h : l.length + 9 ≤ 8796093022208) : Ev (fun k => gm_HandAts.f k l) (hA l) := hand_ev handAts (by decide) h
theorem ka_ev {l : List S133} (h : l.length + 9 ≤ 8796093022208) : Ev (fun k => gm_KeptAts.f k (hA l) l) true := by
  have hc := cap_is
  have e : w64 ((l.length : Int) + 9) = ((l.length + 9 : Nat) : Int) := by rw [ws0 (by omega) (by omega)]; rfl
  have hl : (List.append (hA l).1 (hA l).2).length = l.length + 9 := by show (l ++ roomOf mkA l.length).length = _; rw [List.length_append, room_len]
  refine Ev.bind (Ev.of_le (gm_SameAts.le _ _) (rats_is (by show l.length ≤ cap; omega))) ?_
  refine Ev.congr (fun k => by rw [if_neg (by simp [hA]), e, if_pos (by omega), if_pos (by rw [hl]; omega), Int.toNat_natCast, List.take_of_length_le (by rw [hl]; omega)]) ?_
  exact kept_ev keptAts (by omega) 9 0 rfl
def hP (p : S72) : S10072 := (hA p.f0, hG p.f1, hN p.f2)
def rP (p : S72) : Prop := p.f0.length + 9 ≤ 8796093022208 ∧ p.f1.length + 9 ≤ 4398046511104 ∧ p.f2.length + 9 ≤ 8796093022208
structure RG (g : List S72) : Prop where
  l : g.length < 1954687338268
  p : ∀ p ∈ g, rP p
theorem rg_of {g : List S72} (h : okT (.list T72) g) : RG g := by
  have n16 : ∀ {n : Nat}, n * 16 ≤ 140737488351232 → n + 9 ≤ 8796093022208 := fun h => by omega
  have n32 : ∀ {n : Nat}, n * 32 ≤ 140737488351232 → n + 9 ≤ 4398046511104 := fun h => by omega
  have n72 : ∀ {n : Nat}, n * 72 ≤ 140737488351232 → n < 1954687338268 := fun h => by omega
  exact ⟨n72 h.2.2, fun p hp => by
    obtain ⟨g0, g1, g2⟩ := h.1 p hp
    exact ⟨n16 g0.2.2, n32 g1.2.2, n16 g2.2.2⟩⟩
theorem hgoal_ev {g : List S72} (hl : g.length < 1954687338268) : ∀ (t : List S72) (i : Nat) (acc : List S10072), g.drop i = t → (∀ p ∈ t, rP p) → acc.length + t.length ≤ g.length →
    Ev (fun k => gm_HandGoal.l0 k g acc (i : Int)) (acc ++ t.map hP)
  | [], i, acc, hd, _, _ => by
    have hn := drop_nil hd
    rw [List.map_nil, List.append_nil]
    exact Ev.step (g := fun _ => some acc) (fun k => by rw [gm_HandGoal.l0, if_neg (by omega)]) (Ev.now _)
  | p :: t, i, acc, hd, hs, hb => by
    obtain ⟨h1, _, ht⟩ := drop_cons hd
    have hc := cap_is
    have hr : rd_T72 g (i : Int) = p := rdT_head (t := T72) hd
    obtain ⟨g1, g2, g3⟩ := hs p List.mem_cons_self
    rw [List.length_cons] at hb
    refine Ev.step (fun k => by (rw [gm_HandGoal.l0, if_pos (by omega), if_pos (by omega), if_pos (by omega), hr]; try rfl)) (Ev.bind (ha_ev g1) ?_)
    refine Ev.congr (fun k => by (rw [if_pos (by omega), if_pos (by omega)]; try rfl)) (Ev.bind (hg_ev g2) ?_)
    refine Ev.congr (fun k => by (rw [if_pos (by omega), if_pos (by omega)]; try rfl)) (Ev.bind (hn_ev g3) ?_)
    refine Ev.congr (fun k => by rw [if_pos (by omega), w1 (by omega)]; rfl) (?_ : Ev (fun k => gm_HandGoal.l0 k g (acc ++ [hP p]) ((i + 1 : Nat) : Int)) _)
    have ih := hgoal_ev hl t (i + 1) (acc ++ [hP p]) ht (fun z hz => hs z (List.mem_cons_of_mem _ hz)) (by rw [List.length_append, List.length_singleton]; omega)
    rw [List.map_cons]
    simpa using ih
theorem hgoal {g : List S72} (h : RG g) : Ev (fun k => gm_HandGoal.f k g) (g.map hP) := hgoal_ev h.l g 0 [] rfl h.p (by simp)
theorem wk_goal (g : List S72) : List.map wk10072 (g.map hP) = g := by
  rw [List.map_map]; exact (List.map_congr_left (g := id) (fun x _ => rfl)).trans (List.map_id _)
theorem kgoal_ev {g : List S72} (hl : g.length < 1954687338268) : ∀ (t : List S72) (i : Nat), g.drop i = t → (∀ p ∈ t, rP p) →
    Ev (fun k => gm_KeptGoal.l0 k (g.map hP) g (i : Int)) true
  | [], i, hd, _ => by
    have hn := drop_nil hd
    exact Ev.step (g := fun _ => some true) (fun k => by rw [gm_KeptGoal.l0, if_neg (by omega)]) (Ev.now _)
  | p :: t, i, hd, hs => by
    obtain ⟨h1, _, ht⟩ := drop_cons hd
    have hc := cap_is
    have hm : (g.map hP).length = g.length := List.length_map ..
    have r1 : rd_T72 g (i : Int) = p := rdT_head (t := T72) hd
    have r2 : rd_T10072 (g.map hP) (i : Int) = hP p := rdT_head (t := T10072) (drop_map hd)
    obtain ⟨g1, g2, g3⟩ := hs p List.mem_cons_self
    refine Ev.step (fun k => by (rw [gm_KeptGoal.l0, if_pos (by omega), if_pos (by omega), if_pos (by omega), if_pos (by omega), if_pos (by omega), r1, r2]; try rfl)) (Ev.bind (show Ev (fun k => gm_KeptAts.f k (hP p).f0 p.f0) true from ka_ev g1) ?_)
    refine Ev.congr (fun k => by (rw [if_neg (by decide), if_pos (by omega), if_pos (by omega), if_pos (by omega), if_pos (by omega)]; try rfl)) (Ev.bind (show Ev (fun k => gm_KeptGuards.f k (hP p).f1 p.f1) true from kg_ev g2) ?_)
    refine Ev.congr (fun k => by (rw [if_neg (by decide), if_pos (by omega), if_pos (by omega), if_pos (by omega), if_pos (by omega)]; try rfl)) (Ev.bind (show Ev (fun k => gm_KeptNodes.f k (hP p).f2 p.f2) true from kn_ev g3) ?_)
    exact Ev.congr (fun k => by rw [if_neg (by decide), w1 (by omega)]) (kgoal_ev hl t (i + 1) ht (fun z hz => hs z (List.mem_cons_of_mem _ hz)))
theorem kgoal {g : List S72} (h : RG g) : Ev (fun k => gm_KeptGoal.f k (g.map hP) g) true :=
  Ev.congr (fun k => by rw [gm_KeptGoal.f, if_pos (by rw [List.length_map])]; rfl) (kgoal_ev h.l g 0 rfl h.p)
end
end Go.Proofs.YtbjkfkifkglplaaGreatDoor.Q
