/-
  NetWholes.
-/
import Derived.Test.YtbjkfkifkglplaaGreatDoorPW2
import Derived.Test.YtbjkfkifkglplaaGreatDoorD5b
set_option linter.unusedSectionVars false
set_option linter.unusedVariables false
set_option linter.unusedSimpArgs false
set_option maxRecDepth 100000
namespace Go.Proofs.YtbjkfkifkglplaaGreatDoor.Q
open Go Go.Den Go.RowKit Go.Proofs
noncomputable section
/-! That it stays. -/
theorem kt_ev {l : List ByteArray} (h : l.length + 9 ≤ 8796093022208) : Ev (fun k => gm_KeptTexts.f k (hT l) l) true := by
  have hc := cap_is
  have e : w64 ((l.length : Int) + 9) = ((l.length + 9 : Nat) : Int) := by rw [ws0 (by omega) (by omega)]; rfl
  have hl : (List.append (hT l).1 (hT l).2).length = l.length + 9 := by show (l ++ roomOf mkT l.length).length = _; rw [List.length_append, room_len]
  refine Ev.bind (Ev.of_le (gm_SameTexts.le _ _) (rstrs_is (by show l.length ≤ cap; omega))) ?_
  refine Ev.congr (fun k => by rw [if_neg (by simp [hT]), e, if_pos (by omega), if_pos (by rw [hl]; omega), Int.toNat_natCast, List.take_of_length_le (by rw [hl]; omega)]) ?_
  exact kept_ev keptTexts (by omega) 9 0 rfl
theorem kg_ev {l : List S43} (h : l.length + 9 ≤ 4398046511104) : Ev (fun k => gm_KeptGuards.f k (hG l) l) true := by
  have hc := cap_is
  have e : w64 ((l.length : Int) + 9) = ((l.length + 9 : Nat) : Int) := by rw [ws0 (by omega) (by omega)]; rfl
  have hl : (List.append (hG l).1 (hG l).2).length = l.length + 9 := by show (l ++ roomOf mkG l.length).length = _; rw [List.length_append, room_len]
  refine Ev.bind (Ev.of_le (gm_SameGuards.le _ _) (rguards_is (by show l.length ≤ cap; omega))) ?_
  refine Ev.congr (fun k => by rw [if_neg (by simp [hG]), e, if_pos (by omega), if_pos (by rw [hl]; omega), Int.toNat_natCast, List.take_of_length_le (by rw [hl]; omega)]) ?_
  exact kept_ev keptGuards (by omega) 9 0 rfl
theorem kn_ev {l : List S151} (h : l.length + 9 ≤ 8796093022208) : Ev (fun k => gm_KeptNodes.f k (hN l) l) true := by
  have hc := cap_is
  have e : w64 ((l.length : Int) + 9) = ((l.length + 9 : Nat) : Int) := by rw [ws0 (by omega) (by omega)]; rfl
  have hl : (List.append (hN l).1 (hN l).2).length = l.length + 9 := by show (l ++ roomOf mkN l.length).length = _; rw [List.length_append, room_len]
  refine Ev.bind (Ev.of_le (gm_SameNodes.le _ _) (rnodes_is (by show l.length ≤ cap; omega))) ?_
  refine Ev.congr (fun k => by rw [if_neg (by simp [hN]), e, if_pos (by omega), if_pos (by rw [hl]; omega), Int.toNat_natCast, List.take_of_length_le (by rw [hl]; omega)]) ?_
  exact kept_ev keptNodes (by omega) 9 0 rfl
theorem drop_map {α β : Type} {f : α → β} {l t : List α} {i : Nat} {y : α} (h : l.drop i = y :: t) : (l.map f).drop i = f y :: t.map f := by rw [← List.map_drop, h]; rfl
section
variable {i : Nat} {a0 : List ByteArray × List ByteArray} {a1 : List S86} {a2 : List ByteArray × List ByteArray} {b0 : List ByteArray} {b1 : List S86} {b2 : List ByteArray} {D : List S76} {v : Bool}
theorem ksets_ev {j : Nat} {e0 e1 : Int} {e2 : List S43 × List S43} {e3 : List S151 × List S151} {e4 : Int} {e5 : Bool} {f0 f1 : Int} {f2 : List S43} {f3 : List S151} {f4 : Int} {f5 : Bool} {s : List S81} (hj : j ≤ cap) (hl : s.length ≤ cap) : ∀ (t : List S81) (q : Nat), s.drop q = t → (∀ s ∈ t, rS s) →
    Ev (fun k => gm_KeptNet.l3 k (i : Int) ((j + 1 : Nat) : Int) a0 a1 a2 (D.map hAu) b0 b1 b2 D) v →
    Ev (fun k => gm_KeptNet.l5 k (i : Int) (j : Int) (q : Int) a0 a1 a2 (D.map hAu) b0 b1 b2 D e0 e1 e2 e3 e4 e5 (s.map hS) f0 f1 f2 f3 f4 f5 s) v
  | [], q, hd, _, h => by
    have hn := drop_nil hd
    exact Ev.step (fun k => by rw [gm_KeptNet.l5, if_neg (by omega), w1 hj]) h
  | x :: t, q, hd, hs, h => by
    obtain ⟨h1, _, ht⟩ := drop_cons hd
    have hc := cap_is
    have hm : (s.map hS).length = s.length := List.length_map ..
    have r1 : rd_T81 s (q : Int) = x := rdT_head (t := T81) hd
    have r2 : rd_T10081 (s.map hS) (q : Int) = hS x := rdT_head (t := T10081) (drop_map hd)
    refine Ev.step (fun k => by (rw [gm_KeptNet.l5, if_pos (by omega), if_pos (by omega), if_pos (by omega), if_pos (by omega), if_pos (by omega), r1, r2]; try rfl)) (Ev.bind (show Ev (fun k => gm_KeptNodes.f k (hS x).f3 x.f3) true from kn_ev (hs x List.mem_cons_self)) ?_)
    exact Ev.congr (fun k => by rw [if_neg (by decide), w1 (by omega)]) (ksets_ev hj hl t (q + 1) ht (fun z hz => hs z (List.mem_cons_of_mem _ hz)) h)
theorem kedges_ev {A : S76} (hA : D.drop i = A :: D.drop (i + 1)) (hlD : D.length ≤ cap) (hl : A.f2.length ≤ cap) : ∀ (t : List S79) (j : Nat), A.f2.drop j = t → (∀ e ∈ t, rE e) →
    Ev (fun k => gm_KeptNet.l1 k ((i + 1 : Nat) : Int) a0 a1 a2 (D.map hAu) b0 b1 b2 D) v →
    Ev (fun k => gm_KeptNet.l3 k (i : Int) (j : Int) a0 a1 a2 (D.map hAu) b0 b1 b2 D) v
  | [], j, hd, _, h => by
    have hn := drop_nil hd
    have hi := (drop_cons hA).1
    have ha : rd_T76 D (i : Int) = A := rdT_head (t := T76) hA
    exact Ev.step (fun k => by rw [gm_KeptNet.l3, if_pos (by omega), if_pos (by omega), ha, if_neg (by omega), w1 (by omega)]) h
  | e :: t, j, hd, hs, h => by
    obtain ⟨h1, _, ht⟩ := drop_cons hd
    have hc := cap_is
    have hi := (drop_cons hA).1
    have ha : rd_T76 D (i : Int) = A := rdT_head (t := T76) hA
    have hm : (D.map hAu).length = D.length := List.length_map ..
    have hb : rd_T10076 (D.map hAu) (i : Int) = hAu A := rdT_head (t := T10076) (drop_map hA)
    have hm2 : ((hAu A).f2).length = A.f2.length := List.length_map ..
    have r1 : rd_T79 A.f2 (j : Int) = e := rdT_head (t := T79) hd
    have r2 : rd_T10079 (hAu A).f2 (j : Int) = hE e := rdT_head (t := T10079) (drop_map (f := hE) hd)
    obtain ⟨g1, g2, g3, g4⟩ := hs e List.mem_cons_self
    refine Ev.step (fun k => by (rw [gm_KeptNet.l3, if_pos (by omega), if_pos (by omega), ha, hb, if_pos (by omega), if_pos (by omega), if_pos (by omega), if_pos (by omega), if_pos (by omega), if_pos (by omega), if_pos (by omega), if_pos (by omega), if_pos (by omega), r1, r2]; try rfl)) (Ev.bind (show Ev (fun k => gm_KeptGuards.f k (hE e).f2 e.f2) true from kg_ev g1) ?_)
    refine Ev.congr (fun k => by rw [if_neg (by decide)]) (Ev.bind (show Ev (fun k => gm_KeptNodes.f k (hE e).f3 e.f3) true from kn_ev g2) ?_)
    refine Ev.congr (fun k => by rw [if_neg (by decide)]) (Ev.step (fun k => by rw [gm_KeptNet.j4]) ?_)
    exact ksets_ev (by omega) (by omega) e.f6 0 rfl g4 (kedges_ev hA hlD hl t (j + 1) ht (fun z hz => hs z (List.mem_cons_of_mem _ hz)) h)
theorem klocs_ev {A : S76} (hA : D.drop i = A :: D.drop (i + 1)) (hlD : D.length ≤ cap) (hl : A.f1.length ≤ cap) : ∀ (t : List S84) (j : Nat), A.f1.drop j = t → (∀ e ∈ t, rL e) →
    Ev (fun k => gm_KeptNet.l3 k (i : Int) 0 a0 a1 a2 (D.map hAu) b0 b1 b2 D) v →
    Ev (fun k => gm_KeptNet.l2 k (i : Int) (j : Int) a0 a1 a2 (D.map hAu) b0 b1 b2 D) v
  | [], j, hd, _, h => by
    have hn := drop_nil hd
    have hi := (drop_cons hA).1
    have ha : rd_T76 D (i : Int) = A := rdT_head (t := T76) hA
    exact Ev.step (fun k => by rw [gm_KeptNet.l2, if_pos (by omega), if_pos (by omega), ha, if_neg (by omega)]) h
  | e :: t, j, hd, hs, h => by
    obtain ⟨h1, _, ht⟩ := drop_cons hd
    have hc := cap_is
    have hi := (drop_cons hA).1
    have ha : rd_T76 D (i : Int) = A := rdT_head (t := T76) hA
    have hm : (D.map hAu).length = D.length := List.length_map ..
    have hb : rd_T10076 (D.map hAu) (i : Int) = hAu A := rdT_head (t := T10076) (drop_map hA)
    have hm2 : ((hAu A).f1).length = A.f1.length := List.length_map ..
    have r1 : rd_T84 A.f1 (j : Int) = e := rdT_head (t := T84) hd
    have r2 : rd_T10084 (hAu A).f1 (j : Int) = hL e := rdT_head (t := T10084) (drop_map (f := hL) hd)
    refine Ev.step (fun k => by (rw [gm_KeptNet.l2, if_pos (by omega), if_pos (by omega), ha, hb, if_pos (by omega), if_pos (by omega), if_pos (by omega), if_pos (by omega), if_pos (by omega), if_pos (by omega), if_pos (by omega), if_pos (by omega), if_pos (by omega), r1, r2]; try rfl)) (Ev.bind (show Ev (fun k => gm_KeptGuards.f k (hL e).f2 e.f2) true from kg_ev (hs e List.mem_cons_self)) ?_)
    exact Ev.congr (fun k => by rw [if_neg (by decide), w1 (by omega)]) (klocs_ev hA hlD hl t (j + 1) ht (fun z hz => hs z (List.mem_cons_of_mem _ hz)) h)
theorem kautos_ev (hlD : D.length < 2199023255552) : ∀ (t : List S76) (i : Nat), D.drop i = t → (∀ a ∈ t, rA a) → Ev (fun k => gm_KeptNet.l1 k (i : Int) a0 a1 a2 (D.map hAu) b0 b1 b2 D) true
  | [], i, hd, _ => by
    have hn := drop_nil hd
    exact Ev.step (g := fun _ => some true) (fun k => by rw [gm_KeptNet.l1, if_neg (by omega)]) (Ev.now _)
  | a :: t, i, hd, hs => by
    obtain ⟨h1, _, ht⟩ := drop_cons hd
    have hc := cap_is
    obtain ⟨g1, g2, g3, g4⟩ := hs a List.mem_cons_self
    have hA : D.drop i = a :: D.drop (i + 1) := by rw [hd, ht]
    refine Ev.step (fun k => by rw [gm_KeptNet.l1, if_pos (by omega)]) ?_
    exact klocs_ev hA (by omega) (by omega) a.f1 0 rfl g2 (kedges_ev hA (by omega) (by omega) a.f2 0 rfl g4 (kautos_ev hlD t (i + 1) ht (fun z hz => hs z (List.mem_cons_of_mem _ hz))))
end
theorem knet_ev {a : List ByteArray} {b : List S86} {c : List ByteArray} {d : List S76} (h : RN a b c d) (hN : OkN a b c d) : Ev (fun k => gm_KeptNet.f k (hT a) b (hT c) (d.map hAu) a b c d) true := by
  unfold gm_KeptNet.f
  simp only [wk_autos]
  refine Ev.bind (Ev.of_le (gm_SameNet.le _ _ _ _ _ _ _ _) (rnet_is (x := (a, b, c, d)) (y := (a, b, c, d)) hN)) ?_
  refine Ev.congr (fun k => by rw [if_neg (by simp)]) (Ev.bind (kt_ev h.a) (Ev.congr (fun k => by rw [if_neg (by decide)]) (Ev.bind (kt_ev h.c) (Ev.congr (fun k => by rw [if_neg (by decide)]) (Ev.step (fun k => by rw [gm_KeptNet.j0]) ?_)))))
  exact kautos_ev h.dl d 0 rfl h.d
end
end Go.Proofs.YtbjkfkifkglplaaGreatDoor.Q
