/-
  The network that is handed in, and that it stays.
-/
import Derived.Test.YtbjkfkifkglplaaGreatDoorPW1
set_option linter.unusedSectionVars false
set_option linter.unusedVariables false
set_option linter.unusedSimpArgs false
set_option maxRecDepth 100000
namespace Go.Proofs.YtbjkfkifkglplaaGreatDoor.Q
open Go Go.Den Go.RowKit Go.Proofs
noncomputable section
def hT (l : List ByteArray) : List ByteArray × List ByteArray := (l, roomOf mkT l.length)
def hG (l : List S43) : List S43 × List S43 := (l, roomOf mkG l.length)
def hN (l : List S151) : List S151 × List S151 := (l, roomOf mkN l.length)
def hS (s : S81) : S10081 := (s.f0, s.f1, s.f2, hN s.f3)
def hL (l : S84) : S10084 := (l.f0, l.f1, hG l.f2)
def hE (e : S79) : S10079 := (e.f0, e.f1, hG e.f2, hN e.f3, e.f4, e.f5, e.f6.map hS)
def hAu (a : S76) : S10076 := (a.f0, a.f1.map hL, a.f2.map hE)
def rS (s : S81) : Prop := s.f3.length + 9 ≤ 8796093022208
def rE (e : S79) : Prop := e.f2.length + 9 ≤ 4398046511104 ∧ e.f3.length + 9 ≤ 8796093022208 ∧ e.f6.length < 2932031007402 ∧ ∀ s ∈ e.f6, rS s
def rL (l : S84) : Prop := l.f2.length + 9 ≤ 4398046511104
def rA (a : S76) : Prop := a.f1.length < 2932031007402 ∧ (∀ l ∈ a.f1, rL l) ∧ a.f2.length < 1353245080339 ∧ ∀ e ∈ a.f2, rE e
structure RN (a : List ByteArray) (b : List S86) (c : List ByteArray) (d : List S76) : Prop where
  a : a.length + 9 ≤ 8796093022208
  b : b.length ≤ 3518437208883
  c : c.length + 9 ≤ 8796093022208
  dl : d.length < 2199023255552
  d : ∀ x ∈ d, rA x
theorem rn_of {x : S26} (h : okT T26 x) : RN x.f0 x.f1 x.f2 x.f3 := by
  obtain ⟨h0, h1, h2, h3⟩ := h
  have n16 : ∀ {n : Nat}, n * 16 ≤ 140737488351232 → n + 9 ≤ 8796093022208 := fun h => by omega
  have n32 : ∀ {n : Nat}, n * 32 ≤ 140737488351232 → n + 9 ≤ 4398046511104 := fun h => by omega
  have n48 : ∀ {n : Nat}, n * 48 ≤ 140737488351232 → n < 2932031007402 := fun h => by omega
  have n104 : ∀ {n : Nat}, n * 104 ≤ 140737488351232 → n < 1353245080339 := fun h => by omega
  have n64 : ∀ {n : Nat}, n * 64 ≤ 140737488351232 → n < 2199023255552 := fun h => by omega
  have n40 : ∀ {n : Nat}, n * 40 ≤ 140737488351232 → n ≤ 3518437208883 := fun h => by omega
  have hs : ∀ s : S81, okT T81 s → rS s := fun s h => n16 h.2.2.2.2.2
  have he : ∀ e : S79, okT T79 e → rE e := fun e h => by
    obtain ⟨_, _, g2, g3, _, _, g6⟩ := h
    exact ⟨n32 g2.2.2, n16 g3.2.2, n48 g6.2.2, fun s h => hs s (g6.1 s h)⟩
  have hl : ∀ l : S84, okT T84 l → rL l := fun l h => n32 h.2.2.2.2
  have ha : ∀ a : S76, okT T76 a → rA a := fun a h => by
    obtain ⟨g0, g1, g2⟩ := h
    exact ⟨n48 g1.2.2, fun l hx => hl l (g1.1 l hx), n104 g2.2.2, fun e hx => he e (g2.1 e hx)⟩
  exact ⟨n16 h0.2.2, n40 h1.2.2, n16 h2.2.2, n64 h3.2.2, fun a hx => ha a (h3.1 a hx)⟩
theorem ht_ev {l : List ByteArray} (h : l.length + 9 ≤ 8796093022208) : Ev (fun k => gm_HandTexts.f k l) (hT l) := hand_ev handTexts (by decide) h
theorem hg_ev {l : List S43} (h : l.length + 9 ≤ 4398046511104) : Ev (fun k => gm_HandGuards.f k l) (hG l) := hand_ev handGuards (by decide) h
theorem hn_ev {l : List S151} (h : l.length + 9 ≤ 8796093022208) : Ev (fun k => gm_HandNodes.f k l) (hN l) := hand_ev handNodes (by decide) h
section
variable {i : Nat} {a0 : List ByteArray} {a1 : List S86} {a2 : List ByteArray} {a3 : List S76} {b0 : List ByteArray} {b1 : List S86} {b2 : List ByteArray} {b3 : List S10076} {c0 : List ByteArray × List ByteArray} {c1 : List S86} {c2 : List ByteArray × List ByteArray} {c3 : List S10076} {nm : ByteArray} {ls : List S10084} {v : (List ByteArray × List ByteArray) × (List S86) × (List ByteArray × List ByteArray) × (List S10076)}
theorem hsets_ev {j : Nat} {es : List S10079} {e0 e1 : Int} {e2 : List S43 × List S43} {e3 : List S151 × List S151} {e4 : Int} {e5 : Bool} {e6 : List S81} (hj : j ≤ cap) (hl : e6.length ≤ cap) (hes : es.length < 1353245080339) : ∀ (t : List S81) (q : Nat) (acc : List S10081), e6.drop q = t → (∀ s ∈ t, rS s) → acc.length + t.length < 2932031007402 →
    Ev (fun k => gm_HandNet.l2 k (i : Int) ((j + 1 : Nat) : Int) a0 a1 a2 a3 b0 b1 b2 b3 c0 c1 c2 c3 nm ls (es ++ [((e0, e1, e2, e3, e4, e5, acc ++ t.map hS) : S10079)])) v →
    Ev (fun k => gm_HandNet.l3 k (i : Int) (j : Int) acc (q : Int) a0 a1 a2 a3 b0 b1 b2 b3 c0 c1 c2 c3 nm ls es e0 e1 e2 e3 e4 e5 e6) v
  | [], q, acc, hd, _, _, h => by
    have hn := drop_nil hd
    have hc := cap_is
    rw [List.map_nil, List.append_nil] at h
    exact Ev.step (fun k => by rw [gm_HandNet.l3, if_neg (by omega), if_pos hes, w1 hj]) h
  | s :: t, q, acc, hd, hs, hb, h => by
    obtain ⟨h1, _, ht⟩ := drop_cons hd
    have hc := cap_is
    have hr : rd_T81 e6 (q : Int) = s := rdT_head (t := T81) hd
    refine Ev.step (fun k => by (rw [gm_HandNet.l3, if_pos (by omega), if_pos (by omega), if_pos (by omega), hr]; try rfl)) (Ev.bind (hn_ev (hs s List.mem_cons_self)) ?_)
    refine Ev.congr (fun k => by rw [if_pos (by rw [List.length_cons] at hb; omega), w1 (by omega)]; rfl) (hsets_ev (es := es) (e0 := e0) (e1 := e1) (e2 := e2) (e3 := e3) (e4 := e4) (e5 := e5) hj hl hes t (q + 1) (acc ++ [hS s]) ht (fun z hz => hs z (List.mem_cons_of_mem _ hz)) (by rw [List.length_append, List.length_singleton]; rw [List.length_cons] at hb; omega) ?_)
    rw [List.map_cons] at h
    simpa using h
theorem hedges_ev {A : S76} (ha : rd_T76 a3 (i : Int) = A) (hi : i < a3.length) (hl3 : a3.length ≤ cap) (hl : A.f2.length ≤ cap) (hc3 : c3.length < 2199023255552) : ∀ (t : List S79) (j : Nat) (acc : List S10079), A.f2.drop j = t → (∀ e ∈ t, rE e) → acc.length + t.length < 1353245080339 →
    Ev (fun k => gm_HandNet.l0 k ((i + 1 : Nat) : Int) a0 a1 a2 a3 b0 b1 b2 b3 c0 c1 c2 (c3 ++ [((nm, ls, acc ++ t.map hE) : S10076)])) v →
    Ev (fun k => gm_HandNet.l2 k (i : Int) (j : Int) a0 a1 a2 a3 b0 b1 b2 b3 c0 c1 c2 c3 nm ls acc) v
  | [], j, acc, hd, _, _, h => by
    have hn := drop_nil hd
    have hc := cap_is
    rw [List.map_nil, List.append_nil] at h
    exact Ev.step (fun k => by rw [gm_HandNet.l2, if_pos (by omega), if_pos (by omega), ha, if_neg (by omega), if_pos hc3, w1 (by omega)]) h
  | e :: t, j, acc, hd, hs, hb, h => by
    obtain ⟨h1, _, ht⟩ := drop_cons hd
    have hc := cap_is
    have hr : rd_T79 A.f2 (j : Int) = e := rdT_head (t := T79) hd
    obtain ⟨g1, g2, g3, g4⟩ := hs e List.mem_cons_self
    rw [List.length_cons] at hb
    refine Ev.step (fun k => by (rw [gm_HandNet.l2, if_pos (by omega), if_pos (by omega), ha, if_pos (by omega), if_pos (by omega), if_pos (by omega), if_pos (by omega), if_pos (by omega), hr]; try rfl)) (Ev.bind (hg_ev g1) (Ev.bind (hn_ev g2) ?_))
    refine hsets_ev (by omega) (by omega) (by omega) e.f6 0 [] rfl g4 (by simpa using g3) ?_
    have ih := hedges_ev ha hi hl3 hl hc3 t (j + 1) (acc ++ [hE e]) ht (fun z hz => hs z (List.mem_cons_of_mem _ hz)) (by rw [List.length_append, List.length_singleton]; omega) (by rw [List.map_cons] at h; simpa using h)
    exact ih
theorem hlocs_ev {A : S76} (ha : rd_T76 a3 (i : Int) = A) (hi : i < a3.length) (hl3 : a3.length ≤ cap) (hl : A.f1.length ≤ cap) : ∀ (t : List S84) (j : Nat) (acc : List S10084), A.f1.drop j = t → (∀ l ∈ t, rL l) → acc.length + t.length < 2932031007402 →
    Ev (fun k => gm_HandNet.l2 k (i : Int) 0 a0 a1 a2 a3 b0 b1 b2 b3 c0 c1 c2 c3 nm (acc ++ t.map hL) []) v →
    Ev (fun k => gm_HandNet.l1 k (i : Int) (j : Int) a0 a1 a2 a3 b0 b1 b2 b3 c0 c1 c2 c3 nm acc []) v
  | [], j, acc, hd, _, _, h => by
    have hn := drop_nil hd
    have hc := cap_is
    rw [List.map_nil, List.append_nil] at h
    exact Ev.step (fun k => by rw [gm_HandNet.l1, if_pos (by omega), if_pos (by omega), ha, if_neg (by omega)]) h
  | e :: t, j, acc, hd, hs, hb, h => by
    obtain ⟨h1, _, ht⟩ := drop_cons hd
    have hc := cap_is
    have hr : rd_T84 A.f1 (j : Int) = e := rdT_head (t := T84) hd
    rw [List.length_cons] at hb
    refine Ev.step (fun k => by (rw [gm_HandNet.l1, if_pos (by omega), if_pos (by omega), ha, if_pos (by omega), if_pos (by omega), if_pos (by omega), if_pos (by omega), if_pos (by omega), hr]; try rfl)) (Ev.bind (hg_ev (hs e List.mem_cons_self)) ?_)
    refine Ev.congr (fun k => by rw [if_pos (by omega), w1 (by omega)]; rfl) (hlocs_ev ha hi hl3 hl t (j + 1) (acc ++ [hL e]) ht (fun z hz => hs z (List.mem_cons_of_mem _ hz)) (by rw [List.length_append, List.length_singleton]; omega) ?_)
    rw [List.map_cons] at h
    simpa using h
theorem hautos_ev (hl3 : a3.length < 2199023255552) : ∀ (t : List S76) (i : Nat) (acc : List S10076), a3.drop i = t → (∀ a ∈ t, rA a) → acc.length + t.length ≤ a3.length →
    Ev (fun k => gm_HandNet.l0 k (i : Int) a0 a1 a2 a3 b0 b1 b2 b3 c0 c1 c2 acc) (c0, c1, c2, acc ++ t.map hAu)
  | [], i, acc, hd, _, _ => by
    have hn := drop_nil hd
    rw [List.map_nil, List.append_nil]
    exact Ev.step (g := fun _ => some (c0, c1, c2, acc)) (fun k => by rw [gm_HandNet.l0, if_neg (by omega)]) (Ev.now _)
  | a :: t, i, acc, hd, hs, hb => by
    obtain ⟨h1, _, ht⟩ := drop_cons hd
    have hc := cap_is
    have hr : rd_T76 a3 (i : Int) = a := rdT_head (t := T76) hd
    obtain ⟨g1, g2, g3, g4⟩ := hs a List.mem_cons_self
    rw [List.length_cons] at hb
    refine Ev.step (fun k => by (rw [gm_HandNet.l0, if_pos (by omega), if_pos (by omega), if_pos (by omega)]; try rfl)) ?_
    refine hlocs_ev hr h1 (by omega) (by omega) a.f1 0 [] rfl g2 (by simpa using g1) ?_
    refine hedges_ev hr h1 (by omega) (by omega) (by omega) a.f2 0 [] rfl g4 (by simpa using g3) ?_
    have ih := hautos_ev hl3 t (i + 1) (acc ++ [hAu a]) ht (fun z hz => hs z (List.mem_cons_of_mem _ hz)) (by rw [List.length_append, List.length_singleton]; omega)
    rw [hr, List.map_cons]
    simpa [hAu] using ih
end
theorem hnet_ev {a : List ByteArray} {b : List S86} {c : List ByteArray} {d : List S76} (h : RN a b c d) : Ev (fun k => gm_HandNet.f k a b c d) (hT a, b, hT c, d.map hAu) := by
  refine Ev.bind (ht_ev h.a) (Ev.bind (ht_ev h.c) ?_)
  refine Ev.congr (fun k => by rw [if_pos h.b]) ?_
  exact hautos_ev h.dl d 0 [] rfl h.d (by simp)
/-! What is dropped again. -/
theorem wk_sets (l : List S81) : List.map wk10081 (l.map hS) = l := by
  rw [List.map_map]; exact (List.map_congr_left (g := id) (fun x _ => rfl)).trans (List.map_id _)
theorem wk_edges (l : List S79) : List.map wk10079 (l.map hE) = l := by
  rw [List.map_map]; exact (List.map_congr_left (g := id) (fun x _ => by
    obtain ⟨a, b, c, d, e, f, g⟩ := x
    show (a, b, c, d, e, f, List.map wk10081 (g.map hS)) = _
    rw [wk_sets]; rfl)).trans (List.map_id _)
theorem wk_autos (l : List S76) : List.map wk10076 (l.map hAu) = l := by
  rw [List.map_map]; exact (List.map_congr_left (g := id) (fun x _ => by
    obtain ⟨a, b, c⟩ := x
    show (a, List.map wk10084 (b.map hL), List.map wk10079 (c.map hE)) = _
    rw [show List.map wk10084 (b.map hL) = b by rw [List.map_map]; exact (List.map_congr_left (g := id) (fun x _ => rfl)).trans (List.map_id _), wk_edges]; rfl)).trans (List.map_id _)
end
end Go.Proofs.YtbjkfkifkglplaaGreatDoor.Q
