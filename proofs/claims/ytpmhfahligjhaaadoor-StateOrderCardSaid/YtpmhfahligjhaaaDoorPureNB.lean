/-
  Networks (net.Whole), further: names, variables, locations, edges, guards, sets, tests; the whole.
-/
import Derived.Test.YtpmhfahligjhaaaDoorPureNA
namespace Go.Proofs.YtpmhfahligjhaaaDoor.POrd
set_option linter.unusedVariables false
set_option linter.unusedSimpArgs false
open Go Go.RowKit Go.Proofs.YtpmhfahligjhaaaDoorW.PrintWords Go.Proofs.YtpmhfahligjhaaaDoorW.PrintMore
/-! Names -/
theorem ite_some {α : Type} {p : Prop} [Decidable p] {a b : Option α} (ha : ∃ v, a = some v) (hb : ∃ v, b = some v) : ∃ v, (if p then a else b) = some v := by
  by_cases h : p
  · rw [if_pos h]; exact ha
  · rw [if_neg h]; exact hb
theorem lexOf_ex (c : Int) : ∃ v, Ev (fun k => lex_of.f k c) v := by
  have : ∃ v, lex_of.f (0 + 1 + 1 + 1) c = some v := by
    unfold lex_of.f
    simp only [lex_of.j0, lex_of.j1, lex_of.j2]
    repeat' first | exact ⟨_, rfl⟩ | refine ite_some ?_ ?_
  obtain ⟨v, h⟩ := this
  exact ⟨v, Ev.of (lex_of.mono c) h⟩
theorem word_ex {s : ByteArray} (hs : s.size ≤ 16) : ∀ n i : Nat, s.size - i ≤ n → ∃ v, Ev (fun k => lex_word.l0 k s (i : Int)) v
  | 0, i, h => ⟨_, Ev.step (fun k => by rw [lex_word.l0, if_neg (by omega)]) (Ev.now _)⟩
  | n + 1, i, h => by
    rcases Nat.lt_or_ge i s.size with hi | hi
    · obtain ⟨v, hv⟩ := lexOf_ex (bt s (i : Int))
      obtain ⟨u, hu⟩ := word_ex hs n (i + 1) (by omega)
      have hw : wrap64 ((i : Int) + 1) = ((i + 1 : Nat) : Int) := w_succ (by omega)
      have st : ∀ {r}, Ev (fun k => if v = 2 then lex_word.l0 k s (wrap64 ((i : Int) + 1)) else if v = 3 then lex_word.l0 k s (wrap64 ((i : Int) + 1)) else if bt s (i : Int) = 95 then lex_word.l0 k s (wrap64 ((i : Int) + 1)) else some (i : Int)) r → Ev (fun k => lex_word.l0 k s (i : Int)) r :=
        fun hr => Ev.step (fun k => by rw [lex_word.l0, if_pos (by omega), if_pos (by omega)]) (Ev.bind hv hr)
      by_cases h2 : v = 2
      · exact ⟨u, st (Ev.congr (fun k => by rw [if_pos h2, hw]) hu)⟩
      by_cases h3 : v = 3
      · exact ⟨u, st (Ev.congr (fun k => by rw [if_neg h2, if_pos h3, hw]) hu)⟩
      by_cases h5 : bt s (i : Int) = 95
      · exact ⟨u, st (Ev.congr (fun k => by rw [if_neg h2, if_neg h3, if_pos h5, hw]) hu)⟩
      · exact ⟨_, st (Ev.congr (fun k => by rw [if_neg h2, if_neg h3, if_neg h5]) (Ev.now _))⟩
    · exact ⟨_, Ev.step (fun k => by rw [lex_word.l0, if_neg (by omega)]) (Ev.now _)⟩
theorem isName_ex (s : ByteArray) : ∃ r, Ev (fun k => lex_IsName.f k s) r := by
  by_cases h0 : s.size = 0
  · exact ⟨_, Ev.congr (fun k => by rw [lex_IsName.f, if_pos h0]) (Ev.now _)⟩
  by_cases h1 : s.size > 16
  · exact ⟨_, Ev.congr (fun k => by rw [lex_IsName.f, if_neg h0, if_pos h1]) (Ev.now _)⟩
  obtain ⟨v, hv⟩ := lexOf_ex (bt s 0)
  obtain ⟨n, hn⟩ := word_ex (s := s) (by omega) s.size 1 (by omega)
  have hn' : Ev (fun k => lex_word.f k s) n := hn
  by_cases h2 : v = 2
  · by_cases h3 : n = (s.size : Int)
    · exact ⟨_, Ev.congr (fun k => by (rw [lex_IsName.f, if_neg h0, if_neg h1]; try rfl)) (Ev.bind hv (Ev.congr (fun k => by (rw [if_pos h2]; try rfl)) (Ev.bind hn' (Ev.congr (fun k => by rw [if_pos h3]) (Ev.now _)))))⟩
    · exact ⟨_, Ev.congr (fun k => by (rw [lex_IsName.f, if_neg h0, if_neg h1]; try rfl)) (Ev.bind hv (Ev.congr (fun k => by (rw [if_pos h2]; try rfl)) (Ev.bind hn' (Ev.congr (fun k => by rw [if_neg h3]) (Ev.now _)))))⟩
  · exact ⟨_, Ev.congr (fun k => by (rw [lex_IsName.f, if_neg h0, if_neg h1]; try rfl)) (Ev.bind hv (Ev.congr (fun k => by rw [if_neg h2]) (Ev.now _)))⟩
noncomputable def isName (s : ByteArray) : Bool := Classical.choose (isName_ex s)
theorem isName_ev (s : ByteArray) : Ev (fun k => lex_IsName.f k s) (isName s) := Classical.choose_spec (isName_ex s)
/-- Names that may be given, none alike, none of L. -/
noncomputable def giv : List ByteArray → List ByteArray → Bool
  | _, [] => true
  | L, s :: t => isName s && !(decide (s.size > 16)) && !(L.any (fun x => x.data.toList == s.data.toList)) && giv (s :: L) t
theorem giv_ev : ∀ l L, Ev (fun k => net_given.go k L l) (giv L l)
  | [], L => Ev.step (fun k => by rw [net_given.go]) (by rw [giv]; exact Ev.now _)
  | s :: t, L => by
    refine Ev.step (fun k => by rw [net_given.go]) (Ev.bind (isName_ev s) ?_)
    unfold giv
    cases isName s with
    | false => exact Ev.congr (fun k => by rw [if_neg (by decide)]) (by simpa using Ev.now false)
    | true =>
      by_cases h1 : s.size > 16
      · rw [decide_eq_true h1]; exact Ev.congr (fun k => by rw [if_pos rfl, if_pos h1]) (by simpa using Ev.now false)
      · rw [decide_eq_false h1]
        cases h2 : L.any (fun x => x.data.toList == s.data.toList) with
        | true => exact Ev.congr (fun k => by rw [if_pos rfl, if_neg h1, if_pos rfl]) (by simpa using Ev.now false)
        | false => exact Ev.congr (fun k => by rw [if_pos rfl, if_neg h1, if_neg (by decide)]) (by simpa using giv_ev t (s :: L))
theorem given_ev {l : List ByteArray} (hl : l.length ≤ 140737488351232) : Ev (fun k => net_given.f k l) (giv [] l) := Ev.congr (fun k => by rw [net_given.f, if_pos hl]) (giv_ev l [])
/-! Lists that are gathered. -/
theorem collectK {α β ρ : Type} {xs : List α} {L : Nat → List β → Int → Option ρ} (f : α → List β) (B : Nat) {r : ρ} (fin : List β) (h0 : Ev (fun k => L k fin (xs.length : Int)) r)
    (h1 : ∀ acc (i : Nat) x t, xs.drop i = x :: t → (acc ++ f x).length ≤ B → Ev (fun k => L k (acc ++ f x) ((i + 1 : Nat) : Int)) r → Ev (fun k => L k acc (i : Int)) r) (hB : fin.length ≤ B) :
    ∀ n (i : Nat) acc, xs.length - i ≤ n → i ≤ xs.length → acc ++ (xs.drop i).flatMap f = fin → Ev (fun k => L k acc (i : Int)) r
  | 0, i, acc, hn, hi, he => by
    obtain rfl : i = xs.length := by omega
    rw [List.drop_eq_nil_of_le (Nat.le_refl _), List.flatMap_nil, List.append_nil] at he
    subst he
    exact h0
  | n + 1, i, acc, hn, hi, he => by
    rcases Nat.lt_or_ge i xs.length with h | h
    · have hd := List.drop_eq_getElem_cons h
      rw [hd, List.flatMap_cons, ← List.append_assoc] at he
      exact h1 acc i _ _ hd (by rw [← he, List.length_append] at hB; omega) (collectK f B fin h0 h1 hB n (i + 1) _ (by omega) (by omega) he)
    · obtain rfl : i = xs.length := by omega
      rw [List.drop_eq_nil_of_le (Nat.le_refl _), List.flatMap_nil, List.append_nil] at he
      subst he
      exact h0
theorem collect0 {α β ρ : Type} {xs : List α} {L : Nat → List β → Int → Option ρ} (f : α → List β) (B : Nat) {r : ρ} (fin : List β) {acc : List β} (h0 : Ev (fun k => L k fin (xs.length : Int)) r)
    (h1 : ∀ acc (i : Nat) x t, xs.drop i = x :: t → (acc ++ f x).length ≤ B → Ev (fun k => L k (acc ++ f x) ((i + 1 : Nat) : Int)) r → Ev (fun k => L k acc (i : Int)) r) (hB : fin.length ≤ B) (he : acc ++ xs.flatMap f = fin) : Ev (fun k => L k acc 0) r :=
  collectK f B fin h0 h1 hB xs.length 0 acc (by omega) (by omega) (by simpa using he)
theorem flatMap_len {α β : Type} {f : α → List β} {m : Nat} : ∀ {xs : List α}, (∀ x ∈ xs, (f x).length ≤ m) → (xs.flatMap f).length ≤ xs.length * m
  | [], _ => by simp
  | x :: t, h => by
    have h1 := h x List.mem_cons_self
    have h2 := flatMap_len (xs := t) (fun y hy => h y (List.mem_cons_of_mem _ hy))
    rw [List.flatMap_cons, List.length_append, List.length_cons, Nat.succ_mul]
    omega
theorem Names_ev {a b c d} (hb : b.length < 8796093022208) : Ev (fun k => net_Names.f k a b c d) (b.flatMap fun v => [v.f0]) := by
  show Ev (fun k => net_Names.l0 k [] b (b.length : Int) 0) _
  refine collect0 (xs := b) (L := fun k acc i => net_Names.l0 k acc b (b.length : Int) i) (fun v => [v.f0]) b.length (b.flatMap fun v => [v.f0]) ?_ ?_ ?_ (by simp)
  · exact Ev.step (fun k => by rw [net_Names.l0, if_neg (by omega)]) (Ev.now _)
  · intro acc i x t hd hlen ih
    have hin := inside hd (by omega)
    rw [List.length_append, List.length_singleton] at hlen
    refine Ev.step (fun k => ?_) ih
    rw [net_Names.l0, if_pos hin.1, if_pos hin.2.1, if_pos hin.1, if_pos (by omega), hin.2.2, show rd_T50 b (i : Int) = x from getD_at hd _]
  · have := flatMap_len (f := fun v : S50 => [v.f0]) (m := 1) (xs := b) (fun _ _ => by simp)
    omega
theorem locNames_ev {n : ByteArray} {ls : List S57} {es : List S90} (hb : ls.length < 8796093022208) : Ev (fun k => net_locNames.f k n ls es) (ls.flatMap fun v => [v.f0]) := by
  show Ev (fun k => net_locNames.l0 k [] ls (ls.length : Int) 0) _
  refine collect0 (xs := ls) (L := fun k acc i => net_locNames.l0 k acc ls (ls.length : Int) i) (fun v => [v.f0]) ls.length (ls.flatMap fun v => [v.f0]) ?_ ?_ ?_ (by simp)
  · exact Ev.step (fun k => by rw [net_locNames.l0, if_neg (by omega)]) (Ev.now _)
  · intro acc i x t hd hlen ih
    have hin := inside hd (by omega)
    rw [List.length_append, List.length_singleton] at hlen
    refine Ev.step (fun k => ?_) ih
    rw [net_locNames.l0, if_pos hin.1, if_pos hin.2.1, if_pos hin.1, if_pos (by omega), hin.2.2, show rd_T57 ls (i : Int) = x from getD_at hd _]
  · have := flatMap_len (f := fun v : S57 => [v.f0]) (m := 1) (xs := ls) (fun _ _ => by simp)
    omega
theorem concat_ev {x y z : List ByteArray} (h : x.length + y.length + z.length < 8796093022208) : Ev (fun k => slices_Concat_string_string.f k [x, y, z]) (x ++ y ++ z) := by
  have e : ∀ n : Int, 0 ≤ n → n < 9223372036854775807 → wrap64 n = n := fun n _ _ => by unfold wrap64; omega
  have h1 : Ev (fun k => slices_Concat_string_string.l1 k [] [x, y, z] 3 0) (x ++ y ++ z) := by
    refine Ev.step (fun k => by rw [slices_Concat_string_string.l1, if_pos (by omega), if_pos (by omega), if_pos (by simp), if_pos (by simp [rd_L16]; omega)]) ?_
    refine Ev.step (fun k => by rw [show wrap64 ((0 : Int) + 1) = 1 by unfold wrap64; omega, slices_Concat_string_string.l1, if_pos (by omega), if_pos (by omega), if_pos (by simp), if_pos (by simp [rd_L16]; omega)]) ?_
    refine Ev.step (fun k => by rw [show wrap64 ((1 : Int) + 1) = 2 by unfold wrap64; omega, slices_Concat_string_string.l1, if_pos (by omega), if_pos (by omega), if_pos (by simp), if_pos (by simp [rd_L16]; omega)]) ?_
    refine Ev.step (fun k => by rw [show wrap64 ((2 : Int) + 1) = 3 by unfold wrap64; omega, slices_Concat_string_string.l1, if_neg (by omega)]) ?_
    simpa [rd_L16] using Ev.now (x ++ y ++ z)
  have hg : ∀ s : Int, 0 ≤ s → s < 8796093022208 → Ev (fun k => slices_Concat_string_string.l0 k [x, y, z] s [x, y, z] 3 3) (x ++ y ++ z) := fun s hs hs2 =>
    Ev.step (fun k => by (rw [slices_Concat_string_string.l0, if_neg (by omega)]; try rfl)) (Ev.bind (a := []) (Ev.congr (fun k => by rw [slices_Grow_string_string.f, if_pos ⟨rfl, hs, hs2⟩]) (Ev.now _)) h1)
  have r0 : rd_L16 [x, y, z] 0 = x := rfl
  have r1 : rd_L16 [x, y, z] 1 = y := rfl
  have r2 : rd_L16 [x, y, z] 2 = z := rfl
  show Ev (fun k => slices_Concat_string_string.l0 k [x, y, z] 0 [x, y, z] 3 0) _
  refine Ev.step (fun k => by rw [slices_Concat_string_string.l0, if_pos (by simp), if_pos (by omega), if_pos (by simp), r0, e _ (by omega) (by omega), if_neg (by omega)]) ?_
  refine Ev.step (fun k => by rw [show wrap64 ((0 : Int) + 1) = 1 by unfold wrap64; omega, slices_Concat_string_string.l0, if_pos (by simp), if_pos (by omega), if_pos (by simp), r1, e _ (by omega) (by omega), if_neg (by omega)]) ?_
  refine Ev.step (fun k => by rw [show wrap64 ((1 : Int) + 1) = 2 by unfold wrap64; omega, slices_Concat_string_string.l0, if_pos (by simp), if_pos (by omega), if_pos (by simp), r2, e _ (by omega) (by omega), if_neg (by omega)]) ?_
  exact Ev.congr (fun k => by rw [show wrap64 ((2 : Int) + 1) = 3 by unfold wrap64; omega]) (hg (0 + (x.length : Int) + (y.length : Int) + (z.length : Int)) (by omega) (by omega))
def allNames (a : List ByteArray) (b : List S50) (c : List ByteArray) (d : List S61) : List ByteArray := a ++ (b.flatMap fun v => [v.f0]) ++ c ++ d.flatMap fun x => [x.f0]
theorem all_ev {a : List ByteArray} {b : List S50} {c : List ByteArray} {d : List S61} (ha : a.length ≤ 8) (hb : b.length ≤ 16) (hc : c.length ≤ 16) (hd : d.length ≤ 8) : Ev (fun k => net_all.f k a b c d) (allNames a b c d) := by
  have l1 := flatMap_len (f := fun v : S50 => [v.f0]) (m := 1) (xs := b) (fun _ _ => by simp)
  have l2 := flatMap_len (f := fun v : S61 => [v.f0]) (m := 1) (xs := d) (fun _ _ => by simp)
  refine Ev.congr (fun k => by rw [net_all.f]) (Ev.bind (Names_ev (by omega)) (Ev.bind (concat_ev (x := a) (y := b.flatMap fun v => [v.f0]) (z := c) (by omega)) ?_))
  refine collect0 (xs := d) (L := fun k acc i => net_all.l0 k acc d (d.length : Int) i) (fun v => [v.f0]) 100 (allNames a b c d) ?_ ?_ ?_ (by simp [allNames])
  · exact Ev.step (fun k => by rw [net_all.l0, if_neg (by omega)]) (Ev.now _)
  · intro acc i x t hd2 hlen ih
    have hin := inside hd2 (by omega)
    rw [List.length_append, List.length_singleton] at hlen
    refine Ev.step (fun k => ?_) ih
    rw [net_all.l0, if_pos hin.1, if_pos hin.2.1, if_pos hin.1, if_pos (by omega), hin.2.2, show rd_T61 d (i : Int) = x from getD_at hd2 _]
  · unfold allNames
    simp only [List.length_append]
    omega
noncomputable def sNames (a : List ByteArray) (b : List S50) (c : List ByteArray) (d : List S61) : Int :=
  if giv [] (allNames a b c d) then (if d.all (fun x => giv [] (x.f1.flatMap fun l => [l.f0])) then 0 else 112) else 112
theorem names_ev {a : List ByteArray} {b : List S50} {c : List ByteArray} {d : List S61} (h : OkN a b c d) (ha : a.length ≤ 8) (hb : b.length ≤ 16) (hc : c.length ≤ 16) (hd : d.length ≤ 8) (hl : ∀ x ∈ d, x.f1.length ≤ 64) : Ev (fun k => net_names.f k a b c d) (sNames a b c d) := by
  have l1 := flatMap_len (f := fun v : S50 => [v.f0]) (m := 1) (xs := b) (fun _ _ => by simp)
  have l2 := flatMap_len (f := fun v : S61 => [v.f0]) (m := 1) (xs := d) (fun _ _ => by simp)
  refine Ev.congr (fun k => by rw [net_names.f]) (Ev.bind (all_ev ha hb hc hd) (Ev.bind (given_ev (l := allNames a b c d) ?_) ?_))
  · unfold allNames
    simp only [List.length_append]
    omega
  · unfold sNames
    cases giv [] (allNames a b c d) with
    | false => exact Ev.congr (fun k => by rw [if_neg (by decide)]) (by simpa using Ev.now (112 : Int))
    | true =>
      refine Ev.congr (fun k => by rw [if_pos rfl]) ?_
      rw [if_pos rfl]
      refine scan0 (xs := d) (L := fun k i => net_names.l0 k d (d.length : Int) i) (fun t => if t.all (fun x => giv [] (x.f1.flatMap fun l => [l.f0])) then 0 else 112) ?_ ?_
      · exact Ev.step (fun k => by rw [net_names.l0, if_neg (by omega)]; rfl) (Ev.now _)
      · intro i x t hd2 ih
        have hin := inside hd2 (by omega)
        have hx := hl x (List.mem_of_getElem? (drop_at hd2).2.1)
        have l3 := flatMap_len (f := fun v : S57 => [v.f0]) (m := 1) (xs := x.f1) (fun _ _ => by simp)
        refine Ev.step (fun k => by rw [net_names.l0, if_pos hin.1, if_pos hin.2.1, if_pos hin.1, show rd_T61 d (i : Int) = x from getD_at hd2 _, hin.2.2]) (Ev.bind (locNames_ev (by omega)) (Ev.bind (given_ev (l := x.f1.flatMap fun l => [l.f0]) (by omega)) ?_))
        cases hg : giv [] (x.f1.flatMap fun l => [l.f0]) with
        | false =>
          have e1 : List.all (x :: t) (fun x => giv [] (x.f1.flatMap fun l => [l.f0])) = false := by rw [List.all_cons, hg, Bool.false_and]
          simp only [e1, if_true, Bool.false_eq_true, if_false]
          first | exact Ev.now _ | exact Ev.congr (fun k => by simp) (Ev.now _)
        | true =>
          have e1 : List.all (x :: t) (fun x => giv [] (x.f1.flatMap fun l => [l.f0])) = t.all (fun x => giv [] (x.f1.flatMap fun l => [l.f0])) := by rw [List.all_cons, hg, Bool.true_and]
          simp only [e1]
          exact Ev.congr (fun k => by simp) ih
/-! Variables -/
def badV (v : S50) : Bool := decide (v.f1 > v.f3) || decide (v.f3 > v.f2) || decide (v.f1 < -1048576) || decide (v.f2 > 1048576)
theorem vars_ev {a c d} {b : List S50} (hb : b.length ≤ cap) : Ev (fun k => net_vars.f k a b c d) (if b.any badV then 124 else 0) := by
  refine scan0 (xs := b) (L := fun k i => net_vars.l0 k b (b.length : Int) i) (fun t => if t.any badV then 124 else 0) ?_ ?_
  · exact Ev.step (fun k => by rw [net_vars.l0, if_neg (by omega)]; rfl) (Ev.now _)
  · intro i x t hd ih
    have hin := inside hd hb
    have st : ∀ {r}, Ev (fun k => if x.f1 > x.f3 then some 124 else if x.f3 > x.f2 then some 124 else if x.f1 < (-1048576) then some 124 else if x.f2 > 1048576 then some 124 else net_vars.l0 k b (b.length : Int) ((i + 1 : Nat) : Int)) r → Ev (fun k => net_vars.l0 k b (b.length : Int) (i : Int)) r :=
      fun hr => Ev.step (fun k => by rw [net_vars.l0, if_pos hin.1, if_pos hin.2.1, if_pos hin.1, show rd_T50 b (i : Int) = x from getD_at hd _, hin.2.2]) hr
    by_cases h1 : x.f1 > x.f3
    · have e1 : List.any (x :: t) badV = true := by rw [List.any_cons]; unfold badV; rw [decide_eq_true h1]; simp
      simp only [e1, if_true, Bool.false_eq_true, if_false]; exact st (Ev.congr (fun k => by rw [if_pos h1]) (Ev.now _))
    by_cases h2 : x.f3 > x.f2
    · have e1 : List.any (x :: t) badV = true := by rw [List.any_cons]; unfold badV; rw [decide_eq_true h2]; simp
      simp only [e1, if_true, Bool.false_eq_true, if_false]; exact st (Ev.congr (fun k => by rw [if_neg h1, if_pos h2]) (Ev.now _))
    by_cases h3 : x.f1 < -1048576
    · have e1 : List.any (x :: t) badV = true := by rw [List.any_cons]; unfold badV; rw [decide_eq_true h3]; simp
      simp only [e1, if_true, Bool.false_eq_true, if_false]; exact st (Ev.congr (fun k => by rw [if_neg h1, if_neg h2, if_pos h3]) (Ev.now _))
    by_cases h4 : x.f2 > 1048576
    · have e1 : List.any (x :: t) badV = true := by rw [List.any_cons]; unfold badV; rw [decide_eq_true h4]; simp
      simp only [e1, if_true, Bool.false_eq_true, if_false]; exact st (Ev.congr (fun k => by rw [if_neg h1, if_neg h2, if_neg h3, if_pos h4]) (Ev.now _))
    · have e1 : List.any (x :: t) badV = t.any badV := by rw [List.any_cons]; unfold badV; rw [decide_eq_false h1, decide_eq_false h2, decide_eq_false h3, decide_eq_false h4]; simp
      simp only [e1]; exact st (Ev.congr (fun k => by rw [if_neg h1, if_neg h2, if_neg h3, if_neg h4]) ih)
/-! Locations -/
theorem locs_ev {a b c} {d : List S61} (hd : d.length ≤ cap) (hl : ∀ x ∈ d, x.f1.length ≤ cap) : Ev (fun k => net_locs.f k a b c d) (if d.any (fun x => x.f1.any fun l => decide (l.f1 > 2)) then 122 else 0) := by
  refine scan0 (xs := d) (L := fun k i => net_locs.l0 k d (d.length : Int) i) (fun t => if t.any (fun x => x.f1.any fun l => decide (l.f1 > 2)) then 122 else 0) ?_ ?_
  · exact Ev.step (fun k => by rw [net_locs.l0, if_neg (by omega)]; rfl) (Ev.now _)
  · intro i x t hdr ih
    have hin := inside hdr hd
    have hx := hl x (List.mem_of_getElem? (drop_at hdr).2.1)
    refine Ev.step (fun k => by rw [net_locs.l0, if_pos hin.1, if_pos hin.2.1, if_pos hin.1, show rd_T61 d (i : Int) = x from getD_at hdr _]) ?_
    have e1 : (if List.any (x :: t) (fun x => x.f1.any fun l => decide (l.f1 > 2)) = true then (122 : Int) else 0) = if (x.f1.any fun l => decide (l.f1 > 2)) = true then 122 else if (t.any (fun x => x.f1.any fun l => decide (l.f1 > 2))) = true then 122 else 0 := by
      rw [List.any_cons]
      cases x.f1.any fun l => decide (l.f1 > 2) <;> simp
    simp only [e1]
    refine scan0 (xs := x.f1) (L := fun k j => net_locs.l1 k d (d.length : Int) (i : Int) x.f1 (x.f1.length : Int) j) (fun ls => if (ls.any fun l => decide (l.f1 > 2)) = true then 122 else if (t.any (fun x => x.f1.any fun l => decide (l.f1 > 2))) = true then 122 else 0) ?_ ?_
    · exact Ev.step (fun k => by rw [net_locs.l1, if_neg (by omega), hin.2.2]) ih
    · intro j l u hdl ih2
      have hin2 := inside hdl hx
      have hr : rd_T57 x.f1 (j : Int) = l := getD_at hdl _
      by_cases h2 : l.f1 > 2
      · have e2 : (List.any (l :: u) fun l => decide (l.f1 > 2)) = true := by rw [List.any_cons, decide_eq_true h2, Bool.true_or]
        simp only [e2, if_true, Bool.false_eq_true, if_false]
        exact Ev.step (fun k => by rw [net_locs.l1, if_pos hin2.1, if_pos hin2.2.1, if_pos hin2.1, hr, if_pos h2]) (Ev.now _)
      · have e2 : (List.any (l :: u) fun l => decide (l.f1 > 2)) = u.any fun l => decide (l.f1 > 2) := by rw [List.any_cons, decide_eq_false h2, Bool.false_or]
        simp only [e2]
        exact Ev.step (fun k => by rw [net_locs.l1, if_pos hin2.1, if_pos hin2.2.1, if_pos hin2.1, hr, if_neg h2, hin2.2.2]) ih2
end Go.Proofs.YtpmhfahligjhaaaDoor.POrd
