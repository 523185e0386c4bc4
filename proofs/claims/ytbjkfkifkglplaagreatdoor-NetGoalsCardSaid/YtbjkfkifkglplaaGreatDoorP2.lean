/-
  Names: the program's IsName and the document's; all names of a network.
-/
import Derived.Test.YtbjkfkifkglplaaGreatDoorP1
set_option linter.unusedSectionVars false
set_option linter.unusedVariables false
set_option linter.unusedSimpArgs false
set_option maxRecDepth 100000
namespace Go.Proofs.YtbjkfkifkglplaaGreatDoor.Q
open Go Go.Den Go.RowKit Go.Proofs
theorem lexof_eq {c : Int} (hc : byteOp c) : lex_of.g c = some (if isL c = true then 2 else if isD c = true then 3 else if c = 32 ∨ c = 9 ∨ c = 13 ∨ c = 10 then 1 else if c = 35 then 4 else 0) :=
  op256 (p := fun c => lex_of.g c = some (if isL c = true then 2 else if isD c = true then 3 else if c = 32 ∨ c = 9 ∨ c = 13 ∨ c = 10 then 1 else if c = 35 then 4 else 0)) (by decide +kernel) hc
theorem lexof_2 {c : Int} (hc : byteOp c) : ∃ v, lex_of.g c = some v ∧ decide (v = 2) = isL c ∧ (isL c = false → decide (v = 3) = isD c) := by
  refine ⟨_, lexof_eq hc, ?_⟩
  cases h1 : isL c <;> cases h2 : isD c <;> simp <;> (repeat' split) <;> simp
theorem byte_bt (s : ByteArray) (i : Int) : byteOp (btI s i) := by
  unfold btI byteOp
  split
  · next h =>
    have := (s[i.toNat]'h).toNat_lt
    omega
  · omega
theorem bytes_len (s : ByteArray) : (bytesOf s).length = s.size := bytesOf_len s
theorem bytes_at {s : ByteArray} {i : Nat} (h : i < s.size) : (bytesOf s)[i]'(by rw [bytes_len]; exact h) = btI s i := by
  have hd : (bytesOf s).drop i = (bytesOf s)[i]'(by rw [bytes_len]; exact h) :: (bytesOf s).drop (i + 1) := List.drop_eq_getElem_cons (by rw [bytes_len]; exact h)
  exact (bt_head hd).symm
theorem bytes_byte (s : ByteArray) : ∀ c ∈ bytesOf s, byteOp c := fun c hc => by
  obtain ⟨i, hi, rfl⟩ := List.getElem_of_mem hc
  rw [bytes_at (by rw [← bytes_len]; exact hi)]
  exact byte_bt _ _
/-- How many go on a word. -/
def run : List Int → Nat
  | [] => 0
  | y :: t => if isW y = true then run t + 1 else 0
theorem run_le : ∀ l, run l ≤ l.length
  | [] => Nat.le_refl _
  | y :: t => by
    have := run_le t
    rw [run, List.length_cons]
    split <;> omega
theorem run_all : ∀ l, run l = l.length ↔ ∀ c ∈ l, isW c = true
  | [] => by simp [run]
  | y :: t => by
    have h1 := run_le t
    have h2 := run_all t
    rw [run, List.length_cons]
    by_cases h : isW y = true
    · rw [if_pos h]
      constructor
      · intro h3 c hc
        rcases List.mem_cons.1 hc with rfl | hc
        · exact h
        · exact h2.1 (by omega) c hc
      · intro h3
        rw [h2.2 fun c hc => h3 c (List.mem_cons_of_mem _ hc)]
    · rw [if_neg h]
      exact ⟨fun h3 => by omega, fun h3 => absurd (h3 y List.mem_cons_self) h⟩
theorem word0 : ∀ (l : List Int) (i : Nat), (∀ c ∈ l, byteOp c) → lex_word.L0 l i = some ((i + run l : Nat) : Int)
  | [], i, _ => rfl
  | y :: t, i, h => by
    obtain ⟨v, h1, h2, h3⟩ := lexof_2 (h y List.mem_cons_self)
    rw [lex_word.L0, h1, Option.bind_some, Option.bind_some, word0 t (i + 1) fun c hc => h c (List.mem_cons_of_mem _ hc), run]
    cases hL : isL y with
    | true =>
      rw [hL] at h2
      rw [if_pos (of_decide_eq_true h2), if_pos (by unfold isW; rw [hL]; rfl)]
      congr 2; omega
    | false =>
      rw [hL] at h2
      rw [if_neg (of_decide_eq_false h2)]
      have h3 := h3 hL
      cases hD : isD y with
      | true =>
        rw [hD] at h3
        rw [if_pos (of_decide_eq_true h3), if_pos (by unfold isW; rw [hL, hD]; rfl)]
        congr 2; omega
      | false =>
        rw [hD] at h3
        rw [if_neg (of_decide_eq_false h3)]
        by_cases h95 : y = 95
        · rw [if_pos h95, if_pos (by unfold isW; rw [hL, hD, decide_eq_true h95]; rfl)]
          congr 2; omega
        · rw [if_neg h95, if_neg (by unfold isW; rw [hL, hD, decide_eq_false h95]; decide)]
          rfl
theorem index0 (x : ByteArray) : ∀ (l : List ByteArray) (i : Nat), ∃ v : Int, slI.L0 x l i = some v ∧ decide (v ≥ 0) = l.any fun y => decide (x = y)
  | [], i => ⟨-1, rfl, rfl⟩
  | y :: t, i => by
    rw [slI.L0, List.any_cons]
    by_cases h : x = y
    · rw [if_pos h, decide_eq_true h, Bool.true_or]
      exact ⟨i, rfl, decide_eq_true (by omega)⟩
    · rw [if_neg h, decide_eq_false h, Bool.false_or]
      exact index0 x t (i + 1)
theorem contains_eq {l : List ByteArray} (hl : l.length ≤ cap) (x : ByteArray) : slN.g l x = some (l.any fun y => decide (x = y)) := by
  have := cap_is
  obtain ⟨v, h1, h2⟩ := index0 x l 0
  rw [slN.g, slI.g, if_pos (show l.length ≤ 9223372036854775807 by omega), h1, Option.bind_some, h2]
theorem name_eq {s : ByteArray} (hS : s.size ≤ cap) : lex_IsName.g s = some (refName s) := by
  have hc := cap_is
  have hspec := refName_spec hS
  have no : ¬ (s.size ≤ 16 ∧ isL (btI s 0) = true ∧ (∀ i : Nat, i < s.size → isW (btI s i) = true) ∧ 0 < s.size ∧ s ∉ lex_kept) → refName s = false := fun h => by
    cases hb : refName s with
    | false => rfl
    | true => exact absurd (hspec.1 hb) h
  unfold lex_IsName.g
  by_cases h0 : s = (⟨#[]⟩ : ByteArray)
  · rw [if_pos h0, no fun h => by subst h0; exact absurd h.2.2.2.1 (by decide)]
  have hpos : 0 < s.size := by
    rcases Nat.eq_zero_or_pos s.size with h | h
    · exact absurd (by cases s with | mk a => congr 1; exact Array.eq_empty_of_size_eq_zero h) h0
    · exact h
  rw [if_neg h0]
  by_cases h16 : (s.size : Int) ≤ 16
  · rw [if_pos h16, if_pos (by omega), if_pos (by omega)]
    obtain ⟨v, g1, g2, -⟩ := lexof_2 (byte_bt s 0)
    rw [g1, Option.bind_some]
    cases hL : isL (btI s 0) with
    | false =>
      rw [hL] at g2
      rw [if_neg (of_decide_eq_false g2), no fun h => by rw [hL] at h; exact absurd h.2.1 (by decide)]
    | true =>
      rw [hL] at g2
      rw [if_pos (of_decide_eq_true g2), lex_word.g, if_pos (by omega), word0 _ _ (fun c hc => bytes_byte s c (List.mem_of_mem_drop hc)), Option.bind_some, contains_eq (by decide), Option.bind_some]
      have hlen : ((bytesOf s).drop 1).length = s.size - 1 := by rw [List.length_drop, bytes_len]
      have hiff : run ((bytesOf s).drop 1) = s.size - 1 ↔ ∀ i : Nat, i < s.size → isW (btI s i) = true := by
        rw [← hlen, run_all]
        constructor
        · intro h i hi
          rcases Nat.eq_zero_or_pos i with rfl | hi0
          · unfold isW; rw [show btI s ((0 : Nat) : Int) = btI s 0 from rfl, hL]; rfl
          · rw [← bytes_at hi]
            refine h _ ?_
            obtain ⟨j, rfl⟩ : ∃ j, i = 1 + j := ⟨i - 1, by omega⟩
            have hj : j < ((bytesOf s).drop 1).length := by rw [hlen]; omega
            have := List.getElem_mem hj
            rwa [List.getElem_drop] at this
        · intro h c hc
          obtain ⟨j, hj, rfl⟩ := List.getElem_of_mem hc
          rw [List.getElem_drop]
          rw [hlen] at hj
          rw [bytes_at (by omega)]
          exact h _ (by omega)
      have hk : (lex_kept.any fun y => decide (s = y)) = true ↔ s ∈ lex_kept := by
        rw [List.any_eq_true]
        exact ⟨fun ⟨y, hy, h⟩ => by rw [of_decide_eq_true h]; exact hy, fun h => ⟨s, h, decide_eq_true rfl⟩⟩
      by_cases hr : run ((bytesOf s).drop 1) = s.size - 1
      · rw [if_pos (by omega)]
        cases hkk : (lex_kept.any fun y => decide (s = y)) with
        | true => rw [no fun h => h.2.2.2.2 (hk.1 hkk)]; rfl
        | false => rw [refName_true hpos (by omega) hL (hiff.1 hr) fun h => by rw [hk.2 h] at hkk; cases hkk]; rfl
      · rw [if_neg (by omega), no fun h => hr (hiff.2 h.2.2.1)]
  · rw [if_neg h16, no fun h => by omega]
theorem refname_g {s : ByteArray} (hS : s.size ≤ cap) : r09_IsName.g s = some (refName s) := by
  unfold r09_IsName.g; rw [if_pos hS]
noncomputable section
def nameOk (s : ByteArray) : Bool := refName s && decide (s.size ≤ 16)
/-- All are names, no two alike (nor one of those before). -/
def nam : List ByteArray → List ByteArray → Bool
  | [], _ => true
  | x :: t, p => nameOk x && (!(p.any fun y => decide (y = x)) && nam t (p ++ [x]))
theorem hasK_eq (x : ByteArray) (p : List ByteArray) : hasK x p = p.any fun y => decide (y = x) := by
  unfold hasK
  refine any_congr fun y _ => ?_
  by_cases h : y = x
  · rw [decide_eq_true h, h]; simp
  · rw [decide_eq_false h, beq_eq_false_iff_ne]
    intro e
    apply h
    cases y with | mk a => cases x with | mk b => congr 1; exact Array.toList_inj.1 e
theorem nam_perm : ∀ (l p q : List ByteArray), (∀ x, (p.any fun y => decide (y = x)) = q.any fun y => decide (y = x)) → nam l p = nam l q
  | [], _, _, _ => rfl
  | x :: t, p, q, h => by
    rw [nam, nam, h x, nam_perm t (p ++ [x]) (q ++ [x]) fun z => by rw [List.any_append, List.any_append, h z]]
theorem given0 : ∀ (l p : List ByteArray), (∀ s ∈ l, s.size ≤ cap) → p.length + l.length ≤ cap → net_given.L0 l p = some (nam l p)
  | [], _, _, _ => rfl
  | y :: t, p, h, hl => by
    have := cap_is
    rw [List.length_cons] at hl
    have hy := h y List.mem_cons_self
    rw [net_given.L0, name_eq hy, Option.bind_some, nam, if_pos (show y.size ≤ 9223372036854775807 by omega), if_pos (show y.size ≤ 9223372036854775807 by omega), if_pos (show p.length < 9223372036854775807 by omega), given0 t (y :: p) (tl_of h) (by rw [List.length_cons]; omega), hasK_eq, nam_perm t (y :: p) (p ++ [y]) fun z => by rw [List.any_append, List.any_cons, Bool.or_comm]; simp]
    unfold nameOk
    cases refName y with
    | false => rfl
    | true =>
      rw [if_neg (by decide)]
      by_cases h16 : (y.size : Int) > 16
      · rw [if_pos h16, decide_eq_false (by omega)]; rfl
      · rw [if_neg h16, decide_eq_true (by omega)]
        cases (p.any fun z => decide (z = y)) <;> rfl
theorem given_eq {l : List ByteArray} (h : ∀ s ∈ l, s.size ≤ cap) (hl : l.length ≤ cap) : net_given.g l = some (nam l []) := by
  have := cap_is
  rw [net_given.g, if_pos (show l.length ≤ 9223372036854775807 by omega), given0 l [] h (by simpa using hl)]
theorem named0 : ∀ (l p : List ByteArray), (∀ s ∈ l, s.size ≤ cap) → r10_named.L l p = some (nam l p)
  | [], _, _ => rfl
  | y :: t, p, h => by
    have hy := h y List.mem_cons_self
    rw [r10_named.L, r10_isName.g, refname_g hy, Option.bind_some, nam, named0 t (p ++ [y]) (tl_of h)]
    unfold nameOk
    cases refName y with
    | false => rfl
    | true =>
      rw [if_pos rfl, Option.bind_some]
      by_cases h16 : (y.size : Int) ≤ 16
      · rw [decide_eq_true h16, decide_eq_true (show y.size ≤ 16 by omega)]
        cases (p.any fun z => decide (z = y)) <;> rfl
      · rw [decide_eq_false h16, decide_eq_false (show ¬ y.size ≤ 16 by omega)]; rfl
theorem named_eq {l : List ByteArray} (h : ∀ s ∈ l, s.size ≤ cap) (hl : l.length ≤ cap) : r10_named.g l = some (nam l []) := by
  have := cap_is
  rw [r10_named.g, if_pos (show l.length ≤ 9223372036854775807 by omega), named0 l [] h]
/-! All names -/
def allNames (a : List ByteArray) (b : List S86) (c : List ByteArray) (d : List S76) : List ByteArray := a ++ (b.map fun v => v.f0) ++ c ++ d.map fun x => x.f0
theorem Names0 : ∀ (l : List S86) (x : List ByteArray), x.length + l.length ≤ 8796093022208 → net_Names.L0 l x = some (x ++ l.map fun v => v.f0)
  | [], x, _ => by simp [net_Names.L0]
  | v :: t, x, h => by
    rw [List.length_cons] at h
    rw [net_Names.L0, if_pos (by omega), Names0 t _ (by simp; omega)]; simp
theorem rNames0 : ∀ (l : List S86) (x : List ByteArray), x.length + l.length ≤ 8796093022208 → r10_Names.L0 l x = some (x ++ l.map fun v => v.f0)
  | [], x, _ => by simp [r10_Names.L0]
  | v :: t, x, h => by
    rw [List.length_cons] at h
    rw [r10_Names.L0, if_pos (by omega), rNames0 t _ (by simp; omega)]; simp
theorem locNames0 : ∀ (l : List S84) (x : List ByteArray), x.length + l.length ≤ 8796093022208 → net_locNames.L0 l x = some (x ++ l.map fun v => v.f0)
  | [], x, _ => by simp [net_locNames.L0]
  | v :: t, x, h => by
    rw [List.length_cons] at h
    rw [net_locNames.L0, if_pos (by omega), locNames0 t _ (by simp; omega)]; simp
theorem all0 : ∀ (l : List S76) (x : List ByteArray), x.length + l.length ≤ 8796093022208 → net_all.L0 l x = some (x ++ l.map fun v => v.f0)
  | [], x, _ => by simp [net_all.L0]
  | v :: t, x, h => by
    rw [List.length_cons] at h
    rw [net_all.L0, if_pos (by omega), all0 t _ (by simp; omega)]; simp
theorem rall0 : ∀ (l : List S76) (x : List ByteArray), x.length + l.length ≤ 8796093022208 → r10_names.L0 l x = some (x ++ l.map fun v => v.f0)
  | [], x, _ => by simp [r10_names.L0]
  | v :: t, x, h => by
    rw [List.length_cons] at h
    rw [r10_names.L0, if_pos (by omega), rall0 t _ (by simp; omega)]; simp
theorem ws0 {n : Int} (h : -9223372036854775808 ≤ n) (h2 : n ≤ 9223372036854775807) : w64 n = n := by show RowKit.wrap64 n = n; unfold RowKit.wrap64; omega
theorem grow_eq {n : Nat} (h : n ≤ 4398046511104) : slG.f () (n : Int) = some [] := by
  unfold slG.f
  rw [if_neg (by omega), show w64 ((n : Int) - w64 (0 - 0)) = (n : Int) by rw [ws0 (n := (0 : Int) - 0) (by omega) (by omega), ws0 (by omega) (by omega)]; omega]
  by_cases h0 : (n : Int) > 0
  · rw [if_pos h0, if_pos (by omega), if_pos (by omega), if_pos (by omega), if_pos (by omega), if_pos (by omega), if_pos (by omega)]; simp
  · rw [if_neg h0]
theorem concat_eq {x y z : List ByteArray} (h : x.length + y.length + z.length ≤ 4398046511104) : slC.g [x, y, z] = some (x ++ y ++ z) := by
  have e1 : w64 (0 + (x.length : Int)) = (x.length : Int) := by rw [ws0 (by omega) (by omega)]; omega
  have e2 : w64 ((x.length : Int) + (y.length : Int)) = ((x.length + y.length : Nat) : Int) := by rw [ws0 (by omega) (by omega)]; omega
  have e3 : w64 (((x.length + y.length : Nat) : Int) + (z.length : Int)) = ((x.length + y.length + z.length : Nat) : Int) := by rw [ws0 (by omega) (by omega)]; omega
  rw [slC.g, if_pos (by simp), slC.L0, e1, if_neg (by omega), slC.L0, e2, if_neg (by omega), slC.L0, e3, if_neg (by omega), slC.L0, grow_eq h, Option.bind_some, if_pos (by simp),
    slC.L1, if_pos (by simp; omega), slC.L1, if_pos (by simp; omega), slC.L1, if_pos (by simp; omega), slC.L1]
  simp
theorem all_eq {a b c d} (h : Few a b c d) : net_all.g a b c d = some (allNames a b c d) := by
  have h1 := h.al; have h2 := h.bl; have h3 := h.cl; have h4 := h.dl
  rw [net_all.g, net_Names.g, if_pos (by omega), Names0 b [] (by simp; omega), Option.bind_some, concat_eq (by simp; omega), Option.bind_some, if_pos (by omega), all0 _ _ (by simp; omega)]
  simp [allNames]
theorem rall_eq {a b c d} (h : Few a b c d) : r10_names.g a b c d = some (allNames a b c d) := by
  have h1 := h.al; have h2 := h.bl; have h3 := h.cl; have h4 := h.dl
  rw [r10_names.g, if_pos (by simp; omega), r10_Names.g, if_pos (by omega), rNames0 b [] (by simp; omega), Option.bind_some, if_pos (by simp; omega), if_pos (by simp; omega), if_pos (by omega), rall0 _ _ (by simp; omega)]
  simp [allNames]
theorem all_size {a b c d} (h : OkN a b c d) : ∀ s ∈ allNames a b c d, s.size ≤ cap := fun s hs => by
  simp only [allNames, List.mem_append, List.mem_map] at hs
  rcases hs with ((hs | ⟨v, hv, rfl⟩) | hs) | ⟨x, hx, rfl⟩
  · exact h.sa s hs
  · exact h.sb v hv
  · exact h.sc s hs
  · exact (h.ds x hx).1
theorem loc_size {x : S76} (h : okA x) : ∀ s ∈ x.f1.map (fun l : S84 => l.f0), s.size ≤ cap := fun s hs => by
  obtain ⟨l, hl, rfl⟩ := List.mem_map.1 hs
  exact (h.2.1.2 l hl).1
def badN (x : S76) : Bool := !nam (x.f1.map fun l => l.f0) []
def bNames (a : List ByteArray) (b : List S86) (c : List ByteArray) (d : List S76) : Bool := !nam (allNames a b c d) [] || d.any badN
theorem names0 : ∀ l, (∀ x ∈ l, okA x) → (∀ x ∈ l, x.f1.length ≤ 64) → net_names.L0 l = some (if l.any badN = true then 112 else 0)
  | [], _, _ => rfl
  | x :: t, h, hl => by
    have := cap_is
    have h1 := hd_of hl
    rw [net_names.L0, net_locNames.g, if_pos (by omega), locNames0 _ [] (by simp; omega), Option.bind_some, List.nil_append, given_eq (loc_size (hd_of h)) (by rw [List.length_map]; omega), Option.bind_some, names0 t (tl_of h) (tl_of hl), List.any_cons, or_if, badN]
    split <;> rfl
theorem names_eq {a b c d} (h : OkN a b c d) (hf : Few a b c d) : net_names.g a b c d = some (if bNames a b c d = true then 112 else 0) := by
  have := cap_is
  have h1 := hf.al; have h2 := hf.bl; have h3 := hf.cl; have h4 := hf.dl
  rw [net_names.g, all_eq hf, Option.bind_some, given_eq (all_size h) (by simp [allNames]; omega), Option.bind_some, if_pos (show d.length ≤ 9223372036854775807 by omega), names0 d h.ds fun x hx => (hf.ds x hx).1, bNames, or_if]
  split <;> rfl
theorem wrongNames0 : ∀ l, (∀ x ∈ l, okA x) → (∀ x ∈ l, x.f1.length ≤ 64) → r10_wrongNames.L l = some (l.any badN)
  | [], _, _ => rfl
  | x :: t, h, hl => by
    have := cap_is
    have h1 := hd_of hl
    rw [r10_wrongNames.L, if_pos (by omega), named_eq (loc_size (hd_of h)) (by rw [List.length_map]; omega), Option.bind_some, wrongNames0 t (tl_of h) (tl_of hl), List.any_cons]
    unfold badN
    cases nam (x.f1.map fun l => l.f0) [] <;> rfl
theorem wrongNames_eq {a b c d} (h : OkN a b c d) (hf : Few a b c d) : r10_wrongNames.g a b c d = some (bNames a b c d) := by
  have := cap_is
  have h1 := hf.al; have h2 := hf.bl; have h3 := hf.cl; have h4 := hf.dl
  rw [r10_wrongNames.g, rall_eq hf, Option.bind_some, named_eq (all_size h) (by simp [allNames]; omega), Option.bind_some, if_pos (show d.length ≤ 9223372036854775807 by omega), wrongNames0 d h.ds fun x hx => (hf.ds x hx).1, bNames]
  cases nam (allNames a b c d) [] <;> rfl
end
end Go.Proofs.YtbjkfkifkglplaaGreatDoor.Q
