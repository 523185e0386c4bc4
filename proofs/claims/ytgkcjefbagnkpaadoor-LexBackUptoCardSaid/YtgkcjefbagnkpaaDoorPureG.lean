import Derived.Test.YtgkcjefbagnkpaaDoorPureE
import Derived.Lib.Join
namespace Go.Proofs.YtgkcjefbagnkpaaDoor.PLex
set_option linter.unusedVariables false
set_option linter.unusedSimpArgs false
open Go Go.RowKit Go.Proofs.YtgkcjefbagnkpaaDoorW.PrintWords Go.Proofs.YtgkcjefbagnkpaaDoorW.PrintMore

/-! ### Join -/
def keep (x : S29) : Bool := decide (x.f0 ≠ 0 ∧ x.f1.toList ≠ [])
def tx (l : List S29) : List ByteArray := (l.filter keep).map (·.f1)
def J (ts : List ByteArray) : ByteArray := ⟨(Lib.join (ts.map (·.data.toList)) [32]).toArray⟩
theorem J_data (ts : List ByteArray) : (J ts).data.toList = Lib.join (ts.map (·.data.toList)) [32] := by unfold J; simp
theorem J_one (t : ByteArray) : J [] ++ t = J [t] := by
  apply Go.WideShapes.bytes_inj
  simp only [ByteArray.data_append, Array.toList_append, J_data, List.map_cons, List.map_nil, Lib.join_nil, Lib.join_one, List.nil_append]
theorem J_snoc (ts : List ByteArray) (t : ByteArray) (h : ts ≠ []) : (J ts ++ (⟨#[32]⟩ : ByteArray)) ++ t = J (ts ++ [t]) := by
  obtain ⟨x, r, rfl⟩ := List.exists_cons_of_ne_nil h
  apply Go.WideShapes.bytes_inj
  simp only [ByteArray.data_append, Array.toList_append, J_data, List.map_cons, List.map_append, List.map_nil, List.cons_append, Lib.join_cons]
  simp [Lib.joinTail]
def tot (l : List S29) : Nat := (l.map fun z => wt29 z).sum
theorem tot_cons (x : S29) (l : List S29) : tot (x :: l) = wt29 x + tot l := by simp [tot]
theorem tx_cons (x : S29) (l : List S29) : tx (x :: l) = if keep x = true then x.f1 :: tx l else tx l := by
  unfold tx
  rw [List.filter_cons]
  split <;> rfl
theorem tail_len (l : List S29) : (Lib.joinTail [32] ((tx l).map (·.data.toList))).length ≤ tot l ∧ (tx l).length ≤ tot l := by
  induction l with
  | nil => exact ⟨Nat.le_refl _, Nat.le_refl _⟩
  | cons x l ih =>
    rw [tx_cons, tot_cons]
    unfold wt29
    split
    · simp only [List.map_cons, Lib.joinTail, List.flatten_cons, List.length_append, List.length_cons, List.length_nil, List.map_map] at ih ⊢
      have := data_length x.f1
      omega
    · omega
theorem J_len (l : List S29) : (Lib.join ((tx l).map (·.data.toList)) [32]).length ≤ tot l := by
  have h := (tail_len l).1
  cases hts : tx l with
  | nil => simp [Lib.join_nil]
  | cons t r =>
    rw [hts] at h
    simp only [List.map_cons, Lib.join_cons, Lib.joinTail, List.flatten_cons, List.length_append, List.length_cons, List.length_nil] at h ⊢
    omega
theorem tx_take (l : List S29) (i : Nat) (hi : i < l.length) : tx (l.take (i + 1)) = if keep l[i] = true then tx (l.take i) ++ [l[i].f1] else tx (l.take i) := by
  rw [List.take_succ_eq_append_getElem hi]
  unfold tx
  rw [List.filter_append, List.map_append]
  by_cases h : keep l[i] = true
  · rw [if_pos h]; simp [h]
  · rw [if_neg h]; simp [h]
theorem tot_take (l : List S29) (i : Nat) : tot (l.take i) ≤ tot l := by
  have : tot l = tot (l.take i) + tot (l.drop i) := by
    unfold tot
    rw [← List.sum_append, ← List.map_append, List.take_append_drop]
  omega
def conv24 (x : S29) : S24 := ⟨x.f0 % 256, x.f1, x.f2, x.f3⟩
end Go.Proofs.YtgkcjefbagnkpaaDoor.PLex
