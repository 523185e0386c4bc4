/-
  Arguments that are read as data: how much they hold, by the bulk of what was read.
-/
import Derived.Test.YtbjkfkifkglplaaGreatDoorD5a
set_option linter.unusedSectionVars false
set_option linter.unusedVariables false
set_option linter.unusedSimpArgs false
namespace Go.Den
open Go Go.RowKit Go.ChangeShapes Go.WideShapes Go.ChangeAt
/-- How much data hold: one for each number, each text its letters and one, each list its elements and one. -/
def bk : (t : Ty) → t.den → Nat
  | .int _, _ => 1
  | .bool, _ => 1
  | .str, s => s.size + 1
  | .list t, l => (List.map (bk t) l).sum + 1
  | .prod a b, x => bk a x.1 + bk b x.2
  | _, _ => 0
/-- Whether each data of a kind hold one at the least. -/
def bkp : Ty → Bool
  | .int _ | .bool | .str | .list _ => true
  | .prod a b => bkp a || bkp b
  | _ => false
theorem bk_pos : ∀ {t : Ty} (x : t.den), bkp t = true → 1 ≤ bk t x
  | .int _, _, _ => Nat.le_refl _
  | .bool, _, _ => Nat.le_refl _
  | .str, s, _ => by show 1 ≤ s.size + 1; omega
  | .list t, l, _ => by show 1 ≤ (List.map (bk t) l).sum + 1; omega
  | .prod a b, x, h => by
    show 1 ≤ bk a x.1 + bk b x.2
    simp only [bkp, Bool.or_eq_true] at h
    rcases h with h | h
    · have := bk_pos x.1 h; omega
    · have := bk_pos x.2 h; omega
theorem sum_len {α : Type} {f : α → Nat} (h : ∀ x, 1 ≤ f x) : ∀ l : List α, l.length ≤ (l.map f).sum
  | [] => Nat.le_refl _
  | x :: l => by
    have := sum_len h l
    have := h x
    rw [List.length_cons, List.map_cons, List.sum_cons]; omega
theorem sum_mem {α : Type} {f : α → Nat} : ∀ {l : List α} {x : α}, x ∈ l → f x ≤ (l.map f).sum
  | y :: l, x, h => by
    rw [List.map_cons, List.sum_cons]
    rcases List.mem_cons.1 h with rfl | h
    · omega
    · have := sum_mem (f := f) h; omega
theorem bk_len {t : Ty} (h : bkp t = true) (l : List t.den) : l.length + 1 ≤ bk (.list t) l := by
  show _ ≤ (List.map (bk t) l).sum + 1
  have := sum_len (f := bk t) (fun x => bk_pos x h) l
  omega
theorem bk_mem {t : Ty} {l : List t.den} {x : t.den} (h : x ∈ l) : bk t x + 1 ≤ bk (.list t) l := by
  show _ ≤ (List.map (bk t) l).sum + 1
  have := sum_mem (f := bk t) h
  omega
/-- How much was read. -/
def blk {H : Type} : DataW H → Nat
  | .lit (.string bytes) => bytes.length + 1
  | .lit _ => 1
  | .nil => 1
  | .slice elems _ => blkAll elems + 1
  | .agg parts => blkAll parts + 1
  | _ => 0
where blkAll : List (DataW H) → Nat
  | [] => 0
  | d :: r => blk d + blkAll r
theorem blkAll_append {H : Type} : ∀ a b : List (DataW H), blk.blkAll (a ++ b) = blk.blkAll a + blk.blkAll b
  | [], b => by simp [blk.blkAll]
  | d :: a, b => by simp [blk.blkAll, blkAll_append a b, Nat.add_assoc]
section
variable {P : Program}
def RdB (P : Program) (T : TypeId) (t : Ty) : Prop :=
  ∀ {H : Type} (enc : TypeId × Value → H) (w : World) (base : Nat) (spare : Nat → Bool) (held : Bool) (fuel : Nat) (cs : List Value) (x : DataW H × List MemPlace),
    DataW.trod enc P w base spare held fuel T cs = some x → (∀ n ∈ x.1.weights P T, n ≤ 140737488351232) → ∃ a : t.den, K w (fun b => b < w.heap.size) t a cs ∧ okT t a ∧ bk t a ≤ blk x.1
theorem flds_bk {c : TypeId → Ty → Bool} (hc : ∀ T t, c T t = true → RdB P T t) {H : Type} {enc : TypeId × Value → H} {w : World} {base : Nat} {spare : Nat → Bool} {held : Bool} {m : Nat} {cs : List Value} :
    ∀ {fs : List Field} {t : Ty} {off : Nat} {xs : List (DataW H × List MemPlace)}, fldsChk P c fs t off = true → cs.length = off + t.sz →
      (∀ (i : Nat) (f : Field), fs[i]? = some f → DataW.trod enc P w base spare held m f.type ((cs.drop f.offset).take (P.cellsOf f.type)) = xs[i]?) → xs.length = fs.length →
      (∀ (i : Nat) (f : Field) (y : DataW H × List MemPlace), fs[i]? = some f → xs[i]? = some y → ∀ n ∈ y.1.weights P f.type, n ≤ 140737488351232) →
      ∃ a : t.den, K w (fun b => b < w.heap.size) t a (cs.drop off) ∧ okT t a ∧ bk t a ≤ blk.blkAll (xs.map (·.1))
  | [], t, off, xs, h, _, _, _, _ => by simp [fldsChk] at h
  | [f], t, off, xs, h, hl, ht, hx, hw => by
    simp only [fldsChk, Bool.and_eq_true] at h
    obtain ⟨y, rfl⟩ : ∃ y, xs = [y] := by
      match xs, hx with | [y], _ => exact ⟨y, rfl⟩
    have h0 := ht 0 f rfl
    rw [nbeq h.1, nbeq h.2.1] at h0
    obtain ⟨a, hK, ho, hb⟩ := hc _ _ h.2.2 enc w base spare held m _ y h0 (hw 0 f y rfl rfl)
    exact ⟨a, by rw [List.take_of_length_le (by rw [List.length_drop]; omega)] at hK; exact hK, ho, by simpa [blk.blkAll] using hb⟩
  | f :: g :: r, .prod a b, off, xs, h, hl, ht, hx, hw => by
    simp only [fldsChk, Bool.and_eq_true] at h
    obtain ⟨y, ys, rfl⟩ : ∃ y ys, xs = y :: ys := by
      match xs, hx with | y :: ys, _ => exact ⟨y, ys, rfl⟩
    have h0 := ht 0 f rfl
    rw [nbeq h.1, nbeq h.2.1] at h0
    obtain ⟨p, hK, ho, hb⟩ := hc _ _ h.2.2.1 enc w base spare held m _ y h0 (hw 0 f y rfl rfl)
    obtain ⟨q, hK2, ho2, hb2⟩ := flds_bk hc (cs := cs) (xs := ys) h.2.2.2 (by rw [hl]; simp only [Ty.sz]; omega) (fun i f hf => by simpa using ht (i + 1) f (by simpa using hf)) (by simpa using hx)
      (fun i f y hf hy => hw (i + 1) f y (by simpa using hf) (by simpa using hy))
    refine ⟨(p, q), ⟨_, _, ?_, hK, hK2⟩, ⟨ho, ho2⟩, by show bk a p + bk b q ≤ _; simp only [List.map_cons, blk.blkAll]; omega⟩
    rw [← List.drop_drop, List.take_append_drop]
  | f :: g :: r, .int _, _, _, h, _, _, _, _ | f :: g :: r, .bool, _, _, h, _, _, _, _ | f :: g :: r, .str, _, _, h, _, _, _, _ | f :: g :: r, .list _, _, _, h, _, _, _, _
  | f :: g :: r, .fn _ _ _, _, _, h, _, _, _, _ | f :: g :: r, .alt _ _, _, _, h, _, _, _, _ | f :: g :: r, .fz, _, _, h, _, _, _, _ | f :: g :: r, .ref _, _, _, h, _, _, _, _ | f :: g :: r, .nl, _, _, h, _, _, _, _ => by simp [fldsChk] at h
theorem arr_bk {c : TypeId → Ty → Bool} (hc : ∀ T t, c T t = true → RdB P T t) {e : TypeId} {H : Type} {enc : TypeId × Value → H} {w : World} {base : Nat} {spare : Nat → Bool} {held : Bool} {m : Nat} {cs : List Value} :
    ∀ {n : Nat} {t : Ty} {j : Nat} {xs : List (DataW H × List MemPlace)}, arrChk P c e n t = true → cs.length = j * P.cellsOf e + t.sz → xs.length = n →
      (∀ i, i < n → DataW.trod enc P w base spare held m e ((cs.drop ((j + i) * P.cellsOf e)).take (P.cellsOf e)) = xs[i]?) →
      (∀ (i : Nat) (y : DataW H × List MemPlace), xs[i]? = some y → ∀ n ∈ y.1.weights P e, n ≤ 140737488351232) →
      ∃ a : t.den, K w (fun b => b < w.heap.size) t a (cs.drop (j * P.cellsOf e)) ∧ okT t a ∧ bk t a ≤ blk.blkAll (xs.map (·.1))
  | 0, t, j, xs, h, _, _, _, _ => by simp [arrChk] at h
  | 1, t, j, xs, h, hl, hx, ht, hw => by
    simp only [arrChk, Bool.and_eq_true] at h
    obtain ⟨y, rfl⟩ : ∃ y, xs = [y] := by
      match xs, hx with | [y], _ => exact ⟨y, rfl⟩
    have h0 := ht 0 (by omega)
    obtain ⟨a, hK, ho, hb⟩ := hc _ _ h.2 enc w base spare held m _ y h0 (hw 0 y rfl)
    exact ⟨a, by rw [List.take_of_length_le (by rw [List.length_drop, nbeq h.1, Nat.add_zero]; rw [nbeq h.1] at hl; omega)] at hK; exact hK, ho, by simpa [blk.blkAll] using hb⟩
  | n + 2, .prod a b, j, xs, h, hl, hx, ht, hw => by
    simp only [arrChk, Bool.and_eq_true] at h
    obtain ⟨y, ys, rfl⟩ : ∃ y ys, xs = y :: ys := by
      match xs, hx with | y :: ys, _ => exact ⟨y, ys, rfl⟩
    have h0 := ht 0 (by omega)
    obtain ⟨p, hK, ho, hb⟩ := hc _ _ h.2.1 enc w base spare held m _ y h0 (hw 0 y rfl)
    have hs := nbeq h.1
    obtain ⟨q, hK2, ho2, hb2⟩ := arr_bk hc (e := e) (cs := cs) (n := n + 1) (j := j + 1) (xs := ys) h.2.2 (by rw [hl, Nat.add_mul, Nat.one_mul, hs]; simp only [Ty.sz]; omega) (by simpa using hx)
      (fun i hi => by have := ht (i + 1) (by omega); rw [show j + (i + 1) = j + 1 + i by omega] at this; simpa using this) (fun i y hy => hw (i + 1) y (by simpa using hy))
    refine ⟨(p, q), ⟨_, _, ?_, hK, hK2⟩, ⟨ho, ho2⟩, by show bk a p + bk b q ≤ _; simp only [List.map_cons, blk.blkAll]; omega⟩
    rw [Nat.add_zero, Nat.add_mul j 1, Nat.one_mul, ← List.drop_drop, List.take_append_drop]
theorem rd_bk : ∀ (n : Nat) (T : TypeId) (t : Ty), tyChk P n T t = true → RdB P T t := by
  intro n
  induction n with
  | zero => intro T t h; simp [tyChk] at h
  | succ n ih =>
    intro T t h
    simp only [tyChk] at h
    split at h
    · rename_i k j hu
      intro H enc w base spare held fuel cs x hx _
      obtain ⟨n, rfl, rfl, hw⟩ := DataW.trod_int hu hx
      obtain rfl := kbeq_eq h
      exact ⟨n, rfl, hw, by simp [bk, blk]⟩
    · rename_i hu
      intro H enc w base spare held fuel cs x hx _
      obtain ⟨n, rfl, rfl⟩ := DataW.trod_bool hu hx
      exact ⟨n, rfl, trivial, by simp [bk, blk]⟩
    · rename_i hu
      intro H enc w base spare held fuel cs x hx hs
      obtain ⟨s, rfl, rfl, hw⟩ := DataW.trod_string hu hx
      refine ⟨s, rfl, ?_, by simp [bk, blk]⟩
      have := hs s.data.toList.length (by simp [DataW.weights])
      show s.size ≤ 140737488351232
      simpa using this
    · rename_i e u hu
      simp only [Bool.and_eq_true] at h
      have hce := nbeq h.1
      have hby := Nat.le_of_ble_eq_true h.2.1
      have hmb := Nat.le_of_ble_eq_true h.2.2.1
      have hrd : RdB P e u := fun {H} => ih e u h.2.2.2 (H := H)
      intro H enc w base spare held fuel cs x hx hs
      rcases DataW.trod_slice hu hx with ⟨rfl, rfl⟩ | ⟨a, len, cap, els, rest, m, rfl, rfl, rfl, hb, hlc, hcm, hlen, hel, _, _⟩
      · exact ⟨[], ⟨none, 0, rfl, Nat.le_refl _, by simp, .inl rfl⟩, ⟨fun x hx => (by cases hx), by simp, by simp⟩, by simp [bk, blk]⟩
      · have hs1 : ∀ (i : Nat) (y : DataW H × List MemPlace), els[i]? = some y → ∀ n ∈ y.1.weights P e, n ≤ 140737488351232 := fun i y hy n hn => hs n (by
          simp only [DataW.weights, hu]
          exact List.mem_cons_of_mem _ (List.mem_append_left _ (weightsAll_mem (i := i) (by simp [hy]) hn)))
        have hs2 : len ≤ 140737488351232 := by
          have h1 := hs _ (by simp only [DataW.weights, hu]; exact List.mem_cons_self)
          rw [List.length_map, List.length_map] at h1
          have h2 : len * 1 ≤ (els.length + rest.length) * P.bytesOf e := Nat.mul_le_mul (by omega) hby
          omega
        have hs3 : len * mb u ≤ 140737488351232 := by
          have h1 := hs _ (by simp only [DataW.weights, hu]; exact List.mem_cons_self)
          rw [List.length_map, List.length_map] at h1
          have h2 : len * mb u ≤ (els.length + rest.length) * P.bytesOf e := Nat.mul_le_mul (by omega) hmb
          omega
        have key : ∀ m', m' ≤ len → ∃ l : List u.den, l.length = m' ∧ (∀ (i : Nat) (x : u.den), l[i]? = some x → (∃ c, w.cells? base (a.add (i * u.sz)) u.sz = some c ∧ K w (fun b => b < w.heap.size) u x c) ∧ okT u x) ∧ (List.map (bk u) l).sum ≤ blk.blkAll ((els.take m').map (·.1)) := by
          intro m'
          induction m' with
          | zero => intro _; exact ⟨[], rfl, fun i x hx => by simp at hx, by simp⟩
          | succ m' ihm =>
            intro hm
            obtain ⟨l, hl, hp, hbk⟩ := ihm (by omega)
            have he := hel m' (by omega)
            have hy : els[m']? = some els[m'] := List.getElem?_eq_getElem (by omega)
            rw [hy, hce] at he
            obtain ⟨c, hcc, ht⟩ := Option.bind_eq_some_iff.1 he
            obtain ⟨z, hk, hok, hzb⟩ := hrd enc w base spare held m c _ ht (hs1 m' _ hy)
            refine ⟨l ++ [z], by simp [hl], fun i x hx => ?_, by rw [List.take_add_one, hy, Option.toList_some, List.map_append, List.map_append, List.sum_append, blkAll_append]; simp only [List.map_cons, List.map_nil, List.sum_cons, List.sum_nil, blk.blkAll]; omega⟩
            rcases Nat.lt_or_ge i l.length with hi | hi
            · rw [List.getElem?_append_left hi] at hx
              exact hp i x hx
            · rw [List.getElem?_append_right hi] at hx
              have hi0 : i - l.length = 0 := by
                rcases Nat.eq_zero_or_pos (i - l.length) with h0 | h0
                · exact h0
                · rw [List.getElem?_eq_none (by simp; omega)] at hx; cases hx
              rw [hi0] at hx
              obtain rfl : z = x := by simpa using hx
              obtain rfl : i = m' := by omega
              exact ⟨⟨c, hcc, hk⟩, hok⟩
        obtain ⟨l, hl, hp, hbk⟩ := key len (Nat.le_refl _)
        refine ⟨l, ⟨some a, cap, by rw [hl], by rw [hl]; exact hlc, hcm, ?_⟩, ⟨fun x hx => ?_, by show List.length l ≤ _; rw [hl]; exact hs2, by show List.length l * _ ≤ _; rw [hl]; exact hs3⟩, by rw [List.take_of_length_le (by omega)] at hbk; show (List.map (bk u) l).sum + 1 ≤ _; simp only [blk]; omega⟩
        · cases l with
          | nil => exact .inl rfl
          | cons x0 l0 =>
            right
            have at_ : ∀ (j : Nat) (x : u.den), (x0 :: l0)[j]? = some x → ∃ d, K w (fun b => b < w.heap.size) u x d ∧ CellsAt w (a.add (j * u.sz)) d := fun j x hx => by
              obtain ⟨⟨c, hcc, hk⟩, _⟩ := hp j x hx
              obtain ⟨_, hcl, hcell⟩ := World.cells?_some hcc
              refine ⟨c, hk, fun i v hv => ?_⟩
              have hi : i < u.sz := by rw [← hcl]; exact (List.getElem?_eq_some_iff.1 hv).1
              rw [hcell i hi]
              exact hv
            obtain ⟨d, hK, hA⟩ := at_ 0 x0 rfl
            have hd : 0 < d.length := by rw [K_len hK]; exact Ty.sz_pos u
            have h0 := hA 0 d[0] (List.getElem?_eq_getElem hd)
            rw [Nat.zero_mul, add_zero, add_zero] at h0
            obtain ⟨h1, h2⟩ := cell_spot h0
            exact ⟨a, rfl, ⟨h2, h1⟩, at_⟩
        · obtain ⟨i, hi⟩ := List.getElem?_of_mem hx
          exact (hp i x hi).2
    · rename_i F t hu
      simp only [Bool.and_eq_true] at h
      intro H enc w base spare held fuel cs x hx hs
      obtain ⟨xs, m, rfl, rfl, hl, hlen, hf⟩ := DataW.trod_struct hu hx
      obtain ⟨a, hK, ho, hbk⟩ := flds_bk (fun T t h => ih T t h) (cs := cs) (xs := xs) (enc := enc) (w := w) (base := base) (spare := spare) (held := held) (m := m) h.2 (by rw [hl, nbeq h.1, Nat.zero_add])
        (fun i f hfi => hf i f (by rw [← Array.getElem?_toList]; exact hfi)) (by rw [hlen]; simp)
        (fun i f y hfi hy n hn => hs n (mem_agg (j := i) hu (by rw [← Array.getElem?_toList]; exact hfi) (by rw [List.getElem?_map, hy]; rfl) hn))
      exact ⟨a, hK, ho, by simp only [blk]; omega⟩
    · rename_i t' m e hu
      simp only [Bool.and_eq_true] at h
      intro H enc w base spare held fuel cs x hx hs
      obtain ⟨xs, m', rfl, rfl, hl, hlen, hf⟩ := DataW.trod_array hu hx
      obtain ⟨a, hK, ho, hbk⟩ := arr_bk (fun T t h => ih T t h) (e := e) (n := m) (j := 0) (cs := cs) (xs := xs) (enc := enc) (w := w) (base := base) (spare := spare) (held := held) (m := m') h.2 (by rw [hl, nbeq h.1, Nat.zero_mul, Nat.zero_add])
        hlen (fun i hi => by rw [Nat.zero_add]; exact hf i hi) (fun i y hy n hn => hs n (mem_arr (j := i) hu (by rw [List.getElem?_map, hy]; rfl) hn))
      rw [Nat.zero_mul, List.drop_zero] at hK
      exact ⟨a, hK, ho, by simp only [blk]; omega⟩
    · cases h
end
end Go.Den
